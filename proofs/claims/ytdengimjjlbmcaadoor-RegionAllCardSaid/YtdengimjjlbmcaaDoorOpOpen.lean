/-
  An operation that came in: its path, and its parts' paths.
-/
import Derived.Test.YtdengimjjlbmcaaDoorRegAll
namespace Go.Proofs.YtdengimjjlbmcaaDoor
set_option linter.unusedVariables false
set_option linter.unusedSimpArgs false
open Go.RowKit Go.ChangeShapes Go.WideShapes Go.Deep

theorem cellsOp : Tryd.prog.cellsOf 32 = 7 := by kernel_rfl
theorem cellsB8 : Tryd.prog.cellsOf 5 = 1 := by kernel_rfl
theorem cellsBs : Tryd.prog.cellsOf 29 = 1 := by kernel_rfl
theorem cellsI64 : Tryd.prog.cellsOf 2 = 1 := by kernel_rfl
theorem cellsBool : Tryd.prog.cellsOf 4 = 1 := by kernel_rfl
theorem cellsOps : Tryd.prog.cellsOf 30 = 1 := by kernel_rfl
theorem slice_any {H : Type} {enc : TypeId × Value → H} {P : Program} {w : World} {base : Nat} {spare : Nat → Bool} {held : Bool} {t e : TypeId} (ht : P.underlying t = some (.slice e)) {fuel : Nat} {cs : List Value} {x : DataW H × List MemPlace}
    (h : DataW.trod enc P w base spare held fuel t cs = some x) : ∃ a n c, cs = [.slice a n c] := by
  rcases open_slice ht h with ⟨rfl, _⟩ | ⟨a, len, cap, m, n, D, Pl, rfl, _⟩
  · exact ⟨_, _, _, rfl⟩
  · exact ⟨_, _, _, rfl⟩
set_option maxRecDepth 100000 in
theorem op_cells {H : Type} {enc : TypeId × Value → H} {w : World} {base : Nat} {spare : Nat → Bool} {held : Bool} {fuel : Nat} {cs : List Value} {y : DataW H × List MemPlace} (h : DataW.trod enc Tryd.prog w base spare held fuel 32 cs = some y) :
    ∃ (r : OpRaw) (p : Bytes) (n : Nat) (z : DataW H × List MemPlace), cs = r.cells p ∧ p.length ≤ maxLen ∧ DataW.trod enc Tryd.prog w base spare held n 30 [.slice r.pa r.pn r.pc] = some z := by
  obtain ⟨xs, n, _, _, hl, hx, hf⟩ := DataW.trod_struct Tryd.underlying32 h
  rw [cellsOp] at hl
  match cs, hl with
  | [c0, c1, c2, c3, c4, c5, c6], _ =>
    match xs, hx with
    | [y0, y1, y2, y3, y4, y5, y6], _ =>
      have g0 : DataW.trod enc Tryd.prog w base spare held n 5 (([c0, c1, c2, c3, c4, c5, c6].drop 0).take (Tryd.prog.cellsOf 5)) = [y0, y1, y2, y3, y4, y5, y6][0]? := hf 0 _ rfl
      have g1 : DataW.trod enc Tryd.prog w base spare held n 9 (([c0, c1, c2, c3, c4, c5, c6].drop 1).take (Tryd.prog.cellsOf 9)) = [y0, y1, y2, y3, y4, y5, y6][1]? := hf 1 _ rfl
      have g2 : DataW.trod enc Tryd.prog w base spare held n 29 (([c0, c1, c2, c3, c4, c5, c6].drop 2).take (Tryd.prog.cellsOf 29)) = [y0, y1, y2, y3, y4, y5, y6][2]? := hf 2 _ rfl
      have g3 : DataW.trod enc Tryd.prog w base spare held n 2 (([c0, c1, c2, c3, c4, c5, c6].drop 3).take (Tryd.prog.cellsOf 2)) = [y0, y1, y2, y3, y4, y5, y6][3]? := hf 3 _ rfl
      have g4 : DataW.trod enc Tryd.prog w base spare held n 4 (([c0, c1, c2, c3, c4, c5, c6].drop 4).take (Tryd.prog.cellsOf 4)) = [y0, y1, y2, y3, y4, y5, y6][4]? := hf 4 _ rfl
      have g5 : DataW.trod enc Tryd.prog w base spare held n 4 (([c0, c1, c2, c3, c4, c5, c6].drop 5).take (Tryd.prog.cellsOf 4)) = [y0, y1, y2, y3, y4, y5, y6][5]? := hf 5 _ rfl
      have g6 : DataW.trod enc Tryd.prog w base spare held n 30 (([c0, c1, c2, c3, c4, c5, c6].drop 6).take (Tryd.prog.cellsOf 30)) = [y0, y1, y2, y3, y4, y5, y6][6]? := hf 6 _ rfl
      rw [cellsB8] at g0
      rw [cellsStr] at g1
      rw [cellsBs] at g2
      rw [cellsI64] at g3
      rw [cellsBool] at g4 g5
      rw [cellsOps] at g6
      obtain ⟨k, e0, _, _⟩ := DataW.trod_int Tryd.underlying5 g0
      obtain ⟨s, e1, _, hs⟩ := DataW.trod_string Tryd.underlying9 g1
      obtain ⟨p, rfl⟩ := str_open s
      obtain ⟨da, dn, dc, e2⟩ := slice_any Tryd.underlying29 g2
      obtain ⟨v, e3, _, _⟩ := DataW.trod_int Tryd.underlying2 g3
      obtain ⟨sq, e4, _⟩ := DataW.trod_bool Tryd.underlying4 g4
      obtain ⟨ep, e5, _⟩ := DataW.trod_bool Tryd.underlying4 g5
      obtain ⟨pa, pn, pc, e6⟩ := slice_any Tryd.underlying30 g6
      simp at e0 e1 e2 e3 e4 e5 e6
      subst e0 e1 e2 e3 e4 e5 e6
      rw [size_bs] at hs
      exact ⟨⟨k, da, dn, dc, v, sq, ep, pa, pn, pc⟩, p, n, y6, rfl, hs, by simpa using g6⟩
set_option maxRecDepth 100000 in
theorem ops_open {H : Type} {enc : TypeId × Value → H} {w : World} {base : Nat} {spare : Nat → Bool} {held : Bool} {fuel : Nat} {cs : List Value} {y : DataW H × List MemPlace} (h : DataW.trod enc Tryd.prog w base spare held fuel 30 cs = some y) :
    ∃ ao c Q, cs = [.slice ao Q.length c] ∧ Q.length ≤ c ∧ c ≤ maxLen ∧ OpsAt w w.heap.size ao Q ∧ ∀ p ∈ Q, p.length ≤ maxLen := by
  obtain ⟨ao, len, cap, rfl, hl, hm, hi⟩ := rows_open (P := Tryd.prog) Tryd.underlying30 cellsOp (by omega) h
  obtain ⟨Q, rfl, hat⟩ := list_of (fun i (p : Bytes) => p.length ≤ maxLen ∧ ∃ b off r, ao = some ⟨b, off, none⟩ ∧ b < w.heap.size ∧ w.rangeAt b (off + i * 7) (OpRaw.cells r p)) len (fun i hil => by
    obtain ⟨b, off, cs', n', y', h1, h2, h3, h4, h5⟩ := hi i hil
    obtain ⟨r, p, _, _, rfl, h6, _⟩ := op_cells h5
    exact ⟨p, h6, b, off, r, h1, h2, h4⟩)
  refine ⟨ao, cap, Q, rfl, hl, hm, fun k p hk => (hat k p hk).2, fun p hp => ?_⟩
  obtain ⟨i, hi⟩ := List.getElem?_of_mem hp
  exact (hat i p hi).1
set_option maxRecDepth 100000 in
theorem op_open {H : Type} {enc : TypeId × Value → H} {w : World} {base : Nat} {spare : Nat → Bool} {held : Bool} {v : Value} {d : DataW H} {pl : List MemPlace} (h : DataW.Trod enc Tryd.prog w base spare held 32 v d pl) {bb : Nat} (hv : Value.okWide Tryd.prog w .any bb 32 v) :
    ∃ (r : OpRaw) (p : Bytes) (Q : List Bytes), v = .agg (r.cells p).toArray ∧ r.pn = Q.length ∧ Q.length ≤ r.pc ∧ r.pc ≤ maxLen ∧ OpsAt w w.heap.size r.pa Q ∧ (∀ p ∈ Q, p.length ≤ maxLen) ∧ p.length ≤ maxLen := by
  obtain ⟨arr, rfl, _⟩ := okWide_struct Tryd.underlying32 hv
  obtain ⟨fuel, hf⟩ := h
  obtain ⟨r, p, n, z, hcs, hp, hz⟩ := op_cells hf
  obtain ⟨ao, c, Q, e, h1, h2, h3, h4⟩ := ops_open hz
  simp at e
  obtain ⟨e1, e2, e3⟩ := e
  have hcs2 : arr.toList = r.cells p := hcs
  refine ⟨r, p, Q, ?_, e2, e3 ▸ h1, e3 ▸ h2, e1 ▸ h3, h4, hp⟩
  rw [← hcs2]
end Go.Proofs.YtdengimjjlbmcaaDoor
