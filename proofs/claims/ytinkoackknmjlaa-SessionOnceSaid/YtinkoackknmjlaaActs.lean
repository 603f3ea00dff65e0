/-
  The acts that come in: opened.
-/
import Derived.Test.YtinkoackknmjlaaBoth
import Derived.Deep.Slices
namespace Go.Proofs.Ytinkoackknmjlaa
open Go.RowKit Go.MapKept Go.ChangeMaps Go.Shelf
open Go.Joins Go.ChangeShapes Go.WideShapes Go.Deep

theorem Try.cells33 : Try.prog.cellsOf 33 = 3 := by kernel_rfl
theorem Try.cellsOfByte : Try.prog.cellsOf 5 = 1 := by kernel_rfl
def U8 (n : Int) : Prop := 0 ≤ n ∧ n ≤ 255
theorem wf_u8 {n : Int} (h : (Lit.int .u8 n).wf = true) : U8 n := by
  simp [Lit.wf, IntKind.min, IntKind.max, IntKind.signed, IntKind.bits] at h
  exact ⟨by omega, by omega⟩

section
variable {H : Type} {enc : TypeId × Value → H} {w : World} {base : Nat} {spare : Nat → Bool} {held : Bool}
theorem session_cells {fuel : Nat} {cs : List Value} {y : DataW H × List MemPlace} (h : DataW.trod enc Try.prog w base spare held fuel 31 cs = some y) :
    ∃ a c : Int, cs = [.int .i64 a, .int .u32 c] ∧ I64 a ∧ U32 c := by
  obtain ⟨xs, n, _, _, hl, hx, hf⟩ := DataW.trod_struct Try.underlying31 h
  rw [Try.cells31] at hl
  match cs, hl with
  | [c0, c1], _ =>
    match xs, hx with
    | [y0, y1], _ =>
      have g0 : DataW.trod enc Try.prog w base spare held n 3 (([c0, c1].drop 0).take (Try.prog.cellsOf 3)) = [y0, y1][0]? := hf 0 _ rfl
      have g1 : DataW.trod enc Try.prog w base spare held n 26 (([c0, c1].drop 1).take (Try.prog.cellsOf 26)) = [y0, y1][1]? := hf 1 _ rfl
      rw [Try.cells3] at g0
      rw [Try.cells26] at g1
      obtain ⟨a, e0, _, wa⟩ := DataW.trod_int Try.underlying3 g0
      obtain ⟨c, e1, _, wc⟩ := DataW.trod_int Try.underlying26 g1
      simp at e0 e1
      subst e0 e1
      exact ⟨a, c, rfl, wf_i64 wa, wf_u32 wc⟩
theorem act_cells {fuel : Nat} {cs : List Value} {y : DataW H × List MemPlace} (h : DataW.trod enc Try.prog w base spare held fuel 33 cs = some y) :
    ∃ d a c : Int, cs = [.int .u8 d, .int .i64 a, .int .u32 c] ∧ U8 d ∧ I64 a ∧ U32 c := by
  obtain ⟨xs, n, _, _, hl, hx, hf⟩ := DataW.trod_struct Try.underlying33 h
  rw [Try.cells33] at hl
  match cs, hl with
  | [c0, c1, c2], _ =>
    match xs, hx with
    | [y0, y1], _ =>
      have g0 : DataW.trod enc Try.prog w base spare held n 5 (([c0, c1, c2].drop 0).take (Try.prog.cellsOf 5)) = [y0, y1][0]? := hf 0 _ rfl
      have g1 : DataW.trod enc Try.prog w base spare held n 31 (([c0, c1, c2].drop 1).take (Try.prog.cellsOf 31)) = [y0, y1][1]? := hf 1 _ rfl
      rw [Try.cellsOfByte] at g0
      rw [Try.cells31] at g1
      obtain ⟨d, e0, _, wd⟩ := DataW.trod_int Try.underlying5 g0
      obtain ⟨a, c, e1, wa, wc⟩ := session_cells g1
      simp at e0 e1
      obtain ⟨rfl, rfl⟩ := e1
      subst e0
      exact ⟨d, a, c, rfl, wf_u8 wd, wa, wc⟩

/-- ONE ACT's CELLS, from address ⟨b, off⟩ on. -/
def ActAt (w : World) (b off : Nat) (i : Nat) (d a c : Int) : Prop :=
  w.cell? ⟨b, off + i * 3, none⟩ = some (.int .u8 d) ∧ w.cell? ⟨b, off + i * 3 + 1, none⟩ = some (.int .i64 a) ∧ w.cell? ⟨b, off + i * 3 + 1 + 1, none⟩ = some (.int .u32 c) ∧ U8 d ∧ I64 a ∧ U32 c

theorem open_acts {v : Value} {d : DataW H} {p : List MemPlace} (h : DataW.Trod enc Try.prog w base spare held 22 v d p) {bb : Nat} (hv : Value.okWide Try.prog w .any bb 22 v) :
    (∃ ao cap, v = .slice ao 0 cap) ∨ ∃ b off len cap, v = .slice (some ⟨b, off, none⟩) len cap ∧ 0 < len ∧ len ≤ maxLen ∧ ∀ i, i < len → ∃ d a c, ActAt w b off i d a c := by
  obtain ⟨a0, len, cap, rfl⟩ := okWide_slice Try.underlying22 hv
  obtain ⟨fuel, hf⟩ := h
  rcases open_slice Try.underlying22 hf with ⟨hcs, _⟩ | ⟨a, len', cap', m, n, D, Pl, hcs, _, hl, hm, hmm, _, hi⟩
  · simp [Value.cells] at hcs
    obtain ⟨rfl, rfl, rfl⟩ := hcs
    exact .inl ⟨_, _, rfl⟩
  · simp [Value.cells] at hcs
    obtain ⟨rfl, rfl, rfl⟩ := hcs
    by_cases h0 : len = 0
    · subst h0
      exact .inl ⟨_, _, rfl⟩
    · have hlm : len ≤ m := by rw [hmm]; split <;> omega
      have key : ∀ i, i < len → ∃ d x c : Int, w.cell? (a.add (i * 3)) = some (.int .u8 d) ∧ w.cell? (a.add (i * 3 + 1)) = some (.int .i64 x) ∧ w.cell? (a.add (i * 3 + 1 + 1)) = some (.int .u32 c) ∧ U8 d ∧ I64 x ∧ U32 c := by
        intro i hil
        obtain ⟨cs', hc, ht⟩ := hi i (by omega)
        obtain ⟨d, x, c, rfl, w1, w2, w3⟩ := act_cells ht
        obtain ⟨_, _, hat⟩ := World.cells?_some hc
        rw [Try.cells33] at hat
        have g0 := hat 0 (by omega)
        have g1 := hat 1 (by omega)
        have g2 := hat 2 (by omega)
        rw [add_add] at g0 g1 g2
        exact ⟨d, x, c, by simpa using g0, by simpa using g1, by simpa using g2, w1, w2, w3⟩
      obtain ⟨d0, _, _, hd0, _⟩ := key 0 (by omega)
      have hsp : a.spot = none := by
        cases hs : a.spot with
        | none => rfl
        | some q =>
          exfalso
          simp only [Nat.zero_mul, Addr.add, if_true] at hd0
          simp only [World.cell?, hs, Option.isSome_some, if_true] at hd0
          split at hd0 <;> cases hd0
      obtain ⟨b, off, spot⟩ := a
      dsimp only at hsp
      subst hsp
      refine .inr ⟨b, off, len, cap, rfl, by omega, by omega, fun i hil => ?_⟩
      obtain ⟨d, x, c, g0, g1, g2, w1, w2, w3⟩ := key i hil
      refine ⟨d, x, c, ?_, ?_, ?_, w1, w2, w3⟩
      · by_cases hz : i * 3 = 0
        · simpa [Addr.add, hz] using g0
        · simpa [Addr.add, hz] using g0
      · simpa [Addr.add, Nat.add_assoc] using g1
      · simpa [Addr.add, Nat.add_assoc] using g2
end
end Go.Proofs.Ytinkoackknmjlaa
