/-
  The acts that come in: opened.
-/
import Derived.Test.YtfbimhbdifmeoaaDoorWt2
import Derived.Test.YtfbimhbdifmeoaaDoorShaped
import Derived.Test.YtfbimhbdifmeoaaDoorRowsOpen
namespace Go.Proofs.YtfbimhbdifmeoaaDoor
set_option linter.unusedVariables false
set_option linter.unusedSimpArgs false
open Go.RowKit Go.ChangeShapes Go.WideShapes Go.Deep

theorem cells56 : Tryd.prog.cellsOf 56 = 11 := by kernel_rfl
theorem cells9 : Tryd.prog.cellsOf 9 = 1 := by kernel_rfl
theorem cells37 : Tryd.prog.cellsOf 37 = 6 := by kernel_rfl
theorem cells34 : Tryd.prog.cellsOf 34 = 4 := by kernel_rfl
theorem cells32 : Tryd.prog.cellsOf 32 = 2 := by kernel_rfl
theorem cells30 : Tryd.prog.cellsOf 30 = 1 := by kernel_rfl
theorem cells3 : Tryd.prog.cellsOf 3 = 1 := by kernel_rfl
theorem cells4 : Tryd.prog.cellsOf 4 = 1 := by kernel_rfl
theorem cells5 : Tryd.prog.cellsOf 5 = 1 := by kernel_rfl
theorem cells35 : Tryd.prog.cellsOf 35 = 1 := by kernel_rfl

def I64 (n : Int) : Prop := -9223372036854775808 ≤ n ∧ n ≤ 9223372036854775807
def U32 (n : Int) : Prop := 0 ≤ n ∧ n ≤ 4294967295
theorem wf_i64 {n : Int} (h : (Lit.int .i64 n).wf = true) : I64 n := by
  simp [Lit.wf, IntKind.min, IntKind.max, IntKind.signed, IntKind.bits] at h
  exact ⟨by omega, by omega⟩
theorem wf_u32 {n : Int} (h : (Lit.int .u32 n).wf = true) : U32 n := by
  simp [Lit.wf, IntKind.min, IntKind.max, IntKind.signed, IntKind.bits] at h
  exact ⟨by omega, by omega⟩
/-- A watch whose numbers are those of their kinds. -/
structure EvOk (e : Ev) : Prop where
  site : I64 e.site
  num : U32 e.num
  path : e.path.length ≤ maxLen

section
variable {H : Type} {enc : TypeId × Value → H} {w : World} {base : Nat} {spare : Nat → Bool} {held : Bool}
set_option maxRecDepth 100000 in
theorem eff_cells {fuel : Nat} {cs : List Value} {y : DataW H × List MemPlace} (h : DataW.trod enc Tryd.prog w base spare held fuel 56 cs = some y) :
    ∃ p rest, cs = .string (bs p) :: rest ∧ rest.length = 10 ∧ p.length ≤ maxLen := by
  obtain ⟨xs, n, _, _, hl, hx, hf⟩ := DataW.trod_struct Tryd.underlying56 h
  rw [cells56] at hl
  match cs, hl with
  | c0 :: rest, hl =>
    match xs, hx with
    | [y0, y1, y2], _ =>
      have g0 : DataW.trod enc Tryd.prog w base spare held n 9 (((c0 :: rest).drop 0).take (Tryd.prog.cellsOf 9)) = [y0, y1, y2][0]? := hf 0 _ rfl
      rw [cells9] at g0
      obtain ⟨s, e0, _, hs⟩ := DataW.trod_string Tryd.underlying9 g0
      obtain ⟨p, rfl⟩ := str_open s
      simp at e0
      subst e0
      rw [size_bs] at hs
      exact ⟨p, rest, rfl, by simpa using hl, hs⟩
set_option maxRecDepth 100000 in
theorem session_cells {fuel : Nat} {cs : List Value} {y : DataW H × List MemPlace} (h : DataW.trod enc Tryd.prog w base spare held fuel 32 cs = some y) :
    ∃ a c : Int, cs = [.int .i64 a, .int .u32 c] ∧ I64 a ∧ U32 c := by
  obtain ⟨xs, n, _, _, hl, hx, hf⟩ := DataW.trod_struct Tryd.underlying32 h
  rw [cells32] at hl
  match cs, hl with
  | [c0, c1], _ =>
    match xs, hx with
    | [y0, y1], _ =>
      have g0 : DataW.trod enc Tryd.prog w base spare held n 3 (([c0, c1].drop 0).take (Tryd.prog.cellsOf 3)) = [y0, y1][0]? := hf 0 _ rfl
      have g1 : DataW.trod enc Tryd.prog w base spare held n 30 (([c0, c1].drop 1).take (Tryd.prog.cellsOf 30)) = [y0, y1][1]? := hf 1 _ rfl
      rw [cells3] at g0
      rw [cells30] at g1
      obtain ⟨a, e0, _, wa⟩ := DataW.trod_int Tryd.underlying3 g0
      obtain ⟨c, e1, _, wc⟩ := DataW.trod_int Tryd.underlying30 g1
      simp at e0 e1
      subst e0 e1
      exact ⟨a, c, rfl, wf_i64 wa, wf_u32 wc⟩
set_option maxRecDepth 100000 in
theorem watch_cells {fuel : Nat} {cs : List Value} {y : DataW H × List MemPlace} (h : DataW.trod enc Tryd.prog w base spare held fuel 34 cs = some y) :
    ∃ e : Ev, cs = e.cells ∧ EvOk e := by
  obtain ⟨xs, n, _, _, hl, hx, hf⟩ := DataW.trod_struct Tryd.underlying34 h
  rw [cells34] at hl
  match cs, hl with
  | [c0, c1, c2, c3], _ =>
    match xs, hx with
    | [y0, y1, y2], _ =>
      have g0 : DataW.trod enc Tryd.prog w base spare held n 32 (([c0, c1, c2, c3].drop 0).take (Tryd.prog.cellsOf 32)) = [y0, y1, y2][0]? := hf 0 _ rfl
      have g1 : DataW.trod enc Tryd.prog w base spare held n 9 (([c0, c1, c2, c3].drop 2).take (Tryd.prog.cellsOf 9)) = [y0, y1, y2][1]? := hf 1 _ rfl
      have g2 : DataW.trod enc Tryd.prog w base spare held n 4 (([c0, c1, c2, c3].drop 3).take (Tryd.prog.cellsOf 4)) = [y0, y1, y2][2]? := hf 2 _ rfl
      rw [cells32] at g0
      rw [cells9] at g1
      rw [cells4] at g2
      obtain ⟨a, c, e0, wa, wc⟩ := session_cells g0
      obtain ⟨s, e1, _, hs⟩ := DataW.trod_string Tryd.underlying9 g1
      obtain ⟨p, rfl⟩ := str_open s
      obtain ⟨k, e2, _⟩ := DataW.trod_bool Tryd.underlying4 g2
      simp at e0 e1 e2
      obtain ⟨rfl, rfl⟩ := e0
      subst e1 e2
      rw [size_bs] at hs
      exact ⟨⟨a, c, p, k⟩, rfl, wa, wc, hs⟩
set_option maxRecDepth 100000 in
/-- A row of effects that came in. -/
theorem effs_open {fuel : Nat} {cs : List Value} {y : DataW H × List MemPlace} (h : DataW.trod enc Tryd.prog w base spare held fuel 35 cs = some y) :
    ∃ ao c P, cs = [.slice ao P.length c] ∧ P.length ≤ c ∧ c ≤ maxLen ∧ EffsAt w w.heap.size ao P ∧ ∀ p ∈ P, p.length ≤ maxLen := by
  obtain ⟨ao, len, cap, rfl, hl, hm, hi⟩ := rows_open (P := Tryd.prog) Tryd.underlying35 cells56 (by omega) h
  have key : ∀ i, i < len → ∃ p : Bytes, p.length ≤ maxLen ∧ ∃ b off rest, ao = some ⟨b, off, none⟩ ∧ b < w.heap.size ∧ rest.length = 10 ∧ w.rangeAt b (off + i * 11) (.string (bs p) :: rest) := fun i hil => by
    obtain ⟨b, off, cs', n', y', h1, h2, h3, h4, h5⟩ := hi i hil
    obtain ⟨p, rest, rfl, h6, h7⟩ := eff_cells h5
    exact ⟨p, h7, b, off, rest, h1, h2, h6, h4⟩
  have hP := list_of _ len key
  obtain ⟨P, rfl, hat⟩ := hP
  refine ⟨ao, cap, P, rfl, hl, hm, fun k p hk => (hat k p hk).2, fun p hp => ?_⟩
  obtain ⟨i, hi⟩ := List.getElem?_of_mem hp
  exact (hat i p hi).1

/-- One act that came in. -/
structure ActD where
  d : Int
  x : Ev
  ao : Option Addr
  P : List Bytes
  c : Nat
def ActD.cells (a : ActD) : List Value := .int .u8 a.d :: (a.x.cells ++ [.slice a.ao a.P.length a.c])
structure ActOk (w : World) (n : Nat) (a : ActD) : Prop where
  d : 0 ≤ a.d ∧ a.d ≤ 255
  x : EvOk a.x
  len : a.P.length ≤ a.c ∧ a.c ≤ maxLen
  effs : EffsAt w n a.ao a.P
  paths : ∀ p ∈ a.P, p.length ≤ maxLen
set_option maxRecDepth 100000 in
theorem act_cells {fuel : Nat} {cs : List Value} {y : DataW H × List MemPlace} (h : DataW.trod enc Tryd.prog w base spare held fuel 37 cs = some y) :
    ∃ a : ActD, cs = a.cells ∧ ActOk w w.heap.size a := by
  obtain ⟨xs, n, _, _, hl, hx, hf⟩ := DataW.trod_struct Tryd.underlying37 h
  rw [cells37] at hl
  match cs, hl with
  | [c0, c1, c2, c3, c4, c5], _ =>
    match xs, hx with
    | [y0, y1, y2], _ =>
      have g0 : DataW.trod enc Tryd.prog w base spare held n 5 (([c0, c1, c2, c3, c4, c5].drop 0).take (Tryd.prog.cellsOf 5)) = [y0, y1, y2][0]? := hf 0 _ rfl
      have g1 : DataW.trod enc Tryd.prog w base spare held n 34 (([c0, c1, c2, c3, c4, c5].drop 1).take (Tryd.prog.cellsOf 34)) = [y0, y1, y2][1]? := hf 1 _ rfl
      have g2 : DataW.trod enc Tryd.prog w base spare held n 35 (([c0, c1, c2, c3, c4, c5].drop 5).take (Tryd.prog.cellsOf 35)) = [y0, y1, y2][2]? := hf 2 _ rfl
      rw [cells5] at g0
      rw [cells34] at g1
      rw [cells35] at g2
      obtain ⟨d, e0, _, wd⟩ := DataW.trod_int Tryd.underlying5 g0
      obtain ⟨x, e1, wx⟩ := watch_cells g1
      obtain ⟨ao, c, Pl, e2, h1, h2, h3, h4⟩ := effs_open g2
      simp [Ev.cells] at e0 e1 e2
      obtain ⟨rfl, rfl, rfl, rfl⟩ := e1
      subst e0 e2
      exact ⟨⟨d, x, ao, Pl, c⟩, rfl, wf_u8 wd, wx, ⟨h1, h2⟩, h3, h4⟩
/-- The acts that came in: each one's cells. -/
def ActsAt (w : World) (n : Nat) (ao : Option Addr) (A : List ActD) : Prop :=
  ∀ k a, A[k]? = some a → ActOk w n a ∧ ∃ b off, ao = some ⟨b, off, none⟩ ∧ b < n ∧ w.rangeAt b (off + k * 6) a.cells
theorem ActsAt.kept {w w' : World} {n : Nat} {ao : Option Addr} {A : List ActD} (h : ActsAt w n ao A) (hb : Below n w w') : ActsAt w' n ao A := fun k a hk => by
  obtain ⟨h1, b, off, h2, h3, h4⟩ := h k a hk
  exact ⟨⟨h1.d, h1.x, h1.len, h1.effs.kept hb, h1.paths⟩, b, off, h2, h3, range_kept h4 hb h3⟩
set_option maxRecDepth 100000 in
theorem acts_open {v : Value} {d : DataW H} {p : List MemPlace} (h : DataW.Trod enc Tryd.prog w base spare held 22 v d p) {bb : Nat} (hv : Value.okWide Tryd.prog w .any bb 22 v) :
    ∃ ao c A, v = .slice ao A.length c ∧ A.length ≤ c ∧ c ≤ maxLen ∧ ActsAt w w.heap.size ao A := by
  obtain ⟨a0, len, cap, rfl⟩ := okWide_slice Tryd.underlying22 hv
  obtain ⟨fuel, hf⟩ := h
  obtain ⟨ao, len', cap', hcs, hl, hm, hi⟩ := rows_open (P := Tryd.prog) Tryd.underlying22 cells37 (by omega) hf
  simp [Value.cells] at hcs
  obtain ⟨rfl, rfl, rfl⟩ := hcs
  have key : ∀ i, i < len → ∃ a : ActD, ActOk w w.heap.size a ∧ ∃ b off, a0 = some ⟨b, off, none⟩ ∧ b < w.heap.size ∧ w.rangeAt b (off + i * 6) a.cells := fun i hil => by
    obtain ⟨b, off, cs', n', y', h1, h2, h3, h4, h5⟩ := hi i hil
    obtain ⟨a, rfl, h6⟩ := act_cells h5
    exact ⟨a, h6, b, off, h1, h2, h4⟩
  have hA := list_of _ len key
  obtain ⟨A, rfl, hat⟩ := hA
  exact ⟨a0, cap, A, rfl, hl, hm, hat⟩
end
end Go.Proofs.YtfbimhbdifmeoaaDoor
