/-
  Effects that came in: nodes, effects, rows of them, rows of rows.
-/
import Derived.Test.YtnclkfhdpkkakaaGreatDoorTr15
namespace Go.Proofs.YtnclkfhdpkkakaaGreatDoor
set_option linter.unusedVariables false
set_option linter.unusedSimpArgs false
set_option linter.unusedVariables false
set_option linter.unusedSimpArgs false
open Go Go.RowKit Go.ChangeShapes Go.WideShapes Go.Deep

theorem cellsByte : Tryz.prog.cellsOf 5 = 1 := by kernel_rfl
theorem cellsBytes : Tryz.prog.cellsOf 23 = 1 := by kernel_rfl
theorem cellsU32 : Tryz.prog.cellsOf 27 = 1 := by kernel_rfl
theorem cellsU64 : Tryz.prog.cellsOf 37 = 1 := by kernel_rfl
theorem cellsInt : Tryz.prog.cellsOf 3 = 1 := by kernel_rfl
theorem cellsBoo : Tryz.prog.cellsOf 4 = 1 := by kernel_rfl
theorem cellsSess : Tryz.prog.cellsOf 29 = 2 := by kernel_rfl
theorem cellsEffect : Tryz.prog.cellsOf 88 = 11 := by kernel_rfl
theorem cellsEffs : Tryz.prog.cellsOf 35 = 1 := by kernel_rfl
/-- Whatever block. -/
def Anyw : Nat → Prop := fun _ => True
section
variable {H : Type} {enc : TypeId × Value → H} {w : World} {base : Nat} {spare : Nat → Bool} {held : Bool}
theorem slice_none' {fuel : Nat} {t e : TypeId} (ht : Tryz.prog.underlying t = some (.slice e)) {len cap : Nat} {x : DataW H × List MemPlace} (h : DataW.trod enc Tryz.prog w base spare held fuel t [.slice none len cap] = some x) : len = 0 ∧ cap = 0 := by
  rcases DataW.trod_slice ht h with ⟨h1, _⟩ | ⟨a, len', cap', _, _, _, _, h1, _⟩
  · simp at h1; exact h1
  · simp at h1
/-- A number that fits. -/
def U32 (x : Int) : Prop := 0 ≤ x ∧ x < 4294967296
def U64 (x : Int) : Prop := 0 ≤ x ∧ x < 18446744073709551616
def I64 (x : Int) : Prop := -9223372036854775808 ≤ x ∧ x < 9223372036854775808
theorem u32_of {n : Int} (h : (Lit.int .u32 n).wf = true) : U32 n := by
  simp [Lit.wf, IntKind.min, IntKind.max, IntKind.signed, IntKind.bits] at h
  exact ⟨by omega, by omega⟩
theorem u64_of {n : Int} (h : (Lit.int .u64 n).wf = true) : U64 n := by
  simp [Lit.wf, IntKind.min, IntKind.max, IntKind.signed, IntKind.bits] at h
  exact ⟨by omega, by omega⟩
theorem i64_of {n : Int} (h : (Lit.int .i64 n).wf = true) : I64 n := by
  simp [Lit.wf, IntKind.min, IntKind.max, IntKind.signed, IntKind.bits] at h
  exact ⟨by omega, by omega⟩
structure Nums.Wf (u : Nums) : Prop where
  ver : U32 u.ver
  kin : U32 u.kin
  next : U32 u.next
  os : I64 u.os
  on : U32 u.on
  made : U64 u.made
  chg : U64 u.chg
  tch : U64 u.tch
set_option maxRecDepth 100000 in
theorem bytes_open {fuel : Nat} {cs : List Value} {y : DataW H × List MemPlace} (h : DataW.trod enc Tryz.prog w base spare held fuel 23 cs = some y) :
    ∃ ao c D, cs = [.slice ao D.length c] ∧ D.length ≤ c ∧ c ≤ maxLen ∧ ByteSl w Anyw w.heap.size ao D ∧ (ao = none → D = [] ∧ c = 0) := by
  have h0 := h
  obtain ⟨ao, len, cap, rfl, hl, hm, hi⟩ := rows_open (P := Tryz.prog) Tryz.underlying23 cellsByte (by omega) h
  obtain ⟨D, rfl, hat⟩ := list_of (fun i (x : UInt8) => ∃ b off, ao = some ⟨b, off, none⟩ ∧ b < w.heap.size ∧ w.cell? ⟨b, off + i, none⟩ = some (.int .u8 x.toNat)) len (fun i hil => by
    obtain ⟨b, off, cs', n', y', h1, h2, h3, h4, h5⟩ := hi i hil
    obtain ⟨v, e0, _, wf⟩ := DataW.trod_int Tryz.underlying5 h5
    subst e0
    obtain ⟨w0, w1⟩ := wf_u8 wf
    have := h4 0 _ rfl
    rw [Nat.mul_one, Nat.add_zero] at this
    refine ⟨UInt8.ofNat v.toNat, b, off, h1, h2, ?_⟩
    rw [this]
    have : ((UInt8.ofNat v.toNat).toNat : Int) = v := by
      rw [UInt8.toNat_ofNat']
      omega
    rw [this])
  refine ⟨ao, cap, D, rfl, hl, hm, fun j c hj => ?_, fun e => ?_⟩
  · obtain ⟨b, off, h1, h2, h3⟩ := hat j c hj
    exact ⟨b, off, h1, trivial, h2, h3⟩
  · subst e
    obtain ⟨h1, h2⟩ := slice_none' Tryz.underlying23 h0
    exact ⟨List.eq_nil_of_length_eq_zero h1, h2⟩
set_option maxRecDepth 100000 in
theorem sess_open {fuel : Nat} {cs : List Value} {y : DataW H × List MemPlace} (h : DataW.trod enc Tryz.prog w base spare held fuel 29 cs = some y) :
    ∃ a c : Int, cs = [.int .i64 a, .int .u32 c] ∧ I64 a ∧ U32 c := by
  obtain ⟨xs, n, _, _, hl, hx, hf⟩ := DataW.trod_struct Tryz.underlying29 h
  rw [cellsSess] at hl
  match cs, hl with
  | [c0, c1], _ =>
    match xs, hx with
    | [y0, y1], _ =>
      have g0 : DataW.trod enc Tryz.prog w base spare held n 3 (([c0, c1].drop 0).take (Tryz.prog.cellsOf 3)) = some y0 := hf 0 _ rfl
      have g1 : DataW.trod enc Tryz.prog w base spare held n 27 (([c0, c1].drop 1).take (Tryz.prog.cellsOf 27)) = some y1 := hf 1 _ rfl
      rw [cellsInt] at g0
      rw [cellsU32] at g1
      obtain ⟨a, e0, _, wa⟩ := DataW.trod_int Tryz.underlying3 g0
      obtain ⟨c, e1, _, wc⟩ := DataW.trod_int Tryz.underlying27 g1
      simp at e0 e1
      subst e0 e1
      exact ⟨_, _, rfl, i64_of wa, u32_of wc⟩
set_option maxRecDepth 100000 in
theorem node_open {fuel : Nat} {cs : List Value} {y : DataW H × List MemPlace} (h : DataW.trod enc Tryz.prog w base spare held fuel 39 cs = some y) :
    ∃ (r : Raw) (d : Nd), cs = r.cells ∧ Reads w Anyw r d ∧ d.data.length ≤ maxLen ∧ d.num.Wf := by
  obtain ⟨xs, n, _, _, hl, hx, hf⟩ := DataW.trod_struct Tryz.underlying39 h
  rw [cellsZ] at hl
  match cs, hl with
  | [c0, c1, c2, c3, c4, c5, c6, c7, c8], _ =>
    match xs, hx with
    | [y0, y1, y2, y3, y4, y5, y6, y7], _ =>
      have g0 : DataW.trod enc Tryz.prog w base spare held n 23 (([c0, c1, c2, c3, c4, c5, c6, c7, c8].drop 0).take (Tryz.prog.cellsOf 23)) = some y0 := hf 0 _ rfl
      have g1 : DataW.trod enc Tryz.prog w base spare held n 27 (([c0, c1, c2, c3, c4, c5, c6, c7, c8].drop 1).take (Tryz.prog.cellsOf 27)) = some y1 := hf 1 _ rfl
      have g2 : DataW.trod enc Tryz.prog w base spare held n 27 (([c0, c1, c2, c3, c4, c5, c6, c7, c8].drop 2).take (Tryz.prog.cellsOf 27)) = some y2 := hf 2 _ rfl
      have g3 : DataW.trod enc Tryz.prog w base spare held n 27 (([c0, c1, c2, c3, c4, c5, c6, c7, c8].drop 3).take (Tryz.prog.cellsOf 27)) = some y3 := hf 3 _ rfl
      have g4 : DataW.trod enc Tryz.prog w base spare held n 29 (([c0, c1, c2, c3, c4, c5, c6, c7, c8].drop 4).take (Tryz.prog.cellsOf 29)) = some y4 := hf 4 _ rfl
      have g5 : DataW.trod enc Tryz.prog w base spare held n 37 (([c0, c1, c2, c3, c4, c5, c6, c7, c8].drop 6).take (Tryz.prog.cellsOf 37)) = some y5 := hf 5 _ rfl
      have g6 : DataW.trod enc Tryz.prog w base spare held n 37 (([c0, c1, c2, c3, c4, c5, c6, c7, c8].drop 7).take (Tryz.prog.cellsOf 37)) = some y6 := hf 6 _ rfl
      have g7 : DataW.trod enc Tryz.prog w base spare held n 37 (([c0, c1, c2, c3, c4, c5, c6, c7, c8].drop 8).take (Tryz.prog.cellsOf 37)) = some y7 := hf 7 _ rfl
      rw [cellsBytes] at g0
      rw [cellsU32] at g1 g2 g3
      rw [cellsSess] at g4
      rw [cellsU64] at g5 g6 g7
      obtain ⟨ao, c, D, e0, b1, b2, b3, b4⟩ := bytes_open g0
      obtain ⟨n1, e1, _, w1⟩ := DataW.trod_int Tryz.underlying27 g1
      obtain ⟨n2, e2, _, w2⟩ := DataW.trod_int Tryz.underlying27 g2
      obtain ⟨n3, e3, _, w3⟩ := DataW.trod_int Tryz.underlying27 g3
      obtain ⟨n4, n5, e4, w4, w5⟩ := sess_open g4
      obtain ⟨n6, e6, _, w6⟩ := DataW.trod_int Tryz.underlying37 g5
      obtain ⟨n7, e7, _, w7⟩ := DataW.trod_int Tryz.underlying37 g6
      obtain ⟨n8, e8, _, w8⟩ := DataW.trod_int Tryz.underlying37 g7
      simp at e0 e1 e2 e3 e4 e6 e7 e8
      obtain ⟨rfl, rfl⟩ := e4
      subst e0 e1 e2 e3 e6 e7 e8
      exact ⟨⟨ao, D.length, c, ⟨n1, n2, n3, n4, n5, n6, n7, n8⟩⟩, ⟨D, ⟨n1, n2, n3, n4, n5, n6, n7, n8⟩⟩, rfl, ⟨rfl, rfl, b3, b4⟩, Nat.le_trans b1 b2, ⟨u32_of w1, u32_of w2, u32_of w3, w4, w5, u64_of w6, u64_of w7, u64_of w8⟩⟩
set_option maxRecDepth 100000 in
theorem effect_open {fuel : Nat} {cs : List Value} {y : DataW H × List MemPlace} (h : DataW.trod enc Tryz.prog w base spare held fuel 88 cs = some y) :
    ∃ (r : RawE) (e : Eff), cs = r.cells ∧ ReadsE w Anyw r e ∧ e.path.length ≤ maxLen ∧ e.node.data.length ≤ maxLen ∧ e.node.num.Wf := by
  obtain ⟨xs, n, _, _, hl, hx, hf⟩ := DataW.trod_struct Tryz.underlying88 h
  rw [cellsEffect] at hl
  match cs, hl with
  | c0 :: c1 :: rest, hl =>
    match xs, hx with
    | [y0, y1, y2], _ =>
      have g0 : DataW.trod enc Tryz.prog w base spare held n 9 (((c0 :: c1 :: rest).drop 0).take (Tryz.prog.cellsOf 9)) = some y0 := hf 0 _ rfl
      have g1 : DataW.trod enc Tryz.prog w base spare held n 4 (((c0 :: c1 :: rest).drop 1).take (Tryz.prog.cellsOf 4)) = some y1 := hf 1 _ rfl
      have g2 : DataW.trod enc Tryz.prog w base spare held n 39 (((c0 :: c1 :: rest).drop 2).take (Tryz.prog.cellsOf 39)) = some y2 := hf 2 _ rfl
      rw [cellsStr] at g0
      rw [cellsBoo] at g1
      rw [cellsZ] at g2
      obtain ⟨s, e0, _, hs⟩ := DataW.trod_string Tryz.underlying9 g0
      obtain ⟨p, rfl⟩ := str_open s
      obtain ⟨k, e1, _⟩ := DataW.trod_bool Tryz.underlying4 g1
      obtain ⟨r, d, e2, h1, h2, h3⟩ := node_open g2
      have hl9 : rest.length = 9 := by simpa using hl
      simp only [List.drop_succ_cons, List.drop_zero] at e2
      rw [List.take_of_length_le (by omega)] at e2
      simp at e0 e1
      subst e0 e1 e2
      rw [size_bs] at hs
      exact ⟨⟨p, k, r⟩, ⟨p, k, d⟩, rfl, ⟨rfl, rfl, h1⟩, hs, h2, h3⟩
/-- What is known of effects that came in. -/
structure InE (e : Eff) : Prop where
  path : e.path.length ≤ maxLen
  data : e.node.data.length ≤ maxLen
  num : e.node.num.Wf
/-- Lists, out of what is there for each index. -/
theorem list_of2 {α β : Type} (R : Nat → α → β → Prop) (n : Nat) (h : ∀ i, i < n → ∃ a b, R i a b) : ∃ (A : List α) (B : List β), A.length = n ∧ B.length = n ∧ ∀ (i : Nat) a b, A[i]? = some a → B[i]? = some b → R i a b := by
  obtain ⟨L, hl, hat⟩ := list_of (fun i (x : α × β) => R i x.1 x.2) n (fun i hi => by obtain ⟨a, b, h⟩ := h i hi; exact ⟨(a, b), h⟩)
  refine ⟨L.map (·.1), L.map (·.2), by simp [hl], by simp [hl], fun i a b ha hb => ?_⟩
  simp only [List.getElem?_map, Option.map_eq_some_iff] at ha hb
  obtain ⟨x, hx, rfl⟩ := ha
  obtain ⟨y, hy, rfl⟩ := hb
  rw [hx] at hy
  cases hy
  exact hat i x hx
set_option maxRecDepth 100000 in
theorem effs_open {fuel : Nat} {cs : List Value} {y : DataW H × List MemPlace} (h : DataW.trod enc Tryz.prog w base spare held fuel 35 cs = some y) :
    ∃ ao c L E, cs = [.slice ao L.length c] ∧ L.length ≤ c ∧ c ≤ maxLen ∧ EffsAt w w.heap.size ao L ∧ LikeE w Anyw L E ∧ ∀ e ∈ E, InE e := by
  obtain ⟨ao, len, cap, rfl, hl, hm, hi⟩ := rows_open (P := Tryz.prog) Tryz.underlying35 cellsEffect (by omega) h
  obtain ⟨L, E, hL, hE, hat⟩ := list_of2 (fun i (r : RawE) (e : Eff) => (ReadsE w Anyw r e ∧ InE e) ∧ ∃ b off, ao = some ⟨b, off, none⟩ ∧ b < w.heap.size ∧ w.rangeAt b (off + i * 11) r.cells) len (fun i hil => by
    obtain ⟨b, off, cs', n', y', h1, h2, h3, h4, h5⟩ := hi i hil
    obtain ⟨r, e, rfl, h6, h7, h8, h9⟩ := effect_open h5
    exact ⟨r, e, ⟨h6, h7, h8, h9⟩, b, off, h1, h2, h4⟩)
  subst hL
  refine ⟨ao, cap, L, E, rfl, hl, hm, fun k r hk => ?_, ⟨hE.symm, fun k r e hr he => (hat k r e hr he).1.1⟩, fun e he => ?_⟩
  · obtain ⟨e, he⟩ : ∃ e, E[k]? = some e := ⟨_, List.getElem?_eq_getElem (by have := (List.getElem?_eq_some_iff.1 hk).1; omega)⟩
    exact (hat k r e hk he).2
  · obtain ⟨k, hk⟩ := List.getElem?_of_mem he
    obtain ⟨r, hr⟩ : ∃ r, L[k]? = some r := ⟨_, List.getElem?_eq_getElem (by have := (List.getElem?_eq_some_iff.1 hk).1; omega)⟩
    exact (hat k r e hr hk).1.2
/-- A row of effects, as it lies. -/
structure Row where
  ao : Option Addr
  c : Nat
  L : List RawE
  E : List Eff
structure RowOk (w : World) (r : Row) : Prop where
  at_ : EffsAt w w.heap.size r.ao r.L
  like : LikeE w Anyw r.L r.E
  ok : ∀ e ∈ r.E, InE e
  len : r.L.length ≤ r.c
  cap : r.c ≤ maxLen
theorem RowOk.below {w w' : World} {r : Row} (h : RowOk w r) (hb : Below w.heap.size w w') : RowOk w' r := ⟨(h.at_.below hb).mono hb.size, h.like.below hb, h.ok, h.len, h.cap⟩
/-- A row of rows. -/
def RowsAt (w : World) (B : Nat) (ao : Option Addr) (R : List Row) : Prop := ∀ k r, R[k]? = some r → RowOk w r ∧ ∃ b off, ao = some ⟨b, off, none⟩ ∧ b < B ∧ w.cell? ⟨b, off + k, none⟩ = some (.slice r.ao r.L.length r.c)
theorem RowsAt.below {w w' : World} {ao : Option Addr} {R : List Row} (h : RowsAt w w.heap.size ao R) (hb : Below w.heap.size w w') : RowsAt w' w'.heap.size ao R := fun k r hk => by
  obtain ⟨h0, b, off, h1, h2, h3⟩ := h k r hk
  exact ⟨h0.below hb, b, off, h1, Nat.lt_of_lt_of_le h2 hb.size, (hb.cell (p := ⟨b, off + k, none⟩) h2).trans h3⟩
set_option maxRecDepth 100000 in
theorem row_open {v : Value} {d : DataW H} {p : List MemPlace} (h : DataW.Trod enc Tryz.prog w base spare held 35 v d p) {bb : Nat} (hv : Value.okWide Tryz.prog w .any bb 35 v) :
    ∃ r : Row, v = .slice r.ao r.L.length r.c ∧ RowOk w r := by
  obtain ⟨a0, len, cap, rfl⟩ := okWide_slice Tryz.underlying35 hv
  obtain ⟨fuel, hf⟩ := h
  obtain ⟨ao, c, L, E, hcs, h1, h2, h3, h4, h5⟩ := effs_open hf
  simp [Value.cells] at hcs
  obtain ⟨rfl, rfl, rfl⟩ := hcs
  exact ⟨⟨_, _, L, E⟩, rfl, ⟨h3, h4, h5, h1, h2⟩⟩
end
end Go.Proofs.YtnclkfhdpkkakaaGreatDoor
