/-
  Nodes, trees, as blocks of memory; own, Root, At, walked.
-/
import Derived.Test.YtkhoeiapfoaapaaDoorTr0
namespace Go.Proofs.YtkhoeiapfoaapaaDoor
set_option linter.unusedVariables false
set_option linter.unusedSimpArgs false
set_option linter.unusedVariables false
set_option linter.unusedSimpArgs false
open Go Go.RowKit Go.Shelf Go.MapKept Go.ChangeMaps

/-- A node's numbers. -/
structure Nums where
  ver : Int
  kin : Int
  next : Int
  os : Int
  on : Int
  made : Int
  chg : Int
  tch : Int
  deriving DecidableEq
/-- A node: its data, its numbers. -/
structure Nd where
  data : Bytes
  num : Nums
  deriving DecidableEq
/-- A node as it lies: its data's slice. -/
structure Raw where
  a : Option Addr
  n : Nat
  c : Nat
  num : Nums
def Nums.cells (d : Nums) : List Value := [.int .u32 d.ver, .int .u32 d.kin, .int .u32 d.next, .int .i64 d.os, .int .u32 d.on, .int .u64 d.made, .int .u64 d.chg, .int .u64 d.tch]
def Raw.cells (d : Raw) : List Value := .slice d.a d.n d.c :: d.num.cells
def Raw.val (d : Raw) : Value := .agg d.cells.toArray
/-- A raw node reads as a node; its data's bytes lie in a block of lo. -/
structure Reads (w : World) (lo : Nat → Prop) (r : Raw) (d : Nd) : Prop where
  num : r.num = d.num
  len : r.n = d.data.length
  data : ByteSl w lo w.heap.size r.a d.data
  nil : r.a = none → d.data = [] ∧ r.c = 0
theorem Reads.below {w w' : World} {lo : Nat → Prop} {r : Raw} {d : Nd} (h : Reads w lo r d) (hb : Below w.heap.size w w') : Reads w' lo r d :=
  ⟨h.num, h.len, (h.data.below hb).mono (fun _ h => h) hb.size, h.nil⟩
theorem Reads.mono {w : World} {lo lo' : Nat → Prop} {r : Raw} {d : Nd} (h : Reads w lo r d) (hl : ∀ b, lo b → lo' b) : Reads w lo' r d := ⟨h.num, h.len, h.data.mono hl (Nat.le_refl _), h.nil⟩
theorem Kept.setCells {S : Nat → Prop} {a : World} {p : Nat} (hp : S p) : ∀ (vs : List Value) (o : Nat) {b : World}, Kept S a b → Kept S a (b.setCells p o vs)
  | [], o, b, h => h
  | v :: vs, o, b, h => Kept.setCells hp vs (o + 1) (h.setCell (p := ⟨p, o, none⟩) hp v)
theorem results_cell_mid {P : Program} {fn : Func} {p : Tmp} {ty : TypeId} (h : fn.results = #[.cell p ty]) (tmps : Array Value) (w : World) (b o : Nat) (cs : List Value) (d : TypeDesc)
    (hp : tmps.getD p undef = .pointer (some ⟨b, o, none⟩)) (hc : w.rangeAt b o cs) (hu : P.underlying ty = some d) (hd : d.isRow = true) (hi : (P.info? ty).map (·.size) = some cs.length) :
    (results fn tmps).run P w = .ok (.agg cs.toArray) w := by
  have hp' : tmps[p]?.getD undef = .pointer (some ⟨b, o, none⟩) := by simpa using hp
  simp [results, h, hp', asAddr, run_loadVar_mid w b o ty cs d hc hu hd hi]
theorem cellsZ : Tryd.prog.cellsOf 33 = 9 := by kernel_rfl

set_option maxRecDepth 100000 in
set_option maxHeartbeats 2000000 in
theorem own_any (w : World) (lo : Nat → Prop) (r : Raw) (d : Nd) (h : Reads w lo r d) (hl : d.data.length ≤ 1000000) :
    Calls Tryd.prog 29 #[r.val] w fun e w' => ∃ r' : Raw, e = .returned r'.val ∧ Reads w' (From w.heap.size) r' d ∧ Below w.heap.size w w' ∧ Free w.heap.size w' r'.a := by
  obtain ⟨a, n, c, u⟩ := r
  obtain ⟨D, u'⟩ := d
  obtain ⟨h1, h2, h3, h4⟩ := h
  dsimp only at h1 h2 h3 h4 hl
  subst h1
  obtain ⟨v1, v2, v3, v4, v5, v6, v7, v8⟩ := u
  unfold Raw.val Raw.cells Nums.cells
  dsimp only
  subst h2
  obtain ⟨w2, hw2⟩ : ∃ w2, w2 = (w.alloc (.cells #[.slice a D.length c, .int .u32 v1, .int .u32 v2, .int .u32 v3, .int .i64 v4, .int .u32 v5, .int .u64 v6, .int .u64 v7, .int .u64 v8] 33)).alloc (.cells #[.slice none 0 0, .int .u32 0, .int .u32 0, .int .u32 0, .int .i64 0, .int .u32 0, .int .u64 0, .int .u64 0, .int .u64 0] 33) := ⟨_, rfl⟩
  have hb2 : Below w.heap.size w w2 := by rw [hw2]; exact belowA (belowA (Below.refl _ w) _) _
  have hc := cloneB_any w2 a c lo D hl ((h3.below hb2).mono (fun _ h => h) hb2.size) h4
  obtain ⟨N, hN⟩ : ∃ N, N = D.length := ⟨_, rfl⟩
  rw [← hN] at hc hw2 ⊢
  have HC := Lib.hid hc
  have HB2 := Lib.hid hb2
  have HN := Lib.hid hN
  clear h3 h4 hc hb2 hN hl
  go_enter Tryd.func29, Tryd.ntmps29
  go_wp2_with fail
  rw [← hw2]
  have g1 : w2.heap[w.heap.size]? = some (.cells #[.slice a N c, .int .u32 v1, .int .u32 v2, .int .u32 v3, .int .i64 v4, .int .u32 v5, .int .u64 v6, .int .u64 v7, .int .u64 v8] 33 (0, 0)) := by rw [hw2]; exact (heap_alloc_old _ _ (by simp)).trans (heap_alloc_new w _)
  have g2 : w2.heap[w.heap.size + 1]? = some (.cells #[.slice none 0 0, .int .u32 0, .int .u32 0, .int .u32 0, .int .i64 0, .int .u32 0, .int .u64 0, .int .u64 0, .int .u64 0] 33 (0, 0)) := by
    have := heap_alloc_new (w.alloc (.cells #[.slice a N c, .int .u32 v1, .int .u32 v2, .int .u32 v3, .int .i64 v4, .int .u32 v5, .int .u64 v6, .int .u64 v7, .int .u64 v8] 33)) (.cells #[.slice none 0 0, .int .u32 0, .int .u32 0, .int .u32 0, .int .i64 0, .int .u32 0, .int .u64 0, .int .u64 0, .int .u64 0] 33)
    rw [World.size_alloc] at this
    rw [hw2]
    exact this
  have hs2 : w.heap.size + 1 < w2.heap.size := by rw [hw2]; simp
  clear hw2
  refine HC.out.mono ?_
  rintro e w3 ⟨a', c', rfl, B3, K3, N3, F3⟩
  have k1 := (K3.block _ (by omega)).trans g1
  have k2 := (K3.block _ hs2).trans g2
  have hlt1 : w.heap.size < w3.heap.size := by have := K3.size; omega
  have hlt2 : w.heap.size + 1 < w3.heap.size := by have := K3.size; omega
  have c0 : w3.cell? ⟨w.heap.size, 0, none⟩ = some (.slice a N c) := cell_of_row _ _ 0 _ 33 (0, 0) k1
  have f0 : w3.frozen? ⟨w.heap.size, 0, none⟩ = false := by simp [World.frozen?, k1]
  have hr4 : (w3.setCell ⟨w.heap.size, 0, none⟩ (.slice a' N c')).rangeAt w.heap.size 0 [.slice a' N c', .int .u32 v1, .int .u32 v2, .int .u32 v3, .int .i64 v4, .int .u32 v5, .int .u64 v6, .int .u64 v7, .int .u64 v8] := by
    have h4 : (w3.setCell ⟨w.heap.size, 0, none⟩ (.slice a' N c')).heap[w.heap.size]? = some (.cells #[.slice a' N c', .int .u32 v1, .int .u32 v2, .int .u32 v3, .int .i64 v4, .int .u32 v5, .int .u64 v6, .int .u64 v7, .int .u64 v8] 33 (0, 0)) := by
      simp [World.setCell, Array.getElem?_modify, k1]
    intro j v hv
    rw [Nat.zero_add]
    exact (cell_of_row _ _ j _ 33 (0, 0) h4).trans (by simpa using hv)
  have ht5 : (w3.setCell ⟨w.heap.size, 0, none⟩ (.slice a' N c')).there (w.heap.size + 1) 0 9 := by
    have h5 : (w3.setCell ⟨w.heap.size, 0, none⟩ (.slice a' N c')).heap[w.heap.size + 1]? = some (.cells #[.slice none 0 0, .int .u32 0, .int .u32 0, .int .u32 0, .int .i64 0, .int .u32 0, .int .u64 0, .int .u64 0, .int .u64 0] 33 (0, 0)) := by
      rw [Below.heap_setCell _ _ _ _ (by simp)]
      exact k2
    intro j hj
    refine ⟨?_, by simp [World.frozen?, h5]⟩
    rw [Nat.zero_add, cell_of_row _ _ j _ 33 (0, 0) h5]
    rcases (show j = 0 ∨ j = 1 ∨ j = 2 ∨ j = 3 ∨ j = 4 ∨ j = 5 ∨ j = 6 ∨ j = 7 ∨ j = 8 by omega) with rfl | rfl | rfl | rfl | rfl | rfl | rfl | rfl | rfl <;> rfl
  have HR4 := Lib.hid hr4
  have HT5 := Lib.hid ht5
  have HB3 := Lib.hid (And.intro B3 (And.intro K3 (And.intro N3 F3)))
  have HLT0 : Hid (w.heap.size ≤ w3.heap.size) := Lib.hid (by omega)
  have HS2 := Lib.hid hs2
  have HSZ : Hid ((Tryd.prog.info? 33).map (·.size) = some 9) := Lib.hid (by kernel_rfl)
  have HON : Hid ((#[.slice a' N c', .int .u32 v1, .int .u32 v2, .int .u32 v3, .int .i64 v4, .int .u32 v5, .int .u64 v6, .int .u64 v7, .int .u64 v8] : Array Value).all (·.oneCell') = true) := Lib.hid (by simp [Value.oneCell'])
  clear g1 g2 hs2 B3 K3 N3 F3 HC k1 k2 hr4 ht5 hlt1 hlt2
  go_wp2_with (first
    | (refine wpList_load_mid rfl 33 (.tmp 1) rfl w.heap.size 0 rfl [.slice a' N c', .int .u32 v1, .int .u32 v2, .int .u32 v3, .int .i64 v4, .int .u32 v5, .int .u64 v6, .int .u64 v7, .int .u64 v8] _ HR4.out Tryd.underlying33 rfl HSZ.out ?_)
    | (refine wpList_store_mid rfl 33 (.tmp 2) (.tmp 7) rfl (w.heap.size + 1) 0 #[.slice a' N c', .int .u32 v1, .int .u32 v2, .int .u32 v3, .int .i64 v4, .int .u32 v5, .int .u64 v6, .int .u64 v7, .int .u64 v8] rfl rfl HT5.out HSZ.out HON.out ?_))
  refine bodyPost_ret (results_cell_mid rfl _ _ (w.heap.size + 1) 0 [.slice a' N c', .int .u32 v1, .int .u32 v2, .int .u32 v3, .int .i64 v4, .int .u32 v5, .int .u64 v6, .int .u64 v7, .int .u64 v8] _ rfl (World.rangeAt_setCells_same _ _ _ _ HT5.out) Tryd.underlying33 rfl HSZ.out) rfl ?_
  obtain ⟨B3, K3, N3, F3⟩ := HB3.out
  have hk : Kept (fun k => k = w.heap.size ∨ k = w.heap.size + 1) w3 ((w3.setCell ⟨w.heap.size, 0, none⟩ (.slice a' N c')).setCells (w.heap.size + 1) 0 [.slice a' N c', .int .u32 v1, .int .u32 v2, .int .u32 v3, .int .i64 v4, .int .u32 v5, .int .u64 v6, .int .u64 v7, .int .u64 v8]) :=
    Kept.setCells (p := w.heap.size + 1) (.inr rfl) _ _ ((Kept.refl _ w3).setCell (p := ⟨w.heap.size, 0, none⟩) (.inl rfl) _)
  have hs2 : w.heap.size + 1 < w2.heap.size := HS2.out
  refine ⟨⟨a', N, c', ⟨v1, v2, v3, v4, v5, v6, v7, v8⟩⟩, rfl, ⟨rfl, HN.out, ?_, N3⟩, ?_, (F3.kept hk (fun k h => by omega)).mono (by omega)⟩
  · exact ((B3.kept hk (Nat.le_refl _) (fun b h1 h2 _ e => by omega)).mono (fun _ h => by have h : w2.heap.size ≤ _ := h; show w.heap.size ≤ _; omega) hk.size)
  · exact (HB2.out.trans (K3.mono HB2.out.size)).trans (hk.below HLT0.out (fun k h => by omega))
end Go.Proofs.YtkhoeiapfoaapaaDoor
