/-
  Get, walked.
  Clone, walked.
-/
import Derived.Test.YtkhoeiapfoaapaaGreatDoorTr2
import Derived.Test.YtkhoeiapfoaapaaGreatDoorIter
import Derived.Deep.RegionHeld3
namespace Go.Proofs.YtkhoeiapfoaapaaGreatDoor
set_option linter.unusedVariables false
set_option linter.unusedSimpArgs false
set_option linter.unusedVariables false
set_option linter.unusedSimpArgs false
open Go Go.RowKit Go.Shelf Go.MapKept Go.ChangeMaps
open Go.Maps (Keyed)

theorem getA_mem {κ ν : Type} [DecidableEq κ] {a : κ} {v : ν} : ∀ {m : List (κ × ν)}, getA a m = some v → ∃ x ∈ m, x.2 = v
  | [], h => by simp [getA] at h
  | p :: r, h => by
    unfold getA at h
    split at h
    · cases h; exact ⟨p, List.mem_cons_self .., rfl⟩
    · obtain ⟨x, hx, he⟩ := getA_mem h
      exact ⟨x, List.mem_cons_of_mem _ hx, he⟩
def zNums : Nums := ⟨0, 0, 0, 0, 0, 0, 0, 0⟩
def zNd : Nd := ⟨[], zNums⟩
def zRaw : Raw := ⟨none, 0, 0, zNums⟩
theorem zReads (w : World) (lo : Nat → Prop) : Reads w lo zRaw zNd := ⟨rfl, rfl, fun j c h => by simp [zNd] at h, fun _ => ⟨rfl, rfl⟩⟩
theorem zeroZ (w : World) : (zeroValue 39).run Tryz.prog w = .ok zRaw.val w := by kernel_rfl
theorem results_cell_tmp_mid {P : Program} {fn : Func} {p u : Tmp} {ty : TypeId} (h : fn.results = #[.cell p ty, .tmp u]) (tmps : Array Value) (w : World) (b o : Nat) (cs : List Value) (d : TypeDesc)
    (hp : tmps.getD p undef = .pointer (some ⟨b, o, none⟩)) (hc : w.rangeAt b o cs) (hu : P.underlying ty = some d) (hd : d.isRow = true) (hi : (P.info? ty).map (·.size) = some cs.length) :
    (results fn tmps).run P w = .ok (.tuple #[.agg cs.toArray, tmps.getD u undef]) w := by
  rw [results_cell_tmp h, hp]
  simp [asAddr, run_loadVar_mid w b o ty cs d hc hu hd hi, Result.andThen]
/-- The look-up in a tree's map. -/
theorem TreeAt.look {w : World} {lo : Nat → Prop} {b mb : Nat} {root : Bytes} {at_ : Int} {M : List (Bytes × Nd)} (T : TreeAt w lo b mb root at_ M) {p : Bytes} (hp : p.length ≤ maxLen) :
    ∃ r : Raw, Reads w lo r ((getA p M).getD zNd) ∧ ∀ W, W.heap[mb]? = w.heap[mb]? → (Instr.lookup 46 (.map (some mb)) (.string (bs p)) true).run Tryz.prog W = .ok (.tuple #[r.val, .bool (getA p M).isSome]) W := by
  obtain ⟨m, hm, hl⟩ := T.map
  obtain ⟨l, hk⟩ := sv_key hp
  rcases hl.get p with ⟨h1, h2⟩ | ⟨r, d, h1, h2, h3⟩
  · refine ⟨zRaw, ?_, fun W hW => ?_⟩
    · rw [h2]
      exact zReads _ _
    · have := (hm.of_block hW).lookup_ok keyStr sv_inj Tryz.underlying46 (zeroZ W) hk
      rw [h1] at this
      rw [h2]
      exact this
  · refine ⟨r, ?_, fun W hW => ?_⟩
    · rw [h2]
      exact h3
    · have := (hm.of_block hW).lookup_ok keyStr sv_inj Tryz.underlying46 (zeroZ W) hk
      rw [h1] at this
      rw [h2]
      exact this
set_option maxRecDepth 100000 in
set_option maxHeartbeats 2000000 in
theorem TreeAt.get_any {w : World} {lo : Nat → Prop} {b mb : Nat} {root : Bytes} {at_ : Int} {M : List (Bytes × Nd)} (T : TreeAt w lo b mb root at_ M) (p : Bytes) (hp : p.length ≤ maxLen) (hd : ∀ x ∈ M, x.2.data.length ≤ 1000000) :
    Calls Tryz.prog 15 #[.pointer (some ⟨b, 0, none⟩), .string (bs p)] w fun e w' => ∃ r : Raw, e = .returned (.tuple #[r.val, .bool (getA p M).isSome]) ∧ Reads w' (From w.heap.size) r ((getA p M).getD zNd) ∧ Below w.heap.size w w' ∧ Free w.heap.size w' r.a := by
  obtain ⟨r, hr, hq⟩ := T.look hp
  have hdd : ((getA p M).getD zNd).data.length ≤ 1000000 := by
    cases h : getA p M with
    | none => simp [zNd]
    | some d =>
      obtain ⟨x, hx, he⟩ := getA_mem h
      subst he
      exact hd x hx
  generalize (getA p M).getD zNd = nd at *
  generalize (getA p M).isSome = is at *
  have hmb : mb < w.heap.size := by obtain ⟨m, hm, _⟩ := T.map; exact hm.lt
  have hbl : b < w.heap.size := lt_of_block T.blk
  obtain ⟨c0, c1, c2⟩ := T.cells
  obtain ⟨a, n, c, ⟨v1, v2, v3, v4, v5, v6, v7, v8⟩⟩ := r
  obtain ⟨w1, hw1⟩ : ∃ w1, w1 = w.alloc (.cells #[.slice none 0 0, .int .u32 0, .int .u32 0, .int .u32 0, .int .i64 0, .int .u32 0, .int .u64 0, .int .u64 0, .int .u64 0] 39) := ⟨_, rfl⟩
  have q := hq w1 (by rw [hw1]; exact heap_alloc_old _ _ hmb)
  unfold Raw.val Raw.cells Nums.cells at q
  dsimp only at q
  rw [hw1] at q
  obtain ⟨w2, hw2⟩ : ∃ w2, w2 = w1.alloc (.cells #[.slice a n c, .int .u32 v1, .int .u32 v2, .int .u32 v3, .int .i64 v4, .int .u32 v5, .int .u64 v6, .int .u64 v7, .int .u64 v8] 39) := ⟨_, rfl⟩
  have hb2 : Below w.heap.size w w2 := by rw [hw2, hw1]; exact belowA (belowA (Below.refl _ w) _) _
  have hown := own_any w2 lo ⟨a, n, c, ⟨v1, v2, v3, v4, v5, v6, v7, v8⟩⟩ nd (hr.below hb2) hdd
  unfold Raw.val Raw.cells Nums.cells at hown
  dsimp only at hown
  have HOWN := Lib.hid hown
  have HB2 := Lib.hid hb2
  have hz2 : w2.heap[w.heap.size]? = some (.cells #[.slice none 0 0, .int .u32 0, .int .u32 0, .int .u32 0, .int .i64 0, .int .u32 0, .int .u64 0, .int .u64 0, .int .u64 0] 39 (0, 0)) := by
    rw [hw2, hw1]
    exact (heap_alloc_old _ _ (by simp)).trans (heap_alloc_new w _)
  have HZ2 := Lib.hid hz2
  have HW2 := Lib.hid (show w2 = (w.alloc (.cells #[.slice none 0 0, .int .u32 0, .int .u32 0, .int .u32 0, .int .i64 0, .int .u32 0, .int .u64 0, .int .u64 0, .int .u64 0] 39)).alloc (.cells #[.slice a n c, .int .u32 v1, .int .u32 v2, .int .u32 v3, .int .i64 v4, .int .u32 v5, .int .u64 v6, .int .u64 v7, .int .u64 v8] 39) by rw [hw2, hw1])
  clear hown hb2 hz2 hw1 hw2 hr hq hdd T
  go_enter Tryz.func15, Tryz.ntmps15
  go_wp2_with fail
  rw [← HW2.out]
  refine HOWN.out.mono ?_
  rintro e w3 ⟨⟨a2, n2, cx, ⟨x1, x2, x3, x4, x5, x6, x7, x8⟩⟩, rfl, R3, B3, F3⟩
  have hlt2 : w.heap.size + 2 ≤ w2.heap.size := by rw [HW2.out]; simp
  have k3 := (B3.block w.heap.size (by omega)).trans HZ2.out
  have ht : w3.there w.heap.size 0 9 := by
    intro j hj
    refine ⟨?_, by simp [World.frozen?, k3]⟩
    rw [Nat.zero_add, cell_of_row _ _ j _ 39 (0, 0) k3]
    rcases (show j = 0 ∨ j = 1 ∨ j = 2 ∨ j = 3 ∨ j = 4 ∨ j = 5 ∨ j = 6 ∨ j = 7 ∨ j = 8 by omega) with rfl | rfl | rfl | rfl | rfl | rfl | rfl | rfl | rfl <;> rfl
  have HT := Lib.hid ht
  have HR3 := Lib.hid (And.intro R3 (And.intro B3 (And.intro hlt2 F3)))
  have HSZ : Hid ((Tryz.prog.info? 39).map (·.size) = some 9) := Lib.hid (by kernel_rfl)
  have HON : Hid ((#[.slice a2 n2 cx, .int .u32 x1, .int .u32 x2, .int .u32 x3, .int .i64 x4, .int .u32 x5, .int .u64 x6, .int .u64 x7, .int .u64 x8] : Array Value).all (·.oneCell') = true) := Lib.hid (by simp [Value.oneCell'])
  clear R3 B3 F3 hlt2 k3 ht c0 c1 c2 q
  dsimp only
  go_wp2_with (first
    | (refine wpList_store_mid rfl 39 (.tmp 4) (.tmp 21) rfl w.heap.size 0 #[.slice a2 n2 cx, .int .u32 x1, .int .u32 x2, .int .u32 x3, .int .i64 x4, .int .u32 x5, .int .u64 x6, .int .u64 x7, .int .u64 x8] rfl rfl HT.out HSZ.out HON.out ?_))
  refine bodyPost_ret (results_cell_tmp_mid rfl _ _ w.heap.size 0 [.slice a2 n2 cx, .int .u32 x1, .int .u32 x2, .int .u32 x3, .int .i64 x4, .int .u32 x5, .int .u64 x6, .int .u64 x7, .int .u64 x8] _ rfl (World.rangeAt_setCells_same _ _ _ _ HT.out) Tryz.underlying39 rfl HSZ.out) rfl ?_
  obtain ⟨R3, B3, hlt2, F3⟩ := HR3.out
  have hk : Kept (fun k => k = w.heap.size) w3 (w3.setCells w.heap.size 0 [.slice a2 n2 cx, .int .u32 x1, .int .u32 x2, .int .u32 x3, .int .i64 x4, .int .u32 x5, .int .u64 x6, .int .u64 x7, .int .u64 x8]) := Kept.setCells (S := fun k => k = w.heap.size) (p := w.heap.size) rfl _ _ (Kept.refl _ w3)
  have hs3 : w2.heap.size ≤ w3.heap.size := B3.size
  refine ⟨⟨a2, n2, cx, ⟨x1, x2, x3, x4, x5, x6, x7, x8⟩⟩, rfl, ⟨R3.num, R3.len, ?_, R3.nil⟩, ?_, (F3.kept hk (fun k h => by omega)).mono (by omega)⟩
  · exact (R3.data.kept hk (Nat.le_refl _) (fun b h1 h2 _ e => by omega)).mono (fun _ h => by have h : _ ≤ _ := h; show w.heap.size ≤ _; omega) hk.size
  · exact (HB2.out.trans (B3.mono HB2.out.size)).trans (hk.below (by omega) (fun k h => by omega))
end Go.Proofs.YtkhoeiapfoaapaaGreatDoor

namespace Go.Proofs.YtkhoeiapfoaapaaGreatDoor
set_option linter.unusedVariables false
set_option linter.unusedSimpArgs false
set_option linter.unusedVariables false
set_option linter.unusedSimpArgs false
open Go Go.RowKit Go.Shelf Go.MapKept Go.ChangeMaps
open Go.Maps (Keyed)

theorem cloneM {w : World} {mb : Nat} {m : List (Bytes × Raw)} (hm : HasMap Tryz.prog 9 sv Raw.val w mb m) :
    Calls Tryz.prog 39 #[.map (some mb)] w fun e w' => e = .returned (.map (some w.heap.size)) ∧ HasMap Tryz.prog 9 sv Raw.val w' w.heap.size m ∧ Below w.heap.size w w' ∧ w'.heap.size = w.heap.size + 1 := by
  obtain ⟨es, c, h1, h2, h3, h4⟩ := hm
  exact (AnyW.maps_Clone Tryz.mclone mb es c w h1).mono fun e w' ⟨he, hw⟩ => ⟨he, ⟨es, c, by rw [hw]; exact heap_alloc_new w _, h2, h3, h4⟩, by rw [hw]; exact belowA (Below.refl _ w) _, by rw [hw]; simp⟩
set_option maxRecDepth 100000 in
theorem cloneNil (w : World) : Calls Tryz.prog 20 #[.pointer none] w fun e w' => e = .returned (.pointer none) ∧ w' = w := by
  go_enter Tryz.func20, Tryz.ntmps20
  go_wp2
  go_ret
  exact ⟨rfl, rfl⟩
set_option maxRecDepth 100000 in
set_option maxHeartbeats 2000000 in
theorem TreeAt.clone_any {w : World} {lo : Nat → Prop} {b mb : Nat} {root : Bytes} {at_ : Int} {M : List (Bytes × Nd)} (T : TreeAt w lo b mb root at_ M) :
    Calls Tryz.prog 20 #[.pointer (some ⟨b, 0, none⟩)] w fun e w' => ∃ b' mb', e = .returned (.pointer (some ⟨b', 0, none⟩)) ∧ TreeAt w' lo b' mb' root at_ M ∧ w.heap.size ≤ b' ∧ w.heap.size ≤ mb' ∧ b' ≠ mb' ∧ Below w.heap.size w w' := by
  obtain ⟨m, hm, hl⟩ := T.map
  have HM := Lib.hid hm
  have HL := Lib.hid hl
  have hbl : b < w.heap.size := lt_of_block T.blk
  obtain ⟨c0, c1, c2⟩ := T.cells
  have HC := Lib.hid T.cells
  have HCM := Lib.hid (cloneM (hm.of_block (w' := w.drew) rfl))
  clear T hm hl
  go_enter Tryz.func20, Tryz.ntmps20
  go_wp2_with fail
  go_region_held3 (fun w' => w'.cell? ⟨b, 0, none⟩ = some (.string (bs root)) ∧ w'.cell? ⟨b, 1, none⟩ = some (.int .u64 at_) ∧ w'.cell? ⟨b, 2, none⟩ = some (.map (some mb))) (first | assumption | exact HC.out | go_keep) (first | (go_at_call 39; refine HCM.out.mono ?_; rintro e w5 ⟨rfl, H5, B5, Z5⟩; have ct : w5.cell? ⟨b, 0, none⟩ = some (.string (bs root)) ∧ w5.cell? ⟨b, 1, none⟩ = some (.int .u64 at_) ∧ w5.cell? ⟨b, 2, none⟩ = some (.map (some mb)) := ⟨(B5.cell (p := ⟨b, 0, none⟩) hbl).trans HC.out.1, (B5.cell (p := ⟨b, 1, none⟩) hbl).trans HC.out.2.1, (B5.cell (p := ⟨b, 2, none⟩) hbl).trans HC.out.2.2⟩))
  have Z5' : w5.heap.size = w.heap.size + 1 := Z5
  have B5' : Below w.heap.size w w5 := ⟨B5.os, B5.tape, B5.output, B5.size, B5.block⟩
  have HX := Lib.hid (And.intro H5 (And.intro B5' Z5'))
  clear H5 B5 B5' Z5 Z5' ct c0 c1 c2
  go_wp2
  go_ret
  obtain ⟨H5, B5, Z5⟩ := HX.out
  have hb6 : Below w.heap.size w (w5.alloc (.cells #[.string (bs root), .int .u64 at_, .map (some w.heap.size)] 48)) := belowA B5 _
  refine ⟨w.heap.size + 1, w.heap.size, rfl, ⟨?_, m, ?_, ?_⟩, Nat.le_succ _, Nat.le_refl _, by omega, hb6⟩
  · have := heap_alloc_new w5 (.cells #[.string (bs root), .int .u64 at_, .map (some w.heap.size)] 48)
    rw [Z5] at this
    exact this
  · exact HasMap.of_block H5 (heap_alloc_old _ _ H5.lt)
  · exact HL.out.imp fun _ _ h => h.below hb6
end Go.Proofs.YtkhoeiapfoaapaaGreatDoor
