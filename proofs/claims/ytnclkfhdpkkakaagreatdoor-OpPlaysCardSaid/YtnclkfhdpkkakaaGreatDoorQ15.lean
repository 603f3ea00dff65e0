/-
  Kids, walked. gone, walked. put, walked. Apply, walked. Effects on nodes, so that they can be computed.
-/
import Derived.Test.YtnclkfhdpkkakaaGreatDoorQ14
import Derived.Stop.RegionWithIn
import Derived.Test.YtnclkfhdpkkakaaGreatDoorQ12
import Derived.Lib.OwnBridge
import Derived.Deep.RegionHeld3
import Derived.Deep.DeepCutAuto
import Derived.RegionTactic
import Derived.BigRegion
import Derived.Test.YtnclkfhdpkkakaaGreatDoorQ6
namespace Go.Proofs.YtnclkfhdpkkakaaGreatDoor
set_option linter.unusedVariables false
set_option linter.unusedSimpArgs false
set_option linter.unusedVariables false
set_option linter.unusedSimpArgs false
open Go Go.RowKit Go.Shelf Go.MapKept Go.ChangeMaps Go.Maps Go.Sort
attribute [local go_sem] Oper.semAt_some
def kidsS (root : Bytes) (M : List (Bytes × Nd)) (p : Bytes) : List Bytes := sortS (((keysS M).filter (kidB root p)).map baseL)
theorem kids_len (root : Bytes) (M : List (Bytes × Nd)) (p : Bytes) : (((keysS M).filter (kidB root p)).map baseL).length ≤ M.length := by
 rw [List.length_map]
 have := List.length_filter_le (kidB root p) (keysS M)
 rw [keysS_len] at this
 exact this
theorem five_boxes (w : World) (a1 a2 a3 a4 a5 : Value) (t1 t2 t3 t4 t5 : TypeId) (W : World)
  (h : W = ((((w.alloc (.cells #[a1] t1)).alloc (.cells #[a2] t2)).alloc (.cells #[a3] t3)).alloc (.cells #[a4] t4)).alloc (.cells #[a5] t5)) :
  Below w.heap.size w W ∧ W.heap.size = w.heap.size + 5 ∧ Boxed W w.heap.size t1 a1 ∧ Boxed W (w.heap.size + 1) t2 a2 ∧ Boxed W (w.heap.size + 1 + 1) t3 a3 ∧ Boxed W (w.heap.size + 1 + 1 + 1) t4 a4 ∧ Boxed W (w.heap.size + 1 + 1 + 1 + 1) t5 a5 := by
 subst h
 have b1 := Boxed.new w t1 a1
 have b2 := Boxed.new (w.alloc (.cells #[a1] t1)) t2 a2
 have b3 := Boxed.new ((w.alloc (.cells #[a1] t1)).alloc (.cells #[a2] t2)) t3 a3
 have b4 := Boxed.new (((w.alloc (.cells #[a1] t1)).alloc (.cells #[a2] t2)).alloc (.cells #[a3] t3)) t4 a4
 have b5 := Boxed.new ((((w.alloc (.cells #[a1] t1)).alloc (.cells #[a2] t2)).alloc (.cells #[a3] t3)).alloc (.cells #[a4] t4)) t5 a5
 simp only [World.size_alloc] at b2 b3 b4 b5
 refine ⟨?_, by simp, (((b1.alloc _).alloc _).alloc _).alloc _, ((b2.alloc _).alloc _).alloc _, (b3.alloc _).alloc _, b4.alloc _, b5⟩
 exact belowA (belowA (belowA (belowA (belowA (Below.refl _ w) _) _) _) _) _
theorem keepsOthers_below {W W' : World} (h : Below W.heap.size W W') : KeepsOthers W W' := ⟨h.size, fun k o hk _ => (h.block k (Array.getElem?_eq_some_iff.1 hk).1).trans hk⟩
def RowC (w : World) (base : Nat) (v : Value) (L : List Bytes) : Prop :=
 (v = .slice none 0 0 ∧ L = []) ∨ ∃ g cap, v = .slice (some ⟨g, 0, none⟩) L.length cap ∧ base ≤ g ∧ g < w.heap.size ∧ L.length ≤ cap ∧ ∀ i p, L[i]? = some p → w.cell? ⟨g, i, none⟩ = some (.string (bs p))
theorem RowS.c {w : World} {base : Nat} {v : Value} {L : List Bytes} (h : RowS w base v L) : RowC w base v L := by
 rcases h.at with h | ⟨g, cap, h1, h2, h3, h4, _, h5⟩
 ·exact .inl h
 ·exact .inr ⟨g, cap, h1, h2, h3, h4, h5⟩
theorem RowC.kept {w w' : World} {base : Nat} {v : Value} {L : List Bytes} (h : RowC w base v L) (hs : w.heap.size ≤ w'.heap.size) (hk : ∀ g, v.ownBlock = some g → w'.heap[g]? = w.heap[g]?) : RowC w' base v L := by
 rcases h with h | ⟨g, cap, rfl, h2, h3, h4, h5⟩
 ·exact .inl h
 ·exact .inr ⟨g, cap, rfl, h2, by omega, h4, fun i p hp => (World.cell?_of_block (w := w) (a := ⟨g, i, none⟩) (hk g rfl)).trans (h5 i p hp)⟩
theorem RowC.below {w w' : World} {base : Nat} {v : Value} {L : List Bytes} (h : RowC w base v L) (hb : Below w.heap.size w w') : RowC w' base v L :=
 h.kept hb.size fun g hg => hb.block g (by
  rcases h with ⟨rfl, _⟩ | ⟨g', cap, rfl, h2, h3, h4, h5⟩
  ·cases hg
  ·cases hg; exact h3)
theorem RowC.mono {w : World} {base base' : Nat} {v : Value} {L : List Bytes} (h : RowC w base v L) (hb : base' ≤ base) : RowC w base' v L := by
 rcases h with h | ⟨g, cap, h1, h2, h3, h4, h5⟩
 ·exact .inl h
 ·exact .inr ⟨g, cap, h1, by omega, h3, h4, h5⟩
theorem RowC.form {w : World} {base : Nat} {v : Value} {L : List Bytes} (h : RowC w base v L) : ∃ a c, v = .slice a L.length c ∧ L.length ≤ c := by
 rcases h with ⟨rfl, rfl⟩ | ⟨g, cap, rfl, _, _, h4, _⟩
 ·exact ⟨_, _, rfl, Nat.le_refl _⟩
 ·exact ⟨_, _, rfl, h4⟩
theorem RowC.lt {w : World} {base : Nat} {v : Value} {L : List Bytes} (h : RowC w base v L) {g : Nat} (hg : v.ownBlock = some g) : base ≤ g ∧ g < w.heap.size := by
 rcases h with ⟨rfl, rfl⟩ | ⟨g', cap, rfl, h2, h3, _⟩
 ·cases hg
 ·cases hg; exact ⟨h2, h3⟩
theorem sort_rowS (w : World) (base : Nat) (v : Value) (L : List Bytes) (h : RowS w base v L) (hbig : L.length ≤ 1000) :
  Calls Tryz.prog 49 #[v] w fun e w' => e = .returned (.tuple #[]) ∧ RowC w' base v (sortS L) ∧ w.heap.size ≤ w'.heap.size ∧ w'.os = w.os ∧ w'.tape = w.tape ∧ w'.output = w.output ∧ (∀ k, k < w.heap.size → v.ownBlock ≠ some k → w'.heap[k]? = w.heap[k]?) := by
 by_cases h0 : v = .slice none 0 0
 ·have hL : L = [] := by
   rcases h.at with ⟨_, h2⟩ | ⟨g, cap, h1, _⟩
   ·exact h2
   ·rw [h0] at h1; cases h1
  subst h0 hL
  refine (Tryz.slices_Sort_string_none none 0 w).mono ?_
  rintro e w' ⟨rfl, rfl⟩
  exact ⟨rfl, .inl ⟨rfl, by simp [sortS]⟩, Nat.le_refl _, rfl, rfl, rfl, fun _ _ _ => rfl⟩
 ·obtain ⟨g, cap, rfl, hbg, hg, hnc, hcm, hzl, hH⟩ := Lib.holds_of_ownsRow (enc := encStr) h h0
  refine (Tryz.slices_Sort_string g 0 cap L w hH hg (by omega)).mono ?_
  rintro e w' ⟨rfl, n, os, rfl⟩
  have hsz : g < (putRow encStr (Sort.ahead w n) g 0 (L.mergeSort fun x y => decide (x ≤ y)).toArray).heap.size := by simpa [putRow, mapBlock, Sort.ahead] using hg
  have hls : (sortS L).length = L.length := (sortS_perm L).length_eq
  have hH2 := holds_grow _ _ os g 0 _ hsz (holds_putRow _ _ g 0 _ _ (holds_ahead _ w n g 0 _ hH) (by simp))
  refine ⟨rfl, .inr ⟨g, cap, by rw [hls], hbg, ?_, by omega, fun i p hp => ?_⟩, ?_, rfl, rfl, rfl, fun k hk hne => ?_⟩
  ·simp [grow, putRow, mapBlock, Sort.ahead]; omega
  ·have hi : i < (L.mergeSort fun x y => decide (x ≤ y)).toArray.size := by simpa [sortS] using (List.getElem?_eq_some_iff.1 hp).1
   have := (hH2 i hi).1
   rw [Nat.zero_add] at this
   rw [this, getElem!_pos _ i hi]
   have he := (List.getElem?_eq_some_iff.1 hp).2
   simp only [List.getElem_toArray]
   unfold sortS at he
   rw [he]
   rfl
  ·simp [grow, putRow, mapBlock, Sort.ahead]
  ·have h1 : (grow (putRow encStr (Sort.ahead w n) g 0 (L.mergeSort fun x y => decide (x ≤ y)).toArray) os).heap[k]? = (putRow encStr (Sort.ahead w n) g 0 (L.mergeSort fun x y => decide (x ≤ y)).toArray).heap[k]? := heap_grow_old _ os (by simpa [putRow, mapBlock, Sort.ahead] using hk)
   rw [h1]
   have hgk : g ≠ k := fun e => hne (by rw [e]; rfl)
   simp [putRow, mapBlock, Sort.ahead, Array.getElem?_modify, hgk]
set_option maxRecDepth 100000 in
set_option maxHeartbeats 4000000 in
theorem kids_of (w : World) (tp : Option Addr) (p : Bytes) (ys : List Key) (hlen : ys.length ≤ 1000) (hmx : MaxInt w)
  (hseq : ∀ W1, Below w.heap.size w W1 → W1.heap.size = w.heap.size + 5 → Boxed W1 w.heap.size 33 (.pointer tp) → Boxed W1 (w.heap.size + 1) 9 (.string (bs p)) → Boxed W1 (w.heap.size + 1 + 1) 40 (.slice none 0 0) →
   Boxed W1 (w.heap.size + 1 + 1 + 1) 33 (.pointer tp) → Boxed W1 (w.heap.size + 1 + 1 + 1 + 1) 99 (.func (.func 46) #[] #[.pointer (some ⟨w.heap.size + 1, 0, none⟩), .pointer (some ⟨w.heap.size, 0, none⟩)]) →
   SeqStopsK Fence.wide 1 Tryz.prog 69 #[.pointer (some ⟨w.heap.size + 1 + 1 + 1, 0, none⟩), .pointer (some ⟨w.heap.size + 1 + 1 + 1 + 1, 0, none⟩)] (fun x : Key => #[sv x.1]) (KeepR W1.heap.size (w.heap.size + 1 + 1)) (fun zs => zs = ys) (fun pre => pre <+: ys) 1000 W1) :
  Calls Tryz.prog 28 #[.pointer tp, .string (bs p)] w fun e W' => ∃ v, e = .returned v ∧ RowC W' w.heap.size v (sortS (ys.map fun q => baseL q.1)) ∧ Below w.heap.size w W' := by
 obtain ⟨i0, hi, hz0, hz1, hz2⟩ := info_parts infoStr
 have HMX := Lib.hid hmx
 clear hmx
 refine (callsIn_wide (n := 2)).1 ?_
 refine callsIn_of_wp_marks Tryz.func28 rfl trivial ?_ rfl
 simp only [Tryz.ntmps28, List.size_toArray, List.length_cons, List.length_nil, Nat.reduceAdd, Nat.reduceSub, Array.replicate_succ, Array.replicate_zero, List.push_toArray, List.append_toArray, List.nil_append, List.cons_append]
 gi_wp2_with fail
 refine ⟨trivial, ?_⟩
 refine (callsIn_wide.2 (all_any _ _ _ rfl rfl)).mono ?_
 rintro e w' ⟨rfl, rfl⟩
 gi_wp2
 obtain ⟨W1, hW1⟩ : ∃ W1, W1 = ((((w.alloc (.cells #[.pointer tp] 33)).alloc (.cells #[.string (bs p)] 9)).alloc (.cells #[.slice none 0 0] 40)).alloc (.cells #[.pointer tp] 33)).alloc
  (.cells #[.func (.func 46) #[] #[.pointer (some ⟨w.heap.size + 1, 0, none⟩), .pointer (some ⟨w.heap.size, 0, none⟩)]] 99) := ⟨_, rfl⟩
 obtain ⟨hB1, hs1, bt, bp, bo, bt2, bw⟩ := five_boxes w _ _ _ _ _ _ _ _ _ _ W1 hW1
 rw [← hW1]
 clear hW1
 have HS := Lib.hid hs1
 have HB1 := Lib.hid hB1
 have HBT := Lib.hid bt
 have HBP := Lib.hid bp
 have HBO := Lib.hid bo
 have HBT2 := Lib.hid bt2
 have HBW := Lib.hid bw
 clear hs1 hB1 bt bp bo bt2 bw
 have hlt1 : w.heap.size + 4 < W1.heap.size := by rw [HS.out]; omega
 refine wpIn_rangeFunc_ownG (α := Key) rfl (by omega) (gf := 69) (lb := #[.pointer (some ⟨w.heap.size + 1 + 1 + 1, 0, none⟩), .pointer (some ⟨w.heap.size + 1 + 1 + 1 + 1, 0, none⟩)]) rfl trivial (enters_of Tryz.func69 (by kernel_rfl) rfl)
  (encs := fun x : Key => #[sv x.1]) (Kp := KeepR W1.heap.size (w.heap.size + 1 + 1)) (S := fun zs => zs = ys) (Sp := fun pre => pre <+: ys) (N := 1000) (w0 := W1)
  ?seq keepR_t (keepR_b (Nat.le_refl _) (by omega)) (Below.refl _ _) (fun _ => rfl)
  (fun pre W => (∃ v, Boxed W (w.heap.size + 1 + 1) 40 v ∧ W.ownsRow W1.heap.size 9 1 v pre.length (pre.map fun q => sv (baseL q.1)) ∧ True) ∧ KeepR W1.heap.size (w.heap.size + 1 + 1) W1 W)
  (fun _ _ _ => False)
  (OwnFrom.and (Own.from (holdsRow_own W1.heap.size (w.heap.size + 1 + 1) 40 9 1 (fun pre : List Key => pre.length) (fun pre => pre.map fun q => sv (baseL q.1)) (fun _ _ => True)) _) (ownFrom_keepR (Nat.le_refl _) (by omega) (Nat.le_refl _)))
  (fun _ _ _ _ _ hs _ _ => hs)
  ⟨⟨_, HBO.out, World.ownsRow_nil _ _ _ _, trivial⟩, keepR_refl _ _ _⟩
  (fun x => { tmps := #[.pointer tp, .string (bs p), .pointer (some ⟨w.heap.size, 0, none⟩), .pointer (some ⟨w.heap.size + 1, 0, none⟩), .slice none 0 0, .pointer (some ⟨w.heap.size + 1 + 1, 0, none⟩), sv x.1, .pointer tp, .func (.func 46) #[] #[.pointer (some ⟨w.heap.size + 1, 0, none⟩), .pointer (some ⟨w.heap.size, 0, none⟩)],
   .func (.func 69) #[] #[.pointer (some ⟨w.heap.size + 1 + 1 + 1, 0, none⟩), .pointer (some ⟨w.heap.size + 1 + 1 + 1 + 1, 0, none⟩)], sv x.1, undef, undef, undef, undef, undef, undef, undef, undef], defers := [] }) ?assign ?body ?done ?stop
 case seq =>
  exact hseq W1 HB1.out HS.out HBT.out HBP.out HBO.out HBT2.out HBW.out
 case assign =>
  intro l x W K hK
  unfold sv at *
  gi_wp2
  exact hK
 case body =>
  rintro l pre ⟨x, hxl⟩ W ⟨⟨v, hv, hrow, _⟩, hB⟩ hlt
  have hsz := hB.size
  have hbW : Below w.heap.size w W.drew := (HB1.out.trans (keepR_to_below hB (by omega) (by omega))).drew
  have HBASE := Lib.hid (always_base HMX.out x hxl W.drew hbW)
  have HHB := Lib.hid hB
  have hc := hv.cell
  have hO := hv.lt
  have hc0 : W.drew.cell? ⟨w.heap.size + 1 + 1, 0, none⟩ = some v := hc
  unfold sv
  have hvd : Boxed W.drew (w.heap.size + 1 + 1) 40 v := hv
  have hrowd : W.drew.ownsRow W1.heap.size 9 1 v pre.length (pre.map fun q => sv (baseL q.1)) := hrow
  have hOd : w.heap.size + 1 + 1 < W.drew.heap.size := hO
  have hszd : W1.heap.size ≤ W.drew.heap.size := hsz
  clear hbW hB
  gi_wp2_with fail
  refine wpIn_region_any (by kernel_rfl) ?_
  try (change wpAnyIn _ _ _ _ _ _ _ _ _ (World.drew _))
  refine wpAnyIn_ready (rs := [0, 1]) (by kernel_rfl) (by simp) ?_
  refine AllReadyIn.cons rfl (fun K hK => ?_) (AllReadyIn.cons rfl (fun K hK => ?_) AllReadyIn.nil)
  ·go_simp
   refine hK _ _ ?_
   clear hK K
   refine wpAnyIn_ready (rs := [1]) (by kernel_rfl) (by simp) ?_
   refine AllReadyIn.cons rfl (fun K hK => ?_) AllReadyIn.nil
   go_simp
   refine hK _ _ ?_
   clear hK K
   refine wpAnyIn_ready (rs := [2]) (by kernel_rfl) (by simp) ?_
   refine AllReadyIn.cons rfl (fun K hK => ?_) AllReadyIn.nil
   go_simp
   refine ⟨trivial, rfl, ?_⟩
   refine (CallsIn.inRound l (callsIn_wide.2 HBASE.out)).mono ?_
   rintro e w5 ⟨rfl, B5⟩
   have hv5 := boxed_belowR hvd B5 hOd
   have hrow5 := row_kept (base' := W1.heap.size) hrowd (Nat.le_refl _) (fun g cs fr _ _ hg => B5.block g (Array.getElem?_eq_some_iff.1 hg).1)
   obtain ⟨v', w6, q, hown', hgrow, hwh⟩ := run_append_new (P := Tryz.prog) (w := w5.alloc (.cells #[.string (bs (baseL x))] 9)) W1.heap.size 40 40 9 i0 (.string ⟨#[]⟩) 1 16 Tryz.underlying40 hi hz0 hz1 hz2 rfl (by decide) v _ _ (hrow5.alloc _) ⟨w5.heap.size, 0, none⟩ 1 1 [.string (bs (baseL x))] rfl (cells_new1 w5 _ _) (by intro u hu; simp at hu; subst hu; rfl) (by unfold maxLen; omega) (by omega) (by have := B5.size; rw [World.size_alloc]; omega)
   obtain ⟨g', cap', rfl⟩ := ownsRow_succ hown'
   have hc5 := hv5.cell
   have hl5 := hv5.lt
   obtain ⟨hv1, hv2, hr2, hk2, hb2⟩ := appendedR (n := W1.heap.size) hv5 (by decide) hrow5 (Nat.le_trans hszd B5.size) (Nat.le_refl _) hown' hgrow hwh
   have hc1 := hv1.cell
   have hf1 := hv1.frozen
   refine hK _ _ ?_
   clear hK K
   refine wpAnyIn_ready (rs := [3]) (by kernel_rfl) (by simp) ?_
   refine AllReadyIn.cons rfl (fun K hK => ?_) AllReadyIn.nil
   go_simp
   refine hK _ _ ?_
   clear hK K
   refine wpAnyIn_ready (rs := [4]) (by kernel_rfl) (by simp) ?_
   refine AllReadyIn.cons rfl (fun K hK => ?_) AllReadyIn.nil
   refine stepIn_append_run rfl (.tmp 11) (.tmp 14) 40 rfl v _ _ w6 rfl rfl q ?_
   refine hK _ _ ?_
   clear hK K
   refine wpAnyIn_ready (rs := [5]) (by kernel_rfl) (by simp) ?_
   refine AllReadyIn.cons rfl (fun K hK => ?_) AllReadyIn.nil
   go_simp
   refine hK _ _ ?_
   clear hK K
   refine wpAnyIn_done (by kernel_rfl) ?_ _
   exact ⟨((keepsOthers_below (W := W) (W' := w5) ⟨B5.os, B5.tape, B5.output, B5.size, B5.block⟩).trans hk2).from _, keepR_t (keepR_below ⟨B5.os, B5.tape, B5.output, B5.size, B5.block⟩ hsz hO) hb2, ⟨_, hv2, by rw [List.length_append, List.map_append]; exact hr2, trivial⟩, keepR_t HHB.out (keepR_t (keepR_below ⟨B5.os, B5.tape, B5.output, B5.size, B5.block⟩ hsz hO) hb2)⟩
  ·go_simp
   refine hK _ _ ?_
   clear hK K
   refine wpAnyIn_ready (rs := [0, 2]) (by kernel_rfl) (by simp) ?_
   refine AllReadyIn.cons rfl (fun K hK => ?_) (AllReadyIn.cons rfl (fun K hK => ?_) AllReadyIn.nil)
   ·go_simp
    refine hK _ _ ?_
    clear hK K
    refine wpAnyIn_ready (rs := [2]) (by kernel_rfl) (by simp) ?_
    refine AllReadyIn.cons rfl (fun K hK => ?_) AllReadyIn.nil
    go_simp
    refine ⟨trivial, rfl, ?_⟩
    refine (CallsIn.inRound l (callsIn_wide.2 HBASE.out)).mono ?_
    rintro e w5 ⟨rfl, B5⟩
    have hv5 := boxed_belowR hvd B5 hOd
    have hrow5 := row_kept (base' := W1.heap.size) hrowd (Nat.le_refl _) (fun g cs fr _ _ hg => B5.block g (Array.getElem?_eq_some_iff.1 hg).1)
    obtain ⟨v', w6, q, hown', hgrow, hwh⟩ := run_append_new (P := Tryz.prog) (w := w5.alloc (.cells #[.string (bs (baseL x))] 9)) W1.heap.size 40 40 9 i0 (.string ⟨#[]⟩) 1 16 Tryz.underlying40 hi hz0 hz1 hz2 rfl (by decide) v _ _ (hrow5.alloc _) ⟨w5.heap.size, 0, none⟩ 1 1 [.string (bs (baseL x))] rfl (cells_new1 w5 _ _) (by intro u hu; simp at hu; subst hu; rfl) (by unfold maxLen; omega) (by omega) (by have := B5.size; rw [World.size_alloc]; omega)
    obtain ⟨g', cap', rfl⟩ := ownsRow_succ hown'
    have hc5 := hv5.cell
    have hl5 := hv5.lt
    obtain ⟨hv1, hv2, hr2, hk2, hb2⟩ := appendedR (n := W1.heap.size) hv5 (by decide) hrow5 (Nat.le_trans hszd B5.size) (Nat.le_refl _) hown' hgrow hwh
    have hc1 := hv1.cell
    have hf1 := hv1.frozen
    refine hK _ _ ?_
    clear hK K
    refine wpAnyIn_ready (rs := [3]) (by kernel_rfl) (by simp) ?_
    refine AllReadyIn.cons rfl (fun K hK => ?_) AllReadyIn.nil
    go_simp
    refine hK _ _ ?_
    clear hK K
    refine wpAnyIn_ready (rs := [4]) (by kernel_rfl) (by simp) ?_
    refine AllReadyIn.cons rfl (fun K hK => ?_) AllReadyIn.nil
    refine stepIn_append_run rfl (.tmp 11) (.tmp 14) 40 rfl v _ _ w6 rfl rfl q ?_
    refine hK _ _ ?_
    clear hK K
    refine wpAnyIn_ready (rs := [5]) (by kernel_rfl) (by simp) ?_
    refine AllReadyIn.cons rfl (fun K hK => ?_) AllReadyIn.nil
    go_simp
    refine hK _ _ ?_
    clear hK K
    refine wpAnyIn_done (by kernel_rfl) ?_ _
    exact ⟨((keepsOthers_below (W := W) (W' := w5) ⟨B5.os, B5.tape, B5.output, B5.size, B5.block⟩).trans hk2).from _, keepR_t (keepR_below ⟨B5.os, B5.tape, B5.output, B5.size, B5.block⟩ hsz hO) hb2, ⟨_, hv2, by rw [List.length_append, List.map_append]; exact hr2, trivial⟩, keepR_t HHB.out (keepR_t (keepR_below ⟨B5.os, B5.tape, B5.output, B5.size, B5.block⟩ hsz hO) hb2)⟩
   ·go_simp
    refine ⟨trivial, rfl, ?_⟩
    refine (CallsIn.inRound l (callsIn_wide.2 HBASE.out)).mono ?_
    rintro e w5 ⟨rfl, B5⟩
    have hv5 := boxed_belowR hvd B5 hOd
    have hrow5 := row_kept (base' := W1.heap.size) hrowd (Nat.le_refl _) (fun g cs fr _ _ hg => B5.block g (Array.getElem?_eq_some_iff.1 hg).1)
    obtain ⟨v', w6, q, hown', hgrow, hwh⟩ := run_append_new (P := Tryz.prog) (w := w5.alloc (.cells #[.string (bs (baseL x))] 9)) W1.heap.size 40 40 9 i0 (.string ⟨#[]⟩) 1 16 Tryz.underlying40 hi hz0 hz1 hz2 rfl (by decide) v _ _ (hrow5.alloc _) ⟨w5.heap.size, 0, none⟩ 1 1 [.string (bs (baseL x))] rfl (cells_new1 w5 _ _) (by intro u hu; simp at hu; subst hu; rfl) (by unfold maxLen; omega) (by omega) (by have := B5.size; rw [World.size_alloc]; omega)
    obtain ⟨g', cap', rfl⟩ := ownsRow_succ hown'
    have hc5 := hv5.cell
    have hl5 := hv5.lt
    obtain ⟨hv1, hv2, hr2, hk2, hb2⟩ := appendedR (n := W1.heap.size) hv5 (by decide) hrow5 (Nat.le_trans hszd B5.size) (Nat.le_refl _) hown' hgrow hwh
    have hc1 := hv1.cell
    have hf1 := hv1.frozen
    refine hK _ _ ?_
    clear hK K
    refine wpAnyIn_ready (rs := [0, 3]) (by kernel_rfl) (by simp) ?_
    refine AllReadyIn.cons rfl (fun K hK => ?_) (AllReadyIn.cons rfl (fun K hK => ?_) AllReadyIn.nil)
    ·go_simp
     refine hK _ _ ?_
     clear hK K
     refine wpAnyIn_ready (rs := [3]) (by kernel_rfl) (by simp) ?_
     refine AllReadyIn.cons rfl (fun K hK => ?_) AllReadyIn.nil
     go_simp
     refine hK _ _ ?_
     clear hK K
     refine wpAnyIn_ready (rs := [4]) (by kernel_rfl) (by simp) ?_
     refine AllReadyIn.cons rfl (fun K hK => ?_) AllReadyIn.nil
     refine stepIn_append_run rfl (.tmp 11) (.tmp 14) 40 rfl v _ _ w6 rfl rfl q ?_
     refine hK _ _ ?_
     clear hK K
     refine wpAnyIn_ready (rs := [5]) (by kernel_rfl) (by simp) ?_
     refine AllReadyIn.cons rfl (fun K hK => ?_) AllReadyIn.nil
     go_simp
     refine hK _ _ ?_
     clear hK K
     refine wpAnyIn_done (by kernel_rfl) ?_ _
     exact ⟨((keepsOthers_below (W := W) (W' := w5) ⟨B5.os, B5.tape, B5.output, B5.size, B5.block⟩).trans hk2).from _, keepR_t (keepR_below ⟨B5.os, B5.tape, B5.output, B5.size, B5.block⟩ hsz hO) hb2, ⟨_, hv2, by rw [List.length_append, List.map_append]; exact hr2, trivial⟩, keepR_t HHB.out (keepR_t (keepR_below ⟨B5.os, B5.tape, B5.output, B5.size, B5.block⟩ hsz hO) hb2)⟩
    ·go_simp
     refine hK _ _ ?_
     clear hK K
     refine wpAnyIn_ready (rs := [0]) (by kernel_rfl) (by simp) ?_
     refine AllReadyIn.cons rfl (fun K hK => ?_) AllReadyIn.nil
     go_simp
     refine hK _ _ ?_
     clear hK K
     refine wpAnyIn_ready (rs := [4]) (by kernel_rfl) (by simp) ?_
     refine AllReadyIn.cons rfl (fun K hK => ?_) AllReadyIn.nil
     refine stepIn_append_run rfl (.tmp 11) (.tmp 14) 40 rfl v _ _ w6 rfl rfl q ?_
     refine hK _ _ ?_
     clear hK K
     refine wpAnyIn_ready (rs := [5]) (by kernel_rfl) (by simp) ?_
     refine AllReadyIn.cons rfl (fun K hK => ?_) AllReadyIn.nil
     go_simp
     refine hK _ _ ?_
     clear hK K
     refine wpAnyIn_done (by kernel_rfl) ?_ _
     exact ⟨((keepsOthers_below (W := W) (W' := w5) ⟨B5.os, B5.tape, B5.output, B5.size, B5.block⟩).trans hk2).from _, keepR_t (keepR_below ⟨B5.os, B5.tape, B5.output, B5.size, B5.block⟩ hsz hO) hb2, ⟨_, hv2, by rw [List.length_append, List.map_append]; exact hr2, trivial⟩, keepR_t HHB.out (keepR_t (keepR_below ⟨B5.os, B5.tape, B5.output, B5.size, B5.block⟩ hsz hO) hb2)⟩
 case done =>
  rintro D zs W hD rfl ⟨⟨v, hv, hrow, _⟩, hB⟩ hK
  have hLL : zs.map (fun q => sv (baseL q.1)) = (zs.map fun q => baseL q.1).map sv := by rw [List.map_map]; rfl
  have hLn : zs.length = (zs.map fun q => baseL q.1).length := by rw [List.length_map]
  rw [hLL, hLn] at hrow
  have hlen : (zs.map fun q => baseL q.1).length ≤ 1000 := by rw [List.length_map]; exact hlen
  have HSORT := Lib.hid (sort_rowS W W1.heap.size v _ hrow hlen)
  have hc := hv.cell
  have HV := Lib.hid hv
  have HB := Lib.hid hB
  have HKD := Lib.hid hK
  have hrl : ∀ g, v.ownBlock = some g → W1.heap.size ≤ g ∧ ∃ cs e fr, W.heap[g]? = some (.cells cs e fr) := fun g hg => by
   rcases hrow.2 with ⟨rfl, _⟩ | ⟨g', cap, cur, rfl, hbg, hgo, _⟩
   ·cases hg
   ·cases hg; exact ⟨hbg, _, _, _, hgo⟩
  have HRL := Lib.hid hrl
  clear hLL hLn hrow hlen hv hB hK hrl
  gi_wp2_with fail
  refine ⟨trivial, ?_⟩
  refine (callsIn_wide.2 HSORT.out).mono ?_
  rintro e w' ⟨rfl, hC, hsz, hos, htape, hout, hfr⟩
  have hOl : w.heap.size + 1 + 1 < W.heap.size := HV.out.lt
  have hDl : D < W.heap.size := (Array.getElem?_eq_some_iff.1 HKD.out).1
  have hvO : Boxed w' (w.heap.size + 1 + 1) 40 v := (hfr _ hOl (fun e => by have := (HRL.out _ e).1; omega)).trans HV.out
  have hKD : w'.heap[D]? = some (.deferred (some [])) := (hfr _ hDl (fun e => by obtain ⟨_, _, _, _, h⟩ := HRL.out _ e; rw [HKD.out] at h; cases h)).trans HKD.out
  have hcO := hvO.cell
  have HX := Lib.hid (And.intro hC (And.intro hsz (And.intro hos (And.intro htape (And.intro hout hfr)))))
  have HKD2 := Lib.hid hKD
  clear hC hsz hos htape hout hfr hKD hvO
  gi_wp2
  refine ⟨by simp, .inl ⟨_, _, rfl, run_takeDeferred HKD2.out, ?_⟩⟩
  obtain ⟨hC, hsz, hos, htape, hout, hfr⟩ := HX.out
  refine ⟨_, results_tmp rfl _ _ _, v, rfl, ?_, ?_⟩
  ·refine (hC.kept (by simp) (fun g hg => World.putObj_heap_other (fun e => ?_))).mono HB1.out.size
   subst e
   obtain ⟨_, _, _, _, h⟩ := HRL.out _ hg
   rw [HKD.out] at h
   cases h
  ·have h1 : Below w.heap.size w W := HB1.out.trans (keepR_to_below HB.out (by omega) (by omega))
   refine h1.trans ⟨hos, htape, hout, by simpa using hsz, fun k hk => ?_⟩
   rw [World.putObj_heap_other (by omega)]
   have := h1.size
   exact hfr k (by omega) (fun e => by have := (HRL.out _ e).1; omega)
 case stop =>
  rintro D c pre W _ _ h _
  exact h.elim
section
variable {w : World} {lo : Nat → Prop} {b mb : Nat} {root : Bytes} {at_ : Int} {M : List (Bytes × Nd)}
theorem TreeAt.kids_any (T : TreeAt w lo b mb root at_ M) (hM : M.length ≤ 1000) (hmx : MaxInt w) (hkl : ∀ x ∈ M, x.1.length ≤ 1000) (p : Bytes) :
  Calls Tryz.prog 28 #[.pointer (some ⟨b, 0, none⟩), .string (bs p)] w fun e W' => ∃ v, e = .returned v ∧ RowC W' w.heap.size v (kidsS root M p) ∧ Below w.heap.size w W' := by
 have hbl : b < w.heap.size := lt_of_block T.blk
 obtain ⟨K, hK⟩ := keys_of (keysS M) (keysS_short hkl)
 have hLL : (K.filter fun q => kidB root p q.1).map (fun q => baseL q.1) = ((keysS M).filter (kidB root p)).map baseL := by
  rw [← hK, ← keys_filter, List.map_map]
  rfl
 have hfl : (K.filter fun q => kidB root p q.1).length ≤ 1000 := by
  have h1 := kids_len root M p
  rw [← hLL, List.length_map] at h1
  omega
 unfold kidsS
 rw [← hLL]
 refine kids_of w (some ⟨b, 0, none⟩) p (K.filter fun q => kidB root p q.1) hfl hmx fun W1 hB1 hs1 bt bp bo bt2 bw => ?_
 intro l J Jx W hW hJ _ hY h0
 have hbt2 := boxed_belowR bt2 hW (by omega)
 have hbw := boxed_belowR bw hW (by omega)
 have hbo := boxed_belowR bo hW (by omega)
 have hbW : Below w.heap.size w W := hB1.trans (hW.mono hB1.size)
 refine seq_kid 1 l (w.heap.size + 1 + 1 + 1) (w.heap.size + 1 + 1 + 1 + 1) W1.heap.size (w.heap.size + 1 + 1) b mb lo root at_ M hM K hK (fun q => kidB root p q.1) (w.heap.size + 1) w.heap.size J Jx hY W hJ hW.size (by omega) (by omega) (by omega) (by omega) (by omega) (by omega) (by omega)
  hbt2.cell hbw.cell (T.below hbW) (by rw [rowOf_boxed hbo]; rfl) ?_ h0
 intro W' hk q hq
 have hb' : Below w.heap.size w W' := hbW.trans (keepR_to_below hk (by omega) (by omega))
 have T' := T.below hb'
 exact kid_any root p q.1 (w.heap.size + 1) w.heap.size b W' (hmx.kept hb') q.2 (boxed_keepR (boxed_belowR bp hW (by omega)) hk (by omega) (by omega)).cell (boxed_keepR (boxed_belowR bt hW (by omega)) hk (by omega) (by omega)).cell T'.cells.1
end
end Go.Proofs.YtnclkfhdpkkakaaGreatDoor
namespace Go.Proofs.YtnclkfhdpkkakaaGreatDoor
set_option linter.unusedVariables false
set_option linter.unusedSimpArgs false
set_option linter.unusedVariables false
set_option linter.unusedSimpArgs false
open Go Go.RowKit Go.Shelf Go.MapKept Go.ChangeMaps Go.Maps Go.Sort
theorem ByteSl.map {w w' : World} {lo : Nat → Prop} {hi mb : Nat} {a : Option Addr} {D : Bytes} (h : ByteSl w lo hi a D) {es : Array MapEntry} {c : Nat} (hmb : w.heap[mb]? = some (.map es c)) (hk : Kept (· = mb) w w') (hw : hi ≤ w.heap.size) : ByteSl w' lo hi a D := fun j x hj => by
 obtain ⟨b, off, h1, h2, h3, h4⟩ := h j x hj
 refine ⟨b, off, h1, h2, h3, (hk.cell (p := ⟨b, off + j, none⟩) (Nat.lt_of_lt_of_le h3 hw) (fun e => ?_)).trans h4⟩
 have e : b = mb := e
 subst e
 simp [World.cell?, hmb] at h4
theorem Reads.map {w w' : World} {lo : Nat → Prop} {mb : Nat} {r : Raw} {d : Nd} (h : Reads w lo r d) {es : Array MapEntry} {c : Nat} (hmb : w.heap[mb]? = some (.map es c)) (hk : Kept (· = mb) w w') : Reads w' lo r d :=
 ⟨h.num, h.len, (h.data.map hmb hk (Nat.le_refl _)).mono (fun _ h => h) hk.size, h.nil⟩
def goneE (root : Bytes) (M : List (Bytes × Nd)) (p : Bytes) : Int := if p = root then 30 else if (getA p M).isSome = false then 31 else if 0 < (kidsS root M p).length then 33 else 0
def goneM (root : Bytes) (M : List (Bytes × Nd)) (p : Bytes) : List (Bytes × Nd) := if goneE root M p = 0 then delA p M else M
section
variable {w : World} {lo : Nat → Prop} {b mb : Nat} {root : Bytes} {at_ : Int} {M : List (Bytes × Nd)}
theorem TreeAt.setMap (T : TreeAt w lo b mb root at_ M) {m : List (Bytes × Raw)} {M' : List (Bytes × Nd)} {w' : World} (hk : Kept (· = mb) w w') (hm : HasMap Tryz.prog 9 sv Raw.val w' mb m) (hl : Like w lo m M') (hbm : b ≠ mb) : TreeAt w' lo b mb root at_ M' := by
 obtain ⟨m0, hm0, _⟩ := T.map
 obtain ⟨es, c, he, _⟩ := hm0
 exact ⟨(hk.block b (lt_of_block T.blk) hbm).trans T.blk, m, hm, hl.imp fun r d h => h.map he hk⟩
theorem TreeAt.ne (T : TreeAt w lo b mb root at_ M) : b ≠ mb := fun e => by
 obtain ⟨m0, hm0, _⟩ := T.map
 obtain ⟨es, c, he, _⟩ := hm0
 have := T.blk
 rw [e, he] at this
 cases this
set_option maxRecDepth 100000 in
set_option maxHeartbeats 4000000 in
theorem TreeAt.gone_any (T : TreeAt w lo b mb root at_ M) (hM : M.length ≤ 1000) (hmx : MaxInt w) (hkl : ∀ x ∈ M, x.1.length ≤ 1000) (p : Bytes) (hp : p.length ≤ 1000) :
  Calls Tryz.prog 36 #[.pointer (some ⟨b, 0, none⟩), .string (bs p)] w fun e w' => e = .returned (.int .i64 (goneE root M p)) ∧ TreeAt w' lo b mb root at_ (goneM root M p) ∧ Kept (· = mb) w w' := by
 obtain ⟨r, hr, hq⟩ := T.look (p := p) (by unfold maxLen; omega)
 have q := hq w rfl
 have hbl : b < w.heap.size := lt_of_block T.blk
 obtain ⟨c0, c1, c2⟩ := T.cells
 obtain ⟨a, n, c, ⟨v1, v2, v3, v4, v5, v6, v7, v8⟩⟩ := r
 unfold Raw.val Raw.cells Nums.cells at q
 dsimp only at q
 obtain ⟨w2, hw2⟩ : ∃ w2, w2 = w.alloc (.cells #[.slice a n c, .int .u32 v1, .int .u32 v2, .int .u32 v3, .int .i64 v4, .int .u32 v5, .int .u64 v6, .int .u64 v7, .int .u64 v8] 39) := ⟨_, rfl⟩
 have hb2 : Below w.heap.size w w2 := by rw [hw2]; exact belowA (Below.refl _ w) _
 have hk2 : Kept (· = mb) w w2 := by rw [hw2]; exact (Kept.refl _ w).alloc _
 have HW2 := Lib.hid hw2
 have d0 : w2.cell? ⟨b, 0, none⟩ = some (.string (bs root)) := (hb2.cell (p := ⟨b, 0, none⟩) hbl).trans c0
 have d2 : w2.cell? ⟨b, 2, none⟩ = some (.map (some mb)) := (hb2.cell (p := ⟨b, 2, none⟩) hbl).trans c2
 have HT := Lib.hid T
 have HT2 := Lib.hid (T.below hb2)
 have HK2 := Lib.hid hk2
 have HM2 := Lib.hid (hmx.kept hb2)
 have t1 := eq_bs p root
 unfold goneM goneE
 clear hq hr hw2 hb2 hk2 hmx T
 by_cases h1 : p = root
 ·rw [if_pos h1]
  rw [show decide (p = root) = true by simpa using h1] at t1
  clear h1
  go_enter Tryz.func36, Tryz.ntmps36
  go_wp2_with fail
  rw [← HW2.out]
  go_wp2
  go_ret
  exact ⟨rfl, by simpa using HT2.out, HK2.out⟩
 ·rw [if_neg h1]
  rw [show decide (p = root) = false by simpa using h1] at t1
  clear h1
  cases hs : (getA p M).isSome with
  | false =>
   rw [hs] at q
   rw [if_pos rfl]
   have HS := Lib.hid hs
   clear hs
   go_enter Tryz.func36, Tryz.ntmps36
   go_wp2_with fail
   rw [← HW2.out]
   go_wp2
   go_ret
   exact ⟨rfl, by simpa using HT2.out, HK2.out⟩
  | true =>
   rw [hs] at q
   rw [if_neg (by simp)]
   have HS := Lib.hid hs
   have HKIDS := Lib.hid (HT2.out.kids_any hM HM2.out hkl p)
   have hkn : (kidsS root M p).length ≤ 1000 := by
    have h1 : (kidsS root M p).length = _ := (sortS_perm _).length_eq
    have h2 := kids_len root M p
    omega
   have HMM := Lib.hid (And.intro hM hkl)
   clear hs hM hkl
   generalize kidsS root M p = ks at *
   by_cases h0 : 0 < ks.length
   ·rw [if_pos h0]
    have h0d : decide ((0 : Int) < (ks.length : Int)) = true := by simpa using h0
    go_enter Tryz.func36, Tryz.ntmps36
    go_wp2_with fail
    rw [← HW2.out]
    go_wp2_with fail
    refine HKIDS.out.mono ?_
    rintro e w3 ⟨v, rfl, hR, B3⟩
    obtain ⟨a3, c3, rfl, _⟩ := hR.form
    have HX := Lib.hid (And.intro hR B3)
    clear hR B3
    go_wp2
    go_ret
    obtain ⟨hR, B3⟩ := HX.out
    refine ⟨rfl, by simpa using HT2.out.below B3, HK2.out.trans ⟨B3.os, B3.tape, B3.output, B3.size, fun k hk _ => B3.block k hk⟩⟩
   ·rw [if_neg h0]
    have h0d : decide ((0 : Int) < (ks.length : Int)) = false := by simpa using h0
    go_enter Tryz.func36, Tryz.ntmps36
    go_wp2_with fail
    rw [← HW2.out]
    go_wp2_with fail
    refine HKIDS.out.mono ?_
    rintro e w3 ⟨v, rfl, hR, B3⟩
    obtain ⟨a3, c3, rfl, _⟩ := hR.form
    have hT3 := HT2.out.below B3
    obtain ⟨e0, e1, e2⟩ := hT3.cells
    obtain ⟨m3, hm3, hl3⟩ := hT3.map
    obtain ⟨lk, hlk⟩ := sv_key (p := p) (by unfold maxLen; omega)
    obtain ⟨o, ho⟩ := hm3.drop keyStr sv_inj Tryz.underlying84 hlk
    have qd := fun ty => (ho w3 ty rfl).1
    have hd := (ho w3 0 rfl).2
    unfold sv at qd
    have hks : Kept (· = mb) w3 (setBlock w3 mb o) := kept_setBlock hm3.lt o
    have hT4 := hT3.setMap hks hd (hl3.del p) hT3.ne
    have hk3 : Kept (· = mb) w (setBlock w3 mb o) := (HK2.out.trans ⟨B3.os, B3.tape, B3.output, B3.size, fun k hk _ => B3.block k hk⟩).trans hks
    have HX := Lib.hid (And.intro hT4 hk3)
    clear hR B3 hT3 e0 e1 hm3 hl3 hlk ho hd hks hT4 hk3
    go_wp2
    go_ret
    obtain ⟨hT4, hk3⟩ := HX.out
    exact ⟨rfl, by simpa using hT4, hk3⟩
end
end Go.Proofs.YtnclkfhdpkkakaaGreatDoor
namespace Go.Proofs.YtnclkfhdpkkakaaGreatDoor
set_option linter.unusedVariables false
set_option linter.unusedSimpArgs false
set_option linter.unusedVariables false
set_option linter.unusedSimpArgs false
open Go Go.RowKit Go.Shelf Go.MapKept Go.ChangeMaps Go.Maps Go.Sort
theorem parentL_len (p : Bytes) (hp : p.length ≤ 1000) : (parentL p).length ≤ 1000 := by
 unfold parentL
 split
 ·simp
 ·rename_i L hL
  split
  ·exact hp
  ·have := take_len64 hL (L.length - 1)
   rw [← List.dropLast_eq_take] at this
   omega
theorem Kept.ofBelow {S : Nat → Prop} {a b : World} (h : Below a.heap.size a b) : Kept S a b := ⟨h.os, h.tape, h.output, h.size, fun k hk _ => h.block k hk⟩
theorem neq_of {a b : Bytes} {r : Bool} (h : decide (a = b) = r) : ((bs a).toList == (bs b).toList) = r ∧ (!((bs a).toList == (bs b).toList)) = !r := by
 rw [eq_bs, h]
 exact ⟨rfl, rfl⟩
theorem nine {w : World} {B : Nat} {u0 u1 u2 u3 u4 u5 u6 u7 u8 : Value} {t : TypeId} (h : w.heap[B]? = some (.cells #[u0, u1, u2, u3, u4, u5, u6, u7, u8] t (0, 0))) :
  w.cell? ⟨B, 0, none⟩ = some u0 ∧ w.cell? ⟨B, 1, none⟩ = some u1 ∧ w.cell? ⟨B, 2, none⟩ = some u2 ∧ w.cell? ⟨B, 3, none⟩ = some u3 ∧ w.cell? ⟨B, 4, none⟩ = some u4 ∧ w.cell? ⟨B, 5, none⟩ = some u5 ∧ w.cell? ⟨B, 6, none⟩ = some u6 ∧ w.cell? ⟨B, 7, none⟩ = some u7 ∧ w.cell? ⟨B, 8, none⟩ = some u8 :=
 ⟨cell_of_row _ _ 0 _ t (0, 0) h, cell_of_row _ _ 1 _ t (0, 0) h, cell_of_row _ _ 2 _ t (0, 0) h, cell_of_row _ _ 3 _ t (0, 0) h, cell_of_row _ _ 4 _ t (0, 0) h, cell_of_row _ _ 5 _ t (0, 0) h, cell_of_row _ _ 6 _ t (0, 0) h, cell_of_row _ _ 7 _ t (0, 0) h, cell_of_row _ _ 8 _ t (0, 0) h⟩
theorem drewA1 {W w5 : World} (h : Below W.drew.heap.size W.drew w5) : Below W.heap.size W w5 := ⟨h.os, h.tape, h.output, h.size, h.block⟩
theorem drewA2 {W w5 : World} {o : Obj} (h : Below (W.drew.alloc o).heap.size (W.drew.alloc o) w5) : Below W.heap.size W w5 := by
 have h1 : Below W.heap.size W (W.drew.alloc o) := (Below.refl _ W).drew.alloc (Nat.le_refl _) _
 exact h1.trans (h.mono h1.size)
theorem nineA {W w5 : World} {u0 u1 u2 u3 u4 u5 u6 u7 u8 : Value} {t : TypeId} (h : Below (W.drew.alloc (.cells #[u0, u1, u2, u3, u4, u5, u6, u7, u8] t)).heap.size (W.drew.alloc (.cells #[u0, u1, u2, u3, u4, u5, u6, u7, u8] t)) w5) :
  w5.heap[W.heap.size]? = some (.cells #[u0, u1, u2, u3, u4, u5, u6, u7, u8] t (0, 0)) :=
 (h.block W.heap.size (by rw [World.size_alloc]; exact Nat.lt_succ_self W.heap.size)).trans (heap_alloc_new W.drew _)
theorem below_setAt {B : Nat} {W w5 : World} (h : Below B W w5) (j : Nat) (v : Value) : Below B W (w5.setCell ⟨B, j, none⟩ v) := h.setCell (Nat.le_refl _) v
theorem frozen0 {w : World} {B : Nat} {cs : Array Value} {t : TypeId} (h : w.heap[B]? = some (.cells cs t (0, 0))) : ∀ j, w.frozen? ⟨B, j, none⟩ = false := fun j => by simp [World.frozen?, h]
def CutP (w2 : World) (r2 : Bool) (t10 : Value) (wc : World) : Prop := t10 = .bool r2 ∧ Below w2.heap.size w2 wc
def putE (root : Bytes) (M : List (Bytes × Nd)) (p : Bytes) : Int := if p ≠ root ∧ (getA (parentL p) M).isSome = false then 31 else if (getA p M).isSome = false ∧ 48 ≤ M.length then 36 else 0
def putM (root : Bytes) (M : List (Bytes × Nd)) (p : Bytes) (d : Nd) : List (Bytes × Nd) := if putE root M p = 0 then putA p d M else M
abbrev Plus (lo : Nat → Prop) (n : Nat) : Nat → Prop := fun k => lo k ∨ n ≤ k
def PutPost (lo : Nat → Prop) (b mb : Nat) (root : Bytes) (at_ : Int) (M : List (Bytes × Nd)) (w : World) (x : Int) (e : Ending) (w' : World) : Prop :=
 e = .returned (.int .i64 x) ∧ TreeAt w' (Plus lo w.heap.size) b mb root at_ M ∧ Kept (· = mb) w w'
section
variable {w : World} {lo : Nat → Prop} {b mb : Nat} {root : Bytes} {at_ : Int} {M : List (Bytes × Nd)}
theorem TreeAt.wide (T : TreeAt w lo b mb root at_ M) {lo' : Nat → Prop} (h : ∀ k, lo k → lo' k) : TreeAt w lo' b mb root at_ M := by
 obtain ⟨m, h1, h2⟩ := T.map
 exact ⟨T.blk, m, h1, h2.imp fun _ _ hr => hr.mono h⟩
theorem TreeAt.setAt (T : TreeAt w lo b mb root at_ M) (p : Bytes) (hp : p.length ≤ 1000) {w7 : World} (B7 : Below w.heap.size w w7) (r : Raw) (d : Nd) (R7 : Reads w7 (From w.heap.size) r d) :
  ∃ o, (Instr.mapUpdate 84 (.map (some mb)) (.string (bs p)) r.val).run Tryz.prog w7 = .ok () (setBlock w7 mb o) ∧
   Hid (TreeAt (setBlock w7 mb o) (Plus lo w.heap.size) b mb root at_ (putA p d M) ∧ Kept (· = mb) w (setBlock w7 mb o)) := by
 have T7 := T.below B7
 obtain ⟨m, hm, hl⟩ := T7.map
 obtain ⟨lk, hlk⟩ := sv_key (p := p) (by unfold maxLen; omega)
 obtain ⟨o, ho⟩ := hm.update keyStr sv_inj Tryz.underlying84 r hlk
 obtain ⟨h1, h2⟩ := ho w7 rfl
 have hk : Kept (· = mb) w7 (setBlock w7 mb o) := kept_setBlock hm.lt o
 refine ⟨o, h1, Lib.hid ⟨?_, (Kept.ofBelow B7).trans hk⟩⟩
 have hl2 : Like w7 (Plus lo w.heap.size) m M := hl.imp fun _ _ h => h.mono fun k hk => .inl hk
 exact (T7.wide (lo' := Plus lo w.heap.size) (fun k hk => .inl hk)).setMap hk h2 (hl2.put p (R7.mono fun k hk => .inr hk)) T7.ne
set_option maxRecDepth 100000 in
set_option maxHeartbeats 8000000 in
theorem TreeAt.put_any (T : TreeAt w lo b mb root at_ M) (hmx : MaxInt w) (p : Bytes) (hp : p.length ≤ 1000) (r : Raw) (d : Nd) {lr : Nat → Prop} (hr : Reads w lr r d) (hdl : d.data.length ≤ 1000000) :
  Calls Tryz.prog 37 #[.pointer (some ⟨b, 0, none⟩), .string (bs p), r.val] w (PutPost lo b mb root at_ (putM root M p d) w (putE root M p)) := by
 obtain ⟨r1, hroot⟩ : ∃ r1, decide (p = root) = r1 := ⟨_, rfl⟩
 obtain ⟨r2, hpar⟩ : ∃ r2, (getA (parentL p) M).isSome = r2 := ⟨_, rfl⟩
 obtain ⟨r3, his⟩ : ∃ r3, (getA p M).isSome = r3 := ⟨_, rfl⟩
 have hE : putE root M p = if r1 = false ∧ r2 = false then 31 else if r3 = false ∧ 48 ≤ M.length then 36 else 0 := by
  unfold putE
  rw [hpar, his, ← hroot]
  simp
 unfold putM
 rw [hE]
 clear hE
 obtain ⟨rp, hrp, hq⟩ := T.look (p := p) (by unfold maxLen; omega)
 have hpl := parentL_len p hp
 obtain ⟨rq, hrq, hqq⟩ := T.look (p := parentL p) (by unfold maxLen; omega)
 have hbl : b < w.heap.size := lt_of_block T.blk
 obtain ⟨c0, c1, c2⟩ := T.cells
 obtain ⟨a, n, c, ⟨v1, v2, v3, v4, v5, v6, v7, v8⟩⟩ := r
 obtain ⟨a1, n1, c1', ⟨x1, x2, x3, x4, x5, x6, x7, x8⟩⟩ := rp
 obtain ⟨a2, n2, c2', ⟨y1, y2, y3, y4, y5, y6, y7, y8⟩⟩ := rq
 obtain ⟨w1, hw1⟩ : ∃ w1, w1 = w.alloc (.cells #[.slice a n c, .int .u32 v1, .int .u32 v2, .int .u32 v3, .int .i64 v4, .int .u32 v5, .int .u64 v6, .int .u64 v7, .int .u64 v8] 39) := ⟨_, rfl⟩
 have hb1 : Below w.heap.size w w1 := by rw [hw1]; exact belowA (Below.refl _ w) _
 have hs1 : w1.heap.size = w.heap.size + 1 := by rw [hw1]; simp
 have g1 : w1.heap[w.heap.size]? = some (.cells #[.slice a n c, .int .u32 v1, .int .u32 v2, .int .u32 v3, .int .i64 v4, .int .u32 v5, .int .u64 v6, .int .u64 v7, .int .u64 v8] 39 (0, 0)) := by rw [hw1]; exact heap_alloc_new w _
 have T1 := T.below hb1
 have hmb1 : w1.heap[mb]? = w.heap[mb]? := by obtain ⟨m0, hm0, _⟩ := T.map; exact hb1.block _ hm0.lt
 have q1 := hq w1 hmb1
 unfold Raw.val Raw.cells Nums.cells at q1 hqq
 unfold Raw.val Raw.cells Nums.cells
 dsimp only at q1 hqq ⊢
 have c01 : w1.cell? ⟨b, 0, none⟩ = some (.string (bs root)) := T1.cells.1
 have c21 : w1.cell? ⟨b, 2, none⟩ = some (.map (some mb)) := T1.cells.2.2
 obtain ⟨w2, hw2⟩ : ∃ w2, w2 = w1.alloc (.cells #[.slice a1 n1 c1', .int .u32 x1, .int .u32 x2, .int .u32 x3, .int .i64 x4, .int .u32 x5, .int .u64 x6, .int .u64 x7, .int .u64 x8] 39) := ⟨_, rfl⟩
 have hb12 : Below w1.heap.size w1 w2 := by rw [hw2]; exact belowA (Below.refl _ w1) _
 have hb2 : Below w.heap.size w w2 := hb1.trans (hb12.mono hb1.size)
 have g2 : w2.heap[w.heap.size]? = some (.cells #[.slice a n c, .int .u32 v1, .int .u32 v2, .int .u32 v3, .int .i64 v4, .int .u32 v5, .int .u64 v6, .int .u64 v7, .int .u64 v8] 39 (0, 0)) := (hb12.block _ (by omega)).trans g1
 have T2 := T.below hb2
 have e0 : w2.cell? ⟨b, 0, none⟩ = some (.string (bs root)) := T2.cells.1
 have e2 : w2.cell? ⟨b, 2, none⟩ = some (.map (some mb)) := T2.cells.2.2
 have hbl2 : b < w2.heap.size := lt_of_block T2.blk
 have HQQ := Lib.hid hqq
 have HPAR := Lib.hid (always_parent (hmx.kept hb2) p hp)
 have hmb2 : w2.heap[mb]? = w.heap[mb]? := by obtain ⟨m0, hm0, _⟩ := T.map; exact hb2.block _ hm0.lt
 have hmbl : mb < w2.heap.size := by obtain ⟨m0, hm0, _⟩ := T2.map; exact hm0.lt
 have HMB2 := Lib.hid hmb2
 have HB2 := Lib.hid hb2
 have HT := Lib.hid T
 have HG2 := Lib.hid g2
 have HW1 := Lib.hid hw1
 have HW2 := Lib.hid hw2
 have HR := Lib.hid hr
 obtain ⟨ne1, ne2⟩ := neq_of hroot
 rw [hw1] at q1
 rw [his] at q1
 rw [hpar] at HQQ
 clear his hpar hq hqq hw1 hw2 hb1 hb12 hb2 hs1 g1 g2 T1 T2 hmb1 hmb2 T hrp hrq hr hpl hmx c1 hroot c01 c21
 go_enter Tryz.func37, Tryz.ntmps37
 go_wp2_with fail
 rw [← HW1.out, ← HW2.out]
 clear c0 c2 q1
 go_cut [10] (fun t10 wc => CutP w2 r2 t10 wc)
 case first =>
  go_region_with (go_at_call 47; refine (HPAR.out _ (by first | exact (Below.refl _ _).drew | exact (Below.refl _ _).drew.alloc (Nat.le_refl _) _)).mono ?_; rintro e w5 ⟨rfl, B5⟩; have B5w : Below w2.heap.size w2 w5 := (by first | exact drewA1 B5 | exact drewA2 B5); have ct : w5.cell? ⟨b, 2, none⟩ = some (.map (some mb)) := (B5w.cell (p := ⟨b, 2, none⟩) hbl2).trans e2; have hbl5 := Nat.lt_of_lt_of_le hbl2 B5w.size; have hm5 : w5.heap[mb]? = w.heap[mb]? := (B5w.block mb hmbl).trans HMB2.out; have q5 := HQQ.out w5 hm5; have q6 := (fun o => HQQ.out (w5.alloc o) ((heap_alloc_old _ _ (Nat.lt_of_lt_of_le hmbl B5w.size)).trans hm5)); (first | (have hn9 := nineA B5; obtain ⟨k0, k1, k2, k3, k4, k5, k6, k7, k8⟩ := nine hn9; have kf := frozen0 hn9; clear hn9) | skip))
  all_goals
   have X5 := Lib.hid B5w
   clear B5 B5w hm5 q5 q6 ct
   go_wp2
   go_meet
   case rel =>
    refine ⟨rfl, ?_⟩
    have hs5 := X5.out.size
    repeat (first | (with_reducible exact X5.out) | (with_reducible refine below_setAt ?_ _ _) | (with_reducible refine Below.alloc ?_ hs5 _))
 case rest =>
  obtain ⟨rfl, hb26⟩ := hcut
  have hb06 : Below w.heap.size w wc := HB2.out.trans (hb26.mono HB2.out.size)
  have f0 : wc.cell? ⟨b, 0, none⟩ = some (.string (bs root)) := (hb26.cell (p := ⟨b, 0, none⟩) hbl2).trans e0
  have f2 : wc.cell? ⟨b, 2, none⟩ = some (.map (some mb)) := (hb26.cell (p := ⟨b, 2, none⟩) hbl2).trans e2
  have HT6 := Lib.hid (HT.out.below hb06)
  have hlt26 : w.heap.size < w2.heap.size := lt_of_block HG2.out
  have HG6 := Lib.hid ((hb26.block _ hlt26).trans HG2.out)
  have HB6 := Lib.hid hb06
  have HR6 := Lib.hid (HR.out.below hb06)
  clear hb26 hb06 e0 e2
  have HMl := Lib.hid HT6.out.map
  obtain ⟨m6, hm6, hl6⟩ := HMl.out
  have ql := fun ty => hm6.run_len Tryz.underlying84 ty
  rw [hl6.len] at ql
  clear HMl hm6 hl6
  have hcase : (r1 = false ∧ r2 = false) ∨ ((r1 = true ∨ r1 = false ∧ r2 = true) ∧ r3 = false ∧ 48 ≤ M.length) ∨ ((r1 = true ∨ r1 = false ∧ r2 = true) ∧ r3 = true) ∨ ((r1 = true ∨ r1 = false ∧ r2 = true) ∧ r3 = false ∧ M.length < 48) := by
   cases r1 <;> cases r2 <;> cases r3 <;> simp <;> omega
  rcases hcase with ⟨rfl, rfl⟩ | ⟨hr, rfl, hf⟩ | ⟨hr, rfl⟩ | ⟨hr, rfl, hf⟩
  ·simp only [Bool.not_false, Bool.not_true] at ne2
   go_wp2
   go_ret
   exact ⟨rfl, by simpa using HT6.out.wide (fun k h => .inl h), Kept.ofBelow HB6.out⟩
  ·have hfd : decide ((48 : Int) ≤ (M.length : Int)) = true := by simpa using (by omega : (48 : Int) ≤ (M.length : Int))
   have HF := Lib.hid hf
   clear hf
   rcases hr with rfl | ⟨rfl, rfl⟩
   all_goals
    simp only [Bool.not_false, Bool.not_true] at ne2
    go_wp2
    go_ret
    exact ⟨by simp [HF.out], by simpa [HF.out] using HT6.out.wide (fun k h => .inl h), Kept.ofBelow HB6.out⟩
  ·rcases hr with rfl | ⟨rfl, rfl⟩
   all_goals
    simp only [Bool.not_false, Bool.not_true] at ne2
    go_wp2_with fail
    obtain ⟨k0, k1, k2, k3, k4, k5, k6, k7, k8⟩ := nine HG6.out
    have hbl6 : b < wc.heap.size := lt_of_block HT6.out.blk
    have hlt6 : w.heap.size < wc.heap.size := lt_of_block HG6.out
    have HOWN := Lib.hid (own_any wc.drew lr ⟨a, n, c, ⟨v1, v2, v3, v4, v5, v6, v7, v8⟩⟩ d ⟨HR6.out.num, HR6.out.len, HR6.out.data, HR6.out.nil⟩ hdl)
    have HHP := Lib.hid hp
    clear hp hdl ql ne1 ne2 f0
    go_region_with (go_at_call 38; refine HOWN.out.mono ?_; rintro e w7 ⟨r9, rfl, R7, B7, _⟩; have B7w := drewA1 B7; have j2 : w7.cell? ⟨b, 2, none⟩ = some (.map (some mb)) := (B7w.cell (p := ⟨b, 2, none⟩) hbl6).trans f2; obtain ⟨o7, q7, HX⟩ := HT6.out.setAt p HHP.out B7w r9 d R7; clear R7 B7w)
    all_goals
     clear B7 q7 j2
     go_wp2
     go_ret
     exact ⟨rfl, by simpa using HX.out.1.wide (fun k h => h.imp_right (Nat.le_trans HB6.out.size)), (Kept.ofBelow HB6.out).trans HX.out.2⟩
  ·have hfd : decide ((48 : Int) ≤ (M.length : Int)) = false := by simpa using (by omega : (M.length : Int) < 48)
   have HF := Lib.hid hf
   have hn48 : ¬ 48 ≤ M.length := by omega
   have HF2 := Lib.hid hn48
   clear hf hn48
   rcases hr with rfl | ⟨rfl, rfl⟩
   all_goals
    simp only [Bool.not_false, Bool.not_true] at ne2
    go_wp2_with fail
    obtain ⟨k0, k1, k2, k3, k4, k5, k6, k7, k8⟩ := nine HG6.out
    have hbl6 : b < wc.heap.size := lt_of_block HT6.out.blk
    have hlt6 : w.heap.size < wc.heap.size := lt_of_block HG6.out
    have HOWN := Lib.hid (own_any wc.drew lr ⟨a, n, c, ⟨v1, v2, v3, v4, v5, v6, v7, v8⟩⟩ d ⟨HR6.out.num, HR6.out.len, HR6.out.data, HR6.out.nil⟩ hdl)
    have HHP := Lib.hid hp
    clear hp hdl ql ne1 ne2 f0
    go_region_with (go_at_call 38; refine HOWN.out.mono ?_; rintro e w7 ⟨r9, rfl, R7, B7, _⟩; have B7w := drewA1 B7; have j2 : w7.cell? ⟨b, 2, none⟩ = some (.map (some mb)) := (B7w.cell (p := ⟨b, 2, none⟩) hbl6).trans f2; obtain ⟨o7, q7, HX⟩ := HT6.out.setAt p HHP.out B7w r9 d R7; clear R7 B7w)
    all_goals
     clear B7 q7 j2
     go_wp2
     go_ret
     exact ⟨by simp [HF2.out], by simpa [HF2.out] using HX.out.1.wide (fun k h => h.imp_right (Nat.le_trans HB6.out.size)), (Kept.ofBelow HB6.out).trans HX.out.2⟩
end
end Go.Proofs.YtnclkfhdpkkakaaGreatDoor
namespace Go.Proofs.YtnclkfhdpkkakaaGreatDoor
set_option linter.unusedVariables false
set_option linter.unusedSimpArgs false
set_option linter.unusedVariables false
set_option linter.unusedSimpArgs false
open Go Go.RowKit Go.Shelf Go.MapKept Go.ChangeMaps Go.Maps Go.Sort
structure Eff where
 path : Bytes
 gone : Bool
 node : Nd
 deriving DecidableEq
structure ReadsE (w : World) (lo : Nat → Prop) (r : RawE) (e : Eff) : Prop where
 path : r.path = e.path
 gone : r.gone = e.gone
 node : Reads w lo r.node e.node
theorem ReadsE.below {w w' : World} {lo : Nat → Prop} {r : RawE} {d : Eff} (h : ReadsE w lo r d) (hb : Below w.heap.size w w') : ReadsE w' lo r d := ⟨h.path, h.gone, h.node.below hb⟩
def LikeE (w : World) (lo : Nat → Prop) (L : List RawE) (E : List Eff) : Prop := L.length = E.length ∧ ∀ (k : Nat) (r : RawE) (e : Eff), L[k]? = some r → E[k]? = some e → ReadsE w lo r e
theorem LikeE.below {w w' : World} {lo : Nat → Prop} {L : List RawE} {E : List Eff} (h : LikeE w lo L E) (hb : Below w.heap.size w w') : LikeE w' lo L E := ⟨h.1, fun k r e h1 h2 => (h.2 k r e h1 h2).below hb⟩
def EffsAt (w : World) (B : Nat) (ao : Option Addr) (L : List RawE) : Prop := ∀ k r, L[k]? = some r → ∃ b off, ao = some ⟨b, off, none⟩ ∧ b < B ∧ w.rangeAt b (off + k * 11) r.cells
theorem EffsAt.below {w w' : World} {B : Nat} {ao : Option Addr} {L : List RawE} (h : EffsAt w B ao L) (hb : Below B w w') : EffsAt w' B ao L := fun k r hk => by
 obtain ⟨b, off, h1, h2, h3⟩ := h k r hk
 exact ⟨b, off, h1, h2, range_kept h3 hb h2⟩
theorem EffsAt.mono {w : World} {B B' : Nat} {ao : Option Addr} {L : List RawE} (h : EffsAt w B ao L) (hB : B ≤ B') : EffsAt w B' ao L := fun k r hk => by
 obtain ⟨b, off, h1, h2, h3⟩ := h k r hk
 exact ⟨b, off, h1, by omega, h3⟩
def oneE (root : Bytes) (M : List (Bytes × Nd)) (e : Eff) : Int := if underB e.path root = false then 30 else if e.gone = true then goneE root M e.path else putE root M e.path
def oneM (root : Bytes) (M : List (Bytes × Nd)) (e : Eff) : List (Bytes × Nd) := if underB e.path root = false then M else if e.gone = true then goneM root M e.path else putM root M e.path e.node
def applyA (root : Bytes) : List (Bytes × Nd) → List Eff → Int × List (Bytes × Nd)
 | M, [] => (0, M)
 | M, e :: l => if oneE root M e = 0 then applyA root (oneM root M e) l else (oneE root M e, M)
theorem applyA_pos {root : Bytes} {M : List (Bytes × Nd)} {e : Eff} {l : List Eff} (h : oneE root M e = 0) : applyA root M (e :: l) = applyA root (oneM root M e) l := if_pos h
theorem applyA_neg {root : Bytes} {M : List (Bytes × Nd)} {e : Eff} {l : List Eff} (h : oneE root M e ≠ 0) : applyA root M (e :: l) = (oneE root M e, M) := if_neg h
theorem applyA_snoc (root : Bytes) (e : Eff) : ∀ (l : List Eff) (M : List (Bytes × Nd)), (applyA root M l).1 = 0 → applyA root M (l ++ [e]) = if oneE root (applyA root M l).2 e = 0 then (0, oneM root (applyA root M l).2 e) else (oneE root (applyA root M l).2 e, (applyA root M l).2)
 | [], M, _ => rfl
 | x :: l, M, h => by
  rw [List.cons_append]
  by_cases h0 : oneE root M x = 0
  ·have hx := applyA_pos (l := l) h0
   have hx2 := applyA_pos (l := l ++ [e]) h0
   rw [hx] at h
   rw [hx2, applyA_snoc root e l _ h]
   simp only [hx]
  ·rw [applyA_neg h0] at h
   exact absurd h h0
theorem applyA_stop (root : Bytes) (l2 : List Eff) : ∀ (l : List Eff) (M : List (Bytes × Nd)), (applyA root M l).1 ≠ 0 → applyA root M (l ++ l2) = applyA root M l
 | [], M, h => by simp [applyA] at h
 | x :: l, M, h => by
  simp only [List.cons_append, applyA] at h ⊢
  split at h
  ·rename_i h0
   rw [if_pos h0, if_pos h0]
   exact applyA_stop root l2 l _ h
  ·rename_i h0
   rw [if_neg h0, if_neg h0]
structure Fit (M : List (Bytes × Nd)) : Prop where
 len : M.length ≤ 48
 path : ∀ x ∈ M, x.1.length ≤ 1000
 data : ∀ x ∈ M, x.2.data.length ≤ 1000000
structure FitE (e : Eff) : Prop where
 path : e.path.length ≤ 1000
 data : e.node.data.length ≤ 1000000
theorem putA_mem {p : Bytes} {d : Nd} : ∀ {M : List (Bytes × Nd)} {x : Bytes × Nd}, x ∈ putA p d M → x = (p, d) ∨ x ∈ M
 | [], x, h => by simp [putA] at h; exact .inl h
 | y :: M, x, h => by
  unfold putA at h
  split at h
  ·rcases List.mem_cons.1 h with h | h
   ·exact .inl h
   ·exact .inr (List.mem_cons_of_mem _ h)
  ·rcases List.mem_cons.1 h with h | h
   ·exact .inr (h ▸ List.mem_cons_self ..)
   ·rcases putA_mem h with h | h
    ·exact .inl h
    ·exact .inr (List.mem_cons_of_mem _ h)
theorem putA_length {p : Bytes} {d : Nd} : ∀ {M : List (Bytes × Nd)}, (putA p d M).length = if (getA p M).isSome then M.length else M.length + 1
 | [] => by simp [putA, getA]
 | y :: M => by
  unfold putA getA
  split
  ·simp
  ·rw [List.length_cons, putA_length]
   split <;> simp
theorem delA_sub {p : Bytes} : ∀ {M : List (Bytes × Nd)}, (delA p M).Sublist M
 | [] => List.Sublist.refl _
 | y :: M => by
  unfold delA
  split
  ·exact List.sublist_cons_self _ _
  ·exact delA_sub.cons_cons _
theorem Fit.one {root : Bytes} {M : List (Bytes × Nd)} (h : Fit M) {e : Eff} (he : FitE e) : Fit (oneM root M e) := by
 unfold oneM
 split
 ·exact h
 ·split
  ·unfold goneM
   split
   ·exact ⟨Nat.le_trans (delA_sub.length_le) h.len, fun x hx => h.path x (delA_sub.subset hx), fun x hx => h.data x (delA_sub.subset hx)⟩
   ·exact h
  ·unfold putM
   split
   ·rename_i h0
    refine ⟨?_, fun x hx => ?_, fun x hx => ?_⟩
    ·rw [putA_length]
     unfold putE at h0
     split at h0
     ·cases h0
     ·split at h0
      ·cases h0
      ·rename_i h2
       have := h.len
       split
       ·exact h.len
       ·rename_i h3
        have h3 : (getA e.path M).isSome = false := by simpa using h3
        have : ¬ 48 ≤ M.length := fun h4 => h2 ⟨h3, h4⟩
        omega
    ·rcases putA_mem hx with rfl | hx
     ·exact he.path
     ·exact h.path x hx
    ·rcases putA_mem hx with rfl | hx
     ·exact he.data
     ·exact h.data x hx
   ·exact h
theorem Fit.all {root : Bytes} : ∀ {E : List Eff} {M : List (Bytes × Nd)}, Fit M → (∀ e ∈ E, FitE e) → Fit (applyA root M E).2
 | [], M, h, _ => h
 | e :: E, M, h, hE => by
  unfold applyA
  split
  ·exact Fit.all (h.one (hE e (List.mem_cons_self ..))) (fun x hx => hE x (List.mem_cons_of_mem _ hx))
  ·exact h
end Go.Proofs.YtnclkfhdpkkakaaGreatDoor
namespace Go.Proofs.YtnclkfhdpkkakaaGreatDoor
set_option linter.unusedVariables false
set_option linter.unusedSimpArgs false
set_option linter.unusedVariables false
set_option linter.unusedSimpArgs false
def parentC (l : Bytes) : Bytes := match partsC l with
 | none => []
 | some L => if L = [] then l else ofL L.dropLast
theorem parentL_eq (l : Bytes) : parentL l = parentC l := by unfold parentL parentC; rw [partsL_eq]; rfl
def baseC (l : Bytes) : Bytes := match partsC l with
 | none => []
 | some L => L.getLast?.getD []
theorem baseL_eq (l : Bytes) : baseL l = baseC l := by unfold baseL baseC; rw [partsL_eq]; rfl
def kidC (root p q : Bytes) : Bool := !decide (q = p) && !decide (q = root) && decide (parentC q = p)
theorem kidB_eq (root p q : Bytes) : kidB root p q = kidC root p q := by unfold kidB kidC; rw [parentL_eq]
theorem kids_count (root : Bytes) (M : List (Bytes × Nd)) (p : Bytes) : (kidsS root M p).length = (M.filter fun x => kidB root p x.1).length := by
 have h1 : (kidsS root M p).length = _ := (sortS_perm _).length_eq
 rw [h1, List.length_map]
 have h2 := ((sortS_perm (M.map (·.1))).filter (kidB root p)).length_eq
 unfold keysS
 rw [h2, List.filter_map, List.length_map]
 rfl
theorem kids_pos (root : Bytes) (M : List (Bytes × Nd)) (p : Bytes) : (0 < (kidsS root M p).length) ↔ (M.any fun x => kidB root p x.1) = true := by
 rw [kids_count, List.length_pos_iff_exists_mem, List.any_eq_true]
 constructor
 ·rintro ⟨x, hx⟩
  have := List.mem_filter.1 hx
  exact ⟨x, this.1, this.2⟩
 ·rintro ⟨x, h1, h2⟩
  exact ⟨x, List.mem_filter.2 ⟨h1, h2⟩⟩
theorem sortS_is {L L' : List Bytes} (h1 : L'.Pairwise (fun x y => x ≤ y)) (h2 : L'.Perm L) : sortS L = L' := sorted_unique (sortS_sorted L) h1 ((sortS_perm L).trans h2.symm)
def pR : Bytes := [47, 114]
def pRA : Bytes := [47, 114, 47, 97]
def M0 : List (Bytes × Nd) := [(pR, zNd)]
def M1 : List (Bytes × Nd) := [(pR, zNd), (pRA, ⟨pRA, zNums⟩)]
theorem grow4 : keysS M1 = [pR, pRA] := sortS_is (by decide +kernel) (List.isPerm_iff.1 (by decide +kernel))
theorem grow5 : kidsS pR M1 pR = [[97]] := by
 unfold kidsS
 rw [grow4]
 simp only [List.filter, kidB_eq]
 rw [show kidC pR pR pR = false by decide +kernel, show kidC pR pR pRA = true by decide +kernel]
 simp only [List.map, baseL_eq]
 rw [show baseC pRA = [97] by decide +kernel]
 exact sortS_is (by decide +kernel) (List.Perm.refl _)
theorem rootsR : (partsL pR).isSome = true := by rw [partsL_eq]; decide +kernel
end Go.Proofs.YtnclkfhdpkkakaaGreatDoor
