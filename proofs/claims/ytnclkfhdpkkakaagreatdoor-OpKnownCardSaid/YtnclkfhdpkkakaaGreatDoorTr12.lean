/-
  Kids, walked.
  gone, walked.
-/
import Derived.Test.YtnclkfhdpkkakaaGreatDoorTr10
import Derived.Stop.RegionWithIn
import Derived.Test.YtnclkfhdpkkakaaGreatDoorShelf2
import Derived.Lib.OwnBridge
namespace Go.Proofs.YtnclkfhdpkkakaaGreatDoor
set_option linter.unusedVariables false
set_option linter.unusedSimpArgs false
set_option linter.unusedVariables false
set_option linter.unusedSimpArgs false
open Go Go.RowKit Go.Shelf Go.MapKept Go.ChangeMaps Go.Maps Go.Sort

attribute [local go_sem] Oper.semAt_some

/-- The names of a node's children, in order. -/
def kidsS (root : Bytes) (M : List (Bytes × Nd)) (p : Bytes) : List Bytes := sortS (((keysS M).filter (kidB root p)).map baseL)
theorem kids_len (root : Bytes) (M : List (Bytes × Nd)) (p : Bytes) : (((keysS M).filter (kidB root p)).map baseL).length ≤ M.length := by
  rw [List.length_map]
  have := List.length_filter_le (kidB root p) (keysS M)
  rw [keysS_len] at this
  exact this
theorem five_boxes (w : World) (a1 a2 a3 a4 a5 : Value) (t1 t2 t3 t4 t5 : TypeId) (W : World)
    (h : W = ((((w.alloc (.cells #[a1] t1)).alloc (.cells #[a2] t2)).alloc (.cells #[a3] t3)).alloc (.cells #[a4] t4)).alloc (.cells #[a5] t5)) :
    Below w.heap.size w W ∧ W.heap.size = w.heap.size + 5 ∧ Boxed W w.heap.size t1 a1 ∧ Boxed W (w.heap.size + 1) t2 a2 ∧ Boxed W (w.heap.size + 1 + 1) t3 a3 ∧ Boxed W (w.heap.size + 1 + 1 + 1) t4 a4 ∧ Boxed W (w.heap.size + 1 + 1 + 1 + 1) t5 a5 := by
  subst h
  have b1 := Boxed.new w t1 a1
  have b2 := Boxed.new (w.alloc (.cells #[a1] t1)) t2 a2
  have b3 := Boxed.new ((w.alloc (.cells #[a1] t1)).alloc (.cells #[a2] t2)) t3 a3
  have b4 := Boxed.new (((w.alloc (.cells #[a1] t1)).alloc (.cells #[a2] t2)).alloc (.cells #[a3] t3)) t4 a4
  have b5 := Boxed.new ((((w.alloc (.cells #[a1] t1)).alloc (.cells #[a2] t2)).alloc (.cells #[a3] t3)).alloc (.cells #[a4] t4)) t5 a5
  simp only [World.size_alloc] at b2 b3 b4 b5
  refine ⟨?_, by simp, (((b1.alloc _).alloc _).alloc _).alloc _, ((b2.alloc _).alloc _).alloc _, (b3.alloc _).alloc _, b4.alloc _, b5⟩
  exact belowA (belowA (belowA (belowA (belowA (Below.refl _ w) _) _) _) _) _
theorem keepsOthers_below {W W' : World} (h : Below W.heap.size W W') : KeepsOthers W W' := ⟨h.size, fun k o hk _ => (h.block k (Array.getElem?_eq_some_iff.1 hk).1).trans hk⟩
/-- A slice of texts, as its cells read, in a block from base on. -/
def RowC (w : World) (base : Nat) (v : Value) (L : List Bytes) : Prop :=
  (v = .slice none 0 0 ∧ L = []) ∨ ∃ g cap, v = .slice (some ⟨g, 0, none⟩) L.length cap ∧ base ≤ g ∧ g < w.heap.size ∧ L.length ≤ cap ∧ ∀ i p, L[i]? = some p → w.cell? ⟨g, i, none⟩ = some (.string (bs p))
theorem RowS.c {w : World} {base : Nat} {v : Value} {L : List Bytes} (h : RowS w base v L) : RowC w base v L := by
  rcases h.at with h | ⟨g, cap, h1, h2, h3, h4, _, h5⟩
  · exact .inl h
  · exact .inr ⟨g, cap, h1, h2, h3, h4, h5⟩
theorem RowC.kept {w w' : World} {base : Nat} {v : Value} {L : List Bytes} (h : RowC w base v L) (hs : w.heap.size ≤ w'.heap.size) (hk : ∀ g, v.ownBlock = some g → w'.heap[g]? = w.heap[g]?) : RowC w' base v L := by
  rcases h with h | ⟨g, cap, rfl, h2, h3, h4, h5⟩
  · exact .inl h
  · exact .inr ⟨g, cap, rfl, h2, by omega, h4, fun i p hp => (World.cell?_of_block (w := w) (a := ⟨g, i, none⟩) (hk g rfl)).trans (h5 i p hp)⟩
theorem RowC.below {w w' : World} {base : Nat} {v : Value} {L : List Bytes} (h : RowC w base v L) (hb : Below w.heap.size w w') : RowC w' base v L :=
  h.kept hb.size fun g hg => hb.block g (by
    rcases h with ⟨rfl, _⟩ | ⟨g', cap, rfl, h2, h3, h4, h5⟩
    · cases hg
    · cases hg; exact h3)
theorem RowC.mono {w : World} {base base' : Nat} {v : Value} {L : List Bytes} (h : RowC w base v L) (hb : base' ≤ base) : RowC w base' v L := by
  rcases h with h | ⟨g, cap, h1, h2, h3, h4, h5⟩
  · exact .inl h
  · exact .inr ⟨g, cap, h1, by omega, h3, h4, h5⟩
theorem RowC.form {w : World} {base : Nat} {v : Value} {L : List Bytes} (h : RowC w base v L) : ∃ a c, v = .slice a L.length c ∧ L.length ≤ c := by
  rcases h with ⟨rfl, rfl⟩ | ⟨g, cap, rfl, _, _, h4, _⟩
  · exact ⟨_, _, rfl, Nat.le_refl _⟩
  · exact ⟨_, _, rfl, h4⟩
theorem RowC.lt {w : World} {base : Nat} {v : Value} {L : List Bytes} (h : RowC w base v L) {g : Nat} (hg : v.ownBlock = some g) : base ≤ g ∧ g < w.heap.size := by
  rcases h with ⟨rfl, rfl⟩ | ⟨g', cap, rfl, h2, h3, _⟩
  · cases hg
  · cases hg; exact ⟨h2, h3⟩
/-- What Sort leaves of a row. -/
theorem sort_rowS (w : World) (base : Nat) (v : Value) (L : List Bytes) (h : RowS w base v L) (hbig : L.length ≤ 1000) :
    Calls Tryz.prog 49 #[v] w fun e w' => e = .returned (.tuple #[]) ∧ RowC w' base v (sortS L) ∧ w.heap.size ≤ w'.heap.size ∧ w'.os = w.os ∧ w'.tape = w.tape ∧ w'.output = w.output ∧ (∀ k, k < w.heap.size → v.ownBlock ≠ some k → w'.heap[k]? = w.heap[k]?) := by
  by_cases h0 : v = .slice none 0 0
  · have hL : L = [] := by
      rcases h.at with ⟨_, h2⟩ | ⟨g, cap, h1, _⟩
      · exact h2
      · rw [h0] at h1; cases h1
    subst h0 hL
    refine (Tryz.slices_Sort_string_none none 0 w).mono ?_
    rintro e w' ⟨rfl, rfl⟩
    exact ⟨rfl, .inl ⟨rfl, by simp [sortS]⟩, Nat.le_refl _, rfl, rfl, rfl, fun _ _ _ => rfl⟩
  · obtain ⟨g, cap, rfl, hbg, hg, hnc, hcm, hzl, hH⟩ := Lib.holds_of_ownsRow (enc := encStr) h h0
    refine (Tryz.slices_Sort_string g 0 cap L w hH hg (by omega)).mono ?_
    rintro e w' ⟨rfl, n, os, rfl⟩
    have hsz : g < (putRow encStr (Sort.ahead w n) g 0 (L.mergeSort fun x y => decide (x ≤ y)).toArray).heap.size := by simpa [putRow, mapBlock, Sort.ahead] using hg
    have hls : (sortS L).length = L.length := (sortS_perm L).length_eq
    have hH2 := holds_grow _ _ os g 0 _ hsz (holds_putRow _ _ g 0 _ _ (holds_ahead _ w n g 0 _ hH) (by simp))
    refine ⟨rfl, .inr ⟨g, cap, by rw [hls], hbg, ?_, by omega, fun i p hp => ?_⟩, ?_, rfl, rfl, rfl, fun k hk hne => ?_⟩
    · simp [grow, putRow, mapBlock, Sort.ahead]; omega
    · have hi : i < (L.mergeSort fun x y => decide (x ≤ y)).toArray.size := by simpa [sortS] using (List.getElem?_eq_some_iff.1 hp).1
      have := (hH2 i hi).1
      rw [Nat.zero_add] at this
      rw [this, getElem!_pos _ i hi]
      have he := (List.getElem?_eq_some_iff.1 hp).2
      simp only [List.getElem_toArray]
      unfold sortS at he
      rw [he]
      rfl
    · simp [grow, putRow, mapBlock, Sort.ahead]
    · have h1 : (grow (putRow encStr (Sort.ahead w n) g 0 (L.mergeSort fun x y => decide (x ≤ y)).toArray) os).heap[k]? = (putRow encStr (Sort.ahead w n) g 0 (L.mergeSort fun x y => decide (x ≤ y)).toArray).heap[k]? := heap_grow_old _ os (by simpa [putRow, mapBlock, Sort.ahead] using hk)
      rw [h1]
      have hgk : g ≠ k := fun e => hne (by rw [e]; rfl)
      simp [putRow, mapBlock, Sort.ahead, Array.getElem?_modify, hgk]

set_option maxRecDepth 100000 in
set_option maxHeartbeats 4000000 in
theorem kids_of (w : World) (tp : Option Addr) (p : Bytes) (ys : List Key) (hlen : ys.length ≤ 1000) (hmx : MaxInt w)
    (hseq : ∀ W1, Below w.heap.size w W1 → W1.heap.size = w.heap.size + 5 → Boxed W1 w.heap.size 33 (.pointer tp) → Boxed W1 (w.heap.size + 1) 9 (.string (bs p)) → Boxed W1 (w.heap.size + 1 + 1) 40 (.slice none 0 0) →
      Boxed W1 (w.heap.size + 1 + 1 + 1) 33 (.pointer tp) → Boxed W1 (w.heap.size + 1 + 1 + 1 + 1) 99 (.func (.func 46) #[] #[.pointer (some ⟨w.heap.size + 1, 0, none⟩), .pointer (some ⟨w.heap.size, 0, none⟩)]) →
      SeqStopsK Fence.wide 1 Tryz.prog 69 #[.pointer (some ⟨w.heap.size + 1 + 1 + 1, 0, none⟩), .pointer (some ⟨w.heap.size + 1 + 1 + 1 + 1, 0, none⟩)] (fun x : Key => #[sv x.1]) (KeepR W1.heap.size (w.heap.size + 1 + 1)) (fun zs => zs = ys) (fun pre => pre <+: ys) 1000 W1) :
    Calls Tryz.prog 28 #[.pointer tp, .string (bs p)] w fun e W' => ∃ v, e = .returned v ∧ RowC W' w.heap.size v (sortS (ys.map fun q => baseL q.1)) ∧ Below w.heap.size w W' := by
  obtain ⟨i0, hi, hz0, hz1, hz2⟩ := info_parts infoStr
  have HMX := Lib.hid hmx
  clear hmx
  refine (callsIn_wide (n := 2)).1 ?_
  refine callsIn_of_wp_marks Tryz.func28 rfl trivial ?_ rfl
  simp only [Tryz.ntmps28, List.size_toArray, List.length_cons, List.length_nil, Nat.reduceAdd, Nat.reduceSub, Array.replicate_succ, Array.replicate_zero, List.push_toArray, List.append_toArray, List.nil_append, List.cons_append]
  gi_wp2_with fail
  refine ⟨trivial, ?_⟩
  refine (callsIn_wide.2 (all_any _ _ _ rfl rfl)).mono ?_
  rintro e w' ⟨rfl, rfl⟩
  gi_wp2
  obtain ⟨W1, hW1⟩ : ∃ W1, W1 = ((((w.alloc (.cells #[.pointer tp] 33)).alloc (.cells #[.string (bs p)] 9)).alloc (.cells #[.slice none 0 0] 40)).alloc (.cells #[.pointer tp] 33)).alloc
    (.cells #[.func (.func 46) #[] #[.pointer (some ⟨w.heap.size + 1, 0, none⟩), .pointer (some ⟨w.heap.size, 0, none⟩)]] 99) := ⟨_, rfl⟩
  obtain ⟨hB1, hs1, bt, bp, bo, bt2, bw⟩ := five_boxes w _ _ _ _ _ _ _ _ _ _ W1 hW1
  rw [← hW1]
  clear hW1
  have HS := Lib.hid hs1
  have HB1 := Lib.hid hB1
  have HBT := Lib.hid bt
  have HBP := Lib.hid bp
  have HBO := Lib.hid bo
  have HBT2 := Lib.hid bt2
  have HBW := Lib.hid bw
  clear hs1 hB1 bt bp bo bt2 bw
  have hlt1 : w.heap.size + 4 < W1.heap.size := by rw [HS.out]; omega
  refine wpIn_rangeFunc_ownG (α := Key) rfl (by omega) (gf := 69) (lb := #[.pointer (some ⟨w.heap.size + 1 + 1 + 1, 0, none⟩), .pointer (some ⟨w.heap.size + 1 + 1 + 1 + 1, 0, none⟩)]) rfl trivial (enters_of Tryz.func69 (by kernel_rfl) rfl)
    (encs := fun x : Key => #[sv x.1]) (Kp := KeepR W1.heap.size (w.heap.size + 1 + 1)) (S := fun zs => zs = ys) (Sp := fun pre => pre <+: ys) (N := 1000) (w0 := W1)
    ?seq keepR_t (keepR_b (Nat.le_refl _) (by omega)) (Below.refl _ _) (fun _ => rfl)
    (fun pre W => (∃ v, Boxed W (w.heap.size + 1 + 1) 40 v ∧ W.ownsRow W1.heap.size 9 1 v pre.length (pre.map fun q => sv (baseL q.1)) ∧ True) ∧ KeepR W1.heap.size (w.heap.size + 1 + 1) W1 W)
    (fun _ _ _ => False)
    (OwnFrom.and (Own.from (holdsRow_own W1.heap.size (w.heap.size + 1 + 1) 40 9 1 (fun pre : List Key => pre.length) (fun pre => pre.map fun q => sv (baseL q.1)) (fun _ _ => True)) _) (ownFrom_keepR (Nat.le_refl _) (by omega) (Nat.le_refl _)))
    (fun _ _ _ _ _ hs _ _ => hs)
    ⟨⟨_, HBO.out, World.ownsRow_nil _ _ _ _, trivial⟩, keepR_refl _ _ _⟩
    (fun x => { tmps := #[.pointer tp, .string (bs p), .pointer (some ⟨w.heap.size, 0, none⟩), .pointer (some ⟨w.heap.size + 1, 0, none⟩), .slice none 0 0, .pointer (some ⟨w.heap.size + 1 + 1, 0, none⟩), sv x.1, .pointer tp, .func (.func 46) #[] #[.pointer (some ⟨w.heap.size + 1, 0, none⟩), .pointer (some ⟨w.heap.size, 0, none⟩)],
      .func (.func 69) #[] #[.pointer (some ⟨w.heap.size + 1 + 1 + 1, 0, none⟩), .pointer (some ⟨w.heap.size + 1 + 1 + 1 + 1, 0, none⟩)], sv x.1, undef, undef, undef, undef, undef, undef, undef, undef], defers := [] }) ?assign ?body ?done ?stop
  case seq =>
    exact hseq W1 HB1.out HS.out HBT.out HBP.out HBO.out HBT2.out HBW.out
  case assign =>
    intro l x W K hK
    unfold sv at *
    gi_wp2
    exact hK
  case body =>
    rintro l pre ⟨x, hxl⟩ W ⟨⟨v, hv, hrow, _⟩, hB⟩ hlt
    have hsz := hB.size
    have hbW : Below w.heap.size w W.drew := (HB1.out.trans (keepR_to_below hB (by omega) (by omega))).drew
    have HBASE := Lib.hid (always_base HMX.out x hxl W.drew hbW)
    have HHB := Lib.hid hB
    have hc := hv.cell
    have hO := hv.lt
    have hc0 : W.drew.cell? ⟨w.heap.size + 1 + 1, 0, none⟩ = some v := hc
    unfold sv
    have hvd : Boxed W.drew (w.heap.size + 1 + 1) 40 v := hv
    have hrowd : W.drew.ownsRow W1.heap.size 9 1 v pre.length (pre.map fun q => sv (baseL q.1)) := hrow
    have hOd : w.heap.size + 1 + 1 < W.drew.heap.size := hO
    have hszd : W1.heap.size ≤ W.drew.heap.size := hsz
    clear hbW hB
    gi_wp2_with fail
    refine wpIn_region_any (by kernel_rfl) ?_
    try (change wpAnyIn _ _ _ _ _ _ _ _ _ (World.drew _))
    refine wpAnyIn_ready (rs := [0, 1]) (by kernel_rfl) (by simp) ?_
    refine AllReadyIn.cons rfl (fun K hK => ?_) (AllReadyIn.cons rfl (fun K hK => ?_) AllReadyIn.nil)
    · go_simp
      refine hK _ _ ?_
      clear hK K
      refine wpAnyIn_ready (rs := [1]) (by kernel_rfl) (by simp) ?_
      refine AllReadyIn.cons rfl (fun K hK => ?_) AllReadyIn.nil
      go_simp
      refine hK _ _ ?_
      clear hK K
      refine wpAnyIn_ready (rs := [2]) (by kernel_rfl) (by simp) ?_
      refine AllReadyIn.cons rfl (fun K hK => ?_) AllReadyIn.nil
      go_simp
      refine ⟨trivial, rfl, ?_⟩
      refine (CallsIn.inRound l (callsIn_wide.2 HBASE.out)).mono ?_
      rintro e w5 ⟨rfl, B5⟩
      have hv5 := boxed_belowR hvd B5 hOd
      have hrow5 := row_kept (base' := W1.heap.size) hrowd (Nat.le_refl _) (fun g cs fr _ _ hg => B5.block g (Array.getElem?_eq_some_iff.1 hg).1)
      obtain ⟨v', w6, q, hown', hgrow, hwh⟩ := run_append_new (P := Tryz.prog) (w := w5.alloc (.cells #[.string (bs (baseL x))] 9)) W1.heap.size 40 40 9 i0 (.string ⟨#[]⟩) 1 16 Tryz.underlying40 hi hz0 hz1 hz2 rfl (by decide) v _ _ (hrow5.alloc _) ⟨w5.heap.size, 0, none⟩ 1 1 [.string (bs (baseL x))] rfl (cells_new1 w5 _ _) (by intro u hu; simp at hu; subst hu; rfl) (by unfold maxLen; omega) (by omega) (by have := B5.size; rw [World.size_alloc]; omega)
      obtain ⟨g', cap', rfl⟩ := ownsRow_succ hown'
      have hc5 := hv5.cell
      have hl5 := hv5.lt
      obtain ⟨hv1, hv2, hr2, hk2, hb2⟩ := appendedR (n := W1.heap.size) hv5 (by decide) hrow5 (Nat.le_trans hszd B5.size) (Nat.le_refl _) hown' hgrow hwh
      have hc1 := hv1.cell
      have hf1 := hv1.frozen
      refine hK _ _ ?_
      clear hK K
      refine wpAnyIn_ready (rs := [3]) (by kernel_rfl) (by simp) ?_
      refine AllReadyIn.cons rfl (fun K hK => ?_) AllReadyIn.nil
      go_simp
      refine hK _ _ ?_
      clear hK K
      refine wpAnyIn_ready (rs := [4]) (by kernel_rfl) (by simp) ?_
      refine AllReadyIn.cons rfl (fun K hK => ?_) AllReadyIn.nil
      refine stepIn_append_run rfl (.tmp 11) (.tmp 14) 40 rfl v _ _ w6 rfl rfl q ?_
      refine hK _ _ ?_
      clear hK K
      refine wpAnyIn_ready (rs := [5]) (by kernel_rfl) (by simp) ?_
      refine AllReadyIn.cons rfl (fun K hK => ?_) AllReadyIn.nil
      go_simp
      refine hK _ _ ?_
      clear hK K
      refine wpAnyIn_done (by kernel_rfl) ?_ _
      exact ⟨((keepsOthers_below (W := W) (W' := w5) ⟨B5.os, B5.tape, B5.output, B5.size, B5.block⟩).trans hk2).from _, keepR_t (keepR_below ⟨B5.os, B5.tape, B5.output, B5.size, B5.block⟩ hsz hO) hb2, ⟨_, hv2, by rw [List.length_append, List.map_append]; exact hr2, trivial⟩, keepR_t HHB.out (keepR_t (keepR_below ⟨B5.os, B5.tape, B5.output, B5.size, B5.block⟩ hsz hO) hb2)⟩
    · go_simp
      refine hK _ _ ?_
      clear hK K
      refine wpAnyIn_ready (rs := [0, 2]) (by kernel_rfl) (by simp) ?_
      refine AllReadyIn.cons rfl (fun K hK => ?_) (AllReadyIn.cons rfl (fun K hK => ?_) AllReadyIn.nil)
      · go_simp
        refine hK _ _ ?_
        clear hK K
        refine wpAnyIn_ready (rs := [2]) (by kernel_rfl) (by simp) ?_
        refine AllReadyIn.cons rfl (fun K hK => ?_) AllReadyIn.nil
        go_simp
        refine ⟨trivial, rfl, ?_⟩
        refine (CallsIn.inRound l (callsIn_wide.2 HBASE.out)).mono ?_
        rintro e w5 ⟨rfl, B5⟩
        have hv5 := boxed_belowR hvd B5 hOd
        have hrow5 := row_kept (base' := W1.heap.size) hrowd (Nat.le_refl _) (fun g cs fr _ _ hg => B5.block g (Array.getElem?_eq_some_iff.1 hg).1)
        obtain ⟨v', w6, q, hown', hgrow, hwh⟩ := run_append_new (P := Tryz.prog) (w := w5.alloc (.cells #[.string (bs (baseL x))] 9)) W1.heap.size 40 40 9 i0 (.string ⟨#[]⟩) 1 16 Tryz.underlying40 hi hz0 hz1 hz2 rfl (by decide) v _ _ (hrow5.alloc _) ⟨w5.heap.size, 0, none⟩ 1 1 [.string (bs (baseL x))] rfl (cells_new1 w5 _ _) (by intro u hu; simp at hu; subst hu; rfl) (by unfold maxLen; omega) (by omega) (by have := B5.size; rw [World.size_alloc]; omega)
        obtain ⟨g', cap', rfl⟩ := ownsRow_succ hown'
        have hc5 := hv5.cell
        have hl5 := hv5.lt
        obtain ⟨hv1, hv2, hr2, hk2, hb2⟩ := appendedR (n := W1.heap.size) hv5 (by decide) hrow5 (Nat.le_trans hszd B5.size) (Nat.le_refl _) hown' hgrow hwh
        have hc1 := hv1.cell
        have hf1 := hv1.frozen
        refine hK _ _ ?_
        clear hK K
        refine wpAnyIn_ready (rs := [3]) (by kernel_rfl) (by simp) ?_
        refine AllReadyIn.cons rfl (fun K hK => ?_) AllReadyIn.nil
        go_simp
        refine hK _ _ ?_
        clear hK K
        refine wpAnyIn_ready (rs := [4]) (by kernel_rfl) (by simp) ?_
        refine AllReadyIn.cons rfl (fun K hK => ?_) AllReadyIn.nil
        refine stepIn_append_run rfl (.tmp 11) (.tmp 14) 40 rfl v _ _ w6 rfl rfl q ?_
        refine hK _ _ ?_
        clear hK K
        refine wpAnyIn_ready (rs := [5]) (by kernel_rfl) (by simp) ?_
        refine AllReadyIn.cons rfl (fun K hK => ?_) AllReadyIn.nil
        go_simp
        refine hK _ _ ?_
        clear hK K
        refine wpAnyIn_done (by kernel_rfl) ?_ _
        exact ⟨((keepsOthers_below (W := W) (W' := w5) ⟨B5.os, B5.tape, B5.output, B5.size, B5.block⟩).trans hk2).from _, keepR_t (keepR_below ⟨B5.os, B5.tape, B5.output, B5.size, B5.block⟩ hsz hO) hb2, ⟨_, hv2, by rw [List.length_append, List.map_append]; exact hr2, trivial⟩, keepR_t HHB.out (keepR_t (keepR_below ⟨B5.os, B5.tape, B5.output, B5.size, B5.block⟩ hsz hO) hb2)⟩
      · go_simp
        refine ⟨trivial, rfl, ?_⟩
        refine (CallsIn.inRound l (callsIn_wide.2 HBASE.out)).mono ?_
        rintro e w5 ⟨rfl, B5⟩
        have hv5 := boxed_belowR hvd B5 hOd
        have hrow5 := row_kept (base' := W1.heap.size) hrowd (Nat.le_refl _) (fun g cs fr _ _ hg => B5.block g (Array.getElem?_eq_some_iff.1 hg).1)
        obtain ⟨v', w6, q, hown', hgrow, hwh⟩ := run_append_new (P := Tryz.prog) (w := w5.alloc (.cells #[.string (bs (baseL x))] 9)) W1.heap.size 40 40 9 i0 (.string ⟨#[]⟩) 1 16 Tryz.underlying40 hi hz0 hz1 hz2 rfl (by decide) v _ _ (hrow5.alloc _) ⟨w5.heap.size, 0, none⟩ 1 1 [.string (bs (baseL x))] rfl (cells_new1 w5 _ _) (by intro u hu; simp at hu; subst hu; rfl) (by unfold maxLen; omega) (by omega) (by have := B5.size; rw [World.size_alloc]; omega)
        obtain ⟨g', cap', rfl⟩ := ownsRow_succ hown'
        have hc5 := hv5.cell
        have hl5 := hv5.lt
        obtain ⟨hv1, hv2, hr2, hk2, hb2⟩ := appendedR (n := W1.heap.size) hv5 (by decide) hrow5 (Nat.le_trans hszd B5.size) (Nat.le_refl _) hown' hgrow hwh
        have hc1 := hv1.cell
        have hf1 := hv1.frozen
        refine hK _ _ ?_
        clear hK K
        refine wpAnyIn_ready (rs := [0, 3]) (by kernel_rfl) (by simp) ?_
        refine AllReadyIn.cons rfl (fun K hK => ?_) (AllReadyIn.cons rfl (fun K hK => ?_) AllReadyIn.nil)
        · go_simp
          refine hK _ _ ?_
          clear hK K
          refine wpAnyIn_ready (rs := [3]) (by kernel_rfl) (by simp) ?_
          refine AllReadyIn.cons rfl (fun K hK => ?_) AllReadyIn.nil
          go_simp
          refine hK _ _ ?_
          clear hK K
          refine wpAnyIn_ready (rs := [4]) (by kernel_rfl) (by simp) ?_
          refine AllReadyIn.cons rfl (fun K hK => ?_) AllReadyIn.nil
          refine stepIn_append_run rfl (.tmp 11) (.tmp 14) 40 rfl v _ _ w6 rfl rfl q ?_
          refine hK _ _ ?_
          clear hK K
          refine wpAnyIn_ready (rs := [5]) (by kernel_rfl) (by simp) ?_
          refine AllReadyIn.cons rfl (fun K hK => ?_) AllReadyIn.nil
          go_simp
          refine hK _ _ ?_
          clear hK K
          refine wpAnyIn_done (by kernel_rfl) ?_ _
          exact ⟨((keepsOthers_below (W := W) (W' := w5) ⟨B5.os, B5.tape, B5.output, B5.size, B5.block⟩).trans hk2).from _, keepR_t (keepR_below ⟨B5.os, B5.tape, B5.output, B5.size, B5.block⟩ hsz hO) hb2, ⟨_, hv2, by rw [List.length_append, List.map_append]; exact hr2, trivial⟩, keepR_t HHB.out (keepR_t (keepR_below ⟨B5.os, B5.tape, B5.output, B5.size, B5.block⟩ hsz hO) hb2)⟩
        · go_simp
          refine hK _ _ ?_
          clear hK K
          refine wpAnyIn_ready (rs := [0]) (by kernel_rfl) (by simp) ?_
          refine AllReadyIn.cons rfl (fun K hK => ?_) AllReadyIn.nil
          go_simp
          refine hK _ _ ?_
          clear hK K
          refine wpAnyIn_ready (rs := [4]) (by kernel_rfl) (by simp) ?_
          refine AllReadyIn.cons rfl (fun K hK => ?_) AllReadyIn.nil
          refine stepIn_append_run rfl (.tmp 11) (.tmp 14) 40 rfl v _ _ w6 rfl rfl q ?_
          refine hK _ _ ?_
          clear hK K
          refine wpAnyIn_ready (rs := [5]) (by kernel_rfl) (by simp) ?_
          refine AllReadyIn.cons rfl (fun K hK => ?_) AllReadyIn.nil
          go_simp
          refine hK _ _ ?_
          clear hK K
          refine wpAnyIn_done (by kernel_rfl) ?_ _
          exact ⟨((keepsOthers_below (W := W) (W' := w5) ⟨B5.os, B5.tape, B5.output, B5.size, B5.block⟩).trans hk2).from _, keepR_t (keepR_below ⟨B5.os, B5.tape, B5.output, B5.size, B5.block⟩ hsz hO) hb2, ⟨_, hv2, by rw [List.length_append, List.map_append]; exact hr2, trivial⟩, keepR_t HHB.out (keepR_t (keepR_below ⟨B5.os, B5.tape, B5.output, B5.size, B5.block⟩ hsz hO) hb2)⟩
  case done =>
    rintro D zs W hD rfl ⟨⟨v, hv, hrow, _⟩, hB⟩ hK
    have hLL : zs.map (fun q => sv (baseL q.1)) = (zs.map fun q => baseL q.1).map sv := by rw [List.map_map]; rfl
    have hLn : zs.length = (zs.map fun q => baseL q.1).length := by rw [List.length_map]
    rw [hLL, hLn] at hrow
    have hlen : (zs.map fun q => baseL q.1).length ≤ 1000 := by rw [List.length_map]; exact hlen
    have HSORT := Lib.hid (sort_rowS W W1.heap.size v _ hrow hlen)
    have hc := hv.cell
    have HV := Lib.hid hv
    have HB := Lib.hid hB
    have HKD := Lib.hid hK
    have hrl : ∀ g, v.ownBlock = some g → W1.heap.size ≤ g ∧ ∃ cs e fr, W.heap[g]? = some (.cells cs e fr) := fun g hg => by
      rcases hrow.2 with ⟨rfl, _⟩ | ⟨g', cap, cur, rfl, hbg, hgo, _⟩
      · cases hg
      · cases hg; exact ⟨hbg, _, _, _, hgo⟩
    have HRL := Lib.hid hrl
    clear hLL hLn hrow hlen hv hB hK hrl
    gi_wp2_with fail
    refine ⟨trivial, ?_⟩
    refine (callsIn_wide.2 HSORT.out).mono ?_
    rintro e w' ⟨rfl, hC, hsz, hos, htape, hout, hfr⟩
    have hOl : w.heap.size + 1 + 1 < W.heap.size := HV.out.lt
    have hDl : D < W.heap.size := (Array.getElem?_eq_some_iff.1 HKD.out).1
    have hvO : Boxed w' (w.heap.size + 1 + 1) 40 v := (hfr _ hOl (fun e => by have := (HRL.out _ e).1; omega)).trans HV.out
    have hKD : w'.heap[D]? = some (.deferred (some [])) := (hfr _ hDl (fun e => by obtain ⟨_, _, _, _, h⟩ := HRL.out _ e; rw [HKD.out] at h; cases h)).trans HKD.out
    have hcO := hvO.cell
    have HX := Lib.hid (And.intro hC (And.intro hsz (And.intro hos (And.intro htape (And.intro hout hfr)))))
    have HKD2 := Lib.hid hKD
    clear hC hsz hos htape hout hfr hKD hvO
    gi_wp2
    refine ⟨by simp, .inl ⟨_, _, rfl, run_takeDeferred HKD2.out, ?_⟩⟩
    obtain ⟨hC, hsz, hos, htape, hout, hfr⟩ := HX.out
    refine ⟨_, results_tmp rfl _ _ _, v, rfl, ?_, ?_⟩
    · refine (hC.kept (by simp) (fun g hg => World.putObj_heap_other (fun e => ?_))).mono HB1.out.size
      subst e
      obtain ⟨_, _, _, _, h⟩ := HRL.out _ hg
      rw [HKD.out] at h
      cases h
    · have h1 : Below w.heap.size w W := HB1.out.trans (keepR_to_below HB.out (by omega) (by omega))
      refine h1.trans ⟨hos, htape, hout, by simpa using hsz, fun k hk => ?_⟩
      rw [World.putObj_heap_other (by omega)]
      have := h1.size
      exact hfr k (by omega) (fun e => by have := (HRL.out _ e).1; omega)
  case stop =>
    rintro D c pre W _ _ h _
    exact h.elim
section
variable {w : World} {lo : Nat → Prop} {b mb : Nat} {root : Bytes} {at_ : Int} {M : List (Bytes × Nd)}
theorem TreeAt.kids_any (T : TreeAt w lo b mb root at_ M) (hM : M.length ≤ 1000) (hmx : MaxInt w) (hkl : ∀ x ∈ M, x.1.length ≤ 1000) (p : Bytes) :
    Calls Tryz.prog 28 #[.pointer (some ⟨b, 0, none⟩), .string (bs p)] w fun e W' => ∃ v, e = .returned v ∧ RowC W' w.heap.size v (kidsS root M p) ∧ Below w.heap.size w W' := by
  have hbl : b < w.heap.size := lt_of_block T.blk
  obtain ⟨K, hK⟩ := keys_of (keysS M) (keysS_short hkl)
  have hLL : (K.filter fun q => kidB root p q.1).map (fun q => baseL q.1) = ((keysS M).filter (kidB root p)).map baseL := by
    rw [← hK, ← keys_filter, List.map_map]
    rfl
  have hfl : (K.filter fun q => kidB root p q.1).length ≤ 1000 := by
    have h1 := kids_len root M p
    rw [← hLL, List.length_map] at h1
    omega
  unfold kidsS
  rw [← hLL]
  refine kids_of w (some ⟨b, 0, none⟩) p (K.filter fun q => kidB root p q.1) hfl hmx fun W1 hB1 hs1 bt bp bo bt2 bw => ?_
  intro l J Jx W hW hJ _ hY h0
  have hbt2 := boxed_belowR bt2 hW (by omega)
  have hbw := boxed_belowR bw hW (by omega)
  have hbo := boxed_belowR bo hW (by omega)
  have hbW : Below w.heap.size w W := hB1.trans (hW.mono hB1.size)
  refine seq_kid 1 l (w.heap.size + 1 + 1 + 1) (w.heap.size + 1 + 1 + 1 + 1) W1.heap.size (w.heap.size + 1 + 1) b mb lo root at_ M hM K hK (fun q => kidB root p q.1) (w.heap.size + 1) w.heap.size J Jx hY W hJ hW.size (by omega) (by omega) (by omega) (by omega) (by omega) (by omega) (by omega)
    hbt2.cell hbw.cell (T.below hbW) (by rw [rowOf_boxed hbo]; rfl) ?_ h0
  intro W' hk q hq
  have hb' : Below w.heap.size w W' := hbW.trans (keepR_to_below hk (by omega) (by omega))
  have T' := T.below hb'
  exact kid_any root p q.1 (w.heap.size + 1) w.heap.size b W' (hmx.kept hb') q.2 (boxed_keepR (boxed_belowR bp hW (by omega)) hk (by omega) (by omega)).cell (boxed_keepR (boxed_belowR bt hW (by omega)) hk (by omega) (by omega)).cell T'.cells.1
end
/-! of nil -/
set_option maxRecDepth 100000 in
theorem seq_nil (n l tB wB : Nat) (J Jx : List Key → World → Prop) (W : World) (ht : W.cell? ⟨tB, 0, none⟩ = some (.pointer none)) (h0 : J [] W) :
    CallsIn Fence.wide n Tryz.prog 69 #[.func (.yield l) #[] #[], .pointer (some ⟨tB, 0, none⟩), .pointer (some ⟨wB, 0, none⟩)] W fun e W' => (∃ v, e = .returned v) ∧
      ((∃ ys, ys = ([] : List Key) ∧ J ys W') ∨ (∃ pre, pre <+: ([] : List Key) ∧ Jx pre W')) := by
  refine callsIn_of_wp Tryz.func69 rfl trivial ?_ rfl
  simp only [Tryz.ntmps69, List.size_toArray, List.length_cons, List.length_nil, Nat.reduceAdd, Nat.reduceSub, Array.replicate_succ, Array.replicate_zero, List.push_toArray, List.append_toArray, List.nil_append, List.cons_append]
  gi_wp2
  refine bodyPost_ret (results_none rfl _ _ _) rfl ?_
  exact ⟨⟨_, rfl⟩, .inl ⟨[], rfl, h0⟩⟩
theorem kidsNil (w : World) (hmx : MaxInt w) (p : Bytes) : Calls Tryz.prog 28 #[.pointer none, .string (bs p)] w fun e W' => ∃ v, e = .returned v ∧ RowC W' w.heap.size v [] ∧ Below w.heap.size w W' := by
  have h := kids_of w none p [] (by simp) hmx fun W1 hB1 hs1 bt bp bo bt2 bw => by
    intro l J Jx W hW hJ _ hY h0
    exact seq_nil 1 l _ _ J Jx W (boxed_belowR bt2 hW (by omega)).cell h0
  simpa [sortS] using h
end Go.Proofs.YtnclkfhdpkkakaaGreatDoor

namespace Go.Proofs.YtnclkfhdpkkakaaGreatDoor
set_option linter.unusedVariables false
set_option linter.unusedSimpArgs false
set_option linter.unusedVariables false
set_option linter.unusedSimpArgs false
open Go Go.RowKit Go.Shelf Go.MapKept Go.ChangeMaps Go.Maps Go.Sort

theorem ByteSl.map {w w' : World} {lo : Nat → Prop} {hi mb : Nat} {a : Option Addr} {D : Bytes} (h : ByteSl w lo hi a D) {es : Array MapEntry} {c : Nat} (hmb : w.heap[mb]? = some (.map es c)) (hk : Kept (· = mb) w w') (hw : hi ≤ w.heap.size) : ByteSl w' lo hi a D := fun j x hj => by
  obtain ⟨b, off, h1, h2, h3, h4⟩ := h j x hj
  refine ⟨b, off, h1, h2, h3, (hk.cell (p := ⟨b, off + j, none⟩) (Nat.lt_of_lt_of_le h3 hw) (fun e => ?_)).trans h4⟩
  have e : b = mb := e
  subst e
  simp [World.cell?, hmb] at h4
theorem Reads.map {w w' : World} {lo : Nat → Prop} {mb : Nat} {r : Raw} {d : Nd} (h : Reads w lo r d) {es : Array MapEntry} {c : Nat} (hmb : w.heap[mb]? = some (.map es c)) (hk : Kept (· = mb) w w') : Reads w' lo r d :=
  ⟨h.num, h.len, (h.data.map hmb hk (Nat.le_refl _)).mono (fun _ h => h) hk.size, h.nil⟩
/-- Whether a node may go; what is left. -/
def goneE (root : Bytes) (M : List (Bytes × Nd)) (p : Bytes) : Int := if p = root then 30 else if (getA p M).isSome = false then 31 else if 0 < (kidsS root M p).length then 33 else 0
def goneM (root : Bytes) (M : List (Bytes × Nd)) (p : Bytes) : List (Bytes × Nd) := if goneE root M p = 0 then delA p M else M
section
variable {w : World} {lo : Nat → Prop} {b mb : Nat} {root : Bytes} {at_ : Int} {M : List (Bytes × Nd)}
/-- The tree stands where its map's block is put anew. -/
theorem TreeAt.setMap (T : TreeAt w lo b mb root at_ M) {m : List (Bytes × Raw)} {M' : List (Bytes × Nd)} {w' : World} (hk : Kept (· = mb) w w') (hm : HasMap Tryz.prog 9 sv Raw.val w' mb m) (hl : Like w lo m M') (hbm : b ≠ mb) : TreeAt w' lo b mb root at_ M' := by
  obtain ⟨m0, hm0, _⟩ := T.map
  obtain ⟨es, c, he, _⟩ := hm0
  exact ⟨(hk.block b (lt_of_block T.blk) hbm).trans T.blk, m, hm, hl.imp fun r d h => h.map he hk⟩
theorem TreeAt.ne (T : TreeAt w lo b mb root at_ M) : b ≠ mb := fun e => by
  obtain ⟨m0, hm0, _⟩ := T.map
  obtain ⟨es, c, he, _⟩ := hm0
  have := T.blk
  rw [e, he] at this
  cases this
def GonePost (T' : Prop) (e : Ending) (x : Int) (K : Prop) : Prop := e = .returned (.int .i64 x) ∧ T' ∧ K
set_option maxRecDepth 100000 in
set_option maxHeartbeats 4000000 in
theorem TreeAt.gone_any (T : TreeAt w lo b mb root at_ M) (hM : M.length ≤ 1000) (hmx : MaxInt w) (hkl : ∀ x ∈ M, x.1.length ≤ 1000) (p : Bytes) (hp : p.length ≤ 1000) :
    Calls Tryz.prog 36 #[.pointer (some ⟨b, 0, none⟩), .string (bs p)] w fun e w' => e = .returned (.int .i64 (goneE root M p)) ∧ TreeAt w' lo b mb root at_ (goneM root M p) ∧ Kept (· = mb) w w' := by
  obtain ⟨r, hr, hq⟩ := T.look (p := p) (by unfold maxLen; omega)
  have q := hq w rfl
  have hbl : b < w.heap.size := lt_of_block T.blk
  obtain ⟨c0, c1, c2⟩ := T.cells
  obtain ⟨a, n, c, ⟨v1, v2, v3, v4, v5, v6, v7, v8⟩⟩ := r
  unfold Raw.val Raw.cells Nums.cells at q
  dsimp only at q
  obtain ⟨w2, hw2⟩ : ∃ w2, w2 = w.alloc (.cells #[.slice a n c, .int .u32 v1, .int .u32 v2, .int .u32 v3, .int .i64 v4, .int .u32 v5, .int .u64 v6, .int .u64 v7, .int .u64 v8] 39) := ⟨_, rfl⟩
  have hb2 : Below w.heap.size w w2 := by rw [hw2]; exact belowA (Below.refl _ w) _
  have hk2 : Kept (· = mb) w w2 := by rw [hw2]; exact (Kept.refl _ w).alloc _
  have HW2 := Lib.hid hw2
  have d0 : w2.cell? ⟨b, 0, none⟩ = some (.string (bs root)) := (hb2.cell (p := ⟨b, 0, none⟩) hbl).trans c0
  have d2 : w2.cell? ⟨b, 2, none⟩ = some (.map (some mb)) := (hb2.cell (p := ⟨b, 2, none⟩) hbl).trans c2
  have HT := Lib.hid T
  have HT2 := Lib.hid (T.below hb2)
  have HK2 := Lib.hid hk2
  have HM2 := Lib.hid (hmx.kept hb2)
  have t1 := eq_bs p root
  unfold goneM goneE
  clear hq hr hw2 hb2 hk2 hmx T
  by_cases h1 : p = root
  · rw [if_pos h1]
    rw [show decide (p = root) = true by simpa using h1] at t1
    clear h1
    go_enter Tryz.func36, Tryz.ntmps36
    go_wp2_with fail
    rw [← HW2.out]
    go_wp2
    go_ret
    exact ⟨rfl, by simpa using HT2.out, HK2.out⟩
  · rw [if_neg h1]
    rw [show decide (p = root) = false by simpa using h1] at t1
    clear h1
    cases hs : (getA p M).isSome with
    | false =>
      rw [hs] at q
      rw [if_pos rfl]
      have HS := Lib.hid hs
      clear hs
      go_enter Tryz.func36, Tryz.ntmps36
      go_wp2_with fail
      rw [← HW2.out]
      go_wp2
      go_ret
      exact ⟨rfl, by simpa using HT2.out, HK2.out⟩
    | true =>
      rw [hs] at q
      rw [if_neg (by simp)]
      have HS := Lib.hid hs
      have HKIDS := Lib.hid (HT2.out.kids_any hM HM2.out hkl p)
      have hkn : (kidsS root M p).length ≤ 1000 := by
        have h1 : (kidsS root M p).length = _ := (sortS_perm _).length_eq
        have h2 := kids_len root M p
        omega
      have HMM := Lib.hid (And.intro hM hkl)
      clear hs hM hkl
      generalize kidsS root M p = ks at *
      by_cases h0 : 0 < ks.length
      · rw [if_pos h0]
        have h0d : decide ((0 : Int) < (ks.length : Int)) = true := by simpa using h0
        go_enter Tryz.func36, Tryz.ntmps36
        go_wp2_with fail
        rw [← HW2.out]
        go_wp2_with fail
        refine HKIDS.out.mono ?_
        rintro e w3 ⟨v, rfl, hR, B3⟩
        obtain ⟨a3, c3, rfl, _⟩ := hR.form
        have HX := Lib.hid (And.intro hR B3)
        clear hR B3
        go_wp2
        go_ret
        obtain ⟨hR, B3⟩ := HX.out
        refine ⟨rfl, by simpa using HT2.out.below B3, HK2.out.trans ⟨B3.os, B3.tape, B3.output, B3.size, fun k hk _ => B3.block k hk⟩⟩
      · rw [if_neg h0]
        have h0d : decide ((0 : Int) < (ks.length : Int)) = false := by simpa using h0
        go_enter Tryz.func36, Tryz.ntmps36
        go_wp2_with fail
        rw [← HW2.out]
        go_wp2_with fail
        refine HKIDS.out.mono ?_
        rintro e w3 ⟨v, rfl, hR, B3⟩
        obtain ⟨a3, c3, rfl, _⟩ := hR.form
        have hT3 := HT2.out.below B3
        obtain ⟨e0, e1, e2⟩ := hT3.cells
        obtain ⟨m3, hm3, hl3⟩ := hT3.map
        obtain ⟨lk, hlk⟩ := sv_key (p := p) (by unfold maxLen; omega)
        obtain ⟨o, ho⟩ := hm3.drop keyStr sv_inj Tryz.underlying84 hlk
        have qd := fun ty => (ho w3 ty rfl).1
        have hd := (ho w3 0 rfl).2
        unfold sv at qd
        have hks : Kept (· = mb) w3 (setBlock w3 mb o) := kept_setBlock hm3.lt o
        have hT4 := hT3.setMap hks hd (hl3.del p) hT3.ne
        have hk3 : Kept (· = mb) w (setBlock w3 mb o) := (HK2.out.trans ⟨B3.os, B3.tape, B3.output, B3.size, fun k hk _ => B3.block k hk⟩).trans hks
        have HX := Lib.hid (And.intro hT4 hk3)
        clear hR B3 hT3 e0 e1 hm3 hl3 hlk ho hd hks hT4 hk3
        go_wp2
        go_ret
        obtain ⟨hT4, hk3⟩ := HX.out
        exact ⟨rfl, by simpa using hT4, hk3⟩
end
end Go.Proofs.YtnclkfhdpkkakaaGreatDoor
