/-
  Paths, walked: the iterator's paths collected.
-/
import Derived.Test.YtkhoeiapfoaapaaGreatDoorTr9
namespace Go.Proofs.YtkhoeiapfoaapaaGreatDoor
set_option linter.unusedVariables false
set_option linter.unusedSimpArgs false
set_option linter.unusedVariables false
set_option linter.unusedSimpArgs false
open Go Go.RowKit Go.Shelf Go.MapKept Go.ChangeMaps Go.Maps Go.Sort

attribute [local go_sem] Oper.semAt_some

theorem cells_new1 (w : World) (v : Value) (t : TypeId) : ∀ j u, [v][j]? = some u → (w.alloc (.cells #[v] t)).cell? ((⟨w.heap.size, 0, none⟩ : Addr).add j) = some u := by
  intro j u hu
  have hadd : (⟨w.heap.size, 0, none⟩ : Addr).add j = ⟨w.heap.size, j, none⟩ := by unfold Addr.add; split <;> simp_all
  rw [hadd, cell_of_row _ _ j #[v] t (0, 0) (heap_alloc_new w _)]
  simpa using hu
theorem row_kept {w w' : World} {base base' : Nat} {e : TypeId} {size : Nat} {v : Value} {n : Nat} {xs : List Value} (h : w.ownsRow base e size v n xs) (hb : base' ≤ base) (hk : ∀ g cs fr, v.ownBlock = some g → base ≤ g → w.heap[g]? = some (.cells cs e fr) → w'.heap[g]? = w.heap[g]?) : w'.ownsRow base' e size v n xs := by
  refine ⟨h.1, ?_⟩
  rcases h.2 with h0 | ⟨g, cap, cur, rfl, hbg, hg, r⟩
  · exact .inl h0
  · exact .inr ⟨g, cap, cur, rfl, by omega, (hk g _ _ rfl hbg hg).trans hg, r⟩
theorem RowS.below {w w' : World} {base : Nat} {v : Value} {L : List Bytes} (h : RowS w base v L) (hb : Below w.heap.size w w') : RowS w' base v L :=
  row_kept h (Nat.le_refl _) fun g cs fr _ _ hg => hb.block g (Array.getElem?_eq_some_iff.1 hg).1
theorem RowS.mono {w : World} {base base' : Nat} {v : Value} {L : List Bytes} (h : RowS w base v L) (hb : base' ≤ base) : RowS w base' v L :=
  row_kept h hb fun _ _ _ _ _ _ => rfl
theorem keysS_short {M : List (Bytes × Nd)} (h : ∀ x ∈ M, x.1.length ≤ 1000) : ∀ q ∈ keysS M, q.length ≤ 1000 := fun q hq => by
  obtain ⟨x, hx, rfl⟩ := List.mem_map.1 ((sortS_perm _).mem_iff.1 hq)
  exact h x hx
theorem two_boxes (w : World) (a1 a2 : Value) (t1 t2 : TypeId) (W : World) (h : W = (w.alloc (.cells #[a1] t1)).alloc (.cells #[a2] t2)) :
    Below w.heap.size w W ∧ W.heap.size = w.heap.size + 2 ∧ Boxed W w.heap.size t1 a1 ∧ Boxed W (w.heap.size + 1) t2 a2 := by
  subst h
  have b1 := Boxed.new w t1 a1
  have b2 := Boxed.new (w.alloc (.cells #[a1] t1)) t2 a2
  simp only [World.size_alloc] at b2
  exact ⟨belowA (belowA (Below.refl _ w) _) _, by simp, b1.alloc _, b2⟩

set_option maxRecDepth 100000 in
set_option maxHeartbeats 4000000 in
theorem appendSeq_of (tB wB : Nat) (ys : List Key) (hlen : ys.length ≤ 1000) (w : World)
    (hseq : ∀ W, W = w.alloc (.cells #[.slice none 0 0] 49) → SeqStopsK Fence.wide 1 Tryz.prog 52 #[.pointer (some ⟨tB, 0, none⟩), .pointer (some ⟨wB, 0, none⟩)] (fun x : Key => #[sv x.1]) (KeepR (w.heap.size + 1) w.heap.size) (fun zs => zs = ys) (fun pre => pre <+: ys) 1000 W) :
    Calls Tryz.prog 51 #[.slice none 0 0, .func (.func 52) #[] #[.pointer (some ⟨tB, 0, none⟩), .pointer (some ⟨wB, 0, none⟩)]] w fun e W' => ∃ v, e = .returned v ∧ RowS W' w.heap.size v (ys.map (·.1)) ∧ Below w.heap.size w W' := by
  obtain ⟨i0, hi, hz0, hz1, hz2⟩ := info_parts infoStr
  refine (callsIn_wide (n := 2)).1 ?_
  refine callsIn_of_wp_marks Tryz.func51 rfl trivial ?_ rfl
  simp only [Tryz.ntmps51, List.size_toArray, List.length_cons, List.length_nil, Nat.reduceAdd, Nat.reduceSub, Array.replicate_succ, Array.replicate_zero, List.push_toArray, List.append_toArray, List.nil_append, List.cons_append]
  gi_wp2
  have bO := Boxed.new w 49 (.slice none 0 0)
  refine wpIn_rangeFunc_ownG (α := Key) rfl (by omega) (gf := 52) (lb := #[.pointer (some ⟨tB, 0, none⟩), .pointer (some ⟨wB, 0, none⟩)]) rfl trivial (enters_of Tryz.func52 (by kernel_rfl) rfl)
    (hseq _ rfl) keepR_t (keepR_b (by simp) (by simp)) (Below.refl _ _) (fun _ => rfl)
    (fun pre W => (∃ v, Boxed W w.heap.size 49 v ∧ W.ownsRow (w.heap.size + 1) 9 1 v pre.length (pre.map fun q => sv q.1) ∧ True) ∧ KeepR (w.heap.size + 1) w.heap.size (w.alloc (.cells #[.slice none 0 0] 49)) W)
    (fun _ _ _ => False)
    (OwnFrom.and (Own.from (holdsRow_own (w.heap.size + 1) w.heap.size 49 9 1 (fun pre : List Key => pre.length) (fun pre => pre.map fun q => sv q.1) (fun _ _ => True)) _) (ownFrom_keepR (by simp) (by omega) (by simp)))
    (fun _ _ _ _ _ hs _ _ => hs)
    ⟨⟨_, bO, World.ownsRow_nil _ _ _ _, trivial⟩, keepR_refl _ _ _⟩
    (fun x => { tmps := #[.slice none 0 0, .func (.func 52) #[] #[.pointer (some ⟨tB, 0, none⟩), .pointer (some ⟨wB, 0, none⟩)], .pointer (some ⟨w.heap.size, 0, none⟩), undef, .slice none 0 0, sv x.1, .func (.func 52) #[] #[.pointer (some ⟨tB, 0, none⟩), .pointer (some ⟨wB, 0, none⟩)], sv x.1, undef, undef, undef, undef, undef], defers := [] }) ?assign ?body ?done ?stop
  case assign =>
    intro l x W K hK
    unfold sv at *
    gi_wp2
    exact hK
  case body =>
    rintro l pre x W ⟨⟨v, hv, hrow, _⟩, hB⟩ hlt
    have hc := hv.cell
    have hsz := hB.size
    simp only [World.size_alloc] at hsz
    unfold sv
    gi_wp2_with (gi_at_builtin; refine wpListIn_append_new _ rfl _ _ 49 rfl (w.heap.size + 1) 9 i0 (.string ⟨#[]⟩) 1 16 Tryz.underlying49 hi hz0 hz1 hz2 rfl (by decide) _ _ _ rfl (hrow.alloc _) ⟨W.heap.size, 0, none⟩ 1 1 [.string (bs x.1)] rfl rfl (cells_new1 W _ _) (by intro u hu; simp at hu; subst hu; rfl) (by unfold maxLen; omega) (by omega) (by simp; omega) ?_; intro v' w1 hown' hgrow hwh; obtain ⟨g', cap', rfl⟩ := ownsRow_succ hown'; obtain ⟨hv1, hv2, hr2, hk2, hb2⟩ := appendedR (n := w.heap.size + 1) hv (by decide) hrow hsz (Nat.le_refl _) hown' hgrow hwh; have hc1 := hv1.cell; have hf1 := hv1.frozen)
    exact ⟨hk2.from _, hb2, ⟨_, hv2, by rw [List.length_append, List.map_append]; exact hr2, trivial⟩, keepR_t hB hb2⟩
  case done =>
    rintro D ys W hD rfl ⟨⟨v, hv, hrow, _⟩, hB⟩ hK
    have hc := hv.cell
    gi_wp2
    refine ⟨by simp, .inl ⟨_, _, rfl, run_takeDeferred hK, ?_⟩⟩
    refine ⟨_, results_tmp rfl _ _ _, v, rfl, ?_, ?_⟩
    · refine RowS.mono (base := w.heap.size + 1) ?_ (by omega)
      have h := ownsRow_putObj hrow (.deferred none) hK rfl
      unfold RowS
      rw [List.length_map, List.map_map]
      exact h
    · have h1 : Below w.heap.size w W := (belowA (Below.refl _ w) _).trans (keepR_to_below hB (by omega) (by omega))
      refine h1.trans ⟨rfl, rfl, rfl, by simp, fun k hk => World.putObj_heap_other (by simp at hD; omega)⟩
  case stop =>
    rintro D c pre W _ _ h _
    exact h.elim

set_option maxRecDepth 100000 in
set_option maxHeartbeats 4000000 in
theorem collect_of (tB wB : Nat) (w : World) (ys : List Bytes) (h : Calls Tryz.prog 51 #[.slice none 0 0, .func (.func 52) #[] #[.pointer (some ⟨tB, 0, none⟩), .pointer (some ⟨wB, 0, none⟩)]] w fun e W' => ∃ v, e = .returned v ∧ RowS W' w.heap.size v ys ∧ Below w.heap.size w W') :
    Calls Tryz.prog 32 #[.func (.func 52) #[] #[.pointer (some ⟨tB, 0, none⟩), .pointer (some ⟨wB, 0, none⟩)]] w fun e W' => ∃ v, e = .returned v ∧ RowS W' w.heap.size v ys ∧ Below w.heap.size w W' := by
  have H := Lib.hid h
  clear h
  go_enter Tryz.func32, Tryz.ntmps32
  go_wp2_with fail
  refine H.out.mono ?_
  rintro e W' ⟨v, rfl, hR⟩
  have HR := Lib.hid hR
  clear hR
  go_wp2
  go_ret
  exact ⟨v, rfl, HR.out⟩
section
variable {w : World} {lo : Nat → Prop} {b mb : Nat} {root : Bytes} {at_ : Int} {M : List (Bytes × Nd)}
set_option maxRecDepth 100000 in
set_option maxHeartbeats 4000000 in
theorem TreeAt.paths_any (T : TreeAt w lo b mb root at_ M) (hM : M.length ≤ 1000) (hkl : ∀ x ∈ M, x.1.length ≤ 1000) :
    Calls Tryz.prog 18 #[.pointer (some ⟨b, 0, none⟩)] w fun e W' => ∃ v, e = .returned v ∧ RowS W' w.heap.size v (keysS M) ∧ Below w.heap.size w W' := by
  have hbl : b < w.heap.size := lt_of_block T.blk
  obtain ⟨K, hK⟩ := keys_of (keysS M) (keysS_short hkl)
  have hKl : K.length ≤ 1000 := by rw [key_len' hK]; exact hM
  obtain ⟨w2, hw2⟩ : ∃ w2, w2 = (w.alloc (.cells #[.pointer (some ⟨b, 0, none⟩)] 24)).alloc (.cells #[.func (.func 34) #[] #[]] 71) := ⟨_, rfl⟩
  obtain ⟨hB2, hs2, b1, b2⟩ := two_boxes w _ _ _ _ w2 hw2
  have key := appendSeq_of w.heap.size (w.heap.size + 1) K hKl w2 (by
    intro W hW
    intro l J Jx W3 hW3 hJ _ hY h0
    have hWs : W.heap.size = w.heap.size + 3 := by rw [hW]; simp; omega
    have hb2W : Below w2.heap.size w2 W := by rw [hW]; exact belowA (Below.refl _ _) _
    have hb23 : Below w2.heap.size w2 W3 := hb2W.trans (hW3.mono hb2W.size)
    have hb03 : Below w.heap.size w W3 := hB2.trans (hb23.mono hB2.size)
    have hO : Boxed W3 w2.heap.size 49 (.slice none 0 0) := boxed_belowR (by rw [hW]; exact Boxed.new w2 49 (.slice none 0 0)) hW3 (by omega)
    have hsz3 := hW3.size
    have key := seq_yes 1 l w.heap.size (w.heap.size + 1) (w2.heap.size + 1) w2.heap.size b mb lo root at_ M hM K hK (fun _ => true) J Jx hY W3 hJ (by omega) (by omega) (by omega) (by omega) (by omega) (by omega) (by omega) (by omega)
      (boxed_belowR b1 hb23 (by omega)).cell (boxed_belowR b2 hb23 (by omega)).cell (T.below hb03) (by rw [rowOf_boxed hO]; rfl) (fun W' _ q _ => (yes_any q.1 W').mono fun e w' ⟨he, hw⟩ => ⟨he, by rw [hw]; exact Below.refl _ _⟩) h0
    rw [List.filter_eq_self.2 (by simp)] at key
    exact key)
  rw [hK] at key
  have HKEY := Lib.hid key
  have HB2 := Lib.hid hB2
  have HW2 := Lib.hid hw2
  clear key hB2 hw2 b1 b2 hs2 T hK hKl
  go_enter Tryz.func18, Tryz.ntmps18
  go_wp2_with fail
  refine (all_any _ _ _ rfl rfl).mono ?_
  rintro e w' ⟨rfl, rfl⟩
  go_wp2_with fail
  rw [← HW2.out]
  refine (collect_of _ _ _ _ HKEY.out).mono ?_
  rintro e W' ⟨v, rfl, hr, hb⟩
  have HR := Lib.hid hr
  have HB := Lib.hid hb
  clear hr hb
  go_wp2
  go_ret
  exact ⟨v, rfl, HR.out.mono HB2.out.size, HB2.out.trans (HB.out.mono HB2.out.size)⟩
end
end Go.Proofs.YtkhoeiapfoaapaaGreatDoor
