/-
  The iterator over a tree's paths that a condition holds of, walked.
-/
import Derived.Test.YtkhoeiapfoaapaaGreatDoorTr8
import Derived.Test.YtkhoeiapfoaapaaGreatDoorAppIn
import Derived.Maps.OwnSet
namespace Go.Proofs.YtkhoeiapfoaapaaGreatDoor
set_option linter.unusedVariables false
set_option linter.unusedSimpArgs false
set_option linter.unusedVariables false
set_option linter.unusedSimpArgs false
open Go Go.RowKit Go.Shelf Go.MapKept Go.ChangeMaps Go.Maps Go.Sort

attribute [local go_sem] Oper.semAt_some

theorem leB_trans (a b c : Bytes) (h1 : decide (a ≤ b) = true) (h2 : decide (b ≤ c) = true) : decide (a ≤ c) = true := by
  simp only [decide_eq_true_eq] at *; exact List.le_trans h1 h2
theorem leB_total (a b : Bytes) : (decide (a ≤ b) || decide (b ≤ a)) = true := by
  simp only [Bool.or_eq_true, decide_eq_true_eq]; exact List.le_total a b
def sortS (L : List Bytes) : List Bytes := L.mergeSort fun x y => decide (x ≤ y)
theorem sortS_perm (L : List Bytes) : (sortS L).Perm L := List.mergeSort_perm L _
theorem sortS_sorted (L : List Bytes) : (sortS L).Pairwise (fun x y => x ≤ y) := by
  have := List.pairwise_mergeSort (le := fun x y : Bytes => decide (x ≤ y)) leB_trans leB_total L
  exact this.imp fun h => by simpa using h
theorem sorted_unique {a b : List Bytes} (h1 : a.Pairwise (fun x y => x ≤ y)) (h2 : b.Pairwise (fun x y => x ≤ y)) (h : a.Perm b) : a = b :=
  List.Perm.eq_of_pairwise (fun _ _ _ _ h1 h2 => List.le_antisymm h1 h2) h1 h2 h
theorem sortS_congr {a b : List Bytes} (h : a.Perm b) : sortS a = sortS b :=
  sorted_unique (sortS_sorted a) (sortS_sorted b) (((sortS_perm a).trans h).trans (sortS_perm b).symm)
/-- The paths in order. -/
def keysS (M : List (Bytes × Nd)) : List Bytes := sortS (M.map (·.1))
theorem keysS_len (M : List (Bytes × Nd)) : (keysS M).length = M.length := by
  have := (sortS_perm (M.map (·.1))).length_eq
  simpa [keysS] using this
theorem filter_hit {α : Type} (f : α → Bool) {L : List α} {k : Nat} {e : α} (hk : L[k]? = some e) (h : f e = true) : (L.take (k + 1)).filter f = (L.take k).filter f ++ [e] := by
  rw [List.take_add_one, hk]
  simp [h]
theorem filter_miss {α : Type} (f : α → Bool) {L : List α} {k : Nat} {e : α} (hk : L[k]? = some e) (h : f e = false) : (L.take (k + 1)).filter f = (L.take k).filter f := by
  rw [List.take_add_one, hk]
  simp [h]
theorem filter_pre {α : Type} (f : α → Bool) (L : List α) (k : Nat) : (L.take k).filter f <+: L.filter f := by
  conv => rhs; rw [← List.take_append_drop k L, List.filter_append]
  exact List.prefix_append _ _
/-- A row of texts as it lies. -/
def RowS (w : World) (base : Nat) (v : Value) (L : List Bytes) : Prop := w.ownsRow base 9 1 v L.length (L.map sv)
theorem RowS.at {w : World} {base : Nat} {v : Value} {L : List Bytes} (h : RowS w base v L) : (v = .slice none 0 0 ∧ L = []) ∨ ∃ g cap, v = .slice (some ⟨g, 0, none⟩) L.length cap ∧ base ≤ g ∧ g < w.heap.size ∧ L.length ≤ cap ∧ (∃ o, w.heap[g]? = some o ∧ o.isCells = true) ∧ ∀ i p, L[i]? = some p → w.cell? ⟨g, i, none⟩ = some (.string (bs p)) := by
  rcases h.2 with ⟨h1, h0⟩ | ⟨g, cap, cur, h1, hbg, hg, hnc, hcm, hcs, htk⟩
  · exact .inl ⟨h1, List.eq_nil_of_length_eq_zero h0⟩
  · subst h1
    refine .inr ⟨g, cap, rfl, hbg, (Array.getElem?_eq_some_iff.1 hg).1, hnc, ⟨_, hg, rfl⟩, fun i p hp => ?_⟩
    have := h.cells (g := g) rfl i (sv p) (by simp [hp])
    rw [Addr.add_lit] at this
    rw [Nat.zero_add] at this
    exact this
/-- A path that is not too long. -/
abbrev Key := {q : Bytes // q.length ≤ 1000}
theorem keys_of (L : List Bytes) (h : ∀ q ∈ L, q.length ≤ 1000) : ∃ K : List Key, K.map (·.1) = L := by
  induction L with
  | nil => exact ⟨[], rfl⟩
  | cons x L ih =>
    obtain ⟨K, hK⟩ := ih (fun q hq => h q (List.mem_cons_of_mem _ hq))
    exact ⟨⟨x, h x (List.mem_cons_self ..)⟩ :: K, by rw [List.map_cons, hK]⟩
theorem key_len' {K : List Key} {M : List (Bytes × Nd)} (hK : K.map (·.1) = keysS M) : K.length = M.length := by
  have := congrArg List.length hK
  simpa [keysS_len] using this
theorem keys_filter (f : Bytes → Bool) (K : List Key) : (K.filter fun q => f q.1).map (·.1) = (K.map (·.1)).filter f := by
  rw [List.filter_map]
  rfl
theorem keys_sorted {w : World} {mb : Nat} {m : List (Bytes × Raw)} {M : List (Bytes × Nd)} {lo : Nat → Prop} (hm : HasMap Tryz.prog 9 sv Raw.val w mb m) (hl : Like w lo m M) (hM : M.length ≤ 1000) :
    CallsIn Fence.wide 5 Tryz.prog 53 #[.func (.func 63) #[] #[.pointer (some ⟨w.heap.size, 0, none⟩)]] (w.alloc (.cells #[.map (some mb)] 46)) fun e w' => ∃ v : Value, e = .returned v ∧
      RowS w' (w.heap.size + 1) v (keysS M) ∧ Below w.heap.size w w' := by
  obtain ⟨D0, hD, hp⟩ := owns_of hm (by rw [hl.len]; exact hM)
  have hsz : Go.Maps.size D0 ≤ m.length := hD.size_le
  have hlm := hl.len
  refine (Tryz.slices_Sorted_keys_53_54 mb m.length D0 anyR w hD (by unfold maxLen; omega) (by omega)).mono ?_
  rintro e w' ⟨v, ss, rfl, hss, hown, _, hb⟩
  have hs : keysS M = ss.mergeSort (fun x y => decide (x ≤ y)) := by
    unfold keysS
    rw [← hl.keys]
    exact sortS_congr (hp.symm.trans hss.symm)
  refine ⟨v, rfl, ?_, ?_⟩
  · unfold RowS
    rw [hs, List.length_mergeSort]
    have : ((w.alloc (.cells #[.map (some mb)] 46)).heap.size) = w.heap.size + 1 := by simp
    rw [this] at hown
    exact hown
  · exact (belowA (Below.refl _ w) _).trans (hb.mono (by simp))

set_option maxRecDepth 100000 in
set_option maxHeartbeats 4000000 in
theorem seq_yes (n l tB wB n₀ OB b mb : Nat) (lo : Nat → Prop) (root : Bytes) (at_ : Int) (M : List (Bytes × Nd)) (hM : M.length ≤ 1000) (K : List Key) (hK : K.map (·.1) = keysS M) (f : Key → Bool)  (J Jx : List Key → World → Prop)
    (hY : ∀ pre x W, J pre W → pre.length < 1000 → YieldAt Fence.wide (n - 1) Tryz.prog l #[sv x.1] W fun e W' =>
      (e = .returned (.bool true) ∧ J (pre ++ [x]) W' ∧ KeepR n₀ OB W W') ∨ (e = .returned (.bool false) ∧ Jx (pre ++ [x]) W'))
    (W : World) (hJ : AbidesFrom W.heap.size J) (hn : n₀ ≤ W.heap.size) (htB : tB < n₀) (htO : tB ≠ OB) (hwB : wB < n₀) (hwO : wB ≠ OB) (hb : b < n₀) (hbO : b ≠ OB) (hOB : OB < n₀)
    (ht : W.cell? ⟨tB, 0, none⟩ = some (.pointer (some ⟨b, 0, none⟩))) (hw : W.cell? ⟨wB, 0, none⟩ = some (.func (.func 34) #[] #[]))
    (T : TreeAt W lo b mb root at_ M) (hrO : rowOf W OB = none)
    (hW : ∀ W', KeepR n₀ OB W W' → ∀ q ∈ K, Calls Tryz.prog 34 #[.string (bs q.1)] W' fun en w' => en = .returned (.bool (f q)) ∧ Below W'.heap.size W' w')
    (h0 : J [] W) :
    CallsIn Fence.wide n Tryz.prog 52 #[.func (.yield l) #[] #[], .pointer (some ⟨tB, 0, none⟩), .pointer (some ⟨wB, 0, none⟩)] W fun e W' => (∃ v, e = .returned v) ∧
      ((∃ ys, ys = K.filter f ∧ J ys W') ∨ (∃ pre, pre <+: K.filter f ∧ Jx pre W')) := by
  obtain ⟨c0, c1, c2⟩ := T.cells
  obtain ⟨m, hm, hl⟩ := T.map
  have HKS := Lib.hid (keys_sorted hm hl hM)
  obtain ⟨N, hN⟩ : ∃ N, N = K.length := ⟨_, rfl⟩
  have hNM : N ≤ 1000 := by rw [hN, key_len' hK]; exact hM
  have HKK := Lib.hid hK
  have HN := Lib.hid hN
  have HR := Lib.hid hrO
  have HW := Lib.hid hW
  clear hN T hm hl hM c0 c1 hrO hW hK
  refine callsIn_of_wp Tryz.func52 rfl trivial ?_ rfl
  simp only [Tryz.ntmps52, List.size_toArray, List.length_cons, List.length_nil, Nat.reduceAdd, Nat.reduceSub, Array.replicate_succ, Array.replicate_zero, List.push_toArray, List.append_toArray, List.nil_append, List.cons_append]
  gi_wp2_with fail
  refine ⟨trivial, (fun h => (by cases h)), ?_⟩
  refine (callsIn_wide.2 (callsIn_wide.1 (Tryz.maps_Keys_54 (some mb) W))).mono ?_
  rintro e w' ⟨rfl, rfl⟩
  gi_wp2_with fail
  refine ⟨trivial, (fun h => (by cases h)), ?_⟩
  refine (callsIn_wide.2 (callsIn_wide.1 HKS.out)).mono ?_
  rintro e W1 ⟨vk, rfl, hrow, B1⟩
  have HB1 := Lib.hid B1
  have hks := hrow.at
  clear B1
  have hR1 : rowOf W1 OB = none := (rowOf_block (HB1.out.block OB (by omega))).trans HR.out
  have HR1 := Lib.hid hR1
  have hsz1 := HB1.out.size
  have hJ1 : J [] W1 := hJ _ _ _ none h0 ⟨HB1.out.os, HB1.out.tape, HB1.out.output, HB1.out.size, fun k hk _ => HB1.out.block k hk⟩ (fun _ e => by cases e)
  have hKW1 := Lib.hid (keepR_below (n := n₀) (OB := OB) HB1.out hn (by omega))
  clear hR1 h0 ht c2 HKS HR hrow
  obtain ⟨ao, c, hvk, hcl⟩ : ∃ ao c, vk = .slice ao N c ∧ ∀ i p, K[i]? = some p → ∃ g, ao = some ⟨g, 0, none⟩ ∧ g ≠ OB ∧ (∃ o, W1.heap[g]? = some o ∧ o.isCells = true) ∧ W1.cell? ⟨g, i, none⟩ = some (.string (bs p.1)) := by
    rw [← HKK.out] at hks
    rw [List.length_map, List.map_eq_nil_iff] at hks
    rcases hks with ⟨h1, h2⟩ | ⟨g, cap, h1, hbg, hgl, hnc, ho, hat⟩
    · refine ⟨none, 0, by rw [h1, HN.out, h2]; rfl, fun i p hp => by rw [h2] at hp; simp at hp⟩
    · exact ⟨some ⟨g, 0, none⟩, cap, by rw [h1, HN.out], fun i p hp => ⟨g, rfl, by omega, ho, hat i p.1 (by simp [hp])⟩⟩
  subst hvk
  have HCL := Lib.hid hcl
  clear hcl hks
  gi_wp2
  gi_loopw [15] (fun p wr => ∃ i : Nat, i ≤ N ∧ p = .int .i64 i ∧ Hid (KeepR n₀ OB W1 wr) ∧ J ((K.take i).filter f) wr)
    (fun p _ => N - (intOf p).toNat)
  case atStart =>
    exact ⟨0, by omega, rfl, Lib.hid (keepR_refl _ _ _), by simpa using hJ1⟩
  case round =>
    obtain ⟨i, hi, rfl, HB, hJs⟩ := hrel
    have hcw : wr.cell? ⟨wB, 0, none⟩ = some (.func (.func 34) #[] #[]) := (HB.out.cell (p := ⟨wB, 0, none⟩) hwB hwO).trans ((HB1.out.cell (p := ⟨wB, 0, none⟩) (by show wB < W.heap.size; omega)).trans hw)
    have hsz : n₀ ≤ wr.heap.size := Nat.le_trans (Nat.le_trans hn hsz1) HB.out.size
    by_cases hlt : i < N
    · obtain ⟨x, hx⟩ : ∃ x, K[i]? = some x := ⟨_, List.getElem?_eq_getElem (by rw [← HN.out]; exact hlt)⟩
      obtain ⟨g, rfl, hgO, ⟨o, hgo, hoc⟩, hgc⟩ := HCL.out i x hx
      have hcx : wr.cell? ⟨g, i, none⟩ = some (.string (bs x.1)) := (World.cell?_of_block (w := W1) (a := ⟨g, i, none⟩) ((HB.out.cells g o hgo hoc hgO (by rw [HR1.out]; simp)).trans hgo.symm)).trans hgc
      have hxm : x ∈ K := List.mem_of_getElem? hx
      have HK := Lib.hid (HW.out wr (keepR_t hKW1.out HB.out) x hxm)
      have HX := Lib.hid hx
      have HJ := Lib.hid hJ
      have HJs := Lib.hid hJs
      have HY := Lib.hid hY
      clear hx hxm hgo hgc hJ hJs hY
      cases hl : f x with
      | false =>
        rw [hl] at HK
        have HL := Lib.hid hl
        clear hl
        gi_wp2_with fail
        refine ⟨trivial, (fun h => (by cases h)), ?_⟩
        refine (callsIn_wide.2 HK.out).mono ?_
        rintro e w' ⟨rfl, B2⟩
        have X1 := Lib.hid B2
        clear B2
        gi_wp2
        refine ⟨(fun _ h => (by cases h)), ?_⟩
        gi_wp2
        go_roundw
        case rel =>
          refine ⟨i + 1, by omega, by go_num, Lib.hid (keepR_t HB.out (keepR_below X1.out hsz (by omega))), ?_⟩
          rw [filter_miss f HX.out HL.out]
          exact HJ.out _ _ _ none HJs.out ⟨X1.out.os, X1.out.tape, X1.out.output, X1.out.size, fun k hk _ => X1.out.block k hk⟩ (fun _ e => by cases e)
        case measure => simp [intOf]; omega
      | true =>
        rw [hl] at HK
        have HL := Lib.hid hl
        clear hl
        have hlf : ((K.take i).filter f).length < 1000 := by
          have h1 := List.length_filter_le f (K.take i)
          have h2 : (K.take i).length ≤ i := by simp; omega
          omega
        gi_wp2_with fail
        refine ⟨trivial, (fun h => (by cases h)), ?_⟩
        refine (callsIn_wide.2 HK.out).mono ?_
        rintro e w' ⟨rfl, B2⟩
        have X1 := Lib.hid B2
        clear B2
        have hJ2 : J ((K.take i).filter f) w' := HJ.out _ _ _ none HJs.out ⟨X1.out.os, X1.out.tape, X1.out.output, X1.out.size, fun k hk _ => X1.out.block k hk⟩ (fun _ e => by cases e)
        obtain ⟨fn, tmps, assign, body, hy, hR⟩ := HY.out _ x _ hJ2 hlf
        have HR := Lib.hid hR
        clear hJ2 hR
        unfold sv at hy
        gi_wp2_with fail
        refine ⟨(fun h => (by cases h)), ?_⟩
        refine HR.out.mono ?_
        rintro e W3 (⟨rfl, hJ3, hk3⟩ | ⟨rfl, hJx3⟩)
        · have HJ3 := Lib.hid hJ3
          have HK3 := Lib.hid (keepR_t (keepR_t HB.out (keepR_below X1.out hsz (by omega))) hk3)
          clear hJ3 hk3
          gi_wp2
          go_roundw
          case rel => exact ⟨i + 1, by omega, by go_num, HK3, by rw [filter_hit f HX.out HL.out]; exact HJ3.out⟩
          case measure => simp [intOf]; omega
        · gi_wp2
          refine bodyPost_ret (results_none rfl _ _ _) rfl ?_
          refine ⟨⟨_, rfl⟩, .inr ⟨_, ?_, hJx3⟩⟩
          rw [← filter_hit f HX.out HL.out]
          exact filter_pre f K (i + 1)
    · obtain rfl : i = N := by omega
      gi_wp2
      go_end0
      refine ⟨⟨_, rfl⟩, .inl ⟨_, rfl, ?_⟩⟩
      have h := hJs
      rw [HN.out, List.take_length] at h
      exact h

set_option maxRecDepth 100000 in
set_option maxHeartbeats 4000000 in
theorem seq_kid (n l tB wB n₀ OB b mb : Nat) (lo : Nat → Prop) (root : Bytes) (at_ : Int) (M : List (Bytes × Nd)) (hM : M.length ≤ 1000) (K : List Key) (hK : K.map (·.1) = keysS M) (f : Key → Bool) (pB uB : Nat) (J Jx : List Key → World → Prop)
    (hY : ∀ pre x W, J pre W → pre.length < 1000 → YieldAt Fence.wide (n - 1) Tryz.prog l #[sv x.1] W fun e W' =>
      (e = .returned (.bool true) ∧ J (pre ++ [x]) W' ∧ KeepR n₀ OB W W') ∨ (e = .returned (.bool false) ∧ Jx (pre ++ [x]) W'))
    (W : World) (hJ : AbidesFrom W.heap.size J) (hn : n₀ ≤ W.heap.size) (htB : tB < n₀) (htO : tB ≠ OB) (hwB : wB < n₀) (hwO : wB ≠ OB) (hb : b < n₀) (hbO : b ≠ OB) (hOB : OB < n₀)
    (ht : W.cell? ⟨tB, 0, none⟩ = some (.pointer (some ⟨b, 0, none⟩))) (hw : W.cell? ⟨wB, 0, none⟩ = some (.func (.func 35) #[] #[.pointer (some ⟨pB, 0, none⟩), .pointer (some ⟨uB, 0, none⟩)]))
    (T : TreeAt W lo b mb root at_ M) (hrO : rowOf W OB = none)
    (hW : ∀ W', KeepR n₀ OB W W' → ∀ q ∈ K, Calls Tryz.prog 35 #[.string (bs q.1), .pointer (some ⟨pB, 0, none⟩), .pointer (some ⟨uB, 0, none⟩)] W' fun en w' => en = .returned (.bool (f q)) ∧ Below W'.heap.size W' w')
    (h0 : J [] W) :
    CallsIn Fence.wide n Tryz.prog 52 #[.func (.yield l) #[] #[], .pointer (some ⟨tB, 0, none⟩), .pointer (some ⟨wB, 0, none⟩)] W fun e W' => (∃ v, e = .returned v) ∧
      ((∃ ys, ys = K.filter f ∧ J ys W') ∨ (∃ pre, pre <+: K.filter f ∧ Jx pre W')) := by
  obtain ⟨c0, c1, c2⟩ := T.cells
  obtain ⟨m, hm, hl⟩ := T.map
  have HKS := Lib.hid (keys_sorted hm hl hM)
  obtain ⟨N, hN⟩ : ∃ N, N = K.length := ⟨_, rfl⟩
  have hNM : N ≤ 1000 := by rw [hN, key_len' hK]; exact hM
  have HKK := Lib.hid hK
  have HN := Lib.hid hN
  have HR := Lib.hid hrO
  have HW := Lib.hid hW
  clear hN T hm hl hM c0 c1 hrO hW hK
  refine callsIn_of_wp Tryz.func52 rfl trivial ?_ rfl
  simp only [Tryz.ntmps52, List.size_toArray, List.length_cons, List.length_nil, Nat.reduceAdd, Nat.reduceSub, Array.replicate_succ, Array.replicate_zero, List.push_toArray, List.append_toArray, List.nil_append, List.cons_append]
  gi_wp2_with fail
  refine ⟨trivial, (fun h => (by cases h)), ?_⟩
  refine (callsIn_wide.2 (callsIn_wide.1 (Tryz.maps_Keys_54 (some mb) W))).mono ?_
  rintro e w' ⟨rfl, rfl⟩
  gi_wp2_with fail
  refine ⟨trivial, (fun h => (by cases h)), ?_⟩
  refine (callsIn_wide.2 (callsIn_wide.1 HKS.out)).mono ?_
  rintro e W1 ⟨vk, rfl, hrow, B1⟩
  have HB1 := Lib.hid B1
  have hks := hrow.at
  clear B1
  have hR1 : rowOf W1 OB = none := (rowOf_block (HB1.out.block OB (by omega))).trans HR.out
  have HR1 := Lib.hid hR1
  have hsz1 := HB1.out.size
  have hJ1 : J [] W1 := hJ _ _ _ none h0 ⟨HB1.out.os, HB1.out.tape, HB1.out.output, HB1.out.size, fun k hk _ => HB1.out.block k hk⟩ (fun _ e => by cases e)
  have hKW1 := Lib.hid (keepR_below (n := n₀) (OB := OB) HB1.out hn (by omega))
  clear hR1 h0 ht c2 HKS HR hrow
  obtain ⟨ao, c, hvk, hcl⟩ : ∃ ao c, vk = .slice ao N c ∧ ∀ i p, K[i]? = some p → ∃ g, ao = some ⟨g, 0, none⟩ ∧ g ≠ OB ∧ (∃ o, W1.heap[g]? = some o ∧ o.isCells = true) ∧ W1.cell? ⟨g, i, none⟩ = some (.string (bs p.1)) := by
    rw [← HKK.out] at hks
    rw [List.length_map, List.map_eq_nil_iff] at hks
    rcases hks with ⟨h1, h2⟩ | ⟨g, cap, h1, hbg, hgl, hnc, ho, hat⟩
    · refine ⟨none, 0, by rw [h1, HN.out, h2]; rfl, fun i p hp => by rw [h2] at hp; simp at hp⟩
    · exact ⟨some ⟨g, 0, none⟩, cap, by rw [h1, HN.out], fun i p hp => ⟨g, rfl, by omega, ho, hat i p.1 (by simp [hp])⟩⟩
  subst hvk
  have HCL := Lib.hid hcl
  clear hcl hks
  gi_wp2
  gi_loopw [15] (fun p wr => ∃ i : Nat, i ≤ N ∧ p = .int .i64 i ∧ Hid (KeepR n₀ OB W1 wr) ∧ J ((K.take i).filter f) wr)
    (fun p _ => N - (intOf p).toNat)
  case atStart =>
    exact ⟨0, by omega, rfl, Lib.hid (keepR_refl _ _ _), by simpa using hJ1⟩
  case round =>
    obtain ⟨i, hi, rfl, HB, hJs⟩ := hrel
    have hcw : wr.cell? ⟨wB, 0, none⟩ = some (.func (.func 35) #[] #[.pointer (some ⟨pB, 0, none⟩), .pointer (some ⟨uB, 0, none⟩)]) := (HB.out.cell (p := ⟨wB, 0, none⟩) hwB hwO).trans ((HB1.out.cell (p := ⟨wB, 0, none⟩) (by show wB < W.heap.size; omega)).trans hw)
    have hsz : n₀ ≤ wr.heap.size := Nat.le_trans (Nat.le_trans hn hsz1) HB.out.size
    by_cases hlt : i < N
    · obtain ⟨x, hx⟩ : ∃ x, K[i]? = some x := ⟨_, List.getElem?_eq_getElem (by rw [← HN.out]; exact hlt)⟩
      obtain ⟨g, rfl, hgO, ⟨o, hgo, hoc⟩, hgc⟩ := HCL.out i x hx
      have hcx : wr.cell? ⟨g, i, none⟩ = some (.string (bs x.1)) := (World.cell?_of_block (w := W1) (a := ⟨g, i, none⟩) ((HB.out.cells g o hgo hoc hgO (by rw [HR1.out]; simp)).trans hgo.symm)).trans hgc
      have hxm : x ∈ K := List.mem_of_getElem? hx
      have HK := Lib.hid (HW.out wr (keepR_t hKW1.out HB.out) x hxm)
      have HX := Lib.hid hx
      have HJ := Lib.hid hJ
      have HJs := Lib.hid hJs
      have HY := Lib.hid hY
      clear hx hxm hgo hgc hJ hJs hY
      cases hl : f x with
      | false =>
        rw [hl] at HK
        have HL := Lib.hid hl
        clear hl
        gi_wp2_with fail
        refine ⟨trivial, (fun h => (by cases h)), ?_⟩
        refine (callsIn_wide.2 HK.out).mono ?_
        rintro e w' ⟨rfl, B2⟩
        have X1 := Lib.hid B2
        clear B2
        gi_wp2
        refine ⟨(fun _ h => (by cases h)), ?_⟩
        gi_wp2
        go_roundw
        case rel =>
          refine ⟨i + 1, by omega, by go_num, Lib.hid (keepR_t HB.out (keepR_below X1.out hsz (by omega))), ?_⟩
          rw [filter_miss f HX.out HL.out]
          exact HJ.out _ _ _ none HJs.out ⟨X1.out.os, X1.out.tape, X1.out.output, X1.out.size, fun k hk _ => X1.out.block k hk⟩ (fun _ e => by cases e)
        case measure => simp [intOf]; omega
      | true =>
        rw [hl] at HK
        have HL := Lib.hid hl
        clear hl
        have hlf : ((K.take i).filter f).length < 1000 := by
          have h1 := List.length_filter_le f (K.take i)
          have h2 : (K.take i).length ≤ i := by simp; omega
          omega
        gi_wp2_with fail
        refine ⟨trivial, (fun h => (by cases h)), ?_⟩
        refine (callsIn_wide.2 HK.out).mono ?_
        rintro e w' ⟨rfl, B2⟩
        have X1 := Lib.hid B2
        clear B2
        have hJ2 : J ((K.take i).filter f) w' := HJ.out _ _ _ none HJs.out ⟨X1.out.os, X1.out.tape, X1.out.output, X1.out.size, fun k hk _ => X1.out.block k hk⟩ (fun _ e => by cases e)
        obtain ⟨fn, tmps, assign, body, hy, hR⟩ := HY.out _ x _ hJ2 hlf
        have HR := Lib.hid hR
        clear hJ2 hR
        unfold sv at hy
        gi_wp2_with fail
        refine ⟨(fun h => (by cases h)), ?_⟩
        refine HR.out.mono ?_
        rintro e W3 (⟨rfl, hJ3, hk3⟩ | ⟨rfl, hJx3⟩)
        · have HJ3 := Lib.hid hJ3
          have HK3 := Lib.hid (keepR_t (keepR_t HB.out (keepR_below X1.out hsz (by omega))) hk3)
          clear hJ3 hk3
          gi_wp2
          go_roundw
          case rel => exact ⟨i + 1, by omega, by go_num, HK3, by rw [filter_hit f HX.out HL.out]; exact HJ3.out⟩
          case measure => simp [intOf]; omega
        · gi_wp2
          refine bodyPost_ret (results_none rfl _ _ _) rfl ?_
          refine ⟨⟨_, rfl⟩, .inr ⟨_, ?_, hJx3⟩⟩
          rw [← filter_hit f HX.out HL.out]
          exact filter_pre f K (i + 1)
    · obtain rfl : i = N := by omega
      gi_wp2
      go_end0
      refine ⟨⟨_, rfl⟩, .inl ⟨_, rfl, ?_⟩⟩
      have h := hJs
      rw [HN.out, List.take_length] at h
      exact h
end Go.Proofs.YtkhoeiapfoaapaaGreatDoor
