/-
  The program's Check, walked.
-/
import Derived.Test.YtdengimjjlbmcaaDoorRegIdx
import Derived.Test.YtdengimjjlbmcaaDoorShelf2
import Derived.Lib.OwnBridge
import Derived.Lib.SlicesCompact
namespace Go.Proofs.YtdengimjjlbmcaaDoor
set_option linter.unusedVariables false
set_option linter.unusedSimpArgs false
open Go.RowKit Go.Lib Go.Sort

/-! plain -/
theorem leB_trans (a b c : Bytes) (h1 : decide (a ≤ b) = true) (h2 : decide (b ≤ c) = true) : decide (a ≤ c) = true := by
  simp only [decide_eq_true_eq] at *; exact List.le_trans h1 h2
theorem leB_total (a b : Bytes) : (decide (a ≤ b) || decide (b ≤ a)) = true := by
  simp only [Bool.or_eq_true, decide_eq_true_eq]; exact List.le_total a b
theorem compact_len (L : List Bytes) : (compact (L.mergeSort fun x y => decide (x ≤ y))).length = L.length ↔ L.Nodup := by
  have hperm := List.mergeSort_perm L (fun x y => decide (x ≤ y))
  have hsort := List.pairwise_mergeSort (le := fun x y => decide (x ≤ y)) leB_trans leB_total L
  generalize L.mergeSort (fun x y => decide (x ≤ y)) = S at hperm hsort
  rw [← hperm.length_eq, ← hperm.nodup_iff]
  constructor
  · intro h
    have hk : ∀ j, j < S.length → keeps S.toArray j = true := by
      unfold compact compactUpTo at h
      rw [List.length_map] at h
      have h2 := (List.length_filter_eq_length_iff (l := List.range S.length) (p := keeps S.toArray)).1 (by rw [h, List.length_range])
      exact fun j hj => h2 j (List.mem_range.2 hj)
    rw [List.nodup_iff_pairwise_ne, List.pairwise_iff_getElem]
    intro i j hi hj hij e
    have h1 := hk (i + 1) (by omega)
    unfold keeps at h1
    have hi1 : i + 1 < S.length := by omega
    have h2 : S[i] ≤ S[i + 1] := by
      have := List.pairwise_iff_getElem.1 hsort i (i + 1) hi hi1 (by omega)
      simpa using this
    have h3 : S[i + 1] ≤ S[j] := by
      by_cases e2 : i + 1 = j
      · subst e2; exact List.le_refl _
      · have := List.pairwise_iff_getElem.1 hsort (i + 1) j hi1 hj (by omega)
        simpa using this
    have h4 : S[i + 1] = S[i] := List.le_antisymm (e ▸ h3) h2
    simp [getElem!_pos, hi, hi1, h4] at h1
  · intro h
    rw [compact_all]
    intro j hj
    unfold keeps
    by_cases h0 : j = 0
    · simp [h0]
    · have hj1 : j - 1 < S.length := by omega
      have hne : S[j] ≠ S[j - 1] := by
        intro e
        have := (List.getElem_inj h).1 e
        omega
      simp [getElem!_pos, hj, hj1, h0, hne]
theorem map_data_bs (L : List Bytes) : (L.map bs).map (·.data.toList) = L := by
  rw [List.map_map]
  conv => rhs; rw [← List.map_id L]
  exact List.map_congr_left fun x _ => data_bs x
theorem below_grow {B : Nat} {a w : World} (h : Below B a w) (hB : B ≤ w.heap.size) (os : Array Obj) : Below B a (grow w os) :=
  h.trans ⟨rfl, rfl, rfl, by simp [grow], fun k hk => heap_grow_old w os (by omega)⟩

/-- What Clone leaves. -/
def Cloned (L : List Bytes) (w : World) (e : Ending) (w' : World) : Prop :=
  Below w.heap.size w w' ∧ ((L = [] ∧ ∃ a c, e = .returned (.slice a 0 c)) ∨ ∃ g cap, e = .returned (.slice (some ⟨g, 0, none⟩) L.length cap) ∧ w.heap.size ≤ g ∧ g < w'.heap.size ∧ L.length ≤ cap ∧ Holds encStr w' g 0 L.toArray)
theorem clone_any (ao : Option Addr) (c : Nat) (L : List Bytes) (w : World) (hbig : L.length ≤ 1000) (hc : StrSl w w.heap.size ao L) : Calls Tryd.prog 19 #[.slice ao L.length c] w (Cloned L w) := by
  cases L with
  | nil =>
    cases ao with
    | none => exact (Tryd.slices_Clone_string_nil 0 c w).mono fun e w' ⟨he, hw⟩ => ⟨hw ▸ Below.refl _ _, .inl ⟨rfl, _, _, he⟩⟩
    | some a =>
      refine (Tryd.slices_Clone_string_zero a c w).mono fun e w' ⟨v', he, hown, _, hb⟩ => ⟨hb, .inl ⟨rfl, ?_⟩⟩
      rcases hown.2 with ⟨rfl, _⟩ | ⟨g, cap, cur, rfl, _⟩
      · exact ⟨_, _, he⟩
      · exact ⟨_, _, he⟩
  | cons x L =>
    obtain ⟨b, off, rfl, hb, hx⟩ := hc 0 x rfl
    have h := Tryd.slices_Clone_string b off (x :: L).length c ((x :: L).map bs) w (by simp) (by simp at hbig ⊢; omega) (fun j hj => by
      have hj' : j < (x :: L).length := by simpa using hj
      obtain ⟨b', off', e, _, h2⟩ := hc j ((x :: L)[j]) (List.getElem?_eq_getElem hj')
      simp at e
      obtain ⟨rfl, rfl⟩ := e
      rw [h2, getD_bs (x :: L) j hj])
    refine h.mono fun e w' ⟨v', he, hown, hnn, hb'⟩ => ⟨hb', .inr ?_⟩
    rw [List.take_of_length_le (by simp), ← map_encStr, map_data_bs] at hown
    obtain ⟨g, cap, rfl, h1, h2, h3, h4, h5, h6⟩ := holds_of_ownsRow hown hnn
    exact ⟨g, cap, he, h1, h2, h3, h6⟩
/-- What Sort leaves. -/
theorem sort_row (g cap : Nat) (L : List Bytes) (w0 w : World) (B : Nat) (hb : Below B w0 w) (hB : B ≤ g) (hg : g < w.heap.size) (hBw : B ≤ w.heap.size) (hbig : L.length ≤ 1000) (hH : Holds encStr w g 0 L.toArray) :
    Calls Tryd.prog 20 #[.slice (some ⟨g, 0, none⟩) L.length cap] w fun e w' => e = .returned (.tuple #[]) ∧ Below B w0 w' ∧ g < w'.heap.size ∧ Holds encStr w' g 0 (L.mergeSort fun x y => decide (x ≤ y)).toArray := by
  refine (Tryd.slices_Sort_string g 0 cap L w hH hg (by omega)).mono ?_
  rintro e w' ⟨rfl, n, os, rfl⟩
  have hsz : g < (putRow encStr (Sort.ahead w n) g 0 (L.mergeSort fun x y => decide (x ≤ y)).toArray).heap.size := by simpa [putRow, mapBlock, Sort.ahead] using hg
  refine ⟨rfl, ?_, ?_, ?_⟩
  · exact below_grow (Lib.below_putRow hb hB) (by simpa [putRow, mapBlock, Sort.ahead] using hBw) os
  · simp [grow]; omega
  · exact holds_grow _ _ os g 0 _ hsz (holds_putRow _ _ g 0 _ _ (holds_ahead _ w n g 0 _ hH) (by simp))
theorem sort_none (a : Option Addr) (cap : Nat) (w : World) : Calls Tryd.prog 20 #[.slice a 0 cap] w fun e w' => e = .returned (.tuple #[]) ∧ w' = w := Tryd.slices_Sort_string_none a cap w
/-- What Compact leaves. -/
theorem compact_row (g cap : Nat) (S : List Bytes) (w0 w : World) (B : Nat) (hb : Below B w0 w) (hB : B ≤ g) (hbig : S.length ≤ 1000) (hcap : S.length ≤ cap) (hH : Holds encStr w g 0 S.toArray) :
    Calls Tryd.prog 21 #[.slice (some ⟨g, 0, none⟩) S.length cap] w fun e w' => e = .returned (.slice (some ⟨g, 0, none⟩) (compact S).length cap) ∧ Below B w0 w' := by
  refine (Tryd.slices_Compact_string g 0 cap S w hH (by omega) hcap).mono ?_
  rintro e w' ⟨rfl, q, rfl⟩
  exact ⟨rfl, Lib.below_putRow hb hB⟩

theorem check1_any (x : Bytes) (hx : x.length ≤ 1000) (w : World) (hm : MaxInt w) : Calls Tryd.prog 23 #[.string (bs x)] w fun e w' => e = .returned (.bool (!(partsL x).isSome)) ∧ Below w.heap.size w w' := by
  have c1 := later_check w hm x hx w (Below.refl _ _)
  unfold checkV at c1
  clear hm
  generalize (partsL x).isSome = b at *
  cases b
  all_goals
    go_enter Tryd.func23, Tryd.ntmps23
    go_wp2_with (go_at_call 24; refine c1.mono ?_; rintro e w1 ⟨rfl, B1⟩)
    go_ret
    exact ⟨rfl, B1⟩
set_option maxRecDepth 100000 in
set_option maxHeartbeats 2000000 in
theorem check_region (ao : Option Addr) (c : Nat) (L : List Bytes) (w : World) (hm : MaxInt w) (hbig : L.length ≤ 1000) (hL : ∀ r ∈ L, r.length ≤ 1000) (hc : StrSl w w.heap.size ao L) :
    Calls Tryd.prog 10 #[.slice ao L.length c] w fun e w' => e = .returned (.int .i64 (checkL L)) ∧ Below w.heap.size w w' := by
  have h1 := clone_any ao c L w hbig hc
  have HC := Lib.hid hc
  have HM := Lib.hid hm
  have HLL := Lib.hid hL
  have HBIG := Lib.hid hbig
  clear hc hm hL
  by_cases h0 : L.length < 1
  · obtain rfl : L = [] := List.eq_nil_of_length_eq_zero (by omega)
    have hv : checkL [] = 1 := by decide
    rw [hv]
    clear hv h0 hbig
    have H1 := Lib.hid h1
    clear h1
    go_enter Tryd.func10, Tryd.ntmps10
    go_wp2_with fail
    refine H1.out.mono ?_
    rintro e w1 ⟨B1, ⟨_, a, c1, rfl⟩ | ⟨g, cap, rfl, _, _, _, _⟩⟩
    all_goals
      have HB := Lib.hid B1
      clear B1
      go_wp2_with (go_at_call 20; refine (sort_none _ _ _).mono ?_; rintro e w2 ⟨rfl, rfl⟩)
      go_ret
      exact ⟨rfl, HB.out⟩
  · have hne : L ≠ [] := by rintro rfl; simp at h0
    have H1 := Lib.hid h1
    clear h1
    by_cases h4 : 4 < L.length
    · have hv : checkL L = 1 := by unfold checkL; rw [if_pos (.inr (.inl h4))]
      rw [hv]
      clear hv
      obtain ⟨N, hN⟩ : ∃ N, N = L.length := ⟨_, rfl⟩
      have HN := Lib.hid hN
      have HNE := Lib.hid hne
      rw [← hN] at h0 h4 hbig ⊢
      rw [← hN] at H1
      have d1 : decide ((N : Int) < 1) = false := by simp; omega
      have d2 : decide (4 < (N : Int)) = true := by simp; omega
      clear hN hne
      go_enter Tryd.func10, Tryd.ntmps10
      go_wp2_with fail
      refine H1.out.mono ?_
      rintro e w1 ⟨B1, ⟨hnil, _⟩ | ⟨g, cap, rfl, hg1, hg2, hcap, hH⟩⟩
      · exact absurd hnil HNE.out
      · have hs := sort_row g cap L w w1 w.heap.size B1 hg1 hg2 B1.size HBIG.out hH
        have HS := Lib.hid hs
        rw [← HN.out] at HS
        rw [← HN.out]
        clear hs B1 hH hcap
        go_wp2_with fail
        refine HS.out.mono ?_
        rintro e w2 ⟨rfl, B2, _, _⟩
        have HB := Lib.hid B2
        clear B2
        go_wp2
        go_ret
        exact ⟨rfl, HB.out⟩
    · have hcl := compact_len L
      have hsl : (L.mergeSort fun x y => decide (x ≤ y)).length = L.length := List.length_mergeSort _
      obtain ⟨N, hN⟩ : ∃ N, N = L.length := ⟨_, rfl⟩
      have HN := Lib.hid hN
      have HNE := Lib.hid hne
      have hcle : (compact (L.mergeSort fun x y => decide (x ≤ y))).length ≤ L.length := by
        rw [← hsl]
        unfold compact compactUpTo
        rw [List.length_map]
        exact Nat.le_trans (List.length_filter_le _ _) (by simp)
      obtain ⟨M, hM⟩ : ∃ M, M = (compact (L.mergeSort fun x y => decide (x ≤ y))).length := ⟨_, rfl⟩
      have HSL := Lib.hid hsl
      rw [← hM, ← hN] at hcl hcle
      rw [← hN] at h0 h4 hbig ⊢
      rw [← hN] at H1
      have HM2 := Lib.hid hM
      have d1 : decide ((N : Int) < 1) = false := by simp; omega
      have d2 : decide (4 < (N : Int)) = false := by simp; omega
      clear hN hne hsl hM
      by_cases hnd : L.Nodup
      · have hMN := hcl.2 hnd
        have hv : checkL L = if L.all (fun x => (partsL x).isSome) then 0 else 30 := by unfold checkL; rw [if_neg (by rw [← HN.out]; rintro (h | h | h); omega; omega; exact h hnd)]
        rw [hv]
        have hany : (!L.all (fun x => (partsL x).isSome)) = L.any (fun x => !(partsL x).isSome) := by rw [List.not_all_eq_any_not]
        have HANY := Lib.hid hany
        subst hMN
        have d3 : ((M : Int) != (M : Int)) = false := by simp
        clear hcl hnd hv hany
        generalize L.all (fun x => (partsL x).isSome) = al at *
        go_enter Tryd.func10, Tryd.ntmps10
        go_wp2_with fail
        refine H1.out.mono ?_
        rintro e w1 ⟨B1, ⟨hnil, _⟩ | ⟨g, cap, rfl, hg1, hg2, hcap, hH⟩⟩
        · exact absurd hnil HNE.out
        · have hs := sort_row g cap L w w1 w.heap.size B1 hg1 hg2 B1.size HBIG.out hH
          have HS := Lib.hid hs
          rw [← HN.out] at HS
          rw [← HN.out] at hcap ⊢
          clear hs B1 hH
          go_wp2_with fail
          refine HS.out.mono ?_
          rintro e w2 ⟨rfl, B2, hg3, hH2⟩
          have hk := compact_row g cap (L.mergeSort fun x y => decide (x ≤ y)) w w2 w.heap.size B2 hg1 (by rw [HSL.out]; exact HBIG.out) (by rw [HSL.out, ← HN.out]; exact hcap) hH2
          rw [HSL.out, ← HM2.out, ← HN.out] at hk
          have HK := Lib.hid hk
          clear hk B2 hH2
          go_wp2_with fail
          refine HK.out.mono ?_
          rintro e w3 ⟨rfl, B3⟩
          have HB3 := Lib.hid B3
          have hcf := containsCheck (fun x => !(partsL x).isSome) ao c L w3 HBIG.out ((HC.out.kept B3).mono B3.size) (fun W hW x hx => check1_any x (HLL.out x hx) W (HM.out.kept (B3.trans (hW.mono B3.size))))
          rw [← HN.out, ← HANY.out] at hcf
          have HCF := Lib.hid hcf
          clear B3 hcf
          cases al
          all_goals
            go_wp2_with fail
            refine HCF.out.mono ?_
            rintro e w4 ⟨rfl, B4⟩
            have HB4 := Lib.hid (HB3.out.trans (B4.mono HB3.out.size))
            clear B4
            go_wp2
            go_ret
            exact ⟨rfl, HB4.out⟩
      · have hMN : M ≠ N := fun h => hnd (hcl.1 h)
        have hv : checkL L = 1 := by unfold checkL; rw [if_pos (.inr (.inr hnd))]
        rw [hv]
        have d3 : ((M : Int) != (N : Int)) = true := by simp; omega
        clear hcl hnd hv
        go_enter Tryd.func10, Tryd.ntmps10
        go_wp2_with fail
        refine H1.out.mono ?_
        rintro e w1 ⟨B1, ⟨hnil, _⟩ | ⟨g, cap, rfl, hg1, hg2, hcap, hH⟩⟩
        · exact absurd hnil HNE.out
        · have hs := sort_row g cap L w w1 w.heap.size B1 hg1 hg2 B1.size HBIG.out hH
          have HS := Lib.hid hs
          rw [← HN.out] at HS
          rw [← HN.out] at hcap ⊢
          clear hs B1 hH
          go_wp2_with fail
          refine HS.out.mono ?_
          rintro e w2 ⟨rfl, B2, hg3, hH2⟩
          have hk := compact_row g cap (L.mergeSort fun x y => decide (x ≤ y)) w w2 w.heap.size B2 hg1 (by rw [HSL.out]; exact HBIG.out) (by rw [HSL.out, ← HN.out]; exact hcap) hH2
          rw [HSL.out, ← HM2.out, ← HN.out] at hk
          have HK := Lib.hid hk
          clear hk B2 hH2
          go_wp2_with fail
          refine HK.out.mono ?_
          rintro e w3 ⟨rfl, B3⟩
          have HB3 := Lib.hid B3
          clear B3
          go_wp2
          go_ret
          exact ⟨rfl, HB3.out⟩
end Go.Proofs.YtdengimjjlbmcaaDoor
