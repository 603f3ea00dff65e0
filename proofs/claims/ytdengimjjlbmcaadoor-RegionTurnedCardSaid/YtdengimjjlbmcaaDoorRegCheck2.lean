/-
  The document's Check, walked.
-/
import Derived.Test.YtdengimjjlbmcaaDoorRegOf2
namespace Go.Proofs.YtdengimjjlbmcaaDoor
set_option linter.unusedVariables false
set_option linter.unusedSimpArgs false
open Go.RowKit

theorem below_drewN {B : Nat} {a w : World} (h : Below B a w) (q : Nat) : Below B a (w.drewN q) := ⟨h.os, h.tape, h.output, h.size, h.block⟩
/-- No two of the first k are alike. -/
def DistTo (L : List Bytes) (k : Nat) : Prop := ∀ i j x y, i < j → j < k → L[i]? = some x → L[j]? = some y → x ≠ y
theorem dist_nodup (L : List Bytes) : DistTo L L.length ↔ L.Nodup := by
  rw [List.nodup_iff_pairwise_ne, List.pairwise_iff_getElem]
  constructor
  · intro h i j hi hj hij
    exact h i j _ _ hij hj (List.getElem?_eq_getElem hi) (List.getElem?_eq_getElem hj)
  · intro h i j x y hij hj hx hy
    obtain ⟨h1, rfl⟩ := List.getElem?_eq_some_iff.1 hx
    obtain ⟨h2, rfl⟩ := List.getElem?_eq_some_iff.1 hy
    exact h i j h1 h2 hij
def CheckEnd (L : List Bytes) (w : World) (e : Ending) (w' : World) : Prop := e = .returned (.int .i64 (checkL L)) ∧ Below w.heap.size w w'
theorem checkL_dup {L : List Bytes} {i j : Nat} {x : Bytes} (hij : i < j) (hi : L[i]? = some x) (hj : L[j]? = some x) : checkL L = 1 := by
  have hn : ¬ L.Nodup := fun h => (dist_nodup L).2 h i j x x hij (List.getElem?_eq_some_iff.1 hj).1 hi hj rfl
  unfold checkL
  rw [if_pos (.inr (.inr hn))]
theorem checkL_bad {L : List Bytes} {i : Nat} {x : Bytes} (h1 : 1 ≤ L.length) (h4 : L.length ≤ 4) (hd : DistTo L L.length) (hi : L[i]? = some x) (hx : partsL x = none) : checkL L = 30 := by
  have hn : ¬ (L.all (fun x => (partsL x).isSome) = true) := by
    intro h
    have := List.all_eq_true.1 h x (List.mem_of_getElem? hi)
    simp [hx] at this
  unfold checkL
  rw [if_neg (by rintro (h | h | h); omega; omega; exact h ((dist_nodup L).1 hd)), if_neg hn]
theorem checkL_good {L : List Bytes} (h1 : 1 ≤ L.length) (h4 : L.length ≤ 4) (hd : DistTo L L.length) (hall : ∀ i x, i < L.length → L[i]? = some x → (partsL x).isSome = true) : checkL L = 0 := by
  have hy : L.all (fun x => (partsL x).isSome) = true := by
    rw [List.all_eq_true]
    intro x hx
    obtain ⟨i, hi⟩ := List.getElem?_of_mem hx
    exact hall i x (List.getElem?_eq_some_iff.1 hi).1 hi
  unfold checkL
  rw [if_neg (by rintro (h | h | h); omega; omega; exact h ((dist_nodup L).1 hd)), if_pos hy]

set_option maxRecDepth 100000 in
set_option maxHeartbeats 8000000 in
theorem refCheck_region (ao : Option Addr) (c : Nat) (L : List Bytes) (w : World) (hbig : L.length ≤ 1000) (hL : ∀ r ∈ L, r.length ≤ 1000) (hc : StrSl w w.heap.size ao L) :
    Calls Tryd.prog 11 #[.slice ao L.length c] w (CheckEnd L w) := by
  have HC := Lib.hid hc
  have HLL := Lib.hid hL
  clear hc hL
  obtain ⟨N, hN⟩ : ∃ N, N = L.length := ⟨_, rfl⟩
  have HN := Lib.hid hN
  rw [← hN] at hbig ⊢
  clear hN
  by_cases h0 : N < 1
  · have hv : checkL L = 1 := by unfold checkL; rw [if_pos (.inl (by rw [← HN.out]; exact h0))]
    have HV := Lib.hid hv
    have d1 : decide ((N : Int) < 1) = true := by simp; omega
    clear hv
    go_enter Tryd.func11, Tryd.ntmps11
    go_wp2
    go_ret
    exact ⟨by rw [HV.out]; rfl, Below.refl _ _⟩
  · by_cases h4 : 4 < N
    · have hv : checkL L = 1 := by unfold checkL; rw [if_pos (.inr (.inl (by rw [← HN.out]; exact h4)))]
      have HV := Lib.hid hv
      have d1 : decide ((N : Int) < 1) = false := by simp; omega
      have d2 : decide (4 < (N : Int)) = true := by simp; omega
      clear hv
      go_enter Tryd.func11, Tryd.ntmps11
      go_wp2
      go_ret
      exact ⟨by rw [HV.out]; rfl, Below.refl _ _⟩
    · have d1 : decide ((N : Int) < 1) = false := by simp; omega
      have d2 : decide (4 < (N : Int)) = false := by simp; omega
      go_enter Tryd.func11, Tryd.ntmps11
      go_wp2
      clear d1 d2
      go_loopw [3] (fun i wr => ∃ k : Nat, k ≤ N ∧ i = .int .i64 k ∧ Hid (DistTo L k) ∧ Hid (Below w.heap.size w wr)) (fun i _ => N - (intOf i).toNat)
      case atStart => exact ⟨0, by omega, rfl, Lib.hid (fun i j x y _ h => absurd h (Nat.not_lt_zero _)), Lib.hid (Below.refl _ _)⟩
      case round =>
        obtain ⟨k, hk, rfl, HD, HB⟩ := hrel
        by_cases hlt : k < N
        · obtain ⟨x, hx⟩ : ∃ x, L[k]? = some x := ⟨_, List.getElem?_eq_getElem (by rw [← HN.out]; exact hlt)⟩
          obtain ⟨b, off, rfl, hb, hcell0⟩ := HC.out k x hx
          have HX := Lib.hid hx
          have HCELL := Lib.hid hcell0
          clear hx hcell0
          go_wp2
          obtain ⟨wo, rfl⟩ : ∃ wo : World, wo = wr := ⟨_, rfl⟩
          go_loopw [4] (fun i wr => ∃ j : Nat, j ≤ k ∧ i = .int .i64 j ∧ Hid (∀ i y, i < j → L[i]? = some y → y ≠ x) ∧ Hid (Below w.heap.size w wr)) (fun i _ => k - (intOf i).toNat)
          case atStart => exact ⟨0, by omega, rfl, Lib.hid (fun i y h => absurd h (Nat.not_lt_zero _)), HB⟩
          case round =>
            obtain ⟨j, hj, rfl, HJ, HB2⟩ := hrel
            by_cases hlt2 : j < k
            · obtain ⟨y, hy⟩ : ∃ y, L[j]? = some y := ⟨_, List.getElem?_eq_getElem (by rw [← HN.out]; omega)⟩
              obtain ⟨b', off', e, _, hcy⟩ := HC.out j y hy
              have hbb2 : b' = b ∧ off' = off := by simp at e; exact ⟨e.1.symm, e.2.symm⟩
              obtain ⟨rfl, rfl⟩ := hbb2
              clear e
              have HY := Lib.hid hy
              have HCY := Lib.hid hcy
              clear hy hcy
              have c1 : wr.cell? ⟨b', off' + k, none⟩ = some (.string (bs x)) := (HB2.out.cell (p := ⟨b', off' + k, none⟩) hb).trans HCELL.out
              have c2 : wr.cell? ⟨b', off' + j, none⟩ = some (.string (bs y)) := (HB2.out.cell (p := ⟨b', off' + j, none⟩) hb).trans HCY.out
              have t1 := eq_bs x y
              by_cases hxy : x = y
              · rw [decide_eq_true hxy] at t1
                have HV := Lib.hid (checkL_dup (j := k) (i := j) hlt2 (HY.out.trans (by rw [hxy])) HX.out)
                clear hxy
                go_wp2
                go_quiet (fail)
                go_wp2
                go_ret
                exact ⟨by rw [HV.out]; rfl, HB2.out.trans (below_drewN (Below.refl _ _) _)⟩
              · rw [decide_eq_false hxy] at t1
                have HNE := Lib.hid hxy
                clear hxy
                go_wp2
                go_quiet (fail)
                go_wp2
                go_roundw
                case rel =>
                  refine ⟨j + 1, by omega, by go_num, Lib.hid fun i z hi hz => ?_, Lib.hid (HB2.out.trans (below_drewN (Below.refl _ _) _))⟩
                  by_cases e : i = j
                  · subst e
                    have := HY.out
                    rw [hz] at this
                    cases this
                    exact fun e => HNE.out e.symm
                  · exact HJ.out i z (by omega) hz
                case measure => simp [intOf]; omega
            · obtain rfl : j = k := by omega
              go_wp2
              go_roundw
              case rel =>
                refine ⟨j + 1, by omega, by go_num, Lib.hid fun i i2 z z2 h1 h2 hz hz2 => ?_, HB2⟩
                by_cases e : i2 = j
                · subst e
                  have := HX.out
                  rw [hz2] at this
                  cases this
                  exact HJ.out i z h1 hz
                · exact HD.out i i2 z z2 h1 (by omega) hz hz2
              case measure => simp [intOf]; omega
        · obtain rfl : k = N := by omega
          go_wp2
          obtain ⟨wo, rfl⟩ : ∃ wo : World, wo = wr := ⟨_, rfl⟩
          go_loopw [5] (fun i wr => ∃ j : Nat, j ≤ k ∧ i = .int .i64 j ∧ Hid (∀ i y, i < j → L[i]? = some y → (partsL y).isSome = true) ∧ Hid (Below w.heap.size w wr)) (fun i _ => k - (intOf i).toNat)
          case atStart => exact ⟨0, by omega, rfl, Lib.hid (fun i y h => absurd h (Nat.not_lt_zero _)), HB⟩
          case round =>
            obtain ⟨j, hj, rfl, HJ, HB2⟩ := hrel
            by_cases hlt2 : j < k
            · obtain ⟨y, hy⟩ : ∃ y, L[j]? = some y := ⟨_, List.getElem?_eq_getElem (by rw [← HN.out]; omega)⟩
              obtain ⟨b, off, rfl, hb, hcy⟩ := HC.out j y hy
              have c2 : wr.cell? ⟨b, off + j, none⟩ = some (.string (bs y)) := (HB2.out.cell (p := ⟨b, off + j, none⟩) hb).trans hcy
              have cp := refParts_any y (size_max (HLL.out y (List.mem_of_getElem? hy)) (Nat.le_refl _)) wr
              have HY := Lib.hid hy
              clear hy hcy
              cases hp : (partsL y).isSome with
              | true =>
                rw [hp] at cp
                have HP := Lib.hid hp
                have CP := Lib.hid cp
                clear hp cp
                go_wp2_with fail
                refine CP.out.mono ?_
                rintro e w1 ⟨v, rfl, B1⟩
                have HB3 := Lib.hid (HB2.out.trans (B1.mono HB2.out.size))
                clear B1
                go_wp2
                go_roundw
                case rel =>
                  refine ⟨j + 1, by omega, by go_num, Lib.hid fun i z hi hz => ?_, HB3⟩
                  by_cases e : i = j
                  · subst e
                    have := HY.out
                    rw [hz] at this
                    cases this
                    exact HP.out
                  · exact HJ.out i z (by omega) hz
                case measure => simp [intOf]; omega
              | false =>
                rw [hp] at cp
                have HV := Lib.hid (checkL_bad (by rw [← HN.out]; omega) (by rw [← HN.out]; omega) (by rw [← HN.out]; exact HD.out) HY.out (by simpa using hp))
                have CP := Lib.hid cp
                clear hp cp
                go_wp2_with fail
                refine CP.out.mono ?_
                rintro e w1 ⟨v, rfl, B1⟩
                have HB3 := Lib.hid (HB2.out.trans (B1.mono HB2.out.size))
                clear B1
                go_wp2
                go_ret
                exact ⟨by rw [HV.out]; rfl, HB3.out⟩
            · obtain rfl : j = k := by omega
              have HV := Lib.hid (checkL_good (L := L) (by rw [← HN.out]; omega) (by rw [← HN.out]; omega) (by rw [← HN.out]; exact HD.out) (fun i x hi hx => HJ.out i x (by rw [HN.out]; exact hi) hx))
              go_wp2
              go_ret
              exact ⟨by rw [HV.out]; rfl, HB2.out⟩
end Go.Proofs.YtdengimjjlbmcaaDoor
