/-
  'great', walked.
-/
import Derived.Test.YtfbimhbdifmeoaaDoorWtE
import Derived.Test.YtfbimhbdifmeoaaDoorWtA
namespace Go.Proofs.YtfbimhbdifmeoaaDoor
set_option linter.unusedVariables false
set_option linter.unusedSimpArgs false
open Go Go.RowKit Go.Shelf

/-- More than a statement looks at? -/
def greatA (a : ActD) : Bool := decide (200 < a.x.path.length) || decide (20 < a.P.length) || a.P.any fun p => decide (200 < p.length)
def greatB (A : List ActD) : Bool := decide (60 < A.length) || A.any greatA
structure Small (a : ActD) : Prop where
  path : a.x.path.length ≤ 200
  len : a.P.length ≤ 20
  paths : ∀ p ∈ a.P, p.length ≤ 200
theorem greatA_no {a : ActD} (h : greatA a = false) : Small a := by
  unfold greatA at h
  simp only [Bool.or_eq_false_iff, decide_eq_false_iff_not, List.any_eq_false, decide_eq_true_eq] at h
  exact ⟨by omega, by omega, fun p hp => by have := h.2 p hp; omega⟩
theorem greatB_no {A : List ActD} (h : greatB A = false) : A.length ≤ 60 ∧ ∀ a ∈ A, Small a := by
  unfold greatB at h
  simp only [Bool.or_eq_false_iff, decide_eq_false_iff_not, List.any_eq_false] at h
  exact ⟨by omega, fun a ha => greatA_no (by simpa using h.2 a ha)⟩

set_option maxRecDepth 100000 in
set_option maxHeartbeats 8000000 in
theorem great_any (ao : Option Addr) (c : Nat) (A : List ActD) (w : World) (hbig : A.length ≤ maxLen) (hA : ActsAt w w.heap.size ao A) :
    Calls Tryd.prog 8 #[.slice ao A.length c] w fun e w' => e = .returned (.bool (greatB A)) ∧ w = w' := by
  have HA := Lib.hid hA
  unfold maxLen at hbig
  obtain ⟨N, hN⟩ : ∃ N, N = A.length := ⟨_, rfl⟩
  have HN := Lib.hid hN
  have HGB : Hid (greatB A = (decide (60 < N) || A.any greatA)) := Lib.hid (by unfold greatB; rw [hN])
  rw [← hN] at hbig ⊢
  clear hN hA
  by_cases h60 : 60 < N
  · have d0 : decide (60 < (N : Int)) = true := by simp; omega
    have HV : Hid (greatB A = true) := Lib.hid (by rw [HGB.out]; simp [h60])
    go_enter Tryd.func8, Tryd.ntmps8
    go_wp2
    go_ret
    exact ⟨by rw [HV.out]; rfl, rfl⟩
  · have d0 : decide (60 < (N : Int)) = false := by simp; omega
    go_enter Tryd.func8, Tryd.ntmps8
    go_wp2
    clear d0
    go_loop [3] (fun i => ∃ k : Nat, k ≤ N ∧ i = .int .i64 k ∧ Hid (∀ j a, j < k → A[j]? = some a → greatA a = false)) (fun i => N - (intOf i).toNat)
    case atStart => exact ⟨0, by omega, rfl, Lib.hid (fun _ _ h => absurd h (Nat.not_lt_zero _))⟩
    case round =>
      obtain ⟨k, hk, rfl, HG⟩ := hrel
      by_cases hlt : k < N
      · obtain ⟨a, ha⟩ : ∃ a, A[k]? = some a := ⟨_, List.getElem?_eq_getElem (by rw [← HN.out]; exact hlt)⟩
        obtain ⟨hok, b, off, rfl, hb, hrg⟩ := HA.out k a ha
        obtain ⟨d, x, pa, P, pc⟩ := a
        have h3 : w.cell? ⟨b, off + k * 6 + 1 + 2, none⟩ = some (.string (bs x.path)) := hrg 3 _ rfl
        have h5 : w.cell? ⟨b, off + k * 6 + 5, none⟩ = some (.slice pa P.length pc) := hrg 5 _ rfl
        have hx := hok.x.path
        have hpl := hok.len
        have HE := Lib.hid hok.effs
        have HPP := Lib.hid hok.paths
        have HAK := Lib.hid ha
        have hsz : (bs x.path).size ≤ 9223372036854775807 := by rw [size_bs]; unfold maxLen at hx; exact hx
        obtain ⟨M, hM⟩ : ∃ M, M = P.length := ⟨_, rfl⟩
        have HM := Lib.hid hM
        dsimp only at hpl
        rw [← hM] at h5 hpl
        unfold maxLen at hpl
        have hMb : M ≤ 9223372036854775807 := by omega
        have HGA : Hid (greatA ⟨d, x, pa, P, pc⟩ = (decide (200 < x.path.length) || decide (20 < M) || P.any fun p => decide (200 < p.length))) := Lib.hid (by unfold greatA; rw [hM])
        have hyes : Hid (greatA ⟨d, x, pa, P, pc⟩ = true → greatB A = true) := Lib.hid (fun h => by
          rw [HGB.out, List.any_eq_true.2 ⟨_, List.mem_of_getElem? HAK.out, h⟩]; simp)
        clear hrg ha hok hx hpl hM
        by_cases h200 : 200 < x.path.length
        · have d1 : decide (200 < ((bs x.path).size : Int)) = true := by rw [size_bs]; simp; omega
          have HV := Lib.hid (hyes.out (by rw [HGA.out]; simp [h200]))
          clear h200
          go_wp2
          go_ret
          exact ⟨by rw [HV.out]; rfl, rfl⟩
        · have d1 : decide (200 < ((bs x.path).size : Int)) = false := by rw [size_bs]; simp; omega
          by_cases h20 : 20 < M
          · have d2 : decide (20 < (M : Int)) = true := by simp; omega
            have HV := Lib.hid (hyes.out (by rw [HGA.out]; simp [h20]))
            clear h200 h20
            go_wp2
            go_ret
            exact ⟨by rw [HV.out]; rfl, rfl⟩
          · have d2 : decide (20 < (M : Int)) = false := by simp; omega
            have HGN : Hid (greatA ⟨d, x, pa, P, pc⟩ = P.any fun p => decide (200 < p.length)) := Lib.hid (by rw [HGA.out]; simp [h200, h20])
            clear h200 h20
            go_wp2
            go_loop [4] (fun i => ∃ j : Nat, j ≤ M ∧ i = .int .i64 j ∧ Hid (∀ q p, q < j → P[q]? = some p → p.length ≤ 200)) (fun i => M - (intOf i).toNat)
            case atStart => exact ⟨0, by omega, rfl, Lib.hid (fun _ _ h => absurd h (Nat.not_lt_zero _))⟩
            case round =>
              obtain ⟨j, hj, rfl, HJ⟩ := hrel
              by_cases hlt3 : j < M
              · obtain ⟨p, hp⟩ : ∃ p, P[j]? = some p := ⟨_, List.getElem?_eq_getElem (by rw [← HM.out]; exact hlt3)⟩
                obtain ⟨bp, offp, rest, rfl, hbp, hrl, hrgp⟩ := HE.out j p hp
                have hc : w.cell? ⟨bp, offp + j * 11, none⟩ = some (.string (bs p)) := hrgp 0 _ rfl
                have hpm := HPP.out p (List.mem_of_getElem? hp)
                have HPJ := Lib.hid hp
                have hsz2 : (bs p).size ≤ 9223372036854775807 := by rw [size_bs]; unfold maxLen at hpm; exact hpm
                clear hrgp hp hpm
                by_cases h2 : 200 < p.length
                · have d3 : decide (200 < ((bs p).size : Int)) = true := by rw [size_bs]; simp; omega
                  have HV := Lib.hid (hyes.out (by rw [HGN.out, List.any_eq_true]; exact ⟨p, List.mem_of_getElem? HPJ.out, by simpa using h2⟩))
                  clear h2
                  go_wp2
                  go_ret
                  exact ⟨by rw [HV.out]; rfl, rfl⟩
                · have d3 : decide (200 < ((bs p).size : Int)) = false := by rw [size_bs]; simp; omega
                  have H2 := Lib.hid h2
                  clear h2
                  go_wp2
                  go_round
                  case rel =>
                    refine ⟨j + 1, by omega, by go_num, Lib.hid fun q z hq hz => ?_⟩
                    by_cases e : q = j
                    · subst e
                      rw [HPJ.out] at hz
                      cases hz
                      have := H2.out
                      omega
                    · exact HJ.out q z (by omega) hz
                  case measure => simp [intOf]; omega
              · obtain rfl : j = M := by omega
                have HNO : Hid (greatA ⟨d, x, pa, P, pc⟩ = false) := Lib.hid (by
                  rw [HGN.out, List.any_eq_false]
                  intro p hp
                  obtain ⟨q, hq⟩ := List.getElem?_of_mem hp
                  have := HJ.out q p (by rw [HM.out]; exact (List.getElem?_eq_some_iff.1 hq).1) hq
                  simp
                  omega)
                go_wp2
                go_round
                case rel =>
                  refine ⟨k + 1, by omega, by go_num, Lib.hid fun q z hq hz => ?_⟩
                  by_cases e : q = k
                  · subst e
                    rw [HAK.out] at hz
                    cases hz
                    exact HNO.out
                  · exact HG.out q z (by omega) hz
                case measure => simp [intOf]; omega
      · obtain rfl : k = N := by omega
        have HV : Hid (greatB A = false) := Lib.hid (by
          rw [HGB.out]
          simp only [Bool.or_eq_false_iff, decide_eq_false_iff_not, List.any_eq_false]
          refine ⟨h60, fun a ha => ?_⟩
          obtain ⟨q, hq⟩ := List.getElem?_of_mem ha
          rw [HG.out q a (by rw [HN.out]; exact (List.getElem?_eq_some_iff.1 hq).1) hq]
          simp)
        go_wp2
        go_ret
        exact ⟨by rw [HV.out]; rfl, rfl⟩
end Go.Proofs.YtfbimhbdifmeoaaDoor
