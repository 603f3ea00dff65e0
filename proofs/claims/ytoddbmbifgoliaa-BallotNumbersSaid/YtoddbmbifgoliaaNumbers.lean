/-
  BallotNumbers, walked.
-/
import Derived.Test.YtoddbmbifgoliaaNext
import Derived.Test.YtoddbmbifgoliaaOrder
import Derived.Deep.QuietTactic
import Derived.Outline
namespace Go.Proofs.Ytoddbmbifgoliaa
open Go.RowKit
set_option maxRecDepth 100000 in
set_option maxHeartbeats 8000000 in
theorem numbers_core (a i n c l m : Int) (a0 : 0 ≤ a) (a1 : a ≤ 18446744073709551615) (c0 : 0 ≤ c) (c1 : c ≤ 18446744073709551615) (i1 : -9223372036854775808 ≤ i) (i2 : i ≤ 9223372036854775807) (n1 : -9223372036854775808 ≤ n) (n2 : n ≤ 9223372036854775807)
    (l1 : -9223372036854775808 ≤ l) (l2 : l ≤ 9223372036854775807) (m1 : -9223372036854775808 ≤ m) (m2 : m ≤ 9223372036854775807)
    (hcounts : ∀ w, Calls Try.prog 14 #[] w fun e w' => e = .returned (.bool true) ∧ Below w.heap.size w w') (w : World) :
    Calls Try.prog 3 #[.int .u64 a, .int .i64 i, .int .i64 n, .int .u64 c, .int .i64 l, .int .i64 m] w fun x w' => x = .returned (.bool true) ∧ Below w.heap.size w w' := by
  by_cases hn : 1000 < n
  · go_enter Try.func3, Try.ntmps3
    go_wp2_with fail
    go_ret
    exact ⟨rfl, Below.refl _ _⟩
  have k1 := next_any a i n a0 a1 i1 i2 n1 (by omega)
  have k2 := refNext_any a i n a0 a1 i1 i2 n1 (by omega)
  have k3 := owner_any a n a0 a1 n1 n2
  have k4 := quorum_any n n1 n2
  have k5 := better_any a l c m l1 l2 m1 m2
  generalize nextOf a i n = v at *
  rcases (show 1 ≤ n ∨ n ≤ 0 by omega) with hp | hp
  · rw [show ownerOf a n = a % n from if_neg (by omega)] at k3
    rw [show quorumOf n = (n + 2) / 2 from (if_neg (by omega)).trans (by omega)] at k4
    have g1 : 0 ≤ a % n := Int.emod_nonneg _ (by omega)
    have g2 : a % n < n := Int.emod_lt_of_pos _ (by omega)
    by_cases h1 : c < a
    · rw [show betterB a l c m = true from by simp [betterB, h1]] at k5
      go_enter Try.func3, Try.ntmps3
      go_wp2_with fail
      refine (k1 _).mono ?_
      rintro x w1 ⟨rfl, rfl⟩
      go_wp2_with fail
      refine (k2 _).mono ?_
      rintro x w1 ⟨rfl, rfl⟩
      go_wp2_with fail
      refine (k3 _).mono ?_
      rintro x w1 ⟨rfl, rfl⟩
      go_wp2_with fail
      refine (k4 _).mono ?_
      rintro x w1 ⟨rfl, rfl⟩
      go_wp2_with fail
      refine (k5 _).mono ?_
      rintro x w2 ⟨rfl, B2⟩
      have C2 := Lib.hid B2
      clear B2
      go_wp2_with fail
      refine (hcounts _).mono ?_
      rintro x w3 ⟨rfl, B3⟩
      go_wp2_with fail
      go_ret
      exact ⟨rfl, C2.out.trans (B3.mono C2.out.size)⟩
    by_cases h2 : a = c
    · subst h2
      have h3 : (a == a) = true := by simp
      by_cases h4 : m < l
      · rw [show betterB a l a m = true from by simp [betterB, h4]] at k5
        go_enter Try.func3, Try.ntmps3
        go_wp2_with fail
        refine (k1 _).mono ?_
        rintro x w1 ⟨rfl, rfl⟩
        go_wp2_with fail
        refine (k2 _).mono ?_
        rintro x w1 ⟨rfl, rfl⟩
        go_wp2_with fail
        refine (k3 _).mono ?_
        rintro x w1 ⟨rfl, rfl⟩
        go_wp2_with fail
        refine (k4 _).mono ?_
        rintro x w1 ⟨rfl, rfl⟩
        go_wp2_with fail
        refine (k5 _).mono ?_
        rintro x w2 ⟨rfl, B2⟩
        have C2 := Lib.hid B2
        clear B2
        go_wp2_with fail
        refine (hcounts _).mono ?_
        rintro x w3 ⟨rfl, B3⟩
        go_wp2_with fail
        go_ret
        exact ⟨rfl, C2.out.trans (B3.mono C2.out.size)⟩
      · have h5 : decide (m < l) = false := by simpa using h4
        rw [show betterB a l a m = false from by simp [betterB, h4]] at k5
        go_enter Try.func3, Try.ntmps3
        go_wp2_with fail
        refine (k1 _).mono ?_
        rintro x w1 ⟨rfl, rfl⟩
        go_wp2_with fail
        refine (k2 _).mono ?_
        rintro x w1 ⟨rfl, rfl⟩
        go_wp2_with fail
        refine (k3 _).mono ?_
        rintro x w1 ⟨rfl, rfl⟩
        go_wp2_with fail
        refine (k4 _).mono ?_
        rintro x w1 ⟨rfl, rfl⟩
        go_wp2_with fail
        refine (k5 _).mono ?_
        rintro x w2 ⟨rfl, B2⟩
        have C2 := Lib.hid B2
        clear B2
        go_wp2_with fail
        refine (hcounts _).mono ?_
        rintro x w3 ⟨rfl, B3⟩
        go_wp2_with fail
        go_ret
        exact ⟨rfl, C2.out.trans (B3.mono C2.out.size)⟩
    · have h3 : (a == c) = false := by simpa using h2
      have h6 : (a == c && decide (m < l)) = false := by simp [h3]
      have h5 : decide (c < a) = false := by simpa using h1
      rw [show betterB a l c m = false from by simp [betterB, h5, h3]] at k5
      go_enter Try.func3, Try.ntmps3
      go_wp2_with fail
      refine (k1 _).mono ?_
      rintro x w1 ⟨rfl, rfl⟩
      go_wp2_with fail
      refine (k2 _).mono ?_
      rintro x w1 ⟨rfl, rfl⟩
      go_wp2_with fail
      refine (k3 _).mono ?_
      rintro x w1 ⟨rfl, rfl⟩
      go_wp2_with fail
      refine (k4 _).mono ?_
      rintro x w1 ⟨rfl, rfl⟩
      go_wp2_with fail
      refine (k5 _).mono ?_
      rintro x w2 ⟨rfl, B2⟩
      have C2 := Lib.hid B2
      clear B2
      go_wp2_with fail
      refine (hcounts _).mono ?_
      rintro x w3 ⟨rfl, B3⟩
      go_wp2_with fail
      go_ret
      exact ⟨rfl, C2.out.trans (B3.mono C2.out.size)⟩
  · rw [show ownerOf a n = -1 from if_pos (by omega)] at k3
    rw [show quorumOf n = 0 from if_pos (by omega)] at k4
    by_cases h1 : c < a
    · rw [show betterB a l c m = true from by simp [betterB, h1]] at k5
      go_enter Try.func3, Try.ntmps3
      go_wp2_with fail
      refine (k1 _).mono ?_
      rintro x w1 ⟨rfl, rfl⟩
      go_wp2_with fail
      refine (k2 _).mono ?_
      rintro x w1 ⟨rfl, rfl⟩
      go_wp2_with fail
      refine (k3 _).mono ?_
      rintro x w1 ⟨rfl, rfl⟩
      go_wp2_with fail
      refine (k4 _).mono ?_
      rintro x w1 ⟨rfl, rfl⟩
      go_wp2_with fail
      refine (k5 _).mono ?_
      rintro x w2 ⟨rfl, B2⟩
      have C2 := Lib.hid B2
      clear B2
      go_wp2_with fail
      refine (hcounts _).mono ?_
      rintro x w3 ⟨rfl, B3⟩
      go_wp2_with fail
      go_ret
      exact ⟨rfl, C2.out.trans (B3.mono C2.out.size)⟩
    by_cases h2 : a = c
    · subst h2
      have h3 : (a == a) = true := by simp
      by_cases h4 : m < l
      · rw [show betterB a l a m = true from by simp [betterB, h4]] at k5
        go_enter Try.func3, Try.ntmps3
        go_wp2_with fail
        refine (k1 _).mono ?_
        rintro x w1 ⟨rfl, rfl⟩
        go_wp2_with fail
        refine (k2 _).mono ?_
        rintro x w1 ⟨rfl, rfl⟩
        go_wp2_with fail
        refine (k3 _).mono ?_
        rintro x w1 ⟨rfl, rfl⟩
        go_wp2_with fail
        refine (k4 _).mono ?_
        rintro x w1 ⟨rfl, rfl⟩
        go_wp2_with fail
        refine (k5 _).mono ?_
        rintro x w2 ⟨rfl, B2⟩
        have C2 := Lib.hid B2
        clear B2
        go_wp2_with fail
        refine (hcounts _).mono ?_
        rintro x w3 ⟨rfl, B3⟩
        go_wp2_with fail
        go_ret
        exact ⟨rfl, C2.out.trans (B3.mono C2.out.size)⟩
      · have h5 : decide (m < l) = false := by simpa using h4
        rw [show betterB a l a m = false from by simp [betterB, h4]] at k5
        go_enter Try.func3, Try.ntmps3
        go_wp2_with fail
        refine (k1 _).mono ?_
        rintro x w1 ⟨rfl, rfl⟩
        go_wp2_with fail
        refine (k2 _).mono ?_
        rintro x w1 ⟨rfl, rfl⟩
        go_wp2_with fail
        refine (k3 _).mono ?_
        rintro x w1 ⟨rfl, rfl⟩
        go_wp2_with fail
        refine (k4 _).mono ?_
        rintro x w1 ⟨rfl, rfl⟩
        go_wp2_with fail
        refine (k5 _).mono ?_
        rintro x w2 ⟨rfl, B2⟩
        have C2 := Lib.hid B2
        clear B2
        go_wp2_with fail
        refine (hcounts _).mono ?_
        rintro x w3 ⟨rfl, B3⟩
        go_wp2_with fail
        go_ret
        exact ⟨rfl, C2.out.trans (B3.mono C2.out.size)⟩
    · have h3 : (a == c) = false := by simpa using h2
      have h6 : (a == c && decide (m < l)) = false := by simp [h3]
      have h5 : decide (c < a) = false := by simpa using h1
      rw [show betterB a l c m = false from by simp [betterB, h5, h3]] at k5
      go_enter Try.func3, Try.ntmps3
      go_wp2_with fail
      refine (k1 _).mono ?_
      rintro x w1 ⟨rfl, rfl⟩
      go_wp2_with fail
      refine (k2 _).mono ?_
      rintro x w1 ⟨rfl, rfl⟩
      go_wp2_with fail
      refine (k3 _).mono ?_
      rintro x w1 ⟨rfl, rfl⟩
      go_wp2_with fail
      refine (k4 _).mono ?_
      rintro x w1 ⟨rfl, rfl⟩
      go_wp2_with fail
      refine (k5 _).mono ?_
      rintro x w2 ⟨rfl, B2⟩
      have C2 := Lib.hid B2
      clear B2
      go_wp2_with fail
      refine (hcounts _).mono ?_
      rintro x w3 ⟨rfl, B3⟩
      go_wp2_with fail
      go_ret
      exact ⟨rfl, C2.out.trans (B3.mono C2.out.size)⟩
end Go.Proofs.Ytoddbmbifgoliaa
