/-
  The ballot's Next: the plain law, and the reference's Next, walked.
-/
import Derived.Test.YtoddbmbifgoliaaSmall
namespace Go.Proofs.Ytoddbmbifgoliaa
open Go.RowKit

theorem next_eq (a i s : Int) (hs : 1 ≤ s) (hi : 0 ≤ i) (his : i < s) (ha : a ≤ 281474976710656) : nextOf a i s = a + 1 + (i - (a + 1) % s) % s := if_neg (by omega)
theorem next_spec (a i s : Int) (hs : 1 ≤ s) (hi : 0 ≤ i) (his : i < s) (ha : a ≤ 281474976710656) : a < nextOf a i s ∧ nextOf a i s ≤ a + s ∧ nextOf a i s % s = i := by
  rw [next_eq a i s hs hi his ha]
  have g3 : 0 ≤ (i - (a + 1) % s) % s := Int.emod_nonneg _ (by omega)
  have g4 : (i - (a + 1) % s) % s < s := Int.emod_lt_of_pos _ (by omega)
  refine ⟨by omega, by omega, ?_⟩
  have e1 := Int.mul_ediv_add_emod (a + 1) s
  have e2 := Int.mul_ediv_add_emod (i - (a + 1) % s) s
  have e3 : a + 1 + (i - (a + 1) % s) % s = i + s * ((a + 1) / s - (i - (a + 1) % s) / s) := by
    rw [Int.mul_sub]; omega
  rw [e3, Int.add_mul_emod_self_left]
  exact Int.emod_eq_of_lt hi his
theorem far (s x y : Int) (hs : 1 ≤ s) (h : x % s = y % s) (hlt : x < y) : x + s ≤ y := by
  have e1 := Int.mul_ediv_add_emod x s
  have e2 := Int.mul_ediv_add_emod y s
  have h1 : y - x = s * (y / s - x / s) := by rw [Int.mul_sub]; omega
  have h2 : 1 ≤ y / s - x / s := by
    apply Classical.byContradiction
    intro hn
    have := Int.mul_le_mul_of_nonneg_left (show y / s - x / s ≤ 0 by omega) (show 0 ≤ s by omega)
    rw [Int.mul_zero] at this
    omega
  have h3 := Int.mul_le_mul_of_nonneg_left h2 (show 0 ≤ s by omega)
  rw [Int.mul_one] at h3
  omega
theorem next_least (a i s x : Int) (hs : 1 ≤ s) (hi : 0 ≤ i) (his : i < s) (ha : a ≤ 281474976710656) (hx : a < x) (hm : x % s = i) : nextOf a i s ≤ x := by
  obtain ⟨h1, h2, h3⟩ := next_spec a i s hs hi his ha
  apply Classical.byContradiction
  intro hn
  have := far s x (nextOf a i s) hs (by rw [hm, h3]) (by omega)
  omega

set_option maxHeartbeats 1000000 in
theorem refNext_any (a i n : Int) (h0 : 0 ≤ a) (h3 : a ≤ 18446744073709551615) (i1 : -9223372036854775808 ≤ i) (i2 : i ≤ 9223372036854775807) (h1 : -9223372036854775808 ≤ n) (h2 : n ≤ 1000) (w : World) :
    Calls Try.prog 10 #[.int .u64 a, .int .i64 i, .int .i64 n] w fun x w' => x = .returned (.int .u64 (nextOf a i n)) ∧ w' = w := by
  by_cases c1 : n < 1
  · rw [show nextOf a i n = 0 from if_pos (.inl c1)]
    go_enter Try.func10, Try.ntmps10
    go_wp2
    go_ret
    exact ⟨rfl, rfl⟩
  by_cases c2 : i < 0
  · rw [show nextOf a i n = 0 from if_pos (.inr (.inl c2))]
    go_enter Try.func10, Try.ntmps10
    go_wp2
    go_ret
    exact ⟨rfl, rfl⟩
  by_cases c3 : n ≤ i
  · rw [show nextOf a i n = 0 from if_pos (.inr (.inr (.inl c3)))]
    go_enter Try.func10, Try.ntmps10
    go_wp2
    go_ret
    exact ⟨rfl, rfl⟩
  by_cases c4 : 281474976710656 < a
  · rw [show nextOf a i n = 0 from if_pos (.inr (.inr (.inr c4)))]
    go_enter Try.func10, Try.ntmps10
    go_wp2
    go_ret
    exact ⟨rfl, rfl⟩
  obtain ⟨g1, g2, g3⟩ := next_spec a i n (by omega) (by omega) (by omega) (by omega)
  have hleast := next_least a i n
  generalize hv : nextOf a i n = v at *
  have HV := Lib.hid hv
  have G3 := Lib.hid g3
  have HL := Lib.hid hleast
  clear hv g3 hleast
  go_enter Try.func10, Try.ntmps10
  go_wp2
  go_loop [7] (fun e => ∃ k : Int, a < k ∧ k ≤ v ∧ e = .int .u64 k) (fun e => (v - intOf e).toNat)
  case atStart => exact ⟨_, by omega, by omega, rfl⟩
  case round =>
    obtain ⟨k, hk1, hk2, rfl⟩ := hrel
    have q1 : 0 ≤ k % n := Int.emod_nonneg _ (by omega)
    have q2 : k % n < n := Int.emod_lt_of_pos _ (by omega)
    by_cases hkv : k = v
    · subst hkv
      have ht : (k % n != i) = false := by simpa using G3.out
      go_wp2
      go_ret
      exact ⟨rfl, rfl⟩
    · have hlt : k < v := by omega
      have ht : (k % n != i) = true := by
        have : ¬ k % n = i := fun e => by have := HL.out k (by omega) (by omega) (by omega) (by omega) hk1 e; omega
        simpa using this
      clear hkv
      go_wp2
      go_round
      case rel => exact ⟨k + 1, by omega, by omega, by go_num⟩
      case measure => simp [intOf]; omega
end Go.Proofs.Ytoddbmbifgoliaa
