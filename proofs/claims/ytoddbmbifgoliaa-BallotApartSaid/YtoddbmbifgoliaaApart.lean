/-
  BallotApart, walked.
-/
import Derived.Test.YtoddbmbifgoliaaNext
import Derived.Test.YtoddbmbifgoliaaOrder
import Derived.Deep.QuietTactic
import Derived.Outline
namespace Go.Proofs.Ytoddbmbifgoliaa
open Go.RowKit
set_option maxRecDepth 100000 in
set_option maxHeartbeats 4000000 in
theorem apart_core (a b n i k : Int) (a0 : 0 ≤ a) (a1 : a ≤ 18446744073709551615) (b0 : 0 ≤ b) (b1 : b ≤ 18446744073709551615) (n0 : 0 ≤ n) (n1 : n ≤ 255) (i0 : 0 ≤ i) (i1 : i ≤ 255) (k0 : 0 ≤ k) (k1 : k ≤ 255)
    (hcounts : ∀ w, Calls Try.prog 14 #[] w fun e w' => e = .returned (.bool true) ∧ Below w.heap.size w w') (w : World) :
    Calls Try.prog 6 #[.int .u64 a, .int .u64 b, .int .u8 i, .int .u8 k, .int .u8 n] w fun x w' => x = .returned (.bool true) ∧ Below w.heap.size w w' := by
  have t1 : i.tmod (1 + n % 40) = i % (1 + n % 40) := Int.tmod_eq_emod_of_nonneg i0
  have t2 : k.tmod (1 + n % 40) = k % (1 + n % 40) := Int.tmod_eq_emod_of_nonneg k0
  have p1 : 0 ≤ i % (1 + n % 40) := Int.emod_nonneg _ (by omega)
  have p2 : i % (1 + n % 40) < 1 + n % 40 := Int.emod_lt_of_pos _ (by omega)
  have p3 : 0 ≤ k % (1 + n % 40) := Int.emod_nonneg _ (by omega)
  have p4 : k % (1 + n % 40) < 1 + n % 40 := Int.emod_lt_of_pos _ (by omega)
  have q1 : 1 ≤ 1 + n % 40 ∧ 1 + n % 40 ≤ 40 := by omega
  obtain ⟨q1, q2⟩ := q1
  have r1 : 0 ≤ a % 281474976710657 ∧ a % 281474976710657 ≤ 281474976710656 := by omega
  have r2 : 0 ≤ b % 281474976710657 ∧ b % 281474976710657 ≤ 281474976710656 := by omega
  obtain ⟨r1, r3⟩ := r1
  obtain ⟨r2, r4⟩ := r2
  have c1 := next_any (a % 281474976710657) (i % (1 + n % 40)) (1 + n % 40) (by omega) (by omega) (by omega) (by omega) (by omega) (by omega)
  have c2 := next_any (b % 281474976710657) (k % (1 + n % 40)) (1 + n % 40) (by omega) (by omega) (by omega) (by omega) (by omega) (by omega)
  obtain ⟨s1, s2, s3⟩ := next_spec (a % 281474976710657) (i % (1 + n % 40)) (1 + n % 40) q1 p1 p2 r3
  obtain ⟨s4, s5, s6⟩ := next_spec (b % 281474976710657) (k % (1 + n % 40)) (1 + n % 40) q1 p3 p4 r4
  have hl := fun h : a % 281474976710657 < nextOf (b % 281474976710657) (k % (1 + n % 40)) (1 + n % 40) => fun h2 => next_least (a % 281474976710657) (i % (1 + n % 40)) (1 + n % 40) _ q1 p1 p2 r3 h h2
  generalize nextOf (a % 281474976710657) (i % (1 + n % 40)) (1 + n % 40) = e at *
  generalize nextOf (b % 281474976710657) (k % (1 + n % 40)) (1 + n % 40) = f at *
  have c3 := owner_any e (1 + n % 40) (by omega) (by omega) (by omega) (by omega)
  have c4 := owner_any f (1 + n % 40) (by omega) (by omega) (by omega) (by omega)
  rw [show ownerOf e (1 + n % 40) = i % (1 + n % 40) from (if_neg (by omega)).trans s3] at c3
  rw [show ownerOf f (1 + n % 40) = k % (1 + n % 40) from (if_neg (by omega)).trans s6] at c4
  have hn3 : (i % (1 + n % 40) != i % (1 + n % 40)) = false := by simp
  have hn4 : (k % (1 + n % 40) != k % (1 + n % 40)) = false := by simp
  by_cases hik : i % (1 + n % 40) = k % (1 + n % 40)
  · have hn1 : (i % (1 + n % 40) != k % (1 + n % 40)) = false := by simpa using hik
    by_cases hab : b % 281474976710657 < a % 281474976710657
    · have hn2 : decide (b % 281474976710657 < a % 281474976710657) = true := by simpa using hab
      clear s3 s6 hl hik hab
      go_enter Try.func6, Try.ntmps6
      go_wp2_with fail
      go_quiet (fail)
      go_wp2_with fail
      refine (c1 _).mono ?_
      rintro x w1 ⟨rfl, rfl⟩
      go_wp2_with fail
      refine (c2 _).mono ?_
      rintro x w1 ⟨rfl, rfl⟩
      go_wp2_with fail
      refine (c3 _).mono ?_
      rintro x w1 ⟨rfl, rfl⟩
      go_wp2_with fail
      refine (c4 _).mono ?_
      rintro x w1 ⟨rfl, rfl⟩
      go_wp2_with fail
      refine (hcounts _).mono ?_
      rintro x w2 ⟨rfl, B2⟩
      go_wp2_with fail
      go_ret
      exact ⟨rfl, (show Below w.heap.size w (w.drewN _) from ⟨rfl, rfl, rfl, Nat.le_refl _, fun _ _ => rfl⟩).trans B2⟩
    · have hn2 : decide (b % 281474976710657 < a % 281474976710657) = false := by simpa using hab
      have hef : e ≤ f := hl (by omega) (by rw [s6, hik])
      clear s3 s6 hl hik hab
      go_enter Try.func6, Try.ntmps6
      go_wp2_with fail
      go_quiet (fail)
      go_wp2_with fail
      refine (c1 _).mono ?_
      rintro x w1 ⟨rfl, rfl⟩
      go_wp2_with fail
      refine (c2 _).mono ?_
      rintro x w1 ⟨rfl, rfl⟩
      go_wp2_with fail
      refine (c3 _).mono ?_
      rintro x w1 ⟨rfl, rfl⟩
      go_wp2_with fail
      refine (c4 _).mono ?_
      rintro x w1 ⟨rfl, rfl⟩
      go_wp2_with fail
      refine (hcounts _).mono ?_
      rintro x w2 ⟨rfl, B2⟩
      go_wp2_with fail
      go_ret
      exact ⟨rfl, (show Below w.heap.size w (w.drewN _) from ⟨rfl, rfl, rfl, Nat.le_refl _, fun _ _ => rfl⟩).trans B2⟩
  · have hn1 : (i % (1 + n % 40) != k % (1 + n % 40)) = true := by simpa using hik
    have hef : (e == f) = false := by
      have : ¬ e = f := fun h => hik (by rw [← s3, ← s6, h])
      simpa using this
    clear s3 s6 hl hik
    · skip
      go_enter Try.func6, Try.ntmps6
      go_wp2_with fail
      go_quiet (fail)
      go_wp2_with fail
      refine (c1 _).mono ?_
      rintro x w1 ⟨rfl, rfl⟩
      go_wp2_with fail
      refine (c2 _).mono ?_
      rintro x w1 ⟨rfl, rfl⟩
      go_wp2_with fail
      refine (c3 _).mono ?_
      rintro x w1 ⟨rfl, rfl⟩
      go_wp2_with fail
      refine (c4 _).mono ?_
      rintro x w1 ⟨rfl, rfl⟩
      go_wp2_with fail
      refine (hcounts _).mono ?_
      rintro x w2 ⟨rfl, B2⟩
      go_wp2_with fail
      go_ret
      exact ⟨rfl, (show Below w.heap.size w (w.drewN _) from ⟨rfl, rfl, rfl, Nat.le_refl _, fun _ _ => rfl⟩).trans B2⟩
end Go.Proofs.Ytoddbmbifgoliaa
