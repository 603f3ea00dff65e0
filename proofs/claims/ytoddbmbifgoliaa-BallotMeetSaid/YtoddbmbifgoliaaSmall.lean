/-
  The ballot's small functions, walked: Quorum, Owner, Commit's comparison.
-/
import Derived.Test.YtoddbmbifgoliaaChecked
import Derived.WalkKit
import Derived.Lib.Hide
import Derived.Deep.Draws
namespace Go.Proofs.Ytoddbmbifgoliaa
open Go.RowKit

def quorumOf (n : Int) : Int := if n < 1 then 0 else n / 2 + 1
def ownerOf (e n : Int) : Int := if n < 1 then -1 else e % n
def cfD (x y : Int) : Int := if y < x then -1 else if x < y then 1 else 0

set_option maxHeartbeats 1000000 in
theorem quorum_any (n : Int) (h1 : -9223372036854775808 ≤ n) (h2 : n ≤ 9223372036854775807) (w : World) : Calls Try.prog 12 #[.int .i64 n] w fun e w' => e = .returned (.int .i64 (quorumOf n)) ∧ w' = w := by
  by_cases h : n < 1
  · have e0 : quorumOf n = 0 := by unfold quorumOf; rw [if_pos h]
    rw [e0]
    clear e0
    go_enter Try.func12, Try.ntmps12
    go_wp2
    go_ret
    exact ⟨rfl, rfl⟩
  · have e0 : quorumOf n = n / 2 + 1 := by unfold quorumOf; rw [if_neg h]
    rw [e0]
    clear e0
    go_enter Try.func12, Try.ntmps12
    go_wp2
    go_ret
    exact ⟨rfl, rfl⟩

set_option maxHeartbeats 1000000 in
theorem owner_any (e n : Int) (h0 : 0 ≤ e) (h3 : e ≤ 18446744073709551615) (h1 : -9223372036854775808 ≤ n) (h2 : n ≤ 9223372036854775807) (w : World) : Calls Try.prog 11 #[.int .u64 e, .int .i64 n] w fun x w' => x = .returned (.int .i64 (ownerOf e n)) ∧ w' = w := by
  by_cases h : n < 1
  · have e0 : ownerOf e n = -1 := by unfold ownerOf; rw [if_pos h]
    rw [e0]
    clear e0
    go_enter Try.func11, Try.ntmps11
    go_wp2
    go_ret
    exact ⟨rfl, rfl⟩
  · have e0 : ownerOf e n = e % n := by unfold ownerOf; rw [if_neg h]
    rw [e0]
    clear e0
    have g1 : 0 ≤ e % n := Int.emod_nonneg _ (by omega)
    have g2 : e % n < n := Int.emod_lt_of_pos _ (by omega)
    go_enter Try.func11, Try.ntmps11
    go_wp2
    go_ret
    exact ⟨rfl, rfl⟩

def nextOf (a i n : Int) : Int := if n < 1 ∨ i < 0 ∨ n ≤ i ∨ 281474976710656 < a then 0 else a + 1 + (i - (a + 1) % n) % n

set_option maxHeartbeats 1000000 in
theorem next_any (a i n : Int) (h0 : 0 ≤ a) (h3 : a ≤ 18446744073709551615) (i1 : -9223372036854775808 ≤ i) (i2 : i ≤ 9223372036854775807) (h1 : -9223372036854775808 ≤ n) (h2 : n ≤ 4611686018427387903) (w : World) :
    Calls Try.prog 9 #[.int .u64 a, .int .i64 i, .int .i64 n] w fun x w' => x = .returned (.int .u64 (nextOf a i n)) ∧ w' = w := by
  by_cases c1 : n < 1
  · rw [show nextOf a i n = 0 from if_pos (.inl c1)]
    go_enter Try.func9, Try.ntmps9
    go_wp2
    go_ret
    exact ⟨rfl, rfl⟩
  by_cases c2 : i < 0
  · rw [show nextOf a i n = 0 from if_pos (.inr (.inl c2))]
    go_enter Try.func9, Try.ntmps9
    go_wp2
    go_ret
    exact ⟨rfl, rfl⟩
  by_cases c3 : n ≤ i
  · rw [show nextOf a i n = 0 from if_pos (.inr (.inr (.inl c3)))]
    go_enter Try.func9, Try.ntmps9
    go_wp2
    go_ret
    exact ⟨rfl, rfl⟩
  by_cases c4 : 281474976710656 < a
  · rw [show nextOf a i n = 0 from if_pos (.inr (.inr (.inr c4)))]
    go_enter Try.func9, Try.ntmps9
    go_wp2
    go_ret
    exact ⟨rfl, rfl⟩
  have e0 : nextOf a i n = a + 1 + (i - (a + 1) % n) % n := if_neg (by omega)
  have g1 : 0 ≤ (a + 1) % n := Int.emod_nonneg _ (by omega)
  have g2 : (a + 1) % n < n := Int.emod_lt_of_pos _ (by omega)
  have e1 : ownerOf (a + 1) n = (a + 1) % n := if_neg c1
  have hw := owner_any (a + 1) n (by omega) (by omega) h1 (by omega)
  rw [e1] at hw
  rw [e0]
  clear e0 e1
  generalize (a + 1) % n = r at *
  have g3 : 0 ≤ (i - r) % n := Int.emod_nonneg _ (by omega)
  have g4 : (i - r) % n < n := Int.emod_lt_of_pos _ (by omega)
  go_enter Try.func9, Try.ntmps9
  go_wp2_with (go_at_call 11; refine (hw _).mono ?_; rintro x w' ⟨rfl, rfl⟩)
  go_ret
  exact ⟨rfl, rfl⟩

set_option maxHeartbeats 1000000 in
theorem closure20 (x y : Int) (W : World) : Calls Try.prog 20 #[.int .i64 x, .int .i64 y] W fun e w' => e = .returned (.int .i64 (cfD x y)) ∧ ∃ q, w' = W.drewN q := by
  by_cases h1 : y < x
  · have e0 : cfD x y = -1 := by unfold cfD; rw [if_pos h1]
    rw [e0]
    clear e0
    go_enter Try.func20, Try.ntmps20
    go_wp2
    go_ret
    exact ⟨rfl, 0, rfl⟩
  · by_cases h2 : x < y
    · have e0 : cfD x y = 1 := by unfold cfD; rw [if_neg h1, if_pos h2]
      rw [e0]
      clear e0
      go_enter Try.func20, Try.ntmps20
      go_wp2
      go_ret
      exact ⟨rfl, 0, rfl⟩
    · have e0 : cfD x y = 0 := by unfold cfD; rw [if_neg h1, if_neg h2]
      rw [e0]
      clear e0
      go_enter Try.func20, Try.ntmps20
      go_wp2
      go_ret
      exact ⟨rfl, 0, rfl⟩
end Go.Proofs.Ytoddbmbifgoliaa
