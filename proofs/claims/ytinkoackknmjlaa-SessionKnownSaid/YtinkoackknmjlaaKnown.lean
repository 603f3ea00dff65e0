/-
  SessionKnown, walked.
-/
import Derived.Test.YtinkoackknmjlaaRun
import Derived.LoopTactic
namespace Go.Proofs.Ytinkoackknmjlaa
open Go.RowKit Go.MapKept Go.ChangeMaps Go.Shelf
open Go.Maps (Keyed)

set_option maxRecDepth 100000 in
set_option maxHeartbeats 2000000 in
theorem known_true (w : World) : Calls Try.prog 6 #[] w fun e w' => e = .returned (.bool true) ∧ Below w.heap.size w w' := by
  go_enter Try.func6, Try.ntmps6
  go_wp2_with fail
  refine (new_any 0 w).mono ?_
  rintro e w1 ⟨rfl, hw1⟩
  have R := Run.new (B := w.heap.size) (W0 := w) (w := w) (Below.refl _ w) (Nat.le_refl _) ⟨by omega, by omega⟩ hw1
  clear hw1
  go_wp2
  go_loopw [2, 3, 4] (fun i _ _ wr => ∃ k : Nat, k ≤ 32 ∧ i = .int .i64 ((k : Int) + 1) ∧ Run w.heap.size w wr (w.heap.size + 1) w.heap.size 0 k [])
    (fun i _ _ _ => 33 - (intOf i).toNat)
  case atStart => exact ⟨0, by omega, rfl, R⟩
  case round =>
    obtain ⟨k, hk, rfl, R1⟩ := hrel
    clear R
    by_cases hlt : k < 32
    · go_wp2_with fail
      refine (R1.open_ok (by omega) (by omega)).mono ?_
      rintro e w2 ⟨rfl, R2⟩
      clear R1
      go_wp2
      go_roundw
      case rel => exact ⟨k + 1, by omega, by go_num, R2⟩
      case measure => simp [intOf]; omega
    · obtain rfl : k = 32 := by omega
      clear hk hlt
      go_wp2_with fail
      refine (R1.open_full (by omega)).mono ?_
      rintro e w2 ⟨rfl, R2⟩
      clear R1
      go_wp2_with fail
      refine (R2.close_yes ⟨by omega, by omega⟩ (by decide)).mono ?_
      rintro e w3 ⟨rfl, R3⟩
      clear R2
      go_wp2_with fail
      refine (R3.open_full (by omega)).mono ?_
      rintro e w4 ⟨rfl, R4⟩
      clear R3
      go_wp2_with fail
      refine (R4.learn_no (.inl rfl)).mono ?_
      rintro e w5 ⟨rfl, R5⟩
      clear R4
      go_wp2_with fail
      refine (R5.learn_no (.inr (by omega))).mono ?_
      rintro e w6 ⟨rfl, R6⟩
      clear R5
      go_wp2_with fail
      refine (R6.lives (by omega)).mono ?_
      rintro e w7 ⟨v, rfl, hrow, _, R7⟩
      clear R6
      rw [show liveUp 0 (32 : Nat) (addS (0, 3) []) 32 = [1, 2, 4, 5, 6, 7, 8, 9, 10, 11, 12, 13, 14, 15, 16, 17, 18, 19, 20, 21, 22, 23, 24, 25, 26, 27, 28, 29, 30, 31, 32] by decide +kernel] at hrow
      obtain ⟨g, cap, rfl, _⟩ := row_cell hrow
      clear hrow
      go_wp2_with fail
      refine (R7.close_no ⟨by omega, by omega⟩ (by decide)).mono ?_
      rintro e w8 ⟨rfl, R8⟩
      clear R7
      go_wp2_with fail
      refine (R8.close_no ⟨by omega, by omega⟩ (by decide)).mono ?_
      rintro e w9 ⟨rfl, R9⟩
      clear R8
      go_wp2_with fail
      refine (R9.Gone ⟨by omega, by omega⟩ ⟨by omega, by omega⟩).mono ?_
      rintro e wa ⟨rfl, Ra⟩
      clear R9
      rw [show (addS (0, 3) []).contains ((0 : Int), (4 : Int)) = false by decide]
      go_wp2_with fail
      refine (Ra.Gone ⟨by omega, by omega⟩ ⟨by omega, by omega⟩).mono ?_
      rintro e wb ⟨rfl, Rb⟩
      clear Ra
      rw [show (addS (0, 3) []).contains ((1 : Int), (0 : Int)) = false by decide]
      go_wp2_with fail
      refine (Rb.Live ⟨by omega, by omega⟩).mono ?_
      rintro e wc ⟨rfl, Rc⟩
      clear Rb
      rw [show liveB 0 (32 : Nat) (addS (0, 3) []) 4 = true by decide]
      go_wp2_with fail
      refine (Rc.Live ⟨by omega, by omega⟩).mono ?_
      rintro e wd ⟨rfl, Rd⟩
      clear Rc
      rw [show liveB 0 (32 : Nat) (addS (0, 3) []) 3 = false by decide]
      go_wp2_with fail
      refine Rd.goes.mono ?_
      rintro e we ⟨rfl, Re⟩
      clear Rd
      go_wp2
      go_ret
      exact ⟨rfl, Re.below⟩

theorem known_law {H : Type} (_ : TypeId × Value → H) (W : World) : Calls Try.prog 6 #[] W fun e W' => e = .returned (.bool true) ∧ Below W.heap.size W W' := known_true W
end Go.Proofs.Ytinkoackknmjlaa
