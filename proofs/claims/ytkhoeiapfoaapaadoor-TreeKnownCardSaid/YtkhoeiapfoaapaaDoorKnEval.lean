/-
  TreeKnown's effects, reckoned.
-/
import Derived.Test.YtkhoeiapfoaapaaDoorTrEval
namespace Go.Proofs.YtkhoeiapfoaapaaDoor
set_option linter.unusedVariables false
set_option linter.unusedSimpArgs false
set_option linter.unusedVariables false
set_option linter.unusedSimpArgs false

def pX : Bytes := [47, 120]
def pRX : Bytes := [47, 114, 47, 120]
def pA1 : Bytes := [47, 114, 47, 97, 49]
def pNone : Bytes := [47, 110, 111, 110, 101]
def nd3 : Nd := ⟨[], ⟨3, 0, 0, 0, 0, 0, 0, 0⟩⟩
def nameK (k : Nat) : Bytes := [UInt8.ofNat (97 + k / 10), UInt8.ofNat (48 + k % 10)]
def pathK (k : Nat) : Bytes := [47, 114, 47] ++ nameK k
def MK (k : Nat) : List (Bytes × Nd) := (pR, nd3) :: (List.range k).map fun i => (pathK (i + 1), ⟨pathK (i + 1), zNums⟩)
theorem kn0 : (partsL [114]).isSome = false := by rw [partsL_eq]; decide +kernel
theorem kn1 : (applyA pR M0 [putF pX]).1 = 30 := by rw [applyA_eq]; decide +kernel
theorem kn3 : (applyA pR M1 [goneF pR]).1 = 30 := by rw [applyA_eq]; decide +kernel
theorem kn4 : (applyA pR M1 [goneF pRX]).1 = 31 := by rw [applyA_eq]; decide +kernel
theorem kn5 : (applyA pR M1 [goneF pRA, goneF pRA]).1 = 31 := by rw [applyA_eq]; decide +kernel
theorem kn6 : applyA pR M1 [goneF pRA] = (0, M0) := by rw [applyA_eq]; decide +kernel
theorem kn7 : applyA pR M0 [] = (0, M0) := rfl
theorem kn8 : applyA pR M0 [⟨pR, false, nd3⟩] = (0, MK 0) := by rw [applyA_eq]; decide +kernel
theorem kn9 : ∀ k, k < 47 → applyA pR (MK k) [putF (pathK (k + 1))] = (0, MK (k + 1)) := by
  intro k hk
  rw [applyA_eq]
  have h : ∀ k, k < 47 → applyC pR (MK k) [putF (pathK (k + 1))] = (0, MK (k + 1)) := by decide +kernel
  exact h k hk
theorem kn10 : (applyA pR (MK 47) [putF pRX]).1 = 36 := by rw [applyA_eq]; decide +kernel
theorem kn11 : applyA pR (MK 47) [putF pA1] = (0, MK 47) := by rw [applyA_eq]; decide +kernel
def MS : List (Bytes × Nd) := delA pA1 (MK 47) ++ [(pRX, ⟨pRX, zNums⟩)]
theorem kn12 : applyA pR (MK 47) [goneF pA1, putF pRX] = (0, MS) := by rw [applyA_eq]; decide +kernel
theorem kn13 : MS.length = 48 := by decide +kernel
theorem kn14 : kidsS pR MS pRX = [] := by
  apply List.eq_nil_of_length_eq_zero
  have h : ¬ 0 < (kidsS pR MS pRX).length := by
    rw [kids_pos]
    simp only [kidB_eq]
    decide +kernel
  omega
theorem kn15 : (kidsS pR MS pNone).length = 0 := by
  have h : ¬ 0 < (kidsS pR MS pNone).length := by
    rw [kids_pos]
    simp only [kidB_eq]
    decide +kernel
  omega
theorem kn16 : (getA pR (MK 0)).getD zNd = nd3 ∧ (getA pR (MK 0)).isSome = true := by decide +kernel
end Go.Proofs.YtkhoeiapfoaapaaDoor
