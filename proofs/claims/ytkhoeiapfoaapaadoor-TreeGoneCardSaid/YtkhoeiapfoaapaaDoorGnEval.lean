/-
  TreeGone's effects, reckoned: '/a', '/a/a', .., put one below the other; each goes when it is the deepest.
-/
import Derived.Test.YtkhoeiapfoaapaaDoorTrEval
import Derived.Test.YtkhoeiapfoaapaaDoorPathJoin
namespace Go.Proofs.YtkhoeiapfoaapaaDoor
set_option linter.unusedVariables false
set_option linter.unusedSimpArgs false
set_option linter.unusedVariables false
set_option linter.unusedSimpArgs false

def pG : Bytes := [47]
def gp (i : Nat) : Bytes := if i = 0 then [47] else (List.replicate i ([47, 97] : Bytes)).flatten
def MG (k : Nat) : List (Bytes × Nd) := (pG, zNd) :: (List.range k).map fun i => (gp (i + 1), ⟨gp (i + 1), zNums⟩)
def EG (d : Nat) : List Eff := (List.range d).map fun i => putF (gp (i + 1))
theorem rootsG : (partsL pG).isSome = true := by rw [partsL_eq]; decide +kernel
theorem gn1 : ∀ d, d ≤ 20 → applyA pG (MG 0) (EG d) = (0, MG d) := by
  intro d hd
  rw [applyA_eq]
  have h : ∀ d, d < 21 → applyC pG (MG 0) (EG d) = (0, MG d) := by decide +kernel
  exact h d (by omega)
theorem gn2 : ∀ d, d ≤ 20 → ∀ a, a < d → (applyA pG (MG d) [goneF (gp (a + 1))]) = if a + 1 = d then (0, MG a) else (33, MG d) := by
  intro d hd a ha
  rw [applyA_eq]
  have h : ((List.range 21).all fun d => (List.range d).all fun a => decide ((applyC pG (MG d) [goneF (gp (a + 1))]) = if a + 1 = d then (0, MG a) else (33, MG d))) = true := by decide +kernel
  have h1 := List.all_eq_true.1 h d (List.mem_range.2 (by omega))
  have h2 := List.all_eq_true.1 h1 a (List.mem_range.2 ha)
  exact of_decide_eq_true h2
theorem gn3 (k : Nat) : (MG k).length = k + 1 := by simp [MG]
theorem gp_len (i : Nat) (h : i ≤ 20) : (gp i).length ≤ 1000 := by
  have h : ∀ i, i < 21 → (gp i).length ≤ 1000 := by decide +kernel
  exact h i (by omega)
theorem gj0 : partsL (gp 0) = some [] := by rw [partsL_eq]; decide +kernel
theorem gj1 : ∀ i, i < 20 → partsL (gp (i + 1)) = some (List.replicate (i + 1) [97]) := by
  intro i hi
  rw [partsL_eq]
  have h : ∀ i, i < 20 → partsC (gp (i + 1)) = some (List.replicate (i + 1) [97]) := by decide +kernel
  exact h i hi
theorem gj2 : okName [97] = true := by rw [okName_eq]; decide +kernel
theorem gj3 : ∀ i, i < 20 → joinVal (List.replicate i [97]) [97] = .tuple #[.string (bs (gp (i + 1))), .int .i64 0] := by
  intro i hi
  have h : ∀ i, i < 20 → joinErr (List.replicate i [97]) [97] = false ∧ joinL (List.replicate i [97]) [97] = gp (i + 1) := by decide +kernel
  unfold joinVal
  rw [(h i hi).1, (h i hi).2]
  rfl
end Go.Proofs.YtkhoeiapfoaapaaDoor
