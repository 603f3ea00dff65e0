/-
  Effects on nodes, so that they can be computed.
-/
import Derived.Test.YtkhoeiapfoaapaaGreatDoorTr14
import Derived.Test.YtkhoeiapfoaapaaGreatDoorPathEval
namespace Go.Proofs.YtkhoeiapfoaapaaGreatDoor
set_option linter.unusedVariables false
set_option linter.unusedSimpArgs false
set_option linter.unusedVariables false
set_option linter.unusedSimpArgs false

def parentC (l : Bytes) : Bytes := match partsC l with
  | none => []
  | some L => if L = [] then l else ofL L.dropLast
theorem parentL_eq (l : Bytes) : parentL l = parentC l := by unfold parentL parentC; rw [partsL_eq]; rfl
def baseC (l : Bytes) : Bytes := match partsC l with
  | none => []
  | some L => L.getLast?.getD []
theorem baseL_eq (l : Bytes) : baseL l = baseC l := by unfold baseL baseC; rw [partsL_eq]; rfl
def kidC (root p q : Bytes) : Bool := !decide (q = p) && !decide (q = root) && decide (parentC q = p)
theorem kidB_eq (root p q : Bytes) : kidB root p q = kidC root p q := by unfold kidB kidC; rw [parentL_eq]
/-- How many children. -/
theorem kids_count (root : Bytes) (M : List (Bytes × Nd)) (p : Bytes) : (kidsS root M p).length = (M.filter fun x => kidB root p x.1).length := by
  have h1 : (kidsS root M p).length = _ := (sortS_perm _).length_eq
  rw [h1, List.length_map]
  have h2 := ((sortS_perm (M.map (·.1))).filter (kidB root p)).length_eq
  unfold keysS
  rw [h2, List.filter_map, List.length_map]
  rfl
theorem kids_pos (root : Bytes) (M : List (Bytes × Nd)) (p : Bytes) : (0 < (kidsS root M p).length) ↔ (M.any fun x => kidB root p x.1) = true := by
  rw [kids_count, List.length_pos_iff_exists_mem, List.any_eq_true]
  constructor
  · rintro ⟨x, hx⟩
    have := List.mem_filter.1 hx
    exact ⟨x, this.1, this.2⟩
  · rintro ⟨x, h1, h2⟩
    exact ⟨x, List.mem_filter.2 ⟨h1, h2⟩⟩
def goneEC (root : Bytes) (M : List (Bytes × Nd)) (p : Bytes) : Int := if p = root then 30 else if (getA p M).isSome = false then 31 else if (M.any fun x => kidC root p x.1) = true then 33 else 0
theorem goneE_eq (root : Bytes) (M : List (Bytes × Nd)) (p : Bytes) : goneE root M p = goneEC root M p := by
  unfold goneE goneEC
  simp only [kids_pos, kidB_eq]
def goneMC (root : Bytes) (M : List (Bytes × Nd)) (p : Bytes) : List (Bytes × Nd) := if goneEC root M p = 0 then delA p M else M
def putEC (root : Bytes) (M : List (Bytes × Nd)) (p : Bytes) : Int := if p ≠ root ∧ (getA (parentC p) M).isSome = false then 31 else if (getA p M).isSome = false ∧ 48 ≤ M.length then 36 else 0
theorem putE_eq (root : Bytes) (M : List (Bytes × Nd)) (p : Bytes) : putE root M p = putEC root M p := by
  unfold putE putEC
  rw [parentL_eq]
def putMC (root : Bytes) (M : List (Bytes × Nd)) (p : Bytes) (d : Nd) : List (Bytes × Nd) := if putEC root M p = 0 then putA p d M else M
def oneEC (root : Bytes) (M : List (Bytes × Nd)) (e : Eff) : Int := if underC e.path root = false then 30 else if e.gone = true then goneEC root M e.path else putEC root M e.path
def oneMC (root : Bytes) (M : List (Bytes × Nd)) (e : Eff) : List (Bytes × Nd) := if underC e.path root = false then M else if e.gone = true then goneMC root M e.path else putMC root M e.path e.node
theorem oneE_eq (root : Bytes) (M : List (Bytes × Nd)) (e : Eff) : oneE root M e = oneEC root M e := by
  unfold oneE oneEC
  rw [underB_eq, goneE_eq, putE_eq]
theorem oneM_eq (root : Bytes) (M : List (Bytes × Nd)) (e : Eff) : oneM root M e = oneMC root M e := by
  unfold oneM oneMC goneM goneMC putM putMC
  rw [underB_eq, goneE_eq, putE_eq]
def applyC (root : Bytes) : List (Bytes × Nd) → List Eff → Int × List (Bytes × Nd)
  | M, [] => (0, M)
  | M, e :: l => if oneEC root M e = 0 then applyC root (oneMC root M e) l else (oneEC root M e, M)
theorem applyA_eq (root : Bytes) : ∀ (l : List Eff) (M : List (Bytes × Nd)), applyA root M l = applyC root M l
  | [], M => rfl
  | e :: l, M => by
    unfold applyA applyC
    rw [oneE_eq, oneM_eq]
    split
    · exact applyA_eq root l _
    · rfl
theorem sortS_is {L L' : List Bytes} (h1 : L'.Pairwise (fun x y => x ≤ y)) (h2 : L'.Perm L) : sortS L = L' := sorted_unique (sortS_sorted L) h1 ((sortS_perm L).trans h2.symm)
/-- An effect that puts a path as its own data. -/
def putF (p : Bytes) : Eff := ⟨p, false, ⟨p, zNums⟩⟩
def goneF (p : Bytes) : Eff := ⟨p, true, zNd⟩
/-- '/r', '/r/a', .. -/
def pR : Bytes := [47, 114]
def pRA : Bytes := [47, 114, 47, 97]
def pRBC : Bytes := [47, 114, 47, 98, 47, 99]
def pRAB : Bytes := [47, 114, 47, 97, 47, 98]
def M0 : List (Bytes × Nd) := [(pR, zNd)]
def M1 : List (Bytes × Nd) := [(pR, zNd), (pRA, ⟨pRA, zNums⟩)]
theorem grow1 : applyA pR M0 [putF pRA] = (0, M1) := by rw [applyA_eq]; decide +kernel
theorem grow2 : (applyA pR M1 [putF pRBC]).1 = 31 := by rw [applyA_eq]; decide +kernel
theorem grow3 : (applyA pR M1 [putF pRAB, goneF pRA]).1 = 33 := by rw [applyA_eq]; decide +kernel
theorem grow4 : keysS M1 = [pR, pRA] := sortS_is (by decide +kernel) (List.isPerm_iff.1 (by decide +kernel))
theorem grow5 : kidsS pR M1 pR = [[97]] := by
  unfold kidsS
  rw [grow4]
  simp only [List.filter, kidB_eq]
  rw [show kidC pR pR pR = false by decide +kernel, show kidC pR pR pRA = true by decide +kernel]
  simp only [List.map, baseL_eq]
  rw [show baseC pRA = [97] by decide +kernel]
  exact sortS_is (by decide +kernel) (List.Perm.refl _)
theorem rootsR : (partsL pR).isSome = true := by rw [partsL_eq]; decide +kernel
end Go.Proofs.YtkhoeiapfoaapaaGreatDoor
