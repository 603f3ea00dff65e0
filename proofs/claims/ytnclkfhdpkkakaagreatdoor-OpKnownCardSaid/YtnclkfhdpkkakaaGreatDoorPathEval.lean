/-
  Paths that are given, reckoned.
-/
import Derived.Test.YtnclkfhdpkkakaaGreatDoorPathUnder
namespace Go.Proofs.YtnclkfhdpkkakaaGreatDoor
set_option linter.unusedVariables false
set_option linter.unusedSimpArgs false
open Go.RowKit

theorem isDot_bs (l : Bytes) : isDot (bs l) = (l.isEmpty || l == [46] || l == [46, 46]) := by unfold isDot; rw [toList_bs]
def okC (l : Bytes) : Bool := !(l.isEmpty || l == [46] || l == [46, 46]) && goodFrom (bs l) l.length 0
theorem okName_eq (l : Bytes) : okName l = okC l := by unfold okName nameB okC; rw [isDot_bs, size_bs]
def partsC : Bytes → Option (List Bytes)
  | [] => none
  | c :: r => if c = 47 ∧ r.length < 64 then (if r = [] then some [] else if (segs r).all okC then some (segs r) else none) else none
theorem partsL_eq (l : Bytes) : partsL l = partsC l := by
  cases l with
  | nil => rfl
  | cons c r =>
    rw [partsL_cons, show okName = okC from funext okName_eq]
    rfl
def underC (p q : Bytes) : Bool :=
  match partsC p, partsC q with
  | some l, some m => decide (m.length ≤ l.length) && decide (l.take m.length = m)
  | _, _ => false
theorem underB_eq (p q : Bytes) : underB p q = underC p q := by unfold underB underC; rw [partsL_eq, partsL_eq]; rfl

theorem ex_join : joinVal [[97]] [98] = .tuple #[.string (bs [47, 97, 47, 98]), .int .i64 0] := by
  have h : joinErr [[97]] [98] = false := by decide +kernel
  unfold joinVal
  rw [h]
  rfl
theorem ex_p1 : partsL [47, 97] = some [[97]] := by rw [partsL_eq]; decide +kernel
theorem ex_p2 : partsL [47, 97, 47, 98] = some [[97], [98]] := by rw [partsL_eq]; decide +kernel
theorem ex_p3 : partsL [47, 97, 47, 46, 46, 47, 98] = none := by rw [partsL_eq]; decide +kernel
theorem ex_n : okName [98] = true := by rw [okName_eq]; decide +kernel
theorem ex_u1 : underB [47, 97, 47, 98] [47, 97] = true := by rw [underB_eq]; decide +kernel
theorem ex_u2 : underB [47, 97, 98] [47, 97] = false := by rw [underB_eq]; decide +kernel
end Go.Proofs.YtnclkfhdpkkakaaGreatDoor
