/-
  The program's Under, walked.
-/
import Derived.Test.YtfbimhbdifmeoaaDoorPathJoin
namespace Go.Proofs.YtfbimhbdifmeoaaDoor
set_option linter.unusedVariables false
set_option linter.unusedSimpArgs false
open Go.RowKit

/-- Under, in plain Lean. -/
def underB (p q : Bytes) : Bool :=
  match partsL p, partsL q with
  | some l, some m => decide (m.length ≤ l.length) && decide (l.take m.length = m)
  | _, _ => false

theorem bs_inj {a b : Bytes} (h : bs a = bs b) : a = b := by rw [← data_bs a, h, data_bs]
theorem map_bs_inj : ∀ {L M : List Bytes}, L.map bs = M.map bs → L = M
  | [], [], _ => rfl
  | [], _ :: _, h => by cases h
  | _ :: _, [], h => by cases h
  | x :: L, y :: M, h => by
    simp only [List.map_cons, List.cons.injEq] at h
    rw [bs_inj h.1, map_bs_inj h.2]
theorem getD_bs (L : List Bytes) (j : Nat) (hj : j < (L.map bs).length) : (L.map bs).getD j ByteArray.empty = bs (L[j]'(by simpa using hj)) := by
  simp [List.getD_eq_getElem?_getD, List.getElem?_eq_getElem (show j < L.length by simpa using hj)]
end Go.Proofs.YtfbimhbdifmeoaaDoor
