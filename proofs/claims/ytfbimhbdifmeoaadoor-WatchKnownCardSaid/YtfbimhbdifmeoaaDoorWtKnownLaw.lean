/-
  known: the law, as the lifting step takes it.
-/
import Derived.Test.YtfbimhbdifmeoaaDoorWtKnown
namespace Go.Proofs.YtfbimhbdifmeoaaDoor
set_option linter.unusedVariables false
open Go.RowKit Go.ChangeShapes Go.WideShapes
theorem known_law {H : Type} (enc : TypeId × Value → H) (W : World) (hm : MaxInt W) : Calls Tryd.prog 6 #[] W fun e W' => e = .returned (.bool true) ∧ Below W.heap.size W W' := known_true W hm
end Go.Proofs.YtfbimhbdifmeoaaDoor
