/-
  treeKnown: over whatever arguments can be read.
-/
import Derived.Test.YtkhoeiapfoaapaaDoorLawTreeKnown
import Derived.Test.YtkhoeiapfoaapaaDoorShaped
import Derived.ChangeMaps5
namespace Go.Proofs.YtkhoeiapfoaapaaDoor
set_option linter.unusedVariables false
set_option linter.unusedSimpArgs false
open Go.RowKit Go.ChangeShapes Go.WideShapes
open Go.ChangeMaps (open_string)
set_option maxRecDepth 100000 in
theorem treeKnown_law {H : Type} (enc : TypeId × Value → H) (W : World) (hm : MaxInt W) :
    Calls Tryd.prog 3 #[] W fun e W' => e = .returned (.bool true) ∧ Below W.heap.size W W' := by
  exact treeKnown_any W hm
end Go.Proofs.YtkhoeiapfoaapaaDoor
