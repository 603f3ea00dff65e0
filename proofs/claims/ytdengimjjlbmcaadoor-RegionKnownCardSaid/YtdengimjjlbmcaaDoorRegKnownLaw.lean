/-
  regionKnown: over whatever arguments can be read.
-/
import Derived.Test.YtdengimjjlbmcaaDoorRegKnown
import Derived.Test.YtdengimjjlbmcaaDoorShaped
import Derived.ChangeMaps5
namespace Go.Proofs.YtdengimjjlbmcaaDoor
set_option linter.unusedVariables false
set_option linter.unusedSimpArgs false
open Go.RowKit Go.ChangeShapes Go.WideShapes
open Go.ChangeMaps (open_string)
set_option maxRecDepth 100000 in
theorem regionKnown_law {H : Type} (enc : TypeId × Value → H) (W : World) (hm : MaxInt W) :
    Calls Tryd.prog 6 #[] W fun e W' => e = .returned (.bool true) ∧ Below W.heap.size W W' := by
  exact regKnown_any W hm
end Go.Proofs.YtdengimjjlbmcaaDoor
