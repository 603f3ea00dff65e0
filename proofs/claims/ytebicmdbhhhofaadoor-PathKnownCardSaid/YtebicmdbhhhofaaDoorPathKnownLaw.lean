/-
  pknown: over whatever arguments can be read.
-/
import Derived.Test.YtebicmdbhhhofaaDoorPathKnown
import Derived.Test.YtebicmdbhhhofaaDoorShaped
import Derived.ChangeMaps5
namespace Go.Proofs.YtebicmdbhhhofaaDoor
set_option linter.unusedVariables false
set_option linter.unusedSimpArgs false
open Go.RowKit Go.ChangeShapes Go.WideShapes
open Go.ChangeMaps (open_string)
theorem pknown_law {H : Type} (enc : TypeId × Value → H) (W : World) (hm : MaxInt W) :
    Calls Tryd.prog 8 #[] W fun e W' => e = .returned (.bool true) ∧ Below W.heap.size W W' := by
  exact pknown_core W hm
end Go.Proofs.YtebicmdbhhhofaaDoor
