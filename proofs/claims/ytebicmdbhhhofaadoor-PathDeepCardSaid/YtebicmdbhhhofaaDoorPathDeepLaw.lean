/-
  deep: over whatever arguments can be read.
-/
import Derived.Test.YtebicmdbhhhofaaDoorPathDeep
import Derived.Test.YtebicmdbhhhofaaDoorShaped
import Derived.ChangeMaps5
namespace Go.Proofs.YtebicmdbhhhofaaDoor
set_option linter.unusedVariables false
set_option linter.unusedSimpArgs false
open Go.RowKit Go.ChangeShapes Go.WideShapes
open Go.ChangeMaps (open_string)
theorem deep_law {H : Type} (enc : TypeId × Value → H) (W : World)
    (v0 : Value) (d0 : DataW H) (p0 : List MemPlace) (h0 : DataW.Trod enc Tryd.prog W 0 (fun _ => true) true 9 v0 d0 p0) (o0 : ∃ b, Value.okWide Tryd.prog W .any b 9 v0) (hm : MaxInt W) :
    Calls Tryd.prog 9 #[v0] W fun e W' => e = .returned (.bool true) ∧ Below W.heap.size W W' := by
  obtain ⟨bb0, o0⟩ := o0
  obtain ⟨s0, rfl, rfl, rfl, m0⟩ := open_string Tryd.underlying9 o0 h0
  obtain ⟨l0, rfl⟩ := str_open s0
  exact deep_core l0 m0 W hm
end Go.Proofs.YtebicmdbhhhofaaDoor
