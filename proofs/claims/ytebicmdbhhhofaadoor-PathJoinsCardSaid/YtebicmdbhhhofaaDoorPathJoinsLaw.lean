/-
  pjoins: over whatever arguments can be read.
-/
import Derived.Test.YtebicmdbhhhofaaDoorPathJoins
import Derived.Test.YtebicmdbhhhofaaDoorShaped
import Derived.ChangeMaps5
namespace Go.Proofs.YtebicmdbhhhofaaDoor
set_option linter.unusedVariables false
set_option linter.unusedSimpArgs false
open Go.RowKit Go.ChangeShapes Go.WideShapes
open Go.ChangeMaps (open_string)
theorem pjoins_law {H : Type} (enc : TypeId × Value → H) (W : World)
    (v0 : Value) (d0 : DataW H) (p0 : List MemPlace) (h0 : DataW.Trod enc Tryd.prog W 0 (fun _ => true) true 9 v0 d0 p0) (o0 : ∃ b, Value.okWide Tryd.prog W .any b 9 v0)
    (v1 : Value) (d1 : DataW H) (p1 : List MemPlace) (h1 : DataW.Trod enc Tryd.prog W 0 (fun _ => true) true 9 v1 d1 p1) (o1 : ∃ b, Value.okWide Tryd.prog W .any b 9 v1) (hm : MaxInt W) :
    Calls Tryd.prog 3 #[v0, v1] W fun e W' => e = .returned (.bool true) ∧ Below W.heap.size W W' := by
  obtain ⟨bb0, o0⟩ := o0
  obtain ⟨s0, rfl, rfl, rfl, m0⟩ := open_string Tryd.underlying9 o0 h0
  obtain ⟨l0, rfl⟩ := str_open s0
  obtain ⟨bb1, o1⟩ := o1
  obtain ⟨s1, rfl, rfl, rfl, m1⟩ := open_string Tryd.underlying9 o1 h1
  obtain ⟨l1, rfl⟩ := str_open s1
  exact pjoins_core l0 l1 m0 m1 W hm
end Go.Proofs.YtebicmdbhhhofaaDoor
