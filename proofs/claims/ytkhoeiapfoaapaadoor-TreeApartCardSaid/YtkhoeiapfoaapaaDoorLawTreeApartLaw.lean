/-
  treeApart: over whatever arguments can be read.
-/
import Derived.Test.YtkhoeiapfoaapaaDoorLawTreeApart
import Derived.Test.YtkhoeiapfoaapaaDoorShaped
import Derived.ChangeMaps5
namespace Go.Proofs.YtkhoeiapfoaapaaDoor
set_option linter.unusedVariables false
set_option linter.unusedSimpArgs false
open Go.RowKit Go.ChangeShapes Go.WideShapes
open Go.ChangeMaps (open_string)
set_option maxRecDepth 100000 in
theorem treeApart_law {H : Type} (enc : TypeId × Value → H) (W : World)
    (v0 : Value) (d0 : DataW H) (p0 : List MemPlace) (h0 : DataW.Trod enc Tryd.prog W 0 (fun _ => true) true 37 v0 d0 p0) (o0 : ∃ b, Value.okWide Tryd.prog W .any b 37 v0)
    (v1 : Value) (d1 : DataW H) (p1 : List MemPlace) (h1 : DataW.Trod enc Tryd.prog W 0 (fun _ => true) true 37 v1 d1 p1) (o1 : ∃ b, Value.okWide Tryd.prog W .any b 37 v1) (hm : MaxInt W) :
    Calls Tryd.prog 7 #[v0, v1] W fun e W' => e = .returned (.bool true) ∧ Below W.heap.size W W' := by
  obtain ⟨bb0, o0⟩ := o0
  obtain ⟨r0, rfl, ro0⟩ := row_open h0 o0
  obtain ⟨bb1, o1⟩ := o1
  obtain ⟨r1, rfl, ro1⟩ := row_open h1 o1
  exact treeApart_core r0 r1 W hm ro0 ro1
end Go.Proofs.YtkhoeiapfoaapaaDoor
