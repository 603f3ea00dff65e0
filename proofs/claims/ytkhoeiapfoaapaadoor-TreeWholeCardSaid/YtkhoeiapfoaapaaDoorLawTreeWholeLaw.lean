/-
  treeWhole: over whatever arguments can be read.
-/
import Derived.Test.YtkhoeiapfoaapaaDoorLawTreeWhole
import Derived.Test.YtkhoeiapfoaapaaDoorShaped
import Derived.ChangeMaps5
namespace Go.Proofs.YtkhoeiapfoaapaaDoor
set_option linter.unusedVariables false
set_option linter.unusedSimpArgs false
open Go.RowKit Go.ChangeShapes Go.WideShapes
open Go.ChangeMaps (open_string)
set_option maxRecDepth 100000 in
theorem treeWhole_law {H : Type} (enc : TypeId × Value → H) (W : World)
    (v0 : Value) (d0 : DataW H) (p0 : List MemPlace) (h0 : DataW.Trod enc Tryd.prog W 0 (fun _ => true) true 49 v0 d0 p0) (o0 : ∃ b, Value.okWide Tryd.prog W .any b 49 v0) (hm : MaxInt W) :
    Calls Tryd.prog 5 #[v0] W fun e W' => e = .returned (.bool true) ∧ Below W.heap.size W W' := by
  obtain ⟨bb0, o0⟩ := o0
  obtain ⟨ao0, c0, R0, rfl, lc0, cm0, ra0, nn0⟩ := effss_open h0 o0
  exact treeWhole_core ao0 c0 R0 W hm ra0 (Nat.le_trans lc0 cm0)
end Go.Proofs.YtkhoeiapfoaapaaDoor
