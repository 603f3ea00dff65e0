/-
  treeGone: over whatever arguments can be read.
-/
import Derived.Test.YtkhoeiapfoaapaaDoorLawTreeGone
import Derived.Test.YtkhoeiapfoaapaaDoorShaped
import Derived.ChangeMaps5
namespace Go.Proofs.YtkhoeiapfoaapaaDoor
set_option linter.unusedVariables false
set_option linter.unusedSimpArgs false
open Go.RowKit Go.ChangeShapes Go.WideShapes
open Go.ChangeMaps (open_string)
set_option maxRecDepth 100000 in
theorem treeGone_law {H : Type} (enc : TypeId × Value → H) (W : World)
    (v0 : Value) (d0 : DataW H) (p0 : List MemPlace) (h0 : DataW.Trod enc Tryd.prog W 0 (fun _ => true) true 5 v0 d0 p0) (o0 : ∃ b, Value.okWide Tryd.prog W .any b 5 v0)
    (v1 : Value) (d1 : DataW H) (p1 : List MemPlace) (h1 : DataW.Trod enc Tryd.prog W 0 (fun _ => true) true 5 v1 d1 p1) (o1 : ∃ b, Value.okWide Tryd.prog W .any b 5 v1) (hm : MaxInt W) :
    Calls Tryd.prog 4 #[v0, v1] W fun e W' => e = .returned (.bool true) ∧ Below W.heap.size W W' := by
  obtain ⟨bb0, o0⟩ := o0
  obtain ⟨x0, rfl, rfl, rfl, w0⟩ := open_int Tryd.underlying5 o0 h0
  have b0 := wf_u8 w0
  obtain ⟨bb1, o1⟩ := o1
  obtain ⟨x1, rfl, rfl, rfl, w1⟩ := open_int Tryd.underlying5 o1 h1
  have b1 := wf_u8 w1
  exact treeGone_core x0 x1 (by omega) (by omega) (by omega) (by omega) W hm
end Go.Proofs.YtkhoeiapfoaapaaDoor
