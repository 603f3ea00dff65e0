/-
  regionLongest: over whatever arguments can be read.
-/
import Derived.Test.YtdengimjjlbmcaaDoorRegLongest
import Derived.Test.YtdengimjjlbmcaaDoorShaped
import Derived.ChangeMaps5
namespace Go.Proofs.YtdengimjjlbmcaaDoor
set_option linter.unusedVariables false
set_option linter.unusedSimpArgs false
open Go.RowKit Go.ChangeShapes Go.WideShapes
open Go.ChangeMaps (open_string)
set_option maxRecDepth 100000 in
theorem regionLongest_law {H : Type} (enc : TypeId × Value → H) (W : World)
    (v0 : Value) (d0 : DataW H) (p0 : List MemPlace) (h0 : DataW.Trod enc Tryd.prog W 0 (fun _ => true) true 22 v0 d0 p0) (o0 : ∃ b, Value.okWide Tryd.prog W .any b 22 v0)
    (v1 : Value) (d1 : DataW H) (p1 : List MemPlace) (h1 : DataW.Trod enc Tryd.prog W 0 (fun _ => true) true 9 v1 d1 p1) (o1 : ∃ b, Value.okWide Tryd.prog W .any b 9 v1) (hm : MaxInt W) :
    Calls Tryd.prog 5 #[v0, v1] W fun e W' => e = .returned (.bool true) ∧ Below W.heap.size W W' := by
  obtain ⟨bb0, o0⟩ := o0
  obtain ⟨ao0, c0, L0, rfl, lc0, cm0, sl0, ll0⟩ := strs_open h0 o0
  obtain ⟨bb1, o1⟩ := o1
  obtain ⟨s1, rfl, rfl, rfl, m1⟩ := open_string Tryd.underlying9 o1 h1
  obtain ⟨l1, rfl⟩ := str_open s1
  exact longest_any ao0 c0 L0 l1 W hm (Nat.le_trans lc0 cm0) ll0 (by rw [size_bs] at m1; first | exact m1 | (unfold maxLen at *; omega)) sl0
end Go.Proofs.YtdengimjjlbmcaaDoor
