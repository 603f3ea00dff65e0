/-
  regionTurned: over whatever arguments can be read.
-/
import Derived.Test.YtdengimjjlbmcaaDoorRegTurnedCore
import Derived.Test.YtdengimjjlbmcaaDoorShaped
import Derived.ChangeMaps5
namespace Go.Proofs.YtdengimjjlbmcaaDoor
set_option linter.unusedVariables false
set_option linter.unusedSimpArgs false
open Go.RowKit Go.ChangeShapes Go.WideShapes
open Go.ChangeMaps (open_string)
set_option maxRecDepth 100000 in
theorem regionTurned_law {H : Type} (enc : TypeId × Value → H) (W : World)
    (v0 : Value) (d0 : DataW H) (p0 : List MemPlace) (h0 : DataW.Trod enc Tryd.prog W 0 (fun _ => true) true 22 v0 d0 p0) (o0 : ∃ b, Value.okWide Tryd.prog W .any b 22 v0)
    (v1 : Value) (d1 : DataW H) (p1 : List MemPlace) (h1 : DataW.Trod enc Tryd.prog W 0 (fun _ => true) true 9 v1 d1 p1) (o1 : ∃ b, Value.okWide Tryd.prog W .any b 9 v1)
    (v2 : Value) (d2 : DataW H) (p2 : List MemPlace) (h2 : DataW.Trod enc Tryd.prog W 0 (fun _ => true) true 5 v2 d2 p2) (o2 : ∃ b, Value.okWide Tryd.prog W .any b 5 v2) (hm : MaxInt W) :
    Calls Tryd.prog 7 #[v0, v1, v2] W fun e W' => e = .returned (.bool true) ∧ Below W.heap.size W W' := by
  obtain ⟨bb0, o0⟩ := o0
  obtain ⟨ao0, c0, L0, rfl, lc0, cm0, sl0, ll0⟩ := strs_open h0 o0
  obtain ⟨bb1, o1⟩ := o1
  obtain ⟨s1, rfl, rfl, rfl, m1⟩ := open_string Tryd.underlying9 o1 h1
  obtain ⟨l1, rfl⟩ := str_open s1
  obtain ⟨bb2, o2⟩ := o2
  obtain ⟨x2, rfl, rfl, rfl, w2⟩ := open_int Tryd.underlying5 o2 h2
  have b2 := wf_u8 w2
  exact (by
    exact regTurned_any ao0 c0 L0 l1 x2 W hm lc0 cm0 ll0 (by rw [size_bs] at m1; first | exact m1 | (unfold maxLen at *; omega)) sl0 b2)
end Go.Proofs.YtdengimjjlbmcaaDoor
