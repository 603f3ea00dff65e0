/-
  pnames: over whatever arguments can be read.
-/
import Derived.Test.YtebicmdbhhhofaaDoorPathNames
import Derived.Test.YtebicmdbhhhofaaDoorShaped
import Derived.ChangeMaps5
namespace Go.Proofs.YtebicmdbhhhofaaDoor
set_option linter.unusedVariables false
set_option linter.unusedSimpArgs false
open Go.RowKit Go.ChangeShapes Go.WideShapes
open Go.ChangeMaps (open_string)
theorem pnames_law {H : Type} (enc : TypeId × Value → H) (W : World)
    (v0 : Value) (d0 : DataW H) (p0 : List MemPlace) (h0 : DataW.Trod enc Tryd.prog W 0 (fun _ => true) true 9 v0 d0 p0) (o0 : ∃ b, Value.okWide Tryd.prog W .any b 9 v0)
    (v1 : Value) (d1 : DataW H) (p1 : List MemPlace) (h1 : DataW.Trod enc Tryd.prog W 0 (fun _ => true) true 9 v1 d1 p1) (o1 : ∃ b, Value.okWide Tryd.prog W .any b 9 v1)
    (v2 : Value) (d2 : DataW H) (p2 : List MemPlace) (h2 : DataW.Trod enc Tryd.prog W 0 (fun _ => true) true 5 v2 d2 p2) (o2 : ∃ b, Value.okWide Tryd.prog W .any b 5 v2)
    (v3 : Value) (d3 : DataW H) (p3 : List MemPlace) (h3 : DataW.Trod enc Tryd.prog W 0 (fun _ => true) true 5 v3 d3 p3) (o3 : ∃ b, Value.okWide Tryd.prog W .any b 5 v3) (hm : MaxInt W) :
    Calls Tryd.prog 5 #[v0, v1, v2, v3] W fun e W' => e = .returned (.bool true) ∧ Below W.heap.size W W' := by
  obtain ⟨bb0, o0⟩ := o0
  obtain ⟨s0, rfl, rfl, rfl, m0⟩ := open_string Tryd.underlying9 o0 h0
  obtain ⟨l0, rfl⟩ := str_open s0
  obtain ⟨bb1, o1⟩ := o1
  obtain ⟨s1, rfl, rfl, rfl, m1⟩ := open_string Tryd.underlying9 o1 h1
  obtain ⟨l1, rfl⟩ := str_open s1
  obtain ⟨bb2, o2⟩ := o2
  obtain ⟨x2, rfl, rfl, rfl, w2⟩ := open_int Tryd.underlying5 o2 h2
  have b2 := wf_u8 w2
  obtain ⟨bb3, o3⟩ := o3
  obtain ⟨x3, rfl, rfl, rfl, w3⟩ := open_int Tryd.underlying5 o3 h3
  have b3 := wf_u8 w3
  exact names_all l0 l1 x2 x3 b2 b3 m0 m1 W hm
end Go.Proofs.YtebicmdbhhhofaaDoor
