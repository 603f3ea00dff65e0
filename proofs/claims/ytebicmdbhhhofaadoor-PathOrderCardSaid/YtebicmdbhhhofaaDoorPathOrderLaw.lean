/-
  PathOrder: over whatever arguments can be read.
-/
import Derived.Test.YtebicmdbhhhofaaDoorPathOrder
import Derived.Test.YtebicmdbhhhofaaDoorShaped
import Derived.ChangeMaps5
namespace Go.Proofs.YtebicmdbhhhofaaDoor
set_option linter.unusedVariables false
set_option linter.unusedSimpArgs false
open Go.RowKit Go.ChangeShapes Go.WideShapes
open Go.ChangeMaps (open_string)
theorem order_law {H : Type} (enc : TypeId × Value → H) (W : World)
    (v0 : Value) (d0 : DataW H) (p0 : List MemPlace) (h0 : DataW.Trod enc Tryd.prog W 0 (fun _ => true) true 9 v0 d0 p0) (o0 : ∃ b, Value.okWide Tryd.prog W .any b 9 v0)
    (v1 : Value) (d1 : DataW H) (p1 : List MemPlace) (h1 : DataW.Trod enc Tryd.prog W 0 (fun _ => true) true 9 v1 d1 p1) (o1 : ∃ b, Value.okWide Tryd.prog W .any b 9 v1)
    (v2 : Value) (d2 : DataW H) (p2 : List MemPlace) (h2 : DataW.Trod enc Tryd.prog W 0 (fun _ => true) true 9 v2 d2 p2) (o2 : ∃ b, Value.okWide Tryd.prog W .any b 9 v2) (hm : MaxInt W) :
    Calls Tryd.prog 4 #[v0, v1, v2] W fun e W' => e = .returned (.bool true) ∧ Below W.heap.size W W' := by
  obtain ⟨b0, o0⟩ := o0
  obtain ⟨b1, o1⟩ := o1
  obtain ⟨b2, o2⟩ := o2
  obtain ⟨s0, rfl, rfl, rfl, w0⟩ := open_string Tryd.underlying9 o0 h0
  obtain ⟨s1, rfl, rfl, rfl, w1⟩ := open_string Tryd.underlying9 o1 h1
  obtain ⟨s2, rfl, rfl, rfl, w2⟩ := open_string Tryd.underlying9 o2 h2
  obtain ⟨a, rfl⟩ := str_open s0
  obtain ⟨b, rfl⟩ := str_open s1
  obtain ⟨c, rfl⟩ := str_open s2
  by_cases h : a.length ≤ 200 ∧ b.length ≤ 200 ∧ c.length ≤ 200
  · exact order_core a b c h.1 h.2.1 h.2.2 W hm
  · exact order_long a b c (by omega) w0 w1 w2 W
end Go.Proofs.YtebicmdbhhhofaaDoor
