/-
  treePlays: over whatever arguments can be read.
-/
import Derived.Test.YtkhoeiapfoaapaaGreatDoorLawTreePlays
import Derived.Test.YtkhoeiapfoaapaaGreatDoorShaped
import Derived.ChangeMaps5
namespace Go.Proofs.YtkhoeiapfoaapaaGreatDoor
set_option linter.unusedVariables false
set_option linter.unusedSimpArgs false
open Go.RowKit Go.ChangeShapes Go.WideShapes
open Go.ChangeMaps (open_string)
set_option maxRecDepth 100000 in
theorem treePlays_law {H : Type} (enc : TypeId × Value → H) (W : World)
    (v0 : Value) (d0 : DataW H) (p0 : List MemPlace) (h0 : DataW.Trod enc Tryz.prog W 0 (fun _ => true) true 9 v0 d0 p0) (o0 : ∃ b, Value.okWide Tryz.prog W .any b 9 v0)
    (v1 : Value) (d1 : DataW H) (p1 : List MemPlace) (h1 : DataW.Trod enc Tryz.prog W 0 (fun _ => true) true 22 v1 d1 p1) (o1 : ∃ b, Value.okWide Tryz.prog W .any b 22 v1)
    (v2 : Value) (d2 : DataW H) (p2 : List MemPlace) (h2 : DataW.Trod enc Tryz.prog W 0 (fun _ => true) true 9 v2 d2 p2) (o2 : ∃ b, Value.okWide Tryz.prog W .any b 9 v2) (hm : MaxInt W) :
    Calls Tryz.prog 3 #[v0, v1, v2] W fun e W' => e = .returned (.bool true) ∧ Below W.heap.size W W' := by
  obtain ⟨bb0, o0⟩ := o0
  obtain ⟨s0, rfl, rfl, rfl, m0⟩ := open_string Tryz.underlying9 o0 h0
  obtain ⟨l0, rfl⟩ := str_open s0
  obtain ⟨bb1, o1⟩ := o1
  obtain ⟨ao1, c1, R1, rfl, lc1, cm1, ra1, nn1⟩ := effss_open h1 o1
  obtain ⟨bb2, o2⟩ := o2
  obtain ⟨s2, rfl, rfl, rfl, m2⟩ := open_string Tryz.underlying9 o2 h2
  obtain ⟨l2, rfl⟩ := str_open s2
  exact treePlays_core l0 l2 ao1 c1 R1 W hm ra1 (Nat.le_trans lc1 cm1)
end Go.Proofs.YtkhoeiapfoaapaaGreatDoor
