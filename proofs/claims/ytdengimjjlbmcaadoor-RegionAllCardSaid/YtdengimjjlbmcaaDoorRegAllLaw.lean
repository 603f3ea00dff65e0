/-
  regionAll: over whatever arguments can be read.
-/
import Derived.Test.YtdengimjjlbmcaaDoorRegAllCore
import Derived.Test.YtdengimjjlbmcaaDoorShaped
import Derived.ChangeMaps5
namespace Go.Proofs.YtdengimjjlbmcaaDoor
set_option linter.unusedVariables false
set_option linter.unusedSimpArgs false
open Go.RowKit Go.ChangeShapes Go.WideShapes
open Go.ChangeMaps (open_string)
set_option maxRecDepth 100000 in
theorem regionAll_law {H : Type} (enc : TypeId × Value → H) (W : World)
    (v0 : Value) (d0 : DataW H) (p0 : List MemPlace) (h0 : DataW.Trod enc Tryd.prog W 0 (fun _ => true) true 22 v0 d0 p0) (o0 : ∃ b, Value.okWide Tryd.prog W .any b 22 v0)
    (v1 : Value) (d1 : DataW H) (p1 : List MemPlace) (h1 : DataW.Trod enc Tryd.prog W 0 (fun _ => true) true 32 v1 d1 p1) (o1 : ∃ b, Value.okWide Tryd.prog W .any b 32 v1) (hm : MaxInt W) :
    Calls Tryd.prog 4 #[v0, v1] W fun e W' => e = .returned (.bool true) ∧ Below W.heap.size W W' := by
  obtain ⟨bb0, o0⟩ := o0
  obtain ⟨ao0, c0, L0, rfl, lc0, cm0, sl0, ll0⟩ := strs_open h0 o0
  obtain ⟨bb1, o1⟩ := o1
  obtain ⟨r1, q1, Q1, rfl, qn1, qc1, qm1, qa1, ql1, pm1⟩ := op_open h1 o1
  exact (by
    obtain ⟨kd, da, dn, dc, vr, sq, ep, pa, pn, pc⟩ := r1
    dsimp only at qn1 qa1
    subst qn1
    exact regAll_core kd vr da pa ao0 dn dc pc c0 sq ep L0 Q1 q1 W hm (Nat.le_trans lc0 cm0) ll0 pm1 sl0 (Nat.le_trans qc1 qm1) ql1 qa1)
end Go.Proofs.YtdengimjjlbmcaaDoor
