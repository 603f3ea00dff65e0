/-
  numbers: over whatever arguments can be read.
-/
import Derived.Test.YtoddbmbifgoliaaNumbers
import Derived.Test.YtoddbmbifgoliaaCounts
import Derived.Test.YtoddbmbifgoliaaWf
import Derived.ProofKit
namespace Go.Proofs.Ytoddbmbifgoliaa
open Go.RowKit Go.ChangeShapes Go.WideShapes
theorem numbers_law {H : Type} (enc : TypeId × Value → H) (W : World)
    (v0 : Value) (d0 : DataW H) (p0 : List MemPlace) (h0 : DataW.Trod enc Try.prog W 0 (fun _ => true) true 22 v0 d0 p0) (o0 : ∃ b, Value.okWide Try.prog W .any b 22 v0)
    (v1 : Value) (d1 : DataW H) (p1 : List MemPlace) (h1 : DataW.Trod enc Try.prog W 0 (fun _ => true) true 3 v1 d1 p1) (o1 : ∃ b, Value.okWide Try.prog W .any b 3 v1)
    (v2 : Value) (d2 : DataW H) (p2 : List MemPlace) (h2 : DataW.Trod enc Try.prog W 0 (fun _ => true) true 3 v2 d2 p2) (o2 : ∃ b, Value.okWide Try.prog W .any b 3 v2)
    (v3 : Value) (d3 : DataW H) (p3 : List MemPlace) (h3 : DataW.Trod enc Try.prog W 0 (fun _ => true) true 22 v3 d3 p3) (o3 : ∃ b, Value.okWide Try.prog W .any b 22 v3)
    (v4 : Value) (d4 : DataW H) (p4 : List MemPlace) (h4 : DataW.Trod enc Try.prog W 0 (fun _ => true) true 3 v4 d4 p4) (o4 : ∃ b, Value.okWide Try.prog W .any b 3 v4)
    (v5 : Value) (d5 : DataW H) (p5 : List MemPlace) (h5 : DataW.Trod enc Try.prog W 0 (fun _ => true) true 3 v5 d5 p5) (o5 : ∃ b, Value.okWide Try.prog W .any b 3 v5) :
    Calls Try.prog 3 #[v0, v1, v2, v3, v4, v5] W fun e W' => e = .returned (.bool true) ∧ Below W.heap.size W W' := by
  obtain ⟨b0, o0⟩ := o0
  obtain ⟨b1, o1⟩ := o1
  obtain ⟨b2, o2⟩ := o2
  obtain ⟨b3, o3⟩ := o3
  obtain ⟨b4, o4⟩ := o4
  obtain ⟨b5, o5⟩ := o5
  obtain ⟨x0, rfl, rfl, rfl, w0⟩ := open_int Try.underlying22 o0 h0
  obtain ⟨x1, rfl, rfl, rfl, w1⟩ := open_int Try.underlying3 o1 h1
  obtain ⟨x2, rfl, rfl, rfl, w2⟩ := open_int Try.underlying3 o2 h2
  obtain ⟨x3, rfl, rfl, rfl, w3⟩ := open_int Try.underlying22 o3 h3
  obtain ⟨x4, rfl, rfl, rfl, w4⟩ := open_int Try.underlying3 o4 h4
  obtain ⟨x5, rfl, rfl, rfl, w5⟩ := open_int Try.underlying3 o5 h5
  have b0 := bd_u64 w0
  have b1 := bd_i64 w1
  have b2 := bd_i64 w2
  have b3 := bd_u64 w3
  have b4 := bd_i64 w4
  have b5 := bd_i64 w5
  exact numbers_core x0 x1 x2 x3 x4 x5 b0.1 b0.2 b3.1 b3.2 b1.1 b1.2 b2.1 b2.2 b4.1 b4.2 b5.1 b5.2 counts_true W
end Go.Proofs.Ytoddbmbifgoliaa
