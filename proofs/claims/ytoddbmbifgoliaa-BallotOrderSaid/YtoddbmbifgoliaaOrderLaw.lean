/-
  BallotOrder's walk, over whatever arguments can be read.
-/
import Derived.Test.YtoddbmbifgoliaaOrdered
import Derived.ProofKit
namespace Go.Proofs.Ytoddbmbifgoliaa
open Go.RowKit Go.ChangeShapes Go.WideShapes
theorem Try.laidOut : laidOutB Try.prog = true := by kernel_rfl
theorem wf_i64 {n : Int} (h : (Lit.int .i64 n).wf = true) : I64 n := by
  simp [Lit.wf, IntKind.min, IntKind.max, IntKind.signed, IntKind.bits] at h
  exact ⟨by omega, by omega⟩
theorem order_law {H : Type} (enc : TypeId × Value → H) (W : World) (v0 : Value) (d0 : DataW H) (p0 : List MemPlace) (h0 : DataW.Trod enc Try.prog W 0 (fun _ => true) true 22 v0 d0 p0) (o0 : ∃ b, Value.okWide Try.prog W .any b 22 v0)
    (v1 : Value) (d1 : DataW H) (p1 : List MemPlace) (h1 : DataW.Trod enc Try.prog W 0 (fun _ => true) true 22 v1 d1 p1) (o1 : ∃ b, Value.okWide Try.prog W .any b 22 v1)
    (v2 : Value) (d2 : DataW H) (p2 : List MemPlace) (h2 : DataW.Trod enc Try.prog W 0 (fun _ => true) true 22 v2 d2 p2) (o2 : ∃ b, Value.okWide Try.prog W .any b 22 v2)
    (v3 : Value) (d3 : DataW H) (p3 : List MemPlace) (h3 : DataW.Trod enc Try.prog W 0 (fun _ => true) true 3 v3 d3 p3) (o3 : ∃ b, Value.okWide Try.prog W .any b 3 v3)
    (v4 : Value) (d4 : DataW H) (p4 : List MemPlace) (h4 : DataW.Trod enc Try.prog W 0 (fun _ => true) true 3 v4 d4 p4) (o4 : ∃ b, Value.okWide Try.prog W .any b 3 v4)
    (v5 : Value) (d5 : DataW H) (p5 : List MemPlace) (h5 : DataW.Trod enc Try.prog W 0 (fun _ => true) true 3 v5 d5 p5) (o5 : ∃ b, Value.okWide Try.prog W .any b 3 v5) :
    Calls Try.prog 7 #[v0, v1, v2, v3, v4, v5] W fun e W' => e = .returned (.bool true) ∧ Below W.heap.size W W' := by
  obtain ⟨b0, o0⟩ := o0
  obtain ⟨b1, o1⟩ := o1
  obtain ⟨b2, o2⟩ := o2
  obtain ⟨b3, o3⟩ := o3
  obtain ⟨b4, o4⟩ := o4
  obtain ⟨b5, o5⟩ := o5
  obtain ⟨c, rfl, rfl, rfl, w0⟩ := open_int Try.underlying22 o0 h0
  obtain ⟨d, rfl, rfl, rfl, w1⟩ := open_int Try.underlying22 o1 h1
  obtain ⟨e, rfl, rfl, rfl, w2⟩ := open_int Try.underlying22 o2 h2
  obtain ⟨l, rfl, rfl, rfl, w3⟩ := open_int Try.underlying3 o3 h3
  obtain ⟨m, rfl, rfl, rfl, w4⟩ := open_int Try.underlying3 o4 h4
  obtain ⟨n, rfl, rfl, rfl, w5⟩ := open_int Try.underlying3 o5 h5
  exact ordered c d e l m n (wf_i64 w3) (wf_i64 w4) (wf_i64 w5) W
end Go.Proofs.Ytoddbmbifgoliaa
