/-
  order: over whatever acts can be read.
-/
import Derived.Test.YtfbimhbdifmeoaaDoorWtOrder
namespace Go.Proofs.YtfbimhbdifmeoaaDoor
open Go.RowKit Go.ChangeShapes Go.WideShapes
set_option maxRecDepth 100000 in
theorem order_law {H : Type} (enc : TypeId × Value → H) (W : World)
    (v0 : Value) (d0 : DataW H) (p0 : List MemPlace) (h0 : DataW.Trod enc Tryd.prog W 0 (fun _ => true) true 22 v0 d0 p0) (o0 : ∃ b, Value.okWide Tryd.prog W .any b 22 v0) (hm : MaxInt W) :
    Calls Tryd.prog 5 #[v0] W fun e W' => e = .returned (.bool true) ∧ Below W.heap.size W W' := by
  obtain ⟨bb0, o0⟩ := o0
  obtain ⟨ao, c, A, rfl, h1, h2, h3, h4⟩ := acts_open2 h0 o0
  cases hg : greatB A with
  | true => exact order_great ao c A W (Nat.le_trans h1 h2) h3 hg
  | false => exact order_small ao c A W hm (Nat.le_trans h1 h2) h3 h4 hg
end Go.Proofs.YtfbimhbdifmeoaaDoor
