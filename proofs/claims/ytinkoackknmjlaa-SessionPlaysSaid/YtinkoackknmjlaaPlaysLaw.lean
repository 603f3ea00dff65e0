/-
  SessionPlays' walk, over whatever arguments can be read.
-/
import Derived.Test.YtinkoackknmjlaaPlays
namespace Go.Proofs.Ytinkoackknmjlaa
open Go.RowKit Go.ChangeShapes Go.WideShapes Go.ChangeAt

theorem plays_law {H : Type} (enc : TypeId × Value → H) (W : World) (v0 : Value) (d0 : DataW H) (p0 : List MemPlace) (h0 : DataW.Trod enc Try.prog W 0 (fun _ => true) true 3 v0 d0 p0) (o0 : ∃ b, Value.okWide Try.prog W .any b 3 v0)
    (v1 : Value) (d1 : DataW H) (p1 : List MemPlace) (h1 : DataW.Trod enc Try.prog W 0 (fun _ => true) true 22 v1 d1 p1) (o1 : ∃ b, Value.okWide Try.prog W .any b 22 v1) :
    Calls Try.prog 3 #[v0, v1] W fun e W' => e = .returned (.bool true) ∧ Below W.heap.size W W' := by
  obtain ⟨bb, o0⟩ := o0
  obtain ⟨bc, o1⟩ := o1
  obtain ⟨s, rfl, rfl, rfl, ws⟩ := open_int Try.underlying3 o0 h0
  rcases open_acts h1 o1 with ⟨ao, cap, rfl⟩ | ⟨b, off, len, cap, rfl, hpos, hm, hact⟩
  · exact plays_some s (wf_i64 ws) ao 0 cap W (by omega) (fun i hi => absurd hi (Nat.not_lt_zero _))
  · by_cases hl : len ≤ 100
    · refine plays_some s (wf_i64 ws) _ len cap W hl (fun i hi => ⟨b, off, rfl, ?_, hact i hi⟩)
      obtain ⟨_, _, _, hc, _⟩ := hact 0 hpos
      exact World.block_lt_of_cell? _ _ hc
    · exact plays_long s _ len cap W (by omega) hm
end Go.Proofs.Ytinkoackknmjlaa
