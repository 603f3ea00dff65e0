/-
  treeSame: over whatever arguments can be read.
-/
import Derived.Test.YtkhoeiapfoaapaaDoorLawTreeSame
import Derived.Test.YtkhoeiapfoaapaaDoorShaped
import Derived.ChangeMaps5
namespace Go.Proofs.YtkhoeiapfoaapaaDoor
set_option linter.unusedVariables false
set_option linter.unusedSimpArgs false
open Go.RowKit Go.ChangeShapes Go.WideShapes
open Go.ChangeMaps (open_string)
set_option maxRecDepth 100000 in
theorem treeSame_law {H : Type} (enc : TypeId × Value → H) (W : World)
    (v0 : Value) (d0 : DataW H) (p0 : List MemPlace) (h0 : DataW.Trod enc Tryd.prog W 0 (fun _ => true) true 49 v0 d0 p0) (o0 : ∃ b, Value.okWide Tryd.prog W .any b 49 v0)
    (v1 : Value) (d1 : DataW H) (p1 : List MemPlace) (h1 : DataW.Trod enc Tryd.prog W 0 (fun _ => true) true 37 v1 d1 p1) (o1 : ∃ b, Value.okWide Tryd.prog W .any b 37 v1) (hm : MaxInt W) (hz : ∀ el sp, d0 = .slice el sp → el.length * 24 ≤ 140737488351232) :
    Calls Tryd.prog 6 #[v0, v1] W fun e W' => e = .returned (.bool true) ∧ Below W.heap.size W W' := by
  obtain ⟨bb0, o0⟩ := o0
  obtain ⟨ao0, c0, R0, rfl, lc0, cm0, ra0, nn0⟩ := effss_open h0 o0
  obtain ⟨bb1, o1⟩ := o1
  obtain ⟨r1, rfl, ro1⟩ := row_open h1 o1
  have hz2 : R0.length * 24 ≤ 140737488351232 := by
    rcases effss_len h0 with h | ⟨el, sp, h1, h2⟩
    · omega
    · have := hz el sp h1
      omega
  exact treeSame_core ao0 c0 R0 r1 W hm ra0 hz2 nn0 ro1
end Go.Proofs.YtkhoeiapfoaapaaDoor
