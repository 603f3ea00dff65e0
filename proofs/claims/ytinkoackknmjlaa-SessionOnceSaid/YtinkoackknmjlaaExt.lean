/-
  Regions that draw their order and whose callees only add to the store: one walk of the text's order, in the class 'the world with blocks added'.
-/
import Derived.Test.YtinkoackknmjlaaMaps
import Derived.BigQuiet
namespace Go.Proofs.Ytinkoackknmjlaa
open Go.RowKit

/-- Blocks added, and the count of draws. -/
structure Added where
  objs : Array Obj
  drawn : Nat
instance : Inhabited Added := ⟨⟨#[], 0⟩⟩

/-- 'W' with blocks added. -/
def Wext (W : World) (o : Added) : World := { W with heap := W.heap ++ o.objs, drawn := o.drawn }

theorem Wext.kept (W : World) (o : Added) : Kept Nothing W (Wext W o) :=
  ⟨rfl, rfl, rfl, by simp [Wext], fun k hk _ => by simp [Wext, Array.getElem?_append, hk]⟩

theorem Kept.ext {W w' : World} (h : Kept Nothing W w') : ∃ o, w' = Wext W o := by
  refine ⟨⟨w'.heap.extract W.heap.size w'.heap.size, w'.drawn⟩, ?_⟩
  have hh : w'.heap = W.heap ++ w'.heap.extract W.heap.size w'.heap.size := by
    apply Array.ext_getElem?
    intro i
    by_cases hi : i < W.heap.size
    · rw [Array.getElem?_append, if_pos hi]
      exact h.block i hi (fun e => e)
    · have := h.size
      rw [Array.getElem?_append, if_neg hi, Array.getElem?_extract]
      split
      · congr 1; omega
      · rw [Array.getElem?_eq_none]; omega
  obtain ⟨h1, h2, h3, _, _⟩ := h
  cases w'; cases W
  simp only at *
  subst h1 h2 h3
  simp only [Wext]
  rw [← hh]

theorem wp_region_ext {P : Program} {id : Nat} {Q : Exit → Act → World → Prop} {a : Act} {w : World} {l : List Oper} (hm : P.follows .mixedOrders = true) (hB : Region.lexB .any l.toArray = true)
    (h : wpQuiet P l.toArray (fun w' => ∃ o, w' = Wext w o) (fun a' => ∀ w', (∃ o, w' = Wext w o) → Q .normal a' w') l a) : (Code.region id l.toArray true).wp P Q a w :=
  wp_region_quiet (C := fun w' => ∃ o, w' = Wext w o) hm hB ((Kept.refl Nothing w).drew.ext) (by simpa using h)

/-- A callee's contract, met in the class. -/
theorem Calls.ext_of {P : Program} {f : FuncId} {args : Array Value} {w : World} {o : Added} {v : Value}
    (h : Calls P f args (Wext w o) fun e w' => e = .returned v ∧ Kept Nothing (Wext w o) w') : Calls P f args (Wext w o) fun e w'' => e = .returned v ∧ ∃ o', w'' = Wext w o' :=
  h.mono fun _ _ ⟨he, hm⟩ => ⟨he, ((Wext.kept w o).trans hm).ext⟩

end Go.Proofs.Ytinkoackknmjlaa
