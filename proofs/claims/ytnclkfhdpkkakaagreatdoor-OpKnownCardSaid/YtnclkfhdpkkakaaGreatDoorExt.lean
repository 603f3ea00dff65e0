/-
  Regions that draw their order and whose callees only add to the store: one walk of the text's order, in the class 'the world with blocks added'.
-/
import Derived.Test.YtnclkfhdpkkakaaGreatDoorLater
import Derived.BigQuiet
import Derived.Deep.QuietTactic
namespace Go.Proofs.YtnclkfhdpkkakaaGreatDoor
set_option linter.unusedVariables false
set_option linter.unusedSimpArgs false
open Go.RowKit

/-- Blocks added, and the count of draws. -/
structure Added where
  objs : Array Obj
  drawn : Nat
instance : Inhabited Added := ⟨⟨#[], 0⟩⟩
/-- 'W' with blocks added. -/
def Wext (W : World) (o : Added) : World := { W with heap := W.heap ++ o.objs, drawn := o.drawn }
theorem Wext.below (W : World) (o : Added) : Below W.heap.size W (Wext W o) :=
  ⟨rfl, rfl, rfl, by simp [Wext], fun k hk => by simp [Wext, Array.getElem?_append, hk]⟩
theorem below_ext {W w' : World} (h : Below W.heap.size W w') : ∃ o, w' = Wext W o := by
  refine ⟨⟨w'.heap.extract W.heap.size w'.heap.size, w'.drawn⟩, ?_⟩
  have hh : w'.heap = W.heap ++ w'.heap.extract W.heap.size w'.heap.size := by
    apply Array.ext_getElem?
    intro i
    by_cases hi : i < W.heap.size
    · rw [Array.getElem?_append, if_pos hi]
      exact h.block i hi
    · have := h.size
      rw [Array.getElem?_append, if_neg hi, Array.getElem?_extract]
      split
      · congr 1; omega
      · rw [Array.getElem?_eq_none]; omega
  obtain ⟨h1, h2, h3, _, _⟩ := h
  cases w'; cases W
  simp only at *
  subst h1 h2 h3
  simp only [Wext]
  rw [← hh]
theorem wp_region_ext {P : Program} {id : Nat} {Q : Exit → Act → World → Prop} {a : Act} {w : World} {l : List Oper} (hm : P.follows .mixedOrders = true) (hB : Region.lexB .any l.toArray = true)
    (h : wpQuiet P l.toArray (fun w' => ∃ o, w' = Wext w o) (fun a' => ∀ w', (∃ o, w' = Wext w o) → Q .normal a' w') l a) : (Code.region id l.toArray true).wp P Q a w :=
  wp_region_quiet (C := fun w' => ∃ o, w' = Wext w o) hm hB (below_ext (Below.refl _ w).drew) (by simpa using h)
/-- A later contract, in the class. -/
theorem later_ext {w : World} {n : Nat} {args : Array Value} {r : Value} (h : Later w n args r) : ∀ o, Calls Tryz.prog n args (Wext w o) fun e w' => e = .returned r ∧ ∃ o', w' = Wext w o' :=
  fun o => (h _ (Wext.below w o)).mono fun _ _ ⟨he, hb⟩ => ⟨he, below_ext hb⟩
end Go.Proofs.YtnclkfhdpkkakaaGreatDoor
