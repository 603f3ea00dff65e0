/-
  Contracts at every later world.
  Regions that draw their order and whose callees only add to the store: one walk of the text's order, in the class 'the world with blocks added'.
-/
import Derived.Test.YtkhoeiapfoaapaaGreatDoorPathEval
import Derived.Test.YtkhoeiapfoaapaaGreatDoorRefUnder
import Derived.BigQuiet
import Derived.Deep.QuietTactic
namespace Go.Proofs.YtkhoeiapfoaapaaGreatDoor
set_option linter.unusedVariables false
set_option linter.unusedSimpArgs false
open Go.RowKit

/-- In whatever later world: it answers r, and all that was there stands. -/
def Later (w : World) (n : Nat) (args : Array Value) (r : Value) : Prop := ∀ W, Below w.heap.size w W → Calls Tryz.prog n args W fun e w' => e = .returned r ∧ Below w.heap.size w w'
theorem later_of {w : World} {n : Nat} {args : Array Value} {r : Value} (hm : MaxInt w) (h : ∀ W, MaxInt W → Calls Tryz.prog n args W fun e w' => e = .returned r ∧ Below W.heap.size W w') : Later w n args r :=
  fun W hW => (h W (hm.kept hW)).mono fun e w' ⟨he, hb⟩ => ⟨he, hW.trans (hb.mono hW.size)⟩
theorem later_same {w : World} {n : Nat} {args : Array Value} {r : Value} (h : ∀ W, Calls Tryz.prog n args W fun e w' => e = .returned r ∧ W = w') : Later w n args r :=
  fun W hW => (h W).mono fun e w' ⟨he, hb⟩ => ⟨he, hb ▸ hW⟩
theorem later_below {w : World} {n : Nat} {args : Array Value} {r : Value} (h : ∀ W, Calls Tryz.prog n args W fun e w' => e = .returned r ∧ Below W.heap.size W w') : Later w n args r :=
  fun W hW => (h W).mono fun e w' ⟨he, hb⟩ => ⟨he, hW.trans (hb.mono hW.size)⟩

theorem size_max {l : Bytes} {n : Nat} (h : l.length ≤ n) (hn : n ≤ 1000) : (bs l).size ≤ 9223372036854775807 := by rw [size_bs]; omega
theorem later_under (w : World) (hm : MaxInt w) (p q : Bytes) (hp : p.length ≤ 1000) (hq : q.length ≤ 1000) : Later w 21 #[.string (bs p), .string (bs q)] (.bool (underB p q)) :=
  later_of hm fun W h => under_any p q (size_max hp (Nat.le_refl _)) (size_max hq (Nat.le_refl _)) W h
theorem later_refUnder (w : World) (p q : Bytes) (hp : p.length ≤ 1000) (hq : q.length ≤ 1000) : Later w 41 #[.string (bs p), .string (bs q)] (.bool (underB p q)) :=
  later_below fun W => refUnder_any p q (size_max hp (Nat.le_refl _)) (size_max hq (Nat.le_refl _)) W
theorem later_name (w : World) (l : Bytes) : Later w 48 #[.string (bs l)] (.int .i64 (if okName l then 0 else 30)) := later_below fun W => name_any (bs l) W
theorem later_refName (w : World) (l : Bytes) (hl : l.length ≤ 1000) : Later w 30 #[.string (bs l)] (.bool (okName l)) := later_same fun W => refName_any (bs l) (by rw [size_bs]; exact hl) W
def checkV (l : Bytes) : Int := if (partsL l).isSome then 0 else 30
theorem later_check (w : World) (hm : MaxInt w) (l : Bytes) (hl : l.length ≤ 1000) : Later w 11 #[.string (bs l)] (.int .i64 (checkV l)) := by
  unfold checkV
  cases h : partsL l with
  | none => exact later_of hm fun W hW => check_none l h (size_max hl (Nat.le_refl _)) W hW
  | some L => exact later_of hm fun W hW => check_some l L h W hW
def parentL (l : Bytes) : Bytes := match partsL l with
  | none => []
  | some L => if L = [] then l else ofL L.dropLast
def baseL (l : Bytes) : Bytes := match partsL l with
  | none => []
  | some L => L.getLast?.getD []
theorem snoc_cases {α : Type} (L : List α) : L = [] ∨ ∃ M x, L = M ++ [x] := by
  rcases List.eq_nil_or_concat L with h | ⟨M, x, h⟩
  · exact .inl h
  · exact .inr ⟨M, x, by rw [h, List.concat_eq_append]⟩
theorem later_parent (w : World) (hm : MaxInt w) (l : Bytes) (hl : l.length ≤ 1000) : Later w 36 #[.string (bs l)] (.string (bs (parentL l))) := by
  unfold parentL
  cases h : partsL l with
  | none => exact later_of hm fun W hW => parent_none l h (size_max hl (Nat.le_refl _)) W hW
  | some L =>
    rcases snoc_cases L with rfl | ⟨M, x, rfl⟩
    · exact later_same fun W => parent_nil l h W
    · dsimp only
      rw [if_neg (by simp), List.dropLast_concat]
      exact later_of hm fun W hW => parent_some l M x h W hW
theorem later_base (w : World) (hm : MaxInt w) (l : Bytes) (hl : l.length ≤ 1000) : Later w 37 #[.string (bs l)] (.string (bs (baseL l))) := by
  unfold baseL
  cases h : partsL l with
  | none => exact later_of hm fun W hW => base_none l h (size_max hl (Nat.le_refl _)) W hW
  | some L =>
    rcases snoc_cases L with rfl | ⟨M, x, rfl⟩
    · exact later_same fun W => base_nil l h W
    · dsimp only
      rw [show (M ++ [x]).getLast?.getD [] = x by simp]
      exact later_of hm fun W hW => base_some l M x h W hW
/-- What Join answers. -/
def joinV (l nm : Bytes) : Value := match partsL l with
  | none => .tuple #[.string (bs []), .int .i64 30]
  | some L => if okName nm then joinVal L nm else .tuple #[.string (bs []), .int .i64 30]
end Go.Proofs.YtkhoeiapfoaapaaGreatDoor

namespace Go.Proofs.YtkhoeiapfoaapaaGreatDoor
set_option linter.unusedVariables false
set_option linter.unusedSimpArgs false
open Go.RowKit

/-- Blocks added, and the count of draws. -/
structure Added where
  objs : Array Obj
  drawn : Nat
instance : Inhabited Added := ⟨⟨#[], 0⟩⟩
/-- 'W' with blocks added. -/
def Wext (W : World) (o : Added) : World := { W with heap := W.heap ++ o.objs, drawn := o.drawn }
theorem Wext.below (W : World) (o : Added) : Below W.heap.size W (Wext W o) :=
  ⟨rfl, rfl, rfl, by simp [Wext], fun k hk => by simp [Wext, Array.getElem?_append, hk]⟩
theorem below_ext {W w' : World} (h : Below W.heap.size W w') : ∃ o, w' = Wext W o := by
  refine ⟨⟨w'.heap.extract W.heap.size w'.heap.size, w'.drawn⟩, ?_⟩
  have hh : w'.heap = W.heap ++ w'.heap.extract W.heap.size w'.heap.size := by
    apply Array.ext_getElem?
    intro i
    by_cases hi : i < W.heap.size
    · rw [Array.getElem?_append, if_pos hi]
      exact h.block i hi
    · have := h.size
      rw [Array.getElem?_append, if_neg hi, Array.getElem?_extract]
      split
      · congr 1; omega
      · rw [Array.getElem?_eq_none]; omega
  obtain ⟨h1, h2, h3, _, _⟩ := h
  cases w'; cases W
  simp only at *
  subst h1 h2 h3
  simp only [Wext]
  rw [← hh]
theorem wp_region_ext {P : Program} {id : Nat} {Q : Exit → Act → World → Prop} {a : Act} {w : World} {l : List Oper} (hm : P.follows .mixedOrders = true) (hB : Region.lexB .any l.toArray = true)
    (h : wpQuiet P l.toArray (fun w' => ∃ o, w' = Wext w o) (fun a' => ∀ w', (∃ o, w' = Wext w o) → Q .normal a' w') l a) : (Code.region id l.toArray true).wp P Q a w :=
  wp_region_quiet (C := fun w' => ∃ o, w' = Wext w o) hm hB (below_ext (Below.refl _ w).drew) (by simpa using h)
/-- A later contract, in the class. -/
theorem later_ext {w : World} {n : Nat} {args : Array Value} {r : Value} (h : Later w n args r) : ∀ o, Calls Tryz.prog n args (Wext w o) fun e w' => e = .returned r ∧ ∃ o', w' = Wext w o' :=
  fun o => (h _ (Wext.below w o)).mono fun _ _ ⟨he, hb⟩ => ⟨he, below_ext hb⟩
end Go.Proofs.YtkhoeiapfoaapaaGreatDoor
