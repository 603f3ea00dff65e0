/-
  Contracts at every later world.
-/
import Derived.Test.YtnclkfhdpkkakaaGreatDoorPathEval
import Derived.Test.YtnclkfhdpkkakaaGreatDoorRefUnder
namespace Go.Proofs.YtnclkfhdpkkakaaGreatDoor
set_option linter.unusedVariables false
set_option linter.unusedSimpArgs false
open Go.RowKit

/-- In whatever later world: it answers r, and all that was there stands. -/
def Later (w : World) (n : Nat) (args : Array Value) (r : Value) : Prop := ∀ W, Below w.heap.size w W → Calls Tryz.prog n args W fun e w' => e = .returned r ∧ Below w.heap.size w w'
theorem later_of {w : World} {n : Nat} {args : Array Value} {r : Value} (hm : MaxInt w) (h : ∀ W, MaxInt W → Calls Tryz.prog n args W fun e w' => e = .returned r ∧ Below W.heap.size W w') : Later w n args r :=
  fun W hW => (h W (hm.kept hW)).mono fun e w' ⟨he, hb⟩ => ⟨he, hW.trans (hb.mono hW.size)⟩
theorem later_same {w : World} {n : Nat} {args : Array Value} {r : Value} (h : ∀ W, Calls Tryz.prog n args W fun e w' => e = .returned r ∧ W = w') : Later w n args r :=
  fun W hW => (h W).mono fun e w' ⟨he, hb⟩ => ⟨he, hb ▸ hW⟩
theorem later_below {w : World} {n : Nat} {args : Array Value} {r : Value} (h : ∀ W, Calls Tryz.prog n args W fun e w' => e = .returned r ∧ Below W.heap.size W w') : Later w n args r :=
  fun W hW => (h W).mono fun e w' ⟨he, hb⟩ => ⟨he, hW.trans (hb.mono hW.size)⟩

theorem size_max {l : Bytes} {n : Nat} (h : l.length ≤ n) (hn : n ≤ 1000) : (bs l).size ≤ 9223372036854775807 := by rw [size_bs]; omega
theorem later_under (w : World) (hm : MaxInt w) (p q : Bytes) (hp : p.length ≤ 1000) (hq : q.length ≤ 1000) : Later w 21 #[.string (bs p), .string (bs q)] (.bool (underB p q)) :=
  later_of hm fun W h => under_any p q (size_max hp (Nat.le_refl _)) (size_max hq (Nat.le_refl _)) W h
theorem later_refUnder (w : World) (p q : Bytes) (hp : p.length ≤ 1000) (hq : q.length ≤ 1000) : Later w 76 #[.string (bs p), .string (bs q)] (.bool (underB p q)) :=
  later_below fun W => refUnder_any p q (size_max hp (Nat.le_refl _)) (size_max hq (Nat.le_refl _)) W
theorem later_name (w : World) (l : Bytes) : Later w 66 #[.string (bs l)] (.int .i64 (if okName l then 0 else 30)) := later_below fun W => name_any (bs l) W
theorem later_refName (w : World) (l : Bytes) (hl : l.length ≤ 1000) : Later w 75 #[.string (bs l)] (.bool (okName l)) := later_same fun W => refName_any (bs l) (by rw [size_bs]; exact hl) W
def checkV (l : Bytes) : Int := if (partsL l).isSome then 0 else 30
theorem later_check (w : World) (hm : MaxInt w) (l : Bytes) (hl : l.length ≤ 1000) : Later w 45 #[.string (bs l)] (.int .i64 (checkV l)) := by
  unfold checkV
  cases h : partsL l with
  | none => exact later_of hm fun W hW => check_none l h (size_max hl (Nat.le_refl _)) W hW
  | some L => exact later_of hm fun W hW => check_some l L h W hW
def parentL (l : Bytes) : Bytes := match partsL l with
  | none => []
  | some L => if L = [] then l else ofL L.dropLast
def baseL (l : Bytes) : Bytes := match partsL l with
  | none => []
  | some L => L.getLast?.getD []
theorem snoc_cases {α : Type} (L : List α) : L = [] ∨ ∃ M x, L = M ++ [x] := by
  rcases List.eq_nil_or_concat L with h | ⟨M, x, h⟩
  · exact .inl h
  · exact .inr ⟨M, x, by rw [h, List.concat_eq_append]⟩
theorem later_parent (w : World) (hm : MaxInt w) (l : Bytes) (hl : l.length ≤ 1000) : Later w 47 #[.string (bs l)] (.string (bs (parentL l))) := by
  unfold parentL
  cases h : partsL l with
  | none => exact later_of hm fun W hW => parent_none l h (size_max hl (Nat.le_refl _)) W hW
  | some L =>
    rcases snoc_cases L with rfl | ⟨M, x, rfl⟩
    · exact later_same fun W => parent_nil l h W
    · dsimp only
      rw [if_neg (by simp), List.dropLast_concat]
      exact later_of hm fun W hW => parent_some l M x h W hW
theorem later_base (w : World) (hm : MaxInt w) (l : Bytes) (hl : l.length ≤ 1000) : Later w 48 #[.string (bs l)] (.string (bs (baseL l))) := by
  unfold baseL
  cases h : partsL l with
  | none => exact later_of hm fun W hW => base_none l h (size_max hl (Nat.le_refl _)) W hW
  | some L =>
    rcases snoc_cases L with rfl | ⟨M, x, rfl⟩
    · exact later_same fun W => base_nil l h W
    · dsimp only
      rw [show (M ++ [x]).getLast?.getD [] = x by simp]
      exact later_of hm fun W hW => base_some l M x h W hW
/-- What Join answers. -/
def joinV (l nm : Bytes) : Value := match partsL l with
  | none => .tuple #[.string (bs []), .int .i64 30]
  | some L => if okName nm then joinVal L nm else .tuple #[.string (bs []), .int .i64 30]
end Go.Proofs.YtnclkfhdpkkakaaGreatDoor
