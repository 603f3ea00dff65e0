/-
  all, and the two conditions that it is asked with, walked.
-/
import Derived.Test.YtkhoeiapfoaapaaGreatDoorTr5
namespace Go.Proofs.YtkhoeiapfoaapaaGreatDoor
set_option linter.unusedVariables false
set_option linter.unusedSimpArgs false
set_option linter.unusedVariables false
set_option linter.unusedSimpArgs false
open Go Go.RowKit Go.Shelf Go.MapKept Go.ChangeMaps

theorem eq_bs (a b : Bytes) : ((bs a).toList == (bs b).toList) = decide (a = b) := by
  rw [toList_bs, toList_bs]
  by_cases h : a = b
  · subst h; simp
  · simp [h]
/-- In whatever later world: it answers r, and adds blocks alone. -/
def Always (w : World) (n : Nat) (args : Array Value) (r : Value) : Prop := ∀ W, Below w.heap.size w W → Calls Tryz.prog n args W fun e w' => e = .returned r ∧ Below W.heap.size W w'
theorem Always.ext {w w2 : World} {n : Nat} {args : Array Value} {r : Value} (h : Always w n args r) (h2 : Below w.heap.size w w2) : ∀ o, Calls Tryz.prog n args (Wext w2 o) fun e w' => e = .returned r ∧ ∃ o', w' = Wext w2 o' :=
  fun o => (h _ (h2.trans ((Wext.below w2 o).mono h2.size))).mono fun _ _ ⟨he, hb⟩ => ⟨he, below_ext ((Wext.below w2 o).trans (hb.mono (Wext.below w2 o).size))⟩
theorem always_parent {w : World} (hm : MaxInt w) (l : Bytes) (hl : l.length ≤ 1000) : Always w 36 #[.string (bs l)] (.string (bs (parentL l))) := fun W hW => later_parent W (hm.kept hW) l hl W (Below.refl _ _)
theorem always_under {w : World} (hm : MaxInt w) (p q : Bytes) (hp : p.length ≤ 1000) (hq : q.length ≤ 1000) : Always w 21 #[.string (bs p), .string (bs q)] (.bool (underB p q)) := fun W hW => later_under W (hm.kept hW) p q hp hq W (Below.refl _ _)
theorem always_base {w : World} (hm : MaxInt w) (l : Bytes) (hl : l.length ≤ 1000) : Always w 37 #[.string (bs l)] (.string (bs (baseL l))) := fun W hW => later_base W (hm.kept hW) l hl W (Below.refl _ _)
theorem always_check {w : World} (hm : MaxInt w) (l : Bytes) (hl : l.length ≤ 1000) : Always w 11 #[.string (bs l)] (.int .i64 (checkV l)) := fun W hW => later_check W (hm.kept hW) l hl W (Below.refl _ _)

theorem all_any (t v : Value) (w : World) (ht : t.oneCell' = true) (hv : v.oneCell' = true) : Calls Tryz.prog 33 #[t, v] w fun e w' => e = .returned (.func (.func 52) #[] #[.pointer (some ⟨w.heap.size, 0, none⟩), .pointer (some ⟨w.heap.size + 1, 0, none⟩)]) ∧ w' = (w.alloc (.cells #[t] 24)).alloc (.cells #[v] 71) := by
  go_enter Tryz.func33, Tryz.ntmps33
  go_wp2
  go_ret
  exact ⟨rfl, rfl⟩
theorem yes_any (q : Bytes) (w : World) : Calls Tryz.prog 34 #[.string (bs q)] w fun e w' => e = .returned (.bool true) ∧ w' = w := by
  go_enter Tryz.func34, Tryz.ntmps34
  go_wp2
  go_ret
  exact ⟨rfl, rfl⟩
/-- Is q a child of p? -/
def kidB (root p q : Bytes) : Bool := !decide (q = p) && !decide (q = root) && decide (parentL q = p)
set_option maxRecDepth 100000 in
set_option maxHeartbeats 2000000 in
theorem kid_any (root p q : Bytes) (bp bt b : Nat) (w : World) (hm : MaxInt w) (hq : q.length ≤ 1000) (h1 : w.cell? ⟨bp, 0, none⟩ = some (.string (bs p))) (h2 : w.cell? ⟨bt, 0, none⟩ = some (.pointer (some ⟨b, 0, none⟩))) (h3 : w.cell? ⟨b, 0, none⟩ = some (.string (bs root))) :
    Calls Tryz.prog 35 #[.string (bs q), .pointer (some ⟨bp, 0, none⟩), .pointer (some ⟨bt, 0, none⟩)] w fun e w' => e = .returned (.bool (kidB root p q)) ∧ Below w.heap.size w w' := by
  have f1 : ∀ o, (Wext w o).cell? ⟨bp, 0, none⟩ = some (.string (bs p)) := fun o => ((Wext.below w o).cell (p := ⟨bp, 0, none⟩) (World.block_lt_of_cell? _ _ h1)).trans h1
  have f2 : ∀ o, (Wext w o).cell? ⟨bt, 0, none⟩ = some (.pointer (some ⟨b, 0, none⟩)) := fun o => ((Wext.below w o).cell (p := ⟨bt, 0, none⟩) (World.block_lt_of_cell? _ _ h2)).trans h2
  have f3 : ∀ o, (Wext w o).cell? ⟨b, 0, none⟩ = some (.string (bs root)) := fun o => ((Wext.below w o).cell (p := ⟨b, 0, none⟩) (World.block_lt_of_cell? _ _ h3)).trans h3
  have KP := Lib.hid ((always_parent hm q hq).ext (Below.refl _ w))
  have t1 := eq_bs q p
  have t2 := eq_bs q root
  have t3 := eq_bs (parentL q) p
  have s1 : (!((bs q).toList == (bs p).toList)) = !decide (q = p) := by rw [t1]
  have s2 : (!((bs q).toList == (bs root).toList)) = !decide (q = root) := by rw [t2]
  unfold kidB
  clear h1 h2 h3 hm hq
  generalize bs (parentL q) = u at *
  cases b1 : decide (q = p) <;> cases b2 : decide (q = root) <;> cases b3 : decide (parentL q = p)
  all_goals
    rw [b1] at t1 s1
    rw [b2] at t2 s2
    rw [b3] at t3
    simp only [Bool.not_true, Bool.not_false] at s1 s2 ⊢
    clear b1 b2 b3
    go_enter Tryz.func35, Tryz.ntmps35
    go_wp2_with fail
    refine wp_region_ext (by kernel_rfl) (by kernel_rfl) ?_
    repeat (go_big_quiet_step (first | (go_at_call 36; exact KP.out _)))
    refine wpQuiet_nil ?_
    intro w' hw'
    obtain ⟨oq, hw''⟩ := hw'
    subst hw''
    go_wp2
    go_ret
    exact ⟨rfl, Wext.below w oq⟩
end Go.Proofs.YtkhoeiapfoaapaaGreatDoor
