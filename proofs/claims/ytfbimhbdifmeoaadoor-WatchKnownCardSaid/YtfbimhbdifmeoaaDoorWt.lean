/-
  Watches, in plain Lean, and the program's Event.touched, walked.
-/
import Derived.Test.YtfbimhbdifmeoaaDoorExt
namespace Go.Proofs.YtfbimhbdifmeoaaDoor
set_option linter.unusedVariables false
set_option linter.unusedSimpArgs false
open Go.RowKit

/-- One watch: site, number, path, whether children are watched. -/
structure Ev where
  site : Int
  num : Int
  path : Bytes
  kids : Bool
  deriving DecidableEq
def Ev.cells (e : Ev) : List Value := [.int .i64 e.site, .int .u32 e.num, .string (bs e.path), .bool e.kids]
def Ev.val (e : Ev) : Value := .agg e.cells.toArray
/-- Is it touched by an effect on p? -/
def touchB (e : Ev) (p : Bytes) : Bool := if e.kids then !decide (p = e.path) && decide (parentL p = e.path) else decide (p = e.path)
theorem eq_bs (a b : Bytes) : ((bs a).toList == (bs b).toList) = decide (a = b) := by
  rw [toList_bs, toList_bs]
  by_cases h : a = b
  · subst h; simp
  · simp [h]

theorem two_ext (w : World) (A B : Array Value) (s t : TypeId) :
    (∀ (o : Added) (i : Nat) (v : Value), A[i]? = some v → (Wext ((w.alloc (.cells A s)).alloc (.cells B t)) o).cell? ⟨w.heap.size, i, none⟩ = some v) ∧
    (∀ (o : Added) (i : Nat) (v : Value), B[i]? = some v → (Wext ((w.alloc (.cells A s)).alloc (.cells B t)) o).cell? ⟨w.heap.size + 1, i, none⟩ = some v) := by
  refine ⟨fun o i v hv => ?_, fun o i v hv => ?_⟩
  · rw [(Wext.below _ o).cell (p := ⟨w.heap.size, i, none⟩) (by simp; omega)]
    rw [cell_of_row _ _ i A s (0, 0) (by exact (heap_alloc_old _ _ (by simp)).trans (heap_alloc_new _ _))]
    exact hv
  · rw [(Wext.below _ o).cell (p := ⟨w.heap.size + 1, i, none⟩) (by simp)]
    have := heap_alloc_new (w.alloc (.cells A s)) (.cells B t)
    rw [World.size_alloc] at this
    rw [cell_of_row _ _ i B t (0, 0) this]
    exact hv

set_option maxRecDepth 100000 in
set_option maxHeartbeats 2000000 in
theorem touched_any (e : Ev) (p : Bytes) (rest : List Value) (hp : p.length ≤ 1000) (w : World) (hm : MaxInt w) (hr : rest.length = 10) :
    Calls Tryd.prog 22 #[e.val, .agg (.string (bs p) :: rest).toArray] w fun en w' => en = .returned (.bool (touchB e p)) ∧ Below w.heap.size w w' := by
  obtain ⟨s, n, q, k⟩ := e
  match rest, hr with
  | [x1, x2, x3, x4, x5, x6, x7, x8, x9, x10], _ =>
  have t1 := eq_bs p q
  have t2 := eq_bs (parentL p) q
  cases k with
  | false =>
    unfold touchB Ev.val Ev.cells
    dsimp only
    rw [if_neg (by decide)]
    generalize decide (p = q) = b at *
    clear t2
    go_enter Tryd.func22, Tryd.ntmps22
    go_wp2
    go_ret
    exact ⟨rfl, ((Below.refl _ w).alloc (Nat.le_refl _) _).alloc (by simp) _⟩
  | true =>
    have d1 := fun (W : World) (hW : MaxInt W) => later_parent W hW p hp
    have C1 := Lib.hid d1
    have HM := Lib.hid hm
    clear d1 hm
    unfold touchB Ev.val Ev.cells
    dsimp only
    rw [if_pos rfl]
    have F := two_ext w #[Value.int IntKind.i64 s, Value.int IntKind.u32 n, Value.string (bs q), Value.bool true] #[Value.string (bs p), x1, x2, x3, x4, x5, x6, x7, x8, x9, x10] 44 56
    have f1 := fun o => F.2 o 0 (.string (bs p)) rfl
    have f2 := fun o => F.1 o 2 (.string (bs q)) rfl
    have XB := Lib.hid (((Below.refl w.heap.size w).alloc (Nat.le_refl _) (Obj.cells #[Value.int IntKind.i64 s, Value.int IntKind.u32 n, Value.string (bs q), Value.bool true] 44)).alloc (by simp) (Obj.cells #[Value.string (bs p), x1, x2, x3, x4, x5, x6, x7, x8, x9, x10] 56))
    clear F
    by_cases h : p = q
    · subst h
      rw [decide_eq_true rfl] at t1 ⊢
      have t1' : (!((bs p).toList == (bs p).toList)) = false := by rw [t1]; rfl
      clear t2 C1
      go_enter Tryd.func22, Tryd.ntmps22
      go_wp2_with fail
      generalize (w.alloc (Obj.cells #[Value.int IntKind.i64 s, Value.int IntKind.u32 n, Value.string (bs p), Value.bool true] 44)).alloc (Obj.cells #[Value.string (bs p), x1, x2, x3, x4, x5, x6, x7, x8, x9, x10] 56) = W0 at *
      refine wp_region_ext (by kernel_rfl) (by kernel_rfl) ?_
      repeat (go_big_quiet_step (fail))
      refine wpQuiet_nil ?_
      intro w' hw'
      obtain ⟨oq, hw''⟩ := hw'
      subst hw''
      go_wp2
      go_ret
      exact ⟨rfl, XB.out.trans ((Wext.below W0 oq).mono XB.out.size)⟩
    · rw [decide_eq_false h] at t1 ⊢
      have t1' : (!((bs p).toList == (bs q).toList)) = true := by rw [t1]; rfl
      generalize decide (parentL p = q) = b at *
      generalize bs (parentL p) = u at *
      go_enter Tryd.func22, Tryd.ntmps22
      go_wp2_with fail
      generalize (w.alloc (Obj.cells #[Value.int IntKind.i64 s, Value.int IntKind.u32 n, Value.string (bs q), Value.bool true] 44)).alloc (Obj.cells #[Value.string (bs p), x1, x2, x3, x4, x5, x6, x7, x8, x9, x10] 56) = W0 at *
      have C2 := Lib.hid (later_ext (C1.out W0 (HM.out.kept XB.out)))
      refine wp_region_ext (by kernel_rfl) (by kernel_rfl) ?_
      repeat (go_big_quiet_step (first | (go_at_call 27; exact C2.out _)))
      refine wpQuiet_nil ?_
      intro w' hw'
      obtain ⟨oq, hw''⟩ := hw'
      subst hw''
      go_wp2
      go_ret
      exact ⟨rfl, XB.out.trans ((Wext.below W0 oq).mono XB.out.size)⟩
end Go.Proofs.YtfbimhbdifmeoaaDoor
