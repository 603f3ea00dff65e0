/-
  SessionNil, walked.
-/
import Derived.Test.YtinkoackknmjlaaRun
import Derived.Lib.SmallJoins
namespace Go.Proofs.Ytinkoackknmjlaa
open Go.RowKit Go.MapKept Go.ChangeMaps Go.Shelf
open Go.Maps (Keyed)
open Go.Joins Go.ChangeShapes Go.WideShapes

theorem wf_i64 {n : Int} (h : (Lit.int .i64 n).wf = true) : I64 n := by
  simp [Lit.wf, IntKind.min, IntKind.max, IntKind.signed, IntKind.bits] at h
  exact ⟨by omega, by omega⟩
theorem wf_u32 {n : Int} (h : (Lit.int .u32 n).wf = true) : U32 n := by
  simp [Lit.wf, IntKind.min, IntKind.max, IntKind.signed, IntKind.bits] at h
  exact ⟨by omega, by omega⟩

theorem cells_new (w : World) (c : Array Value) (t : TypeId) (i : Nat) : (w.alloc (.cells c t)).cell? ⟨w.heap.size, i, none⟩ = c[i]? := by
  unfold World.cell?
  rw [World.alloc_heap_new]
  rfl
theorem row_nil {w : World} {base : Nat} {e : TypeId} {v : Value} {xs : List Value} (h : w.ownsRow base e 1 v 0 xs) : ∃ a cap, v = .slice a 0 cap := by
  rcases h.2 with ⟨rfl, _⟩ | ⟨g, cap, _, rfl, _⟩
  · exact ⟨_, _, rfl⟩
  · exact ⟨_, _, rfl⟩

set_option maxRecDepth 100000 in
set_option maxHeartbeats 2000000 in
theorem nil_true (x y : Int) (w : World) : Calls Try.prog 5 #[.agg #[.int .i64 x, .int .u32 y]] w fun e w' => e = .returned (.bool true) ∧ Below w.heap.size w w' := by
  have kb : ∀ {a b : World}, Kept Nothing a b → w.heap.size ≤ a.heap.size → Below w.heap.size a b := fun h hs => h.below hs (fun _ h => h.elim)
  go_enter Try.func5, Try.ntmps5
  go_wp2_with fail
  refine (learn_nil x y _).mono ?_
  rintro e w1 ⟨rfl, K1⟩
  have hc0 : w1.cell? ⟨w.heap.size, 0, none⟩ = some (.int .i64 x) := (K1.cell (p := ⟨w.heap.size, 0, none⟩) (by simp) (fun e => e)).trans (by rw [cells_new]; rfl)
  have hc1 : w1.cell? ⟨w.heap.size, 1, none⟩ = some (.int .u32 y) := (K1.cell (p := ⟨w.heap.size, 1, none⟩) (by simp) (fun e => e)).trans (by rw [cells_new]; rfl)
  have B1 : Below w.heap.size w w1 := ((Below.refl _ w).alloc (Nat.le_refl _) _).trans (kb K1 (by simp))
  have hlt : w.heap.size < w1.heap.size := by have := K1.size; simp at this; omega
  clear K1
  go_wp2_with fail
  refine (open_nil w1).mono ?_
  rintro e w2 ⟨rfl, rfl⟩
  go_wp2_with fail
  refine (close_nil y _).mono ?_
  rintro e w3 ⟨rfl, rfl⟩
  go_wp2_with fail
  refine (live_nil y _).mono ?_
  rintro e w4 ⟨rfl, k, rfl⟩
  go_wp2_with fail
  refine (lives_nil _).mono ?_
  rintro e w5 ⟨v, rfl, hrow, hB⟩
  have hd0 : w5.cell? ⟨w.heap.size, 0, none⟩ = some (.int .i64 x) := (hB.cell (p := ⟨w.heap.size, 0, none⟩) hlt).trans hc0
  have hd1 : w5.cell? ⟨w.heap.size, 1, none⟩ = some (.int .u32 y) := (hB.cell (p := ⟨w.heap.size, 1, none⟩) hlt).trans hc1
  have B5 : Below w.heap.size w w5 := (below_drewN B1 k).trans (hB.mono B1.size)
  clear hc0 hc1 hB B1
  obtain ⟨a, cap, rfl⟩ := row_nil hrow
  clear hrow
  go_wp2_with fail
  refine (gone_nil x y _).mono ?_
  rintro e w6 ⟨rfl, K6⟩
  have B6 := B5.trans (kb K6 B5.size)
  clear K6 B5 hd0 hd1
  go_wp2_with fail
  refine (goes_true _).mono ?_
  rintro e w7 ⟨rfl, B7⟩
  have B7 := B6.trans (B7.mono B6.size)
  go_wp2
  go_ret
  exact ⟨rfl, B7⟩

theorem nil_law {H : Type} (enc : TypeId × Value → H) (W : World) (v0 : Value) (d0 : DataW H) (p : List MemPlace) (h0 : DataW.Trod enc Try.prog W 0 (fun _ => true) true 31 v0 d0 p)
    (o0 : ∃ b, Value.okWide Try.prog W .any b 31 v0) : Calls Try.prog 5 #[v0] W fun e W' => e = .returned (.bool true) ∧ Below W.heap.size W W' := by
  obtain ⟨b, o0⟩ := o0
  obtain ⟨c0, c1, y0, y1, m, rfl, rfl, rfl, hy0, hy1⟩ := open_agg2 Try.underlying31 (by kernel_rfl) Try.cells31 o0 h0
  obtain ⟨x, e0, rfl, wx⟩ := DataW.trod_int Try.underlying3 hy0
  obtain ⟨y, e1, rfl, wy⟩ := DataW.trod_int Try.underlying26 hy1
  simp at e0 e1
  subst e0 e1
  exact nil_true x y W
end Go.Proofs.Ytinkoackknmjlaa
