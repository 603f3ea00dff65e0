/-
  The example that every law of the chapter holds beside what it asks: goes() answers true, and leaves all that was there.
-/
import Derived.Test.YtinkoackknmjlaaLives
namespace Go.Proofs.Ytinkoackknmjlaa
open Go.RowKit Go.MapKept Go.ChangeMaps Go.Shelf
open Go.Maps (Keyed)

theorem STab.made (w : World) (s : Int) : STab ((w.alloc (.map #[] 0)).alloc (.cells #[.int .i64 s, .int .u32 0, .map (some w.heap.size)] 50)) (w.heap.size + 1) w.heap.size s 0 [] := by
  refine ⟨?_, ?_⟩
  · have := World.alloc_heap_new (w.alloc (.map #[] 0)) (.cells #[.int .i64 s, .int .u32 0, .map (some w.heap.size)] 50)
    rwa [World.size_alloc] at this
  · have h := HasMap.made Try.prog 31 sk Value.bool w
    exact h.of_block (Below.heap_alloc _ _ _ (by simp))

theorem row_cell {w : World} {base : Nat} {e : TypeId} {v : Value} {n : Nat} {xs : List Value} (h : w.ownsRow base e 1 v (n + 1) xs) :
    ∃ g cap, v = .slice (some ⟨g, 0, none⟩) (n + 1) cap ∧ ∀ i u, xs[i]? = some u → w.cell? ⟨g, i, none⟩ = some u := by
  obtain ⟨g, cap, rfl⟩ := ownsRow_succ h
  refine ⟨g, cap, rfl, fun i u hu => ?_⟩
  have := h.cells (g := g) (by simp [Value.ownBlock]) i u hu
  unfold Addr.add at this
  split at this
  · rename_i e; subst e; exact this
  · simpa using this

set_option maxRecDepth 100000 in
set_option maxHeartbeats 2000000 in
theorem goes_true (w : World) : Calls Try.prog 20 #[] w fun e w' => e = .returned (.bool true) ∧ Below w.heap.size w w' := by
  go_enter Try.func20, Try.ntmps20
  go_wp2_with fail
  refine (new_any 1 w).mono ?_
  rintro e w1 ⟨rfl, hw1⟩
  have T1 := STab.made w 1
  have B1 : Below w.heap.size w w1 := by rw [hw1]; exact ((Below.refl _ w).alloc (Nat.le_refl _) _).alloc (by simp) _
  rw [← hw1] at T1
  clear hw1
  go_wp2_with fail
  refine (open_ok _ _ _ _ _ _ T1 (by omega) (by omega)).mono ?_
  rintro e w2 ⟨rfl, T2, K2⟩
  have B2 : Below w.heap.size w1 w2 := K2.below (by have := B1.size; omega) (by intro k hk; omega)
  have B2 := B1.trans B2
  clear T1 K2 B1
  go_wp2_with fail
  refine (open_ok _ _ _ _ _ _ T2 (by omega) (by omega)).mono ?_
  rintro e w3 ⟨rfl, T3, K3⟩
  have B3 : Below w.heap.size w2 w3 := K3.below (by have := B2.size; omega) (by intro k hk; omega)
  have B3 := B2.trans B3
  clear T2 K3 B2
  go_wp2_with fail
  refine (close_yes _ _ _ _ _ _ _ T3 ⟨by omega, by omega⟩ ⟨by omega, by omega⟩ (by decide)).mono ?_
  rintro e w4 ⟨rfl, T4, K4⟩
  have B4 : Below w.heap.size w3 w4 := K4.below (by have := B3.size; omega) (by intro k hk; omega)
  have B4 := B3.trans B4
  clear T3 K4 B3
  go_wp2_with fail
  refine (close_no _ _ _ _ _ _ _ T4 ⟨by omega, by omega⟩ ⟨by omega, by omega⟩ (by decide)).mono ?_
  rintro e w5 ⟨rfl, k, rfl⟩
  have T5 : STab (w4.drewN k) (w.heap.size + 1) w.heap.size 1 2 [(1, 1)] := T4.kept ((Kept.refl Nothing _).drewN k) (fun e => e) (fun e => e)
  have B5 : Below w.heap.size w (w4.drewN k) := below_drewN B4 k
  generalize w4.drewN k = w5 at T5 B5 ⊢
  clear T4 B4
  go_wp2_with fail
  refine (learn_yes _ _ _ _ _ _ _ _ T5 ⟨by omega, by omega⟩ ⟨by omega, by omega⟩ (by omega) (by omega)).mono ?_
  rintro e w6 ⟨rfl, T6, K6⟩
  have B6 : Below w.heap.size w5 w6 := K6.below (by have := B5.size; omega) (by intro k hk; omega)
  have B6 := B5.trans B6
  clear T5 K6 B5
  go_wp2_with fail
  refine (lives_any _ _ _ 2 _ _ T6 ⟨by omega, by omega⟩ (by omega)).mono ?_
  rintro e w7 ⟨v, rfl, hrow, hB⟩
  have B7 : Below w.heap.size w w7 := B6.trans (hB.mono B6.size)
  have T7 : STab w7 (w.heap.size + 1) w.heap.size 1 2 (addS (0, 5) (addS (1, 1) [])) := ⟨(hB.block _ T6.lt).trans T6.blk, T6.mp.of_block (hB.block _ T6.mp.lt)⟩
  rw [show liveUp 1 (2 : Nat) (addS (0, 5) [(1, 1)]) 2 = [2] by decide] at hrow
  obtain ⟨g, cap, rfl, hcell⟩ := row_cell hrow
  have hc := hcell 0 _ rfl
  clear hcell hrow hB T6 B6
  go_wp2_with fail
  refine (gone_any _ _ _ _ _ _ _ _ T7 ⟨by omega, by omega⟩ ⟨by omega, by omega⟩).mono ?_
  rintro e w8 ⟨rfl, K8⟩
  have B8 : Below w.heap.size w7 w8 := K8.below (by have := B7.size; omega) (fun k hk => hk.elim)
  have B8 := B7.trans B8
  have T8 := T7.kept K8 (fun e => e) (fun e => e)
  clear T7 K8 B7 hc
  go_wp2_with fail
  refine (gone_any _ _ _ _ _ _ _ _ T8 ⟨by omega, by omega⟩ ⟨by omega, by omega⟩).mono ?_
  rintro e w9 ⟨rfl, K9⟩
  have B9 : Below w.heap.size w8 w9 := K9.below (by have := B8.size; omega) (fun k hk => hk.elim)
  have B9 := B8.trans B9
  have T9 := T8.kept K9 (fun e => e) (fun e => e)
  clear T8 K9 B8
  go_wp2_with fail
  refine (gone_any _ _ _ _ _ _ _ _ T9 ⟨by omega, by omega⟩ ⟨by omega, by omega⟩).mono ?_
  rintro e wx ⟨rfl, Kx⟩
  have Bx : Below w.heap.size w9 wx := Kx.below (by have := B9.size; omega) (fun k hk => hk.elim)
  have Bx := B9.trans Bx
  clear T9 Kx B9
  go_wp2
  go_ret
  exact ⟨rfl, Bx⟩
end Go.Proofs.Ytinkoackknmjlaa
