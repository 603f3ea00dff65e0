/-
  The ballot's counts(), walked: it answers true.
-/
import Derived.Test.YtoddbmbifgoliaaCommit
import Derived.Deep.RegionWith
namespace Go.Proofs.Ytoddbmbifgoliaa
open Go.RowKit Go.Shelf Go.Lib Go.Sort

set_option maxRecDepth 100000 in
set_option maxHeartbeats 800000 in
theorem counts_true (w : World) : Calls Try.prog 14 #[] w fun e w' => e = .returned (.bool true) ∧ Below w.heap.size w w' := by
  have n1 := next_any 0 0 3 (by omega) (by omega) (by omega) (by omega) (by omega) (by omega)
  have n2 := next_any 4 1 3 (by omega) (by omega) (by omega) (by omega) (by omega) (by omega)
  have q3 := quorum_any 3 (by omega) (by omega)
  have o7 := owner_any 7 3 (by omega) (by omega) (by omega) (by omega)
  have b2 := better_any 2 0 1 9 (by omega) (by omega) (by omega) (by omega)
  rw [show nextOf 0 0 3 = 3 from by decide] at n1
  rw [show nextOf 4 1 3 = 7 from by decide] at n2
  rw [show quorumOf 3 = 2 from by decide] at q3
  rw [show ownerOf 7 3 = 1 from by decide] at o7
  rw [show betterB 2 0 1 9 = true from by decide] at b2
  have hcm : ∀ (W : World) (g : Nat), W.cell? ⟨g, 0, none⟩ = some (.int .i64 5) → W.cell? ⟨g, 1, none⟩ = some (.int .i64 3) → W.cell? ⟨g, 2, none⟩ = some (.int .i64 4) →
      Calls Try.prog 15 #[.slice (some ⟨g, 0, none⟩) 3 3] W fun e w' => e = .returned (.int .i64 4) ∧ Below W.heap.size W w' := by
    intro W g h0 h1 h2
    have := commit_some g 0 3 3 [5, 3, 4] W (by omega) (by simp) (by omega) (fun j hj => by
      match j, hj with
      | 0, _ => exact h0
      | 1, _ => exact h1
      | 2, _ => exact h2)
    rw [commit_ex] at this
    exact this
  have HC := Lib.hid hcm
  clear hcm
  go_enter Try.func14, Try.ntmps14
  go_wp2_with (first
    | (go_at_call_of 9 (Value.int IntKind.u64 4); refine (n2 _).mono ?_; rintro e w1 ⟨rfl, rfl⟩)
    | (go_at_call_of 9 (Value.int IntKind.u64 0); refine (n1 _).mono ?_; rintro e w1 ⟨rfl, rfl⟩)
    | (go_at_call 12; refine (q3 _).mono ?_; rintro e w1 ⟨rfl, rfl⟩)
    | fail)
  refine (HC.out _ _ (World.cell?_alloc_at _ _ _ _ rfl) (World.cell?_alloc_at _ _ _ _ rfl) (World.cell?_alloc_at _ _ _ _ rfl)).mono ?_
  rintro e w2 ⟨rfl, B2⟩
  have B3 : Below w1.heap.size w1 w2 := ((Below.refl _ w1).alloc (Nat.le_refl _) _).trans (B2.mono (by simp))
  have HB := Lib.hid B3
  clear B2 B3
  go_wp2_with (first
    | (go_at_call 11; refine (o7 _).mono ?_; rintro e w3 ⟨rfl, rfl⟩)
    | (go_at_call 13; refine (b2 _).mono ?_; rintro e w4 ⟨rfl, B4⟩)
    | fail)
  go_ret
  exact ⟨rfl, HB.out.trans (B4.mono HB.out.size)⟩
end Go.Proofs.Ytoddbmbifgoliaa
