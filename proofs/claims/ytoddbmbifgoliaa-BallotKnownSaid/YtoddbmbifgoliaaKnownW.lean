/-
  BallotKnown, walked.
-/
import Derived.Test.YtoddbmbifgoliaaCounts
namespace Go.Proofs.Ytoddbmbifgoliaa
open Go.RowKit Go.Shelf Go.Lib Go.Sort

theorem commit_k1 : commitOf ([5, -1, -1].take 3) = -1 := by
  have h : ([5, -1, -1] : List Int).mergeSort (fun x y => decide (y ≤ x)) = [5, -1, -1] := by
    simp [List.mergeSort, List.MergeSort.Internal.splitInTwo, List.merge]
  unfold commitOf
  rw [show ([5, -1, -1] : List Int).take 3 = [5, -1, -1] from rfl, h]
  rfl
theorem commit_k2 : commitOf ([7].take 1) = 7 := by
  have h : ([7] : List Int).mergeSort (fun x y => decide (y ≤ x)) = [7] := by
    simp [List.mergeSort]
  unfold commitOf
  rw [show ([7] : List Int).take 1 = [7] from rfl, h]
  rfl
theorem commit_k3 : commitOf ([1, 2].take 2) = 1 := by
  have h : ([1, 2] : List Int).mergeSort (fun x y => decide (y ≤ x)) = [2, 1] := by
    simp [List.mergeSort, List.MergeSort.Internal.splitInTwo, List.merge]
  unfold commitOf
  rw [show ([1, 2] : List Int).take 2 = [1, 2] from rfl, h]
  rfl

set_option maxRecDepth 100000 in
set_option maxHeartbeats 4000000 in
theorem known_true (w : World) : Calls Try.prog 8 #[] w fun e w' => e = .returned (.bool true) ∧ Below w.heap.size w w' := by
  have c0 := next_any 0 1 3 (by omega) (by omega) (by omega) (by omega) (by omega) (by omega)
  rw [show nextOf 0 1 3 = 1 from by decide] at c0
  have c1 := next_any 7 3 3 (by omega) (by omega) (by omega) (by omega) (by omega) (by omega)
  rw [show nextOf 7 3 3 = 0 from by decide] at c1
  have c2 := next_any 7 (-1) 3 (by omega) (by omega) (by omega) (by omega) (by omega) (by omega)
  rw [show nextOf 7 (-1) 3 = 0 from by decide] at c2
  have c3 := next_any 7 0 0 (by omega) (by omega) (by omega) (by omega) (by omega) (by omega)
  rw [show nextOf 7 0 0 = 0 from by decide] at c3
  have c4 := next_any 7 0 1 (by omega) (by omega) (by omega) (by omega) (by omega) (by omega)
  rw [show nextOf 7 0 1 = 8 from by decide] at c4
  have c5 := next_any 281474976710657 0 1 (by omega) (by omega) (by omega) (by omega) (by omega) (by omega)
  rw [show nextOf 281474976710657 0 1 = 0 from by decide] at c5
  have c6 := next_any 281474976710656 0 1 (by omega) (by omega) (by omega) (by omega) (by omega) (by omega)
  rw [show nextOf 281474976710656 0 1 = 281474976710657 from by decide] at c6
  have c7 := owner_any 7 0 (by omega) (by omega) (by omega) (by omega)
  rw [show ownerOf 7 0 = (-1) from by decide] at c7
  have c8 := quorum_any 0 (by omega) (by omega)
  rw [show quorumOf 0 = 0 from by decide] at c8
  have c9 := quorum_any (-1) (by omega) (by omega)
  rw [show quorumOf (-1) = 0 from by decide] at c9
  have c10 := quorum_any 1 (by omega) (by omega)
  rw [show quorumOf 1 = 1 from by decide] at c10
  have c11 := quorum_any 2 (by omega) (by omega)
  rw [show quorumOf 2 = 2 from by decide] at c11
  have c12 := quorum_any 5 (by omega) (by omega)
  rw [show quorumOf 5 = 3 from by decide] at c12
  have b1 := better_any 1 5 1 5 (by omega) (by omega) (by omega) (by omega)
  have b2 := better_any 1 0 1 (-1) (by omega) (by omega) (by omega) (by omega)
  rw [show betterB 1 5 1 5 = false from by decide] at b1
  rw [show betterB 1 0 1 (-1) = true from by decide] at b2
  have k1 := fun (W : World) (g : Nat) (h0 : W.cell? ⟨g, 0, none⟩ = some (.int .i64 5)) (h1 : W.cell? ⟨g, 1, none⟩ = some (.int .i64 (-1))) (h2 : W.cell? ⟨g, 2, none⟩ = some (.int .i64 (-1))) =>
    commit_some g 0 3 3 [5, -1, -1] W (by omega) (by simp) (by omega) (fun j hj => by
      match j, hj with
      | 0, _ => exact h0
      | 1, _ => exact h1
      | 2, _ => exact h2)
  have k2 := fun (W : World) (g : Nat) (h0 : W.cell? ⟨g, 0, none⟩ = some (.int .i64 7)) => commit_some g 0 1 1 [7] W (by omega) (by simp) (by omega) (fun j hj => by
      match j, hj with
      | 0, _ => exact h0)
  have k3 := fun (W : World) (g : Nat) (h0 : W.cell? ⟨g, 0, none⟩ = some (.int .i64 1)) (h1 : W.cell? ⟨g, 1, none⟩ = some (.int .i64 2)) => commit_some g 0 2 2 [1, 2] W (by omega) (by simp) (by omega) (fun j hj => by
      match j, hj with
      | 0, _ => exact h0
      | 1, _ => exact h1)
  rw [commit_k1] at k1
  rw [commit_k2] at k2
  rw [commit_k3] at k3
  have K1 := Lib.hid k1
  have K2 := Lib.hid k2
  have K3 := Lib.hid k3
  clear k1 k2 k3
  go_enter Try.func8, Try.ntmps8
  go_wp2_with fail
  refine (c0 _).mono ?_
  rintro e w1 ⟨rfl, rfl⟩
  go_wp2_with fail
  refine (c1 _).mono ?_
  rintro e w1 ⟨rfl, rfl⟩
  go_wp2_with fail
  refine (c2 _).mono ?_
  rintro e w1 ⟨rfl, rfl⟩
  go_wp2_with fail
  refine (c3 _).mono ?_
  rintro e w1 ⟨rfl, rfl⟩
  go_wp2_with fail
  refine (c4 _).mono ?_
  rintro e w1 ⟨rfl, rfl⟩
  go_wp2_with fail
  refine (c5 _).mono ?_
  rintro e w1 ⟨rfl, rfl⟩
  go_wp2_with fail
  refine (c6 _).mono ?_
  rintro e w1 ⟨rfl, rfl⟩
  go_wp2_with fail
  refine (c7 _).mono ?_
  rintro e w1 ⟨rfl, rfl⟩
  go_wp2_with fail
  refine (c8 _).mono ?_
  rintro e w1 ⟨rfl, rfl⟩
  go_wp2_with fail
  refine (c9 _).mono ?_
  rintro e w1 ⟨rfl, rfl⟩
  go_wp2_with fail
  refine (c10 _).mono ?_
  rintro e w1 ⟨rfl, rfl⟩
  go_wp2_with fail
  refine (c11 _).mono ?_
  rintro e w1 ⟨rfl, rfl⟩
  go_wp2_with fail
  refine (c12 _).mono ?_
  rintro e w1 ⟨rfl, rfl⟩
  go_wp2_with fail
  refine (commit_none none 0 _).mono ?_
  rintro e w1 ⟨rfl, rfl⟩
  go_wp2_with fail
  refine (K1.out _ _ (World.cell?_alloc_at _ _ _ _ rfl) (World.cell?_alloc_at _ _ _ _ rfl) (World.cell?_alloc_at _ _ _ _ rfl)).mono ?_
  rintro e w2 ⟨rfl, B2⟩
  have C2 := Lib.hid (((Below.refl _ w1).alloc (Nat.le_refl _) _).trans (B2.mono (by simp)))
  clear B2
  go_wp2_with fail
  refine (K2.out _ _ (World.cell?_alloc_at _ _ _ _ rfl)).mono ?_
  rintro e w3 ⟨rfl, B3⟩
  have C3 := Lib.hid (C2.out.trans (((Below.refl _ w2).alloc (Nat.le_refl _) _).trans (B3.mono (by simp)) |>.mono C2.out.size))
  clear B3 C2
  go_wp2_with fail
  refine (K3.out _ _ (World.cell?_alloc_at _ _ _ _ rfl) (World.cell?_alloc_at _ _ _ _ rfl)).mono ?_
  rintro e w4 ⟨rfl, B4⟩
  have C4 := Lib.hid (C3.out.trans (((Below.refl _ w3).alloc (Nat.le_refl _) _).trans (B4.mono (by simp)) |>.mono C3.out.size))
  clear B4 C3
  go_wp2_with fail
  refine (b1 _).mono ?_
  rintro e w5 ⟨rfl, B5⟩
  have C5 := Lib.hid (C4.out.trans (B5.mono C4.out.size))
  clear B5 C4
  go_wp2_with fail
  refine (b2 _).mono ?_
  rintro e w6 ⟨rfl, B6⟩
  have C6 := Lib.hid (C5.out.trans (B6.mono C5.out.size))
  clear B6 C5
  go_wp2_with fail
  refine (counts_true _).mono ?_
  rintro e w7 ⟨rfl, B7⟩
  have C7 := Lib.hid (C6.out.trans (B7.mono C6.out.size))
  clear B7 C6
  go_wp2
  go_ret
  exact ⟨rfl, C7.out⟩

theorem known_law {H : Type} (_enc : TypeId × Value → H) (W : World) : Calls Try.prog 8 #[] W fun e W' => e = .returned (.bool true) ∧ Below W.heap.size W W' := known_true W
end Go.Proofs.Ytoddbmbifgoliaa
