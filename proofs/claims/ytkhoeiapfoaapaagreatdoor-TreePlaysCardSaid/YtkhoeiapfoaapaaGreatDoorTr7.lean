/-
  New, walked.
-/
import Derived.Test.YtkhoeiapfoaapaaGreatDoorTr6
namespace Go.Proofs.YtkhoeiapfoaapaaGreatDoor
set_option linter.unusedVariables false
set_option linter.unusedSimpArgs false
set_option linter.unusedVariables false
set_option linter.unusedSimpArgs false
open Go Go.RowKit Go.Shelf Go.MapKept Go.ChangeMaps

set_option maxRecDepth 100000 in
theorem new_no (root : Bytes) (w : World) (hm : MaxInt w) (hl : root.length ≤ 1000) (h : (partsL root).isSome = false) : Calls Tryz.prog 5 #[.string (bs root)] w fun e w' => e = .returned (.tuple #[.pointer none, .int .i64 30]) ∧ Below w.heap.size w w' := by
  have ck := always_check hm root hl w (Below.refl _ _)
  unfold checkV at ck
  rw [h] at ck
  have CK := Lib.hid ck
  clear ck h
  go_enter Tryz.func5, Tryz.ntmps5
  go_wp2_with fail
  refine CK.out.mono ?_
  rintro e w1 ⟨rfl, B1⟩
  have HB := Lib.hid B1
  clear B1
  go_wp2
  refine bodyPost_ret (results_tmp2 rfl _ _ _) rfl ?_
  exact ⟨rfl, HB.out⟩
set_option maxRecDepth 100000 in
set_option maxHeartbeats 2000000 in
theorem new_yes (root : Bytes) (w : World) (hm : MaxInt w) (hl : root.length ≤ 1000) (h : (partsL root).isSome = true) : Calls Tryz.prog 5 #[.string (bs root)] w fun e w' => ∃ b mb, e = .returned (.tuple #[.pointer (some ⟨b, 0, none⟩), .int .i64 0]) ∧ TreeAt w' (From w.heap.size) b mb root 0 [(root, zNd)] ∧ w.heap.size ≤ b ∧ w.heap.size ≤ mb ∧ b ≠ mb ∧ Below w.heap.size w w' := by
  have ck := always_check hm root hl w (Below.refl _ _)
  unfold checkV at ck
  rw [h] at ck
  have CK := Lib.hid ck
  have hmm := @run_makeMap Tryz.prog
  clear ck h
  go_enter Tryz.func5, Tryz.ntmps5
  go_wp2_with fail
  refine CK.out.mono ?_
  rintro e w1 ⟨rfl, B1⟩
  have HB := Lib.hid B1
  clear B1
  have hm0 := HasMap.made (κ := Bytes) (ν := Raw) Tryz.prog 9 sv Raw.val w1
  obtain ⟨lk, hlk⟩ := sv_key (p := root) (by unfold maxLen; omega)
  obtain ⟨o, ho⟩ := hm0.update keyStr sv_inj Tryz.underlying46 zRaw hlk
  obtain ⟨g1, g2⟩ := ho (w1.alloc (.map #[] 0)) rfl
  have g1 : (Instr.mapUpdate 46 (.map (some w1.heap.size)) (.string (bs root)) (.agg #[.slice none 0 0, .int .u32 0, .int .u32 0, .int .u32 0, .int .i64 0, .int .u32 0, .int .u64 0, .int .u64 0, .int .u64 0])).run Tryz.prog (w1.alloc (.map #[] 0)) = .ok () (setBlock (w1.alloc (.map #[] 0)) w1.heap.size o) := g1
  have hs : (setBlock (w1.alloc (.map #[] 0)) w1.heap.size o).heap.size = w1.heap.size + 1 := by simp [setBlock]
  have hk : Kept (· = w1.heap.size) (w1.alloc (.map #[] 0)) (setBlock (w1.alloc (.map #[] 0)) w1.heap.size o) := kept_setBlock (by simp) o
  have hb2 : Below w1.heap.size w1 (setBlock (w1.alloc (.map #[] 0)) w1.heap.size o) := by
    have h1 : Below w1.heap.size w1 (w1.alloc (.map #[] 0)) := belowA (Below.refl _ w1) _
    exact h1.trans (hk.below (by simp) (fun k h => by omega))
  have HG := Lib.hid (And.intro g2 (And.intro hs hb2))
  clear ho g2 hs hb2 hk hm0 hlk
  go_wp2
  refine bodyPost_ret (results_tmp2 rfl _ _ _) rfl ?_
  obtain ⟨g2, hs, hb2⟩ := HG.out
  have hb3 : Below w.heap.size w ((setBlock (w1.alloc (.map #[] 0)) w1.heap.size o).alloc (.cells #[.string (bs root), .int .u64 0, .map (some w1.heap.size)] 48)) := (HB.out.trans (hb2.mono HB.out.size)).trans ((belowA (Below.refl _ _) _).mono (by have := HB.out.size; rw [hs]; omega))
  have hw1 := HB.out.size
  refine ⟨(setBlock (w1.alloc (.map #[] 0)) w1.heap.size o).heap.size, w1.heap.size, rfl, ⟨heap_alloc_new _ _, _, g2.of_block (heap_alloc_old _ _ (by omega)), ?_⟩, by omega, hw1, by omega, hb3⟩
  exact ⟨⟨rfl, zReads _ _⟩, trivial⟩
end Go.Proofs.YtkhoeiapfoaapaaGreatDoor
