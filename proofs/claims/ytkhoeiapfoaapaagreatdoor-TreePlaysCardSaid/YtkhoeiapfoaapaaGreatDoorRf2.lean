/-
  The document's tree: New and Node, walked.
-/
import Derived.Test.YtkhoeiapfoaapaaGreatDoorPlOne
import Derived.Test.YtkhoeiapfoaapaaGreatDoorTrGrows
namespace Go.Proofs.YtkhoeiapfoaapaaGreatDoor
set_option linter.unusedVariables false
set_option linter.unusedSimpArgs false
set_option linter.unusedVariables false
set_option linter.unusedSimpArgs false
open Go Go.RowKit Go.Shelf Go.MapKept Go.ChangeMaps Go.Maps Go.Sort

set_option maxRecDepth 100000 in
set_option maxHeartbeats 8000000 in
theorem rfNew_any (root : Bytes) (hl : root.length ≤ 1000) (w : World) (Z : Nat → Prop) (hZ : ∀ k, w.heap.size ≤ k → ¬ Z k) :
    Calls Tryz.prog 6 #[.string (bs root)] w fun e w' => ∃ rb ao c R, e = .returned (.tuple #[.pointer (some ⟨rb, 0, none⟩), .bool (partsL root).isSome]) ∧ RefAt w' Z rb root 0 ao c R [(root, zNd)] ∧ w.heap.size ≤ rb ∧ Below w.heap.size w w' := by
  have h1 := refParts_any root (by rw [size_bs]; omega) w
  obtain ⟨ok, hok⟩ : ∃ ok, ok = (partsL root).isSome := ⟨_, rfl⟩
  rw [← hok] at h1 ⊢
  clear hok
  go_enter Tryz.func6, Tryz.ntmps6
  go_wp2_with fail
  refine h1.mono ?_
  rintro e w1 ⟨v, rfl, B1⟩
  have HB := Lib.hid B1
  clear B1 h1
  go_wp2
  refine bodyPost_ret (results_tmp2 rfl _ _ _) rfl ?_
  obtain ⟨w2, hw2⟩ : ∃ w2, w2 = w1.alloc (.cells #[.string (bs root), .slice none 0 0, .int .u32 0, .int .u32 0, .int .u32 0, .int .i64 0, .int .u32 0, .int .u64 0, .int .u64 0, .int .u64 0] 53) := ⟨_, rfl⟩
  subst hw2
  have hs := HB.out.size
  have hB3 : Below w1.heap.size w1 ((w1.alloc (.cells #[.string (bs root), .slice none 0 0, .int .u32 0, .int .u32 0, .int .u32 0, .int .i64 0, .int .u32 0, .int .u64 0, .int .u64 0, .int .u64 0] 53)).alloc (.cells #[.string (bs root), .int .u64 0, .slice (some ⟨w1.heap.size, 0, none⟩) 1 1] 56)) := belowA (belowA (Below.refl _ w1) _) _
  refine ⟨w1.heap.size + 1, some ⟨w1.heap.size, 0, none⟩, 1, [⟨root, zRaw⟩], by first | rfl | simp, ⟨?_, ?_, ?_, by simp⟩, by omega, ?_⟩
  · have := heap_alloc_new (w1.alloc (.cells #[.string (bs root), .slice none 0 0, .int .u32 0, .int .u32 0, .int .u32 0, .int .i64 0, .int .u32 0, .int .u64 0, .int .u64 0, .int .u64 0] 53)) (.cells #[.string (bs root), .int .u64 0, .slice (some ⟨w1.heap.size, 0, none⟩) 1 1] 56)
    rw [World.size_alloc] at this
    exact this
  · intro k r hk
    have hk0 : k = 0 := by have := (List.getElem?_eq_some_iff.1 hk).1; simp at this; exact this
    subst hk0
    simp at hk
    subst hk
    refine ⟨w1.heap.size, 0, rfl, hZ _ hs, by simp; omega, fun j u hu => ?_⟩
    rw [show 0 + 0 * 10 + j = j by omega]
    rw [cell_of_row _ _ j _ 53 (0, 0) (heap_alloc_old _ _ (by simp)|>.trans (heap_alloc_new w1 _))]
    simpa [RawA.cells, Raw.cells, Nums.cells, zRaw, zNums] using hu
  · refine ⟨rfl, fun k r x h1 h2 => ?_⟩
    have hk0 : k = 0 := by have := (List.getElem?_eq_some_iff.1 h1).1; simp at this; exact this
    subst hk0
    simp at h1 h2
    subst h1 h2
    exact ⟨rfl, zReads _ _⟩
  · exact HB.out.trans (hB3.mono hs)
set_option maxRecDepth 100000 in
set_option maxHeartbeats 8000000 in
/-- The same nodes. -/
theorem rfNode_same {w : World} {lo lo' : Nat → Prop} {r r' : Raw} {d : Nd} (h : Reads w lo r d) (h' : Reads w lo' r' d) :
    Calls Tryz.prog 28 #[r.val, r'.val] w fun e w' => e = .returned (.bool true) ∧ Below w.heap.size w w' := by
  obtain ⟨a, n, c, u⟩ := r
  obtain ⟨a', n', c', u'⟩ := r'
  have e1 : u = d.num := h.num
  have e2 : u' = d.num := h'.num
  subst e1 e2
  generalize hu : d.num = u at *
  obtain ⟨v1, v2, v3, v4, v5, v6, v7, v8⟩ := u
  unfold Raw.val Raw.cells Nums.cells
  dsimp only
  obtain ⟨w2, hw2⟩ : ∃ w2, w2 = (w.alloc (.cells #[.slice a n c, .int .u32 v1, .int .u32 v2, .int .u32 v3, .int .i64 v4, .int .u32 v5, .int .u64 v6, .int .u64 v7, .int .u64 v8] 39)).alloc (.cells #[.slice a' n' c', .int .u32 v1, .int .u32 v2, .int .u32 v3, .int .i64 v4, .int .u32 v5, .int .u64 v6, .int .u64 v7, .int .u64 v8] 39) := ⟨_, rfl⟩
  have hb : Below w.heap.size w w2 := by rw [hw2]; exact belowA (belowA (Below.refl _ w) _) _
  have q1 := conv_len h.len (h.data.below hb) h.nil
  have q2 := conv_len h'.len (h'.data.below hb) h'.nil
  have t0 : ((bs d.data).toList == (bs d.data).toList) = true := by simp
  have HB := Lib.hid hb
  rw [hw2] at q1 q2
  have HW := Lib.hid hw2
  clear h h' hb hw2 hu
  go_enter Tryz.func28, Tryz.ntmps28
  go_wp2
  go_ret
  rw [← HW.out]
  exact ⟨rfl, HB.out⟩
end Go.Proofs.YtkhoeiapfoaapaaGreatDoor
