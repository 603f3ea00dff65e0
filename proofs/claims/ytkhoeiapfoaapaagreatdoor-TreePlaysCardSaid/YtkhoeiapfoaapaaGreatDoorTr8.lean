/-
  The laws' effects: gone, walked.
-/
import Derived.Test.YtkhoeiapfoaapaaGreatDoorTr7
namespace Go.Proofs.YtkhoeiapfoaapaaGreatDoor
set_option linter.unusedVariables false
set_option linter.unusedSimpArgs false
set_option linter.unusedVariables false
set_option linter.unusedSimpArgs false
open Go Go.RowKit Go.Shelf Go.MapKept Go.ChangeMaps

/-- An effect: its path, whether it goes, its node as it lies. -/
structure RawE where
  path : Bytes
  gone : Bool
  node : Raw
def RawE.cells (e : RawE) : List Value := .string (bs e.path) :: .bool e.gone :: e.node.cells
def RawE.val (e : RawE) : Value := .agg e.cells.toArray
set_option maxRecDepth 100000 in
set_option maxHeartbeats 1000000 in
theorem goneE_any (p : Bytes) (w : World) : Calls Tryz.prog 14 #[.string (bs p)] w fun e w' => e = .returned (RawE.val ⟨p, true, zRaw⟩) ∧ Below w.heap.size w w' := by
  go_enter Tryz.func14, Tryz.ntmps14
  go_wp2
  refine bodyPost_ret (results_cell_row rfl _ _ w.heap.size 41 _ (0, 0) _ rfl (heap_alloc_new w _) Tryz.underlying41 rfl (by kernel_rfl)) rfl ?_
  exact ⟨rfl, belowA (Below.refl _ w) _⟩
set_option maxRecDepth 100000 in
set_option maxHeartbeats 2000000 in
theorem putE_any (p : Bytes) (w : World) : Calls Tryz.prog 13 #[.string (bs p)] w fun e w' => ∃ r, e = .returned (RawE.val ⟨p, false, r⟩) ∧ Reads w' (From w.heap.size) r ⟨p, zNums⟩ ∧ Below w.heap.size w w' := by
  have q := run_bytes_of_string (P := Tryz.prog) (w.alloc (.cells #[.string ⟨#[]⟩, .bool false, .slice none 0 0, .int .u32 0, .int .u32 0, .int .u32 0, .int .i64 0, .int .u32 0, .int .u64 0, .int .u64 0, .int .u64 0] 41)) 9 33 5 (bs p) Tryz.underlying9 Tryz.underlying33 Tryz.underlying5
  rw [World.size_alloc] at q
  obtain ⟨cap, hcap⟩ : ∃ cap, cap = grownCap (w.alloc (.cells #[.string ⟨#[]⟩, .bool false, .slice none 0 0, .int .u32 0, .int .u32 0, .int .u32 0, .int .i64 0, .int .u32 0, .int .u64 0, .int .u64 0, .int .u64 0] 41)) (bs p).size 0 5 := ⟨_, rfl⟩
  rw [← hcap] at q
  clear hcap
  obtain ⟨n, hn⟩ : ∃ n, n = (bs p).size := ⟨_, rfl⟩
  have hnp : n = p.length := by rw [hn, size_bs]
  rw [← hn] at q
  clear hn
  obtain ⟨w2, hw2⟩ : ∃ w2, w2 = ((w.alloc (.cells #[.string ⟨#[]⟩, .bool false, .slice none 0 0, .int .u32 0, .int .u32 0, .int .u32 0, .int .i64 0, .int .u32 0, .int .u64 0, .int .u64 0, .int .u64 0] 41)).drew.alloc (.cells (bytesRow (bs p) cap) 5 ((bytesRow (bs p) cap).size, (bytesRow (bs p) cap).size + 1))) := ⟨_, rfl⟩
  rw [← hw2] at q
  have k1 : w2.heap[w.heap.size]? = some (.cells #[.string ⟨#[]⟩, .bool false, .slice none 0 0, .int .u32 0, .int .u32 0, .int .u32 0, .int .i64 0, .int .u32 0, .int .u64 0, .int .u64 0, .int .u64 0] 41 (0, 0)) := by
    rw [hw2]
    exact (heap_alloc_old _ _ (by simp [World.drew])).trans (heap_alloc_new w _)
  have k2 : w2.heap[w.heap.size + 1]? = some (.cells (bytesRow (bs p) cap) 5 ((bytesRow (bs p) cap).size, (bytesRow (bs p) cap).size + 1)) := by
    have h := heap_alloc_new (w.alloc (.cells #[.string ⟨#[]⟩, .bool false, .slice none 0 0, .int .u32 0, .int .u32 0, .int .u32 0, .int .i64 0, .int .u32 0, .int .u64 0, .int .u64 0, .int .u64 0] 41)).drew (.cells (bytesRow (bs p) cap) 5 ((bytesRow (bs p) cap).size, (bytesRow (bs p) cap).size + 1))
    rw [hw2]
    have hs : (w.alloc (.cells #[.string ⟨#[]⟩, .bool false, .slice none 0 0, .int .u32 0, .int .u32 0, .int .u32 0, .int .i64 0, .int .u32 0, .int .u64 0, .int .u64 0, .int .u64 0] 41)).drew.heap.size = w.heap.size + 1 := by simp [World.drew]
    rw [hs] at h
    exact h
  have hs2 : w2.heap.size = w.heap.size + 2 := by rw [hw2]; simp [World.drew]
  have hb2 : Below w.heap.size w w2 := by rw [hw2]; exact (belowA (Below.refl _ w) _).drew.alloc (by simp [World.drew]) _
  have ht : w2.there w.heap.size 0 11 := by
    intro j hj
    refine ⟨?_, by simp [World.frozen?, k1]⟩
    rw [Nat.zero_add, cell_of_row _ _ j _ 41 (0, 0) k1]
    rcases (show j = 0 ∨ j = 1 ∨ j = 2 ∨ j = 3 ∨ j = 4 ∨ j = 5 ∨ j = 6 ∨ j = 7 ∨ j = 8 ∨ j = 9 ∨ j = 10 by omega) with rfl | rfl | rfl | rfl | rfl | rfl | rfl | rfl | rfl | rfl | rfl <;> rfl
  have hby : ByteSl w2 (From w.heap.size) w2.heap.size (some ⟨w.heap.size + 1, 0, none⟩) p := fun j c hj => by
    refine ⟨w.heap.size + 1, 0, rfl, by omega, by omega, ?_⟩
    rw [Nat.zero_add, cell_of_row _ _ j _ _ _ k2]
    have hj2 : j < (bs p).data.size := by rw [show (bs p).data = p.toArray from rfl]; simpa using (List.getElem?_eq_some_iff.1 hj).1
    rw [bytesRow_at _ _ j hj2]
    have : (bs p).data[j] = c := by
      have := (List.getElem?_eq_some_iff.1 hj).2
      simpa [bs] using this
    rw [this]
  have HT := Lib.hid ht
  have HX := Lib.hid (And.intro hby (And.intro hb2 (And.intro hs2 hnp)))
  have HSZ : Hid ((Tryz.prog.info? 41).map (·.size) = some 11) := Lib.hid (by kernel_rfl)
  have HON : Hid ((#[.string (bs p), .bool false, .slice (some ⟨w.heap.size + 1, 0, none⟩) n cap, .int .u32 0, .int .u32 0, .int .u32 0, .int .i64 0, .int .u32 0, .int .u64 0, .int .u64 0, .int .u64 0] : Array Value).all (·.oneCell') = true) := Lib.hid (by simp [Value.oneCell'])
  clear k1 k2 hs2 hb2 ht hby hnp hw2
  go_enter Tryz.func13, Tryz.ntmps13
  go_wp2_with (first
    | (refine wpList_store_mid rfl 41 (.tmp 2) (.tmp 7) rfl w.heap.size 0 #[.string (bs p), .bool false, .slice (some ⟨w.heap.size + 1, 0, none⟩) n cap, .int .u32 0, .int .u32 0, .int .u32 0, .int .i64 0, .int .u32 0, .int .u64 0, .int .u64 0, .int .u64 0] rfl rfl HT.out HSZ.out HON.out ?_))
  refine bodyPost_ret (results_cell_mid rfl _ _ w.heap.size 0 [.string (bs p), .bool false, .slice (some ⟨w.heap.size + 1, 0, none⟩) n cap, .int .u32 0, .int .u32 0, .int .u32 0, .int .i64 0, .int .u32 0, .int .u64 0, .int .u64 0, .int .u64 0] _ rfl (World.rangeAt_setCells_same _ _ _ _ HT.out) Tryz.underlying41 rfl HSZ.out) rfl ?_
  obtain ⟨hby, hb2, hs2, hnp⟩ := HX.out
  have hk : Kept (fun k => k = w.heap.size) w2 (w2.setCells w.heap.size 0 [.string (bs p), .bool false, .slice (some ⟨w.heap.size + 1, 0, none⟩) n cap, .int .u32 0, .int .u32 0, .int .u32 0, .int .i64 0, .int .u32 0, .int .u64 0, .int .u64 0, .int .u64 0]) := Kept.setCells (S := fun k => k = w.heap.size) (p := w.heap.size) rfl _ _ (Kept.refl _ w2)
  refine ⟨⟨some ⟨w.heap.size + 1, 0, none⟩, n, cap, zNums⟩, rfl, ⟨rfl, hnp, ?_, fun e => by simp at e⟩, hb2.trans (hk.below (by omega) (fun k h => by omega))⟩
  refine (ByteSl.kept (lo := From (w.heap.size + 1)) ?_ hk (Nat.le_refl _) (fun b h1 h2 _ e => by omega)).mono (fun _ h => by have h : _ ≤ _ := h; show w.heap.size ≤ _; omega) hk.size
  intro j c hj
  obtain ⟨b, off, g1, g2, g3, g4⟩ := hby j c hj
  simp at g1
  obtain ⟨rfl, rfl⟩ := g1
  exact ⟨_, _, rfl, Nat.le_refl _, g3, g4⟩
end Go.Proofs.YtkhoeiapfoaapaaGreatDoor
