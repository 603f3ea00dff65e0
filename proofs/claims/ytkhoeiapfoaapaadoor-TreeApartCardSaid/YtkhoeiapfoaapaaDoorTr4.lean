/-
  Clone, walked.
-/
import Derived.Test.YtkhoeiapfoaapaaDoorTr3
import Derived.Test.YtkhoeiapfoaapaaDoorIter
import Derived.Deep.RegionHeld3
namespace Go.Proofs.YtkhoeiapfoaapaaDoor
set_option linter.unusedVariables false
set_option linter.unusedSimpArgs false
set_option linter.unusedVariables false
set_option linter.unusedSimpArgs false
open Go Go.RowKit Go.Shelf Go.MapKept Go.ChangeMaps
open Go.Maps (Keyed)

theorem cloneM {w : World} {mb : Nat} {m : List (Bytes × Raw)} (hm : HasMap Tryd.prog 9 sv Raw.val w mb m) :
    Calls Tryd.prog 39 #[.map (some mb)] w fun e w' => e = .returned (.map (some w.heap.size)) ∧ HasMap Tryd.prog 9 sv Raw.val w' w.heap.size m ∧ Below w.heap.size w w' ∧ w'.heap.size = w.heap.size + 1 := by
  obtain ⟨es, c, h1, h2, h3, h4⟩ := hm
  exact (AnyW.maps_Clone Tryd.mclone mb es c w h1).mono fun e w' ⟨he, hw⟩ => ⟨he, ⟨es, c, by rw [hw]; exact heap_alloc_new w _, h2, h3, h4⟩, by rw [hw]; exact belowA (Below.refl _ w) _, by rw [hw]; simp⟩
set_option maxRecDepth 100000 in
theorem cloneNil (w : World) : Calls Tryd.prog 21 #[.pointer none] w fun e w' => e = .returned (.pointer none) ∧ w' = w := by
  go_enter Tryd.func21, Tryd.ntmps21
  go_wp2
  go_ret
  exact ⟨rfl, rfl⟩
set_option maxRecDepth 100000 in
set_option maxHeartbeats 2000000 in
theorem TreeAt.clone_any {w : World} {lo : Nat → Prop} {b mb : Nat} {root : Bytes} {at_ : Int} {M : List (Bytes × Nd)} (T : TreeAt w lo b mb root at_ M) :
    Calls Tryd.prog 21 #[.pointer (some ⟨b, 0, none⟩)] w fun e w' => ∃ b' mb', e = .returned (.pointer (some ⟨b', 0, none⟩)) ∧ TreeAt w' lo b' mb' root at_ M ∧ w.heap.size ≤ b' ∧ w.heap.size ≤ mb' ∧ b' ≠ mb' ∧ Below w.heap.size w w' := by
  obtain ⟨m, hm, hl⟩ := T.map
  have HM := Lib.hid hm
  have HL := Lib.hid hl
  have hbl : b < w.heap.size := lt_of_block T.blk
  obtain ⟨c0, c1, c2⟩ := T.cells
  have HC := Lib.hid T.cells
  have HCM := Lib.hid (cloneM (hm.of_block (w' := w.drew) rfl))
  clear T hm hl
  go_enter Tryd.func21, Tryd.ntmps21
  go_wp2_with fail
  go_region_held3 (fun w' => w'.cell? ⟨b, 0, none⟩ = some (.string (bs root)) ∧ w'.cell? ⟨b, 1, none⟩ = some (.int .u64 at_) ∧ w'.cell? ⟨b, 2, none⟩ = some (.map (some mb))) (first | assumption | exact HC.out | go_keep) (first | (go_at_call 39; refine HCM.out.mono ?_; rintro e w5 ⟨rfl, H5, B5, Z5⟩; have ct : w5.cell? ⟨b, 0, none⟩ = some (.string (bs root)) ∧ w5.cell? ⟨b, 1, none⟩ = some (.int .u64 at_) ∧ w5.cell? ⟨b, 2, none⟩ = some (.map (some mb)) := ⟨(B5.cell (p := ⟨b, 0, none⟩) hbl).trans HC.out.1, (B5.cell (p := ⟨b, 1, none⟩) hbl).trans HC.out.2.1, (B5.cell (p := ⟨b, 2, none⟩) hbl).trans HC.out.2.2⟩))
  have Z5' : w5.heap.size = w.heap.size + 1 := Z5
  have B5' : Below w.heap.size w w5 := ⟨B5.os, B5.tape, B5.output, B5.size, B5.block⟩
  have HX := Lib.hid (And.intro H5 (And.intro B5' Z5'))
  clear H5 B5 B5' Z5 Z5' ct c0 c1 c2
  go_wp2
  go_ret
  obtain ⟨H5, B5, Z5⟩ := HX.out
  have hb6 : Below w.heap.size w (w5.alloc (.cells #[.string (bs root), .int .u64 at_, .map (some w.heap.size)] 62)) := belowA B5 _
  refine ⟨w.heap.size + 1, w.heap.size, rfl, ⟨?_, m, ?_, ?_⟩, Nat.le_succ _, Nat.le_refl _, by omega, hb6⟩
  · have := heap_alloc_new w5 (.cells #[.string (bs root), .int .u64 at_, .map (some w.heap.size)] 62)
    rw [Z5] at this
    exact this
  · exact HasMap.of_block H5 (heap_alloc_old _ _ H5.lt)
  · exact HL.out.imp fun _ _ h => h.below hb6
end Go.Proofs.YtkhoeiapfoaapaaDoor
