/-
  Get and Paths of nil, walked.
-/
import Derived.Test.YtkhoeiapfoaapaaDoorTrRun
namespace Go.Proofs.YtkhoeiapfoaapaaDoor
set_option linter.unusedVariables false
set_option linter.unusedSimpArgs false
set_option linter.unusedVariables false
set_option linter.unusedSimpArgs false
open Go Go.RowKit Go.Shelf Go.MapKept Go.ChangeMaps Go.Maps Go.Sort

set_option maxRecDepth 100000 in
set_option maxHeartbeats 4000000 in
theorem getNil (w : World) (p : Bytes) : Calls Tryd.prog 13 #[.pointer none, .string (bs p)] w fun e w' => e = .returned (.tuple #[zRaw.val, .bool false]) ∧ Below w.heap.size w w' := by
  have HSZ : Hid ((Tryd.prog.info? 33).map (·.size) = some 9) := Lib.hid (by kernel_rfl)
  have hr : (w.alloc (.cells #[.slice none 0 0, .int .u32 0, .int .u32 0, .int .u32 0, .int .i64 0, .int .u32 0, .int .u64 0, .int .u64 0, .int .u64 0] 33)).rangeAt w.heap.size 0 [.slice none 0 0, .int .u32 0, .int .u32 0, .int .u32 0, .int .i64 0, .int .u32 0, .int .u64 0, .int .u64 0, .int .u64 0] := fun j v hv => by
    rw [Nat.zero_add, cell_of_row _ _ j _ 33 (0, 0) (heap_alloc_new w _)]
    simpa using hv
  have HR := Lib.hid hr
  clear hr
  go_enter Tryd.func13, Tryd.ntmps13
  go_wp2
  refine bodyPost_ret (results_cell_tmp_mid rfl _ _ w.heap.size 0 _ _ rfl HR.out Tryd.underlying33 rfl HSZ.out) rfl ?_
  exact ⟨rfl, belowA (Below.refl _ w) _⟩
theorem pathsNil (w : World) :
    Calls Tryd.prog 15 #[.pointer none] w fun e W' => ∃ v, e = .returned v ∧ RowS W' w.heap.size v [] ∧ Below w.heap.size w W' := by
  obtain ⟨w2, hw2⟩ : ∃ w2, w2 = (w.alloc (.cells #[.pointer none] 22)).alloc (.cells #[.func (.func 32) #[] #[]] 58) := ⟨_, rfl⟩
  obtain ⟨hB2, hs2, b1, b2⟩ := two_boxes w _ _ _ _ w2 hw2
  have key := appendSeq_of w.heap.size (w.heap.size + 1) [] (by simp) w2 (by
    intro W hW
    intro l J Jx W3 hW3 hJ _ hY h0
    have hb2W : Below w2.heap.size w2 W := by rw [hW]; exact belowA (Below.refl _ _) _
    have hb23 : Below w2.heap.size w2 W3 := hb2W.trans (hW3.mono hb2W.size)
    exact seq_nil 1 l _ _ J Jx W3 (boxed_belowR b1 hb23 (by omega)).cell h0)
  have HKEY := Lib.hid key
  have HB2 := Lib.hid hB2
  have HW2 := Lib.hid hw2
  clear key hB2 hw2 b1 b2 hs2
  go_enter Tryd.func15, Tryd.ntmps15
  go_wp2_with fail
  refine (all_any _ _ _ rfl rfl).mono ?_
  rintro e w' ⟨rfl, rfl⟩
  go_wp2_with fail
  rw [← HW2.out]
  refine (collect_of _ _ _ _ HKEY.out).mono ?_
  rintro e W' ⟨v, rfl, hr, hb⟩
  have HR := Lib.hid hr
  have HB := Lib.hid hb
  clear hr hb
  go_wp2
  go_ret
  exact ⟨v, rfl, HR.out.mono HB2.out.size, HB2.out.trans (HB.out.mono HB2.out.size)⟩
end Go.Proofs.YtkhoeiapfoaapaaDoor
