/-
  RegionKnown, walked: closed examples.
-/
import Derived.Test.YtdengimjjlbmcaaDoorRegLongest
namespace Go.Proofs.YtdengimjjlbmcaaDoor
set_option linter.unusedVariables false
set_option linter.unusedSimpArgs false
open Go.RowKit

theorem strs_new (W : World) (L : List Bytes) : StrSl (W.alloc (.cells (L.map sv).toArray 9)) (W.alloc (.cells (L.map sv).toArray 9)).heap.size (some ⟨W.heap.size, 0, none⟩) L := by
  intro k p hk
  refine ⟨_, _, rfl, by simp, ?_⟩
  rw [Nat.zero_add]
  exact (new_cell (Below.refl _ _) k _ (by simp [hk, sv])).1
theorem ops_nil {w : World} {B : Nat} {a : Option Addr} : OpsAt w B a [] := fun k p h => by simp at h
theorem ops_one (W : World) (p : Bytes) : OpsAt (W.alloc (.cells (opCells p).toArray 32)) (W.alloc (.cells (opCells p).toArray 32)).heap.size (some ⟨W.heap.size, 0, none⟩) [p] := by
  intro k x hk
  refine ⟨_, _, ⟨0, none, 0, 0, 0, false, false, none, 0, 0⟩, rfl, by simp, ?_⟩
  match k, hk with
  | 0, hk => cases hk; exact range_new (Below.refl _ _) _ _ rfl
  | k + 1, hk => simp at hk
set_option maxRecDepth 100000 in
set_option maxHeartbeats 8000000 in
theorem regKnown_any (w : World) (hm : MaxInt w) : Calls Tryd.prog 6 #[] w (LawEnd w) := by
  obtain ⟨A, hA⟩ : ∃ A, A = w.alloc (.cells #[.string ⟨#[47, 97]⟩, .string ⟨#[47, 97, 47, 98]⟩, .string ⟨#[47, 99]⟩] 9) := ⟨_, rfl⟩
  have hwA : Below w.heap.size w A := by rw [hA]; exact belowA (Below.refl _ w) _
  have hmA : MaxInt A := hm.kept hwA
  have hs : StrSl A A.heap.size (some ⟨w.heap.size, 0, none⟩) exL := ex_strs (hA ▸ Below.refl _ _)
  have hl1 : exL.length ≤ 1000 := by decide
  have hl2 : ∀ r ∈ exL, r.length ≤ 1000 := by decide
  have v : allV exL [47, 120] [] = (0, 60) := by rw [allV_eq]; decide +kernel
  have c1 := always_gAll (w := A) hmA (some ⟨w.heap.size, 0, none⟩) 3 exL hl1 hl2 hs (.int .u8 0) (.slice none 0 0) (.int .i64 0) (.bool false) (.bool false) none 0 [47, 120] [] (by decide) (by decide) (by decide) ops_nil
  rw [v] at c1
  clear v
  have v : allV [] [47, 120] [] = (0, 60) := by rw [allV_eq]; decide +kernel
  have c2 := always_gAll (w := A) hmA none 0 [] (by decide) (by decide) (StrSl.nil _ _ _) (.int .u8 0) (.slice none 0 0) (.int .i64 0) (.bool false) (.bool false) none 0 [47, 120] [] (by decide) (by decide) (by decide) ops_nil
  rw [v] at c2
  clear v
  have v : allV [[47]] [47, 120] [] = (0, 0) := by rw [allV_eq]; decide +kernel
  have c3 : ∀ W, Below A.heap.size A W → Calls Tryd.prog 15 #[.slice (some ⟨W.heap.size, 0, none⟩) 1 1, .agg #[.int .u8 0, .string ⟨#[47, 120]⟩, .slice none 0 0, .int .i64 0, .bool false, .bool false, .slice none 0 0]] (W.alloc (.cells #[.string ⟨#[47]⟩] 9)) fun e w' => e = .returned (.tuple #[.int .i64 0, .int .i64 0]) ∧ Below W.heap.size W w' := fun W hW => by
    have hW2 : Below A.heap.size A (W.alloc (.cells #[.string ⟨#[47]⟩] 9)) := hW.alloc hW.size _
    have h := always_gAll (w := W.alloc (.cells #[.string ⟨#[47]⟩] 9)) (hmA.kept hW2) (some ⟨W.heap.size, 0, none⟩) 1 [[47]] (by decide) (by decide) (strs_new W [[47]]) (.int .u8 0) (.slice none 0 0) (.int .i64 0) (.bool false) (.bool false) none 0 [47, 120] [] (by decide) (by decide) (by decide) ops_nil _ (Below.refl _ _)
    rw [v] at h
    exact h.mono fun e w' ⟨he, hb⟩ => ⟨he, (belowA (Below.refl _ W) _).trans (hb.mono (by simp))⟩
  clear v
  have v : allV exL [47, 97] [[47, 120]] = (0, 60) := by rw [allV_eq]; decide +kernel
  have c4 : ∀ W, Below A.heap.size A W → Calls Tryd.prog 15 #[.slice (some ⟨w.heap.size, 0, none⟩) 3 3, .agg #[.int .u8 0, .string ⟨#[47, 97]⟩, .slice none 0 0, .int .i64 0, .bool false, .bool false, .slice (some ⟨W.heap.size, 0, none⟩) 1 1]] (W.alloc (.cells #[.int .u8 0, .string ⟨#[47, 120]⟩, .slice none 0 0, .int .i64 0, .bool false, .bool false, .slice none 0 0] 32)) fun e w' => e = .returned (.tuple #[.int .i64 0, .int .i64 60]) ∧ Below W.heap.size W w' := fun W hW => by
    have hW2 : Below A.heap.size A (W.alloc (.cells #[.int .u8 0, .string ⟨#[47, 120]⟩, .slice none 0 0, .int .i64 0, .bool false, .bool false, .slice none 0 0] 32)) := hW.alloc hW.size _
    have h := always_gAll (w := W.alloc (.cells #[.int .u8 0, .string ⟨#[47, 120]⟩, .slice none 0 0, .int .i64 0, .bool false, .bool false, .slice none 0 0] 32)) (hmA.kept hW2) (some ⟨w.heap.size, 0, none⟩) 3 exL hl1 hl2 ((hs.kept hW2).mono hW2.size) (.int .u8 0) (.slice none 0 0) (.int .i64 0) (.bool false) (.bool false) (some ⟨W.heap.size, 0, none⟩) 1 [47, 97] [[47, 120]] (by decide) (by decide) (by decide) (ops_one W [47, 120]) _ (Below.refl _ _)
    rw [v] at h
    exact h.mono fun e w' ⟨he, hb⟩ => ⟨he, (belowA (Below.refl _ W) _).trans (hb.mono (by simp))⟩
  clear v
  have v : ofB exL [47, 99] = 2 := by rw [ofB_eq]; decide +kernel
  have c5 := always_gOf (w := A) hmA (some ⟨w.heap.size, 0, none⟩) 3 exL hl1 hl2 hs [47, 99] (by decide)
  rw [v] at c5
  clear v
  have v : ofB exL [99] = -1 := by rw [ofB_eq]; decide +kernel
  have c6 := always_gOf (w := A) hmA (some ⟨w.heap.size, 0, none⟩) 3 exL hl1 hl2 hs [99] (by decide)
  rw [v] at c6
  clear v
  have v : ofB [] [47, 99] = -1 := by rw [ofB_eq]; decide +kernel
  have c7 := always_gOf (w := A) hmA none 0 [] (by decide) (by decide) (StrSl.nil _ _ _) [47, 99] (by decide)
  rw [v] at c7
  clear v
  have v : ofB [[47, 97], [47, 97]] [47, 97] = 0 := by rw [ofB_eq]; decide +kernel
  have c8 : ∀ W, Below A.heap.size A W → Calls Tryd.prog 12 #[.slice (some ⟨W.heap.size, 0, none⟩) 2 2, .string ⟨#[47, 97]⟩] (W.alloc (.cells #[.string ⟨#[47, 97]⟩, .string ⟨#[47, 97]⟩] 9)) fun e w' => e = .returned (.int .i64 0) ∧ Below W.heap.size W w' := fun W hW => by
    have hW2 : Below A.heap.size A (W.alloc (.cells #[.string ⟨#[47, 97]⟩, .string ⟨#[47, 97]⟩] 9)) := hW.alloc hW.size _
    have h := always_gOf (w := W.alloc (.cells #[.string ⟨#[47, 97]⟩, .string ⟨#[47, 97]⟩] 9)) (hmA.kept hW2) (some ⟨W.heap.size, 0, none⟩) 2 [[47, 97], [47, 97]] (by decide) (by decide) (strs_new W [[47, 97], [47, 97]]) [47, 97] (by decide) _ (Below.refl _ _)
    rw [v] at h
    exact h.mono fun e w' ⟨he, hb⟩ => ⟨he, (belowA (Below.refl _ W) _).trans (hb.mono (by simp))⟩
  clear v
  have v : checkL [[47, 97], [47, 97]] = 1 := by rw [checkL_eq]; decide +kernel
  have c9 : ∀ W, Below A.heap.size A W → Calls Tryd.prog 10 #[.slice (some ⟨W.heap.size, 0, none⟩) 2 2] (W.alloc (.cells #[.string ⟨#[47, 97]⟩, .string ⟨#[47, 97]⟩] 9)) fun e w' => e = .returned (.int .i64 1) ∧ Below W.heap.size W w' := fun W hW => by
    have hW2 : Below A.heap.size A (W.alloc (.cells #[.string ⟨#[47, 97]⟩, .string ⟨#[47, 97]⟩] 9)) := hW.alloc hW.size _
    have h := always_gCheck (w := W.alloc (.cells #[.string ⟨#[47, 97]⟩, .string ⟨#[47, 97]⟩] 9)) (hmA.kept hW2) (some ⟨W.heap.size, 0, none⟩) 2 [[47, 97], [47, 97]] (by decide) (by decide) (strs_new W [[47, 97], [47, 97]]) _ (Below.refl _ _)
    rw [v] at h
    exact h.mono fun e w' ⟨he, hb⟩ => ⟨he, (belowA (Below.refl _ W) _).trans (hb.mono (by simp))⟩
  clear v
  have v : checkL [] = 1 := by rw [checkL_eq]; decide +kernel
  have c10 := always_gCheck (w := A) hmA none 0 [] (by decide) (by decide) (StrSl.nil _ _ _)
  rw [v] at c10
  clear v
  have v : checkL [[47], [47, 97], [47, 98], [47, 99], [47, 100]] = 1 := by rw [checkL_eq]; decide +kernel
  have c11 : ∀ W, Below A.heap.size A W → Calls Tryd.prog 10 #[.slice (some ⟨W.heap.size, 0, none⟩) 5 5] (W.alloc (.cells #[.string ⟨#[47]⟩, .string ⟨#[47, 97]⟩, .string ⟨#[47, 98]⟩, .string ⟨#[47, 99]⟩, .string ⟨#[47, 100]⟩] 9)) fun e w' => e = .returned (.int .i64 1) ∧ Below W.heap.size W w' := fun W hW => by
    have hW2 : Below A.heap.size A (W.alloc (.cells #[.string ⟨#[47]⟩, .string ⟨#[47, 97]⟩, .string ⟨#[47, 98]⟩, .string ⟨#[47, 99]⟩, .string ⟨#[47, 100]⟩] 9)) := hW.alloc hW.size _
    have h := always_gCheck (w := W.alloc (.cells #[.string ⟨#[47]⟩, .string ⟨#[47, 97]⟩, .string ⟨#[47, 98]⟩, .string ⟨#[47, 99]⟩, .string ⟨#[47, 100]⟩] 9)) (hmA.kept hW2) (some ⟨W.heap.size, 0, none⟩) 5 [[47], [47, 97], [47, 98], [47, 99], [47, 100]] (by decide) (by decide) (strs_new W [[47], [47, 97], [47, 98], [47, 99], [47, 100]]) _ (Below.refl _ _)
    rw [v] at h
    exact h.mono fun e w' ⟨he, hb⟩ => ⟨he, (belowA (Below.refl _ W) _).trans (hb.mono (by simp))⟩
  clear v
  have v : checkL [[97]] = 30 := by rw [checkL_eq]; decide +kernel
  have c12 : ∀ W, Below A.heap.size A W → Calls Tryd.prog 10 #[.slice (some ⟨W.heap.size, 0, none⟩) 1 1] (W.alloc (.cells #[.string ⟨#[97]⟩] 9)) fun e w' => e = .returned (.int .i64 30) ∧ Below W.heap.size W w' := fun W hW => by
    have hW2 : Below A.heap.size A (W.alloc (.cells #[.string ⟨#[97]⟩] 9)) := hW.alloc hW.size _
    have h := always_gCheck (w := W.alloc (.cells #[.string ⟨#[97]⟩] 9)) (hmA.kept hW2) (some ⟨W.heap.size, 0, none⟩) 1 [[97]] (by decide) (by decide) (strs_new W [[97]]) _ (Below.refl _ _)
    rw [v] at h
    exact h.mono fun e w' ⟨he, hb⟩ => ⟨he, (belowA (Below.refl _ W) _).trans (hb.mono (by simp))⟩
  clear v
  have v : checkL [[97], [97]] = 1 := by rw [checkL_eq]; decide +kernel
  have c13 : ∀ W, Below A.heap.size A W → Calls Tryd.prog 10 #[.slice (some ⟨W.heap.size, 0, none⟩) 2 2] (W.alloc (.cells #[.string ⟨#[97]⟩, .string ⟨#[97]⟩] 9)) fun e w' => e = .returned (.int .i64 1) ∧ Below W.heap.size W w' := fun W hW => by
    have hW2 : Below A.heap.size A (W.alloc (.cells #[.string ⟨#[97]⟩, .string ⟨#[97]⟩] 9)) := hW.alloc hW.size _
    have h := always_gCheck (w := W.alloc (.cells #[.string ⟨#[97]⟩, .string ⟨#[97]⟩] 9)) (hmA.kept hW2) (some ⟨W.heap.size, 0, none⟩) 2 [[97], [97]] (by decide) (by decide) (strs_new W [[97], [97]]) _ (Below.refl _ _)
    rw [v] at h
    exact h.mono fun e w' ⟨he, hb⟩ => ⟨he, (belowA (Below.refl _ W) _).trans (hb.mono (by simp))⟩
  clear v
  have v : checkL [[47], [47, 97], [47, 98], [47, 99]] = 0 := by rw [checkL_eq]; decide +kernel
  have c14 : ∀ W, Below A.heap.size A W → Calls Tryd.prog 10 #[.slice (some ⟨W.heap.size, 0, none⟩) 4 4] (W.alloc (.cells #[.string ⟨#[47]⟩, .string ⟨#[47, 97]⟩, .string ⟨#[47, 98]⟩, .string ⟨#[47, 99]⟩] 9)) fun e w' => e = .returned (.int .i64 0) ∧ Below W.heap.size W w' := fun W hW => by
    have hW2 : Below A.heap.size A (W.alloc (.cells #[.string ⟨#[47]⟩, .string ⟨#[47, 97]⟩, .string ⟨#[47, 98]⟩, .string ⟨#[47, 99]⟩] 9)) := hW.alloc hW.size _
    have h := always_gCheck (w := W.alloc (.cells #[.string ⟨#[47]⟩, .string ⟨#[47, 97]⟩, .string ⟨#[47, 98]⟩, .string ⟨#[47, 99]⟩] 9)) (hmA.kept hW2) (some ⟨W.heap.size, 0, none⟩) 4 [[47], [47, 97], [47, 98], [47, 99]] (by decide) (by decide) (strs_new W [[47], [47, 97], [47, 98], [47, 99]]) _ (Below.refl _ _)
    rw [v] at h
    exact h.mono fun e w' ⟨he, hb⟩ => ⟨he, (belowA (Below.refl _ W) _).trans (hb.mono (by simp))⟩
  clear v
  have K1 := Lib.hid c1
  clear c1
  have K2 := Lib.hid c2
  clear c2
  have K3 := Lib.hid c3
  clear c3
  have K4 := Lib.hid c4
  clear c4
  have K5 := Lib.hid c5
  clear c5
  have K6 := Lib.hid c6
  clear c6
  have K7 := Lib.hid c7
  clear c7
  have K8 := Lib.hid c8
  clear c8
  have K9 := Lib.hid c9
  clear c9
  have K10 := Lib.hid c10
  clear c10
  have K11 := Lib.hid c11
  clear c11
  have K12 := Lib.hid c12
  clear c12
  have K13 := Lib.hid c13
  clear c13
  have K14 := Lib.hid c14
  clear c14
  have CG := Lib.hid (later_finds A hmA)
  have HWA := Lib.hid hwA
  have B0 := Lib.hid (Below.refl A.heap.size A)
  clear hs hl1 hl2 hm hmA hwA
  go_enter Tryd.func6, Tryd.ntmps6
  go_wp2_with fail
  rw [← hA]
  clear hA
  go_wp2_with fail
  refine (K1.out _ B0.out).mono ?_
  rintro e w1 ⟨rfl, B1⟩
  have X1 := Lib.hid (B0.out.trans (B1.mono B0.out.size))
  clear B1
  go_wp2_with fail
  refine (K2.out _ X1.out).mono ?_
  rintro e w2 ⟨rfl, B2⟩
  have X2 := Lib.hid (X1.out.trans (B2.mono X1.out.size))
  clear B2
  go_wp2_with fail
  refine (K3.out _ X2.out).mono ?_
  rintro e w3 ⟨rfl, B3⟩
  have X3 := Lib.hid (X2.out.trans (B3.mono X2.out.size))
  clear B3
  go_wp2_with fail
  refine (K4.out _ X3.out).mono ?_
  rintro e w4 ⟨rfl, B4⟩
  have X4 := Lib.hid (X3.out.trans (B4.mono X3.out.size))
  clear B4
  go_wp2_with fail
  refine (K5.out _ X4.out).mono ?_
  rintro e w5 ⟨rfl, B5⟩
  have X5 := Lib.hid (X4.out.trans (B5.mono X4.out.size))
  clear B5
  go_wp2_with fail
  refine (K6.out _ X5.out).mono ?_
  rintro e w6 ⟨rfl, B6⟩
  have X6 := Lib.hid (X5.out.trans (B6.mono X5.out.size))
  clear B6
  go_wp2_with fail
  refine (K7.out _ X6.out).mono ?_
  rintro e w7 ⟨rfl, B7⟩
  have X7 := Lib.hid (X6.out.trans (B7.mono X6.out.size))
  clear B7
  go_wp2_with fail
  refine (K8.out _ X7.out).mono ?_
  rintro e w8 ⟨rfl, B8⟩
  have X8 := Lib.hid (X7.out.trans (B8.mono X7.out.size))
  clear B8
  go_wp2_with fail
  refine (K9.out _ X8.out).mono ?_
  rintro e w9 ⟨rfl, B9⟩
  have X9 := Lib.hid (X8.out.trans (B9.mono X8.out.size))
  clear B9
  go_wp2_with fail
  refine (K10.out _ X9.out).mono ?_
  rintro e w10 ⟨rfl, B10⟩
  have X10 := Lib.hid (X9.out.trans (B10.mono X9.out.size))
  clear B10
  go_wp2_with fail
  refine (K11.out _ X10.out).mono ?_
  rintro e w11 ⟨rfl, B11⟩
  have X11 := Lib.hid (X10.out.trans (B11.mono X10.out.size))
  clear B11
  go_wp2_with fail
  refine (K12.out _ X11.out).mono ?_
  rintro e w12 ⟨rfl, B12⟩
  have X12 := Lib.hid (X11.out.trans (B12.mono X11.out.size))
  clear B12
  go_wp2_with fail
  refine (K13.out _ X12.out).mono ?_
  rintro e w13 ⟨rfl, B13⟩
  have X13 := Lib.hid (X12.out.trans (B13.mono X12.out.size))
  clear B13
  go_wp2_with fail
  refine (K14.out _ X13.out).mono ?_
  rintro e w14 ⟨rfl, B14⟩
  have X14 := Lib.hid (X13.out.trans (B14.mono X13.out.size))
  clear B14
  go_wp2_with fail
  refine (CG.out _ X14.out).mono ?_
  rintro e wz ⟨rfl, Bz⟩
  go_wp2
  go_ret
  exact ⟨rfl, HWA.out.trans (Bz.mono HWA.out.size)⟩
end Go.Proofs.YtdengimjjlbmcaaDoor
