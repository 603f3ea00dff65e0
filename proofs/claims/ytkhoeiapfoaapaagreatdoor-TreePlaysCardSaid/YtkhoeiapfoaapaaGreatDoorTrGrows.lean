/-
  grows, walked: it answers true.
-/
import Derived.Test.YtkhoeiapfoaapaaGreatDoorTrRun
import Derived.Test.YtkhoeiapfoaapaaGreatDoorTrEval
namespace Go.Proofs.YtkhoeiapfoaapaaGreatDoor
set_option linter.unusedVariables false
set_option linter.unusedSimpArgs false
set_option linter.unusedVariables false
set_option linter.unusedSimpArgs false
open Go Go.RowKit Go.Shelf Go.MapKept Go.ChangeMaps Go.Maps Go.Sort

theorem putE_cells (p : Bytes) (w : World) : Calls Tryz.prog 13 #[.string (bs p)] w fun e w' => ∃ a n c, e = .returned (.agg #[.string (bs p), .bool false, .slice a n c, .int .u32 0, .int .u32 0, .int .u32 0, .int .i64 0, .int .u32 0, .int .u64 0, .int .u64 0, .int .u64 0]) ∧ ReadsE w' (fun _ => True) ⟨p, false, ⟨a, n, c, zNums⟩⟩ (putF p) ∧ Below w.heap.size w w' := by
  refine (putE_any p w).mono ?_
  rintro e w' ⟨⟨a, n, c, u⟩, rfl, hr, hb⟩
  have hu : u = zNums := hr.num
  subst hu
  exact ⟨a, n, c, rfl, ⟨rfl, rfl, hr.mono fun _ _ => trivial⟩, hb⟩
theorem goneE_cells (p : Bytes) (w : World) : Calls Tryz.prog 14 #[.string (bs p)] w fun e w' => e = .returned (.agg #[.string (bs p), .bool true, .slice none 0 0, .int .u32 0, .int .u32 0, .int .u32 0, .int .i64 0, .int .u32 0, .int .u64 0, .int .u64 0, .int .u64 0]) ∧ (∀ W, ReadsE W (fun _ => True) ⟨p, true, zRaw⟩ (goneF p)) ∧ Below w.heap.size w w' :=
  (goneE_any p w).mono fun e w' ⟨he, hb⟩ => ⟨he, fun W => ⟨rfl, rfl, zReads _ _⟩, hb⟩
theorem fit_put (p : Bytes) (h : p.length ≤ 1000) : FitE (putF p) := ⟨h, by show p.length ≤ 1000000; omega⟩
theorem fit_gone (p : Bytes) (h : p.length ≤ 1000) : FitE (goneF p) := ⟨h, by simp [goneF, zNd]⟩
section
variable {w0 w : World} {b : Nat} {root : Bytes} {at_ : Int} {M : List (Bytes × Nd)}
/-- An apply whose outcome is known. -/
theorem TR.applyX (R : TR w0 w b root at_ M) (h0 : 0 ≤ at_) (h1 : at_ ≤ 1000000000) {ao : Option Addr} {cap : Nat} {L : List RawE} {E : List Eff} {lr : Nat → Prop}
    (hL : LikeE w lr L E) (hA : EffsAt w w.heap.size ao L) (hE : ∀ e ∈ E, FitE e) (hbig : L.length ≤ 1000000) {x at' : Int} {M' : List (Bytes × Nd)} (hx : (applyA root M E).1 = x) (hat : atA root at_ M E = at') (hM : nodesA root M E = M') (n : Nat) (hn : n = L.length) :
    Calls Tryz.prog 8 #[.pointer (some ⟨b, 0, none⟩), .slice ao n cap] w fun e w' => e = .returned (.int .i64 x) ∧ TR w0 w' b root at' M' ∧ Kept (· = b) w w' := by
  subst hx hat hM hn
  exact R.apply h0 h1 ao cap L E hL hA hE hbig
theorem TR.apply1 (R : TR w0 w b root at_ M) (h0 : 0 ≤ at_) (h1 : at_ ≤ 1000000000) {r : RawE} {e : Eff} {lr : Nat → Prop} (hr : ReadsE w lr r e) (he : FitE e) {x at' : Int} {M' : List (Bytes × Nd)} (h : (applyA root M [e]).1 = x ∧ atA root at_ M [e] = at' ∧ nodesA root M [e] = M') :
    Calls Tryz.prog 8 #[.pointer (some ⟨b, 0, none⟩), .slice (some ⟨w.heap.size, 0, none⟩) 1 1] (w.alloc (.cells r.cells.toArray 41)) fun en w' => en = .returned (.int .i64 x) ∧ TR w0 w' b root at' M' ∧ Kept (· = b) w w' :=
  ((R.below (belowA (Below.refl _ w) _)).applyX h0 h1 (like_one (hr.below (belowA (Below.refl _ w) _))) (effs_one w r) (by simpa using he) (by simp) h.1 h.2.1 h.2.2 _ rfl).mono fun _ _ ⟨g1, g2, g3⟩ => ⟨g1, g2, (Kept.ofBelow (belowA (Below.refl _ w) _)).trans g3⟩
theorem TR.apply2 (R : TR w0 w b root at_ M) (h0 : 0 ≤ at_) (h1 : at_ ≤ 1000000000) {r s : RawE} {e f : Eff} {lr : Nat → Prop} (hr : ReadsE w lr r e) (hs : ReadsE w lr s f) (he : FitE e) (hf : FitE f) {x at' : Int} {M' : List (Bytes × Nd)} (h : (applyA root M [e, f]).1 = x ∧ atA root at_ M [e, f] = at' ∧ nodesA root M [e, f] = M') :
    Calls Tryz.prog 8 #[.pointer (some ⟨b, 0, none⟩), .slice (some ⟨w.heap.size, 0, none⟩) 2 2] (w.alloc (.cells (r.cells ++ s.cells).toArray 41)) fun en w' => en = .returned (.int .i64 x) ∧ TR w0 w' b root at' M' ∧ Kept (· = b) w w' :=
  ((R.below (belowA (Below.refl _ w) _)).applyX h0 h1 (like_two (hr.below (belowA (Below.refl _ w) _)) (hs.below (belowA (Below.refl _ w) _))) (effs_two w r s) (by simp only [List.mem_cons, List.not_mem_nil, or_false]; rintro z (rfl | rfl); exact he; exact hf) (by simp) h.1 h.2.1 h.2.2 _ rfl).mono fun _ _ ⟨g1, g2, g3⟩ => ⟨g1, g2, (Kept.ofBelow (belowA (Below.refl _ w) _)).trans g3⟩
end
theorem atA_yes {root : Bytes} {at_ : Int} {M M' : List (Bytes × Nd)} {E : List Eff} (h : applyA root M E = (0, M')) : (applyA root M E).1 = 0 ∧ atA root at_ M E = at_ + 1 ∧ nodesA root M E = M' := by
  unfold atA nodesA
  rw [h]
  exact ⟨rfl, rfl, rfl⟩
theorem atA_no {root : Bytes} {at_ : Int} {M : List (Bytes × Nd)} {E : List Eff} {x : Int} (h : (applyA root M E).1 = x) (hx : x ≠ 0) : (applyA root M E).1 = x ∧ atA root at_ M E = at_ ∧ nodesA root M E = M := by
  unfold atA nodesA
  rw [h, if_neg hx, if_neg hx]
  exact ⟨rfl, rfl, rfl⟩
theorem belowN {B : Nat} {a b : World} (h : Below B a b) (n : Nat) : Below B a (b.drewN n) := ⟨h.os, h.tape, h.output, h.size, h.block⟩
theorem strs_two (w : World) (p q : Bytes) : StrSl (w.alloc (.cells #[.string (bs p), .string (bs q)] 9)) (w.alloc (.cells #[.string (bs p), .string (bs q)] 9)).heap.size (some ⟨w.heap.size, 0, none⟩) [p, q] := fun k x hk => by
  refine ⟨w.heap.size, 0, rfl, by simp, ?_⟩
  rw [Nat.zero_add, cell_of_row _ _ k _ 9 (0, 0) (heap_alloc_new w _)]
  rcases (show k = 0 ∨ k = 1 by have := (List.getElem?_eq_some_iff.1 hk).1; simp at this; omega) with rfl | rfl
  · simp at hk; subst hk; rfl
  · simp at hk; subst hk; rfl
theorem strs_one (w : World) (p : Bytes) : StrSl (w.alloc (.cells #[.string (bs p)] 9)) (w.alloc (.cells #[.string (bs p)] 9)).heap.size (some ⟨w.heap.size, 0, none⟩) [p] := fun k x hk => by
  refine ⟨w.heap.size, 0, rfl, by simp, ?_⟩
  rw [Nat.zero_add, cell_of_row _ _ k _ 9 (0, 0) (heap_alloc_new w _)]
  obtain rfl : k = 0 := by have := (List.getElem?_eq_some_iff.1 hk).1; simp at this; omega
  simp at hk; subst hk; rfl
theorem conv_len {w : World} {lo : Nat → Prop} {hi : Nat} {a : Option Addr} {D : Bytes} {n c : Nat} (hn : n = D.length) (h : ByteSl w lo hi a D) (h0 : a = none → D = [] ∧ c = 0) : (convert 33 9 (.slice a n c)).run Tryz.prog w = .ok (.string (bs D)) w := by
  subst hn
  exact conv_any h h0
set_option maxRecDepth 100000 in
set_option maxHeartbeats 8000000 in
theorem grows_any (w : World) (hm : MaxInt w) : Calls Tryz.prog 7 #[] w fun e w' => e = .returned (.bool true) ∧ Below w.heap.size w w' := by
  have HM := Lib.hid hm
  clear hm
  go_enter Tryz.func7, Tryz.ntmps7
  go_wp2_with fail
  refine (TR.new (root := pR) (Below.refl _ w) HM.out (by decide) rootsR).mono ?_
  rintro e w1 ⟨b, rfl, R1, hb1, B1⟩
  have HR1 : Hid (TR w w1 b pR 0 M0) := Lib.hid R1
  clear R1 B1 hb1
  go_wp2_with fail
  refine (putE_cells pRA w1).mono ?_
  rintro e w2 ⟨a2, n2, c2, rfl, E2, B2⟩
  have HR2 := Lib.hid (HR1.out.below B2)
  have HE2 := Lib.hid E2
  clear E2 B2
  go_wp2_with fail
  refine (HR2.out.apply1 (r := ⟨pRA, false, ⟨a2, n2, c2, zNums⟩⟩) (Int.le_refl 0) (by decide) HE2.out (at' := 1) (fit_put pRA (by decide)) (atA_yes grow1)).mono ?_
  rintro e w3 ⟨rfl, R3, _⟩
  have HR3 := Lib.hid R3
  clear R3
  go_wp2_with fail
  refine (putE_cells pRBC w3).mono ?_
  rintro e w4 ⟨a4, n4, c4, rfl, E4, B4⟩
  have HR4 := Lib.hid (HR3.out.below B4)
  have HE4 := Lib.hid E4
  clear E4 B4
  go_wp2_with fail
  refine (HR4.out.apply1 (r := ⟨pRBC, false, ⟨a4, n4, c4, zNums⟩⟩) (by decide) (by decide) HE4.out (fit_put pRBC (by decide)) (atA_no grow2 (by decide))).mono ?_
  rintro e w5 ⟨rfl, R5, _⟩
  have HR5 := Lib.hid R5
  clear R5
  go_wp2_with fail
  refine (putE_cells pRAB w5).mono ?_
  rintro e w6 ⟨a6, n6, c6, rfl, E6, B6⟩
  have HR6 := Lib.hid (HR5.out.below B6)
  have HE6 := Lib.hid E6
  clear E6 B6
  go_wp2_with fail
  refine (goneE_cells pRA w6).mono ?_
  rintro e w7 ⟨rfl, E7, B7⟩
  have HR7 := Lib.hid (HR6.out.below B7)
  have HE67 := Lib.hid (And.intro (HE6.out.below B7) (E7 w7))
  clear E7 B7
  go_wp2_with fail
  refine (HR7.out.apply2 (r := ⟨pRAB, false, ⟨a6, n6, c6, zNums⟩⟩) (s := ⟨pRA, true, zRaw⟩) (by decide) (by decide) HE67.out.1 HE67.out.2 (fit_put pRAB (by decide)) (fit_gone pRA (by decide)) (atA_no grow3 (by decide))).mono ?_
  rintro e w8 ⟨rfl, R8, _⟩
  have HR8 := Lib.hid R8
  clear R8
  go_wp2_with fail
  refine (HR8.out.get pRA (by decide)).mono ?_
  rintro e w9 ⟨⟨a9, n9, c9, u9⟩, rfl, E9, B9, _⟩
  have hu : u9 = zNums := E9.num
  subst hu
  have HR9 := Lib.hid (HR8.out.below B9)
  have hd : (getA pRA M1).getD zNd = ⟨pRA, zNums⟩ := by decide +kernel
  rw [hd] at E9
  have HE9 := Lib.hid E9
  clear E9 B9 hd
  rw [show (getA pRA M1).isSome = true by decide +kernel]
  unfold Raw.val Raw.cells Nums.cells zNums
  dsimp only
  obtain ⟨w10, hw10⟩ : ∃ w10, w10 = w9.alloc (.cells #[.slice a9 n9 c9, .int .u32 0, .int .u32 0, .int .u32 0, .int .i64 0, .int .u32 0, .int .u64 0, .int .u64 0, .int .u64 0] 39) := ⟨_, rfl⟩
  have hb10 : Below w9.heap.size w9 w10 := by rw [hw10]; exact belowA (Below.refl _ w9) _
  have qc := conv_len HE9.out.len ((HE9.out.data.mono (fun _ h => h) (Nat.le_refl _)).below hb10) HE9.out.nil
  have HR10 := Lib.hid (HR9.out.below hb10)
  rw [hw10] at qc
  have tA : ((bs pRA).toList == [47, 114, 47, 97]) = true := by rw [toList_bs]; decide
  have HW10 := Lib.hid hw10
  clear hw10 hb10
  go_wp2_with fail
  rw [← HW10.out]
  clear qc tA
  refine HR10.out.at_any.mono ?_
  rintro e w11 ⟨rfl, rfl⟩
  go_wp2_with fail
  refine HR10.out.paths.mono ?_
  rintro e w11 ⟨a11, c11, rfl, S11, B11⟩
  have HR11 := Lib.hid (HR10.out.below B11)
  rw [grow4] at S11
  have HS11 := Lib.hid S11
  clear S11 B11
  go_wp2_with fail
  have SL2 := strs_two w11 pR pRA
  refine (texts_any a11 (some ⟨w11.heap.size, 0, none⟩) c11 2 _ _ [pR, pRA] [pR, pRA] _ (by decide) (by decide) (HS11.out.later (belowA (Below.refl _ w11) _)) SL2).mono ?_
  rintro e w12 ⟨rfl, qn, rfl⟩
  have hB12 := Lib.hid (HR11.out.below (w' := (w11.alloc (.cells #[.string (bs pR), .string (bs pRA)] 9)).drewN qn) (belowN (belowA (Below.refl _ w11) _) qn))
  rw [show decide ([pR, pRA] = [pR, pRA]) = true by decide]
  generalize (w11.alloc (.cells #[.string (bs pR), .string (bs pRA)] 9)).drewN qn = w12 at hB12
  go_wp2_with fail
  refine (hB12.out.kids pR).mono ?_
  rintro e w13 ⟨a13, c13, rfl, S13, B13⟩
  have HR13 := Lib.hid (hB12.out.below B13)
  rw [grow5] at S13
  rw [show (kidsS pR M1 pR).length = 1 by rw [grow5]; rfl]
  have HS13 := Lib.hid S13
  clear S13 B13
  go_wp2_with fail
  refine (texts_any a13 (some ⟨w13.heap.size, 0, none⟩) c13 1 _ _ [[97]] [[97]] _ (by decide) (by decide) (HS13.out.later (belowA (Below.refl _ w13) _)) (strs_one w13 [97])).mono ?_
  rintro e w14 ⟨rfl, qn2, rfl⟩
  have hB14 := Lib.hid (HR13.out.below (w' := (w13.alloc (.cells #[.string (bs [97])] 9)).drewN qn2) (belowN (belowA (Below.refl _ w13) _) qn2))
  rw [show decide ([[97]] = ([[97]] : List Bytes)) = true by decide]
  generalize (w13.alloc (.cells #[.string (bs [97])] 9)).drewN qn2 = w14 at hB14
  go_wp2
  go_ret
  exact ⟨rfl, hB14.out.bl⟩
end Go.Proofs.YtkhoeiapfoaapaaGreatDoor
