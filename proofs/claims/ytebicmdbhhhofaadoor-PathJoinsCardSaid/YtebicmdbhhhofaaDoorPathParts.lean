/-
  PathParts, walked: every Name, Check, Parts, Parent, Base.
-/
import Derived.Test.YtebicmdbhhhofaaDoorTexts
namespace Go.Proofs.YtebicmdbhhhofaaDoor
set_option linter.unusedVariables false
set_option linter.unusedSimpArgs false
open Go.RowKit

theorem below_drewN {B : Nat} {a w : World} (h : Below B a w) (q : Nat) : Below B a (w.drewN q) := ⟨h.os, h.tape, h.output, h.size, h.block⟩

set_option maxRecDepth 100000 in
set_option maxHeartbeats 4000000 in
theorem pparts_none (l : Bytes) (hl : l.length ≤ 1000) (h : partsL l = none) (w : World) (hm : MaxInt w) :
    Calls Tryd.prog 6 #[.string (bs l)] w fun e w' => e = .returned (.bool true) ∧ Below w.heap.size w w' := by
  have s1 : (bs l).size ≤ 1000 := by rw [size_bs]; exact hl
  have c1 := later_name w l
  have c2 := later_refName w l hl
  have c3 : Later w 11 #[.string (bs l)] (.tuple #[.slice none 0 0, .bool false]) := later_below fun W => refParts_none l h (size_max hl (Nat.le_refl _)) W
  have c4 : Later w 18 #[.string (bs l)] (.int .i64 30) := later_of hm fun W hW => check_none l h (size_max hl (Nat.le_refl _)) W hW
  have c5 : Later w 19 #[.string (bs l)] (.slice none 0 0) := later_of hm fun W hW => parts_none l h (size_max hl (Nat.le_refl _)) W hW
  have c6 : Later w 20 #[.string (bs l)] (.string (bs [])) := later_of hm fun W hW => parent_none l h (size_max hl (Nat.le_refl _)) W hW
  have c7 : Later w 21 #[.string (bs l)] (.string (bs [])) := later_of hm fun W hW => base_none l h (size_max hl (Nat.le_refl _)) W hW
  have e0 : (bs []).toList.isEmpty = true := by rw [toList_bs]; rfl
  have CG := Lib.hid (later_goes w hm)
  have B0 := Lib.hid (Below.refl w.heap.size w)
  have C3 := Lib.hid c3
  have C4 := Lib.hid c4
  have C5 := Lib.hid c5
  have C6 := Lib.hid c6
  have C7 := Lib.hid c7
  clear hm h c3 c4 c5 c6 c7
  cases ho : okName l with
  | true =>
    rw [ho] at c1 c2
    have C1 := Lib.hid c1
    have C2 := Lib.hid c2
    clear ho c1 c2
    go_enter Tryd.func6, Tryd.ntmps6
    go_wp2_with fail
    refine (C1.out _ B0.out).mono ?_
    rintro e w1 ⟨rfl, B1⟩
    have X1 := Lib.hid B1
    clear B1
    go_wp2_with fail
    refine (C2.out _ X1.out).mono ?_
    rintro e w2 ⟨rfl, B2⟩
    have X2 := Lib.hid B2
    clear B2
    go_wp2_with fail
    refine (C1.out _ X2.out).mono ?_
    rintro e w3 ⟨rfl, B3⟩
    have X3 := Lib.hid B3
    clear B3
    go_wp2_with fail
    refine (C3.out _ X3.out).mono ?_
    rintro e w4 ⟨rfl, B4⟩
    have X4 := Lib.hid B4
    clear B4
    go_wp2_with fail
    refine (C4.out _ X4.out).mono ?_
    rintro e w5 ⟨rfl, B5⟩
    have X5 := Lib.hid B5
    clear B5
    go_wp2_with fail
    refine (C5.out _ X5.out).mono ?_
    rintro e w6 ⟨rfl, B6⟩
    have X6 := Lib.hid B6
    clear B6
    go_wp2_with fail
    refine (C6.out _ X6.out).mono ?_
    rintro e w7 ⟨rfl, B7⟩
    have X7 := Lib.hid B7
    clear B7
    go_wp2_with fail
    refine (C7.out _ X7.out).mono ?_
    rintro e w8 ⟨rfl, B8⟩
    have X8 := Lib.hid B8
    clear B8
    go_wp2_with fail
    refine (CG.out _ X8.out).mono ?_
    rintro e w9 ⟨rfl, B9⟩
    have X9 := Lib.hid B9
    clear B9
    go_wp2
    go_ret
    exact ⟨rfl, X9.out⟩
  | false =>
    rw [ho] at c1 c2
    have C1 := Lib.hid c1
    have C2 := Lib.hid c2
    clear ho c1 c2
    go_enter Tryd.func6, Tryd.ntmps6
    go_wp2_with fail
    refine (C1.out _ B0.out).mono ?_
    rintro e w1 ⟨rfl, B1⟩
    have X1 := Lib.hid B1
    clear B1
    go_wp2_with fail
    refine (C2.out _ X1.out).mono ?_
    rintro e w2 ⟨rfl, B2⟩
    have X2 := Lib.hid B2
    clear B2
    go_wp2_with fail
    refine (C1.out _ X2.out).mono ?_
    rintro e w3 ⟨rfl, B3⟩
    have X3 := Lib.hid B3
    clear B3
    go_wp2_with fail
    refine (C1.out _ X3.out).mono ?_
    rintro e w4 ⟨rfl, B4⟩
    have X4 := Lib.hid B4
    clear B4
    go_wp2_with fail
    refine (C3.out _ X4.out).mono ?_
    rintro e w5 ⟨rfl, B5⟩
    have X5 := Lib.hid B5
    clear B5
    go_wp2_with fail
    refine (C4.out _ X5.out).mono ?_
    rintro e w6 ⟨rfl, B6⟩
    have X6 := Lib.hid B6
    clear B6
    go_wp2_with fail
    refine (C5.out _ X6.out).mono ?_
    rintro e w7 ⟨rfl, B7⟩
    have X7 := Lib.hid B7
    clear B7
    go_wp2_with fail
    refine (C6.out _ X7.out).mono ?_
    rintro e w8 ⟨rfl, B8⟩
    have X8 := Lib.hid B8
    clear B8
    go_wp2_with fail
    refine (C7.out _ X8.out).mono ?_
    rintro e w9 ⟨rfl, B9⟩
    have X9 := Lib.hid B9
    clear B9
    go_wp2_with fail
    refine (CG.out _ X9.out).mono ?_
    rintro e w10 ⟨rfl, B10⟩
    have X10 := Lib.hid B10
    clear B10
    go_wp2
    go_ret
    exact ⟨rfl, X10.out⟩
set_option maxRecDepth 100000 in
set_option maxHeartbeats 4000000 in
theorem pparts_nil (l : Bytes) (hl : l.length ≤ 1000) (h : partsL l = some []) (w : World) (hm : MaxInt w) :
    Calls Tryd.prog 6 #[.string (bs l)] w fun e w' => e = .returned (.bool true) ∧ Below w.heap.size w w' := by
  have s1 : (bs l).size ≤ 1000 := by rw [size_bs]; exact hl
  obtain rfl : l = [47] := by
    have := ofL_parts h
    rw [← this]
    rfl
  have c1 := later_name w [47]
  have c2 := later_refName w [47] hl
  have c3 : Later w 11 #[.string (bs [47])] (.tuple #[.slice none 0 0, .bool true]) := later_same fun W => refParts_root W
  have c4 : Later w 18 #[.string (bs [47])] (.int .i64 0) := later_of hm fun W hW => check_some [47] [] h W hW
  have c5 : Later w 19 #[.string (bs [47])] (.slice none 0 0) := later_same fun W => parts_nil [47] h W
  have c6 : Later w 20 #[.string (bs [47])] (.string (bs [47])) := later_same fun W => parent_nil [47] h W
  have c7 : Later w 21 #[.string (bs [47])] (.string (bs [])) := later_same fun W => base_nil [47] h W
  have c8 : Later w 22 #[.slice none 0 0, .slice none 0 0] (.bool true) := fun W hW =>
    (texts_any none none 0 0 0 0 [] [] W (by simp) (by simp) (nil_sl _ _ _) (nil_sl _ _ _)).mono fun e w' ⟨he, q, hw⟩ => ⟨he, hw ▸ below_drewN hW q⟩
  have ho : okName [47] = false := by rw [okName_eq]; decide +kernel
  rw [ho] at c1 c2
  have e0 : (bs []).toList.isEmpty = true := by rw [toList_bs]; rfl
  have e1 : ((bs [47]).toList == [47]) = true := by rw [toList_bs]; rfl
  have CG := Lib.hid (later_goes w hm)
  have B0 := Lib.hid (Below.refl w.heap.size w)
  have C1 := Lib.hid c1
  have C2 := Lib.hid c2
  have C3 := Lib.hid c3
  have C4 := Lib.hid c4
  have C5 := Lib.hid c5
  have C6 := Lib.hid c6
  have C7 := Lib.hid c7
  have C8 := Lib.hid c8
  clear hm h c1 c2 c3 c4 c5 c6 c7 c8 ho
  go_enter Tryd.func6, Tryd.ntmps6
  go_wp2_with fail
  refine (C1.out _ B0.out).mono ?_
  rintro e w1 ⟨rfl, B1⟩
  have X1 := Lib.hid B1
  clear B1
  go_wp2_with fail
  refine (C2.out _ X1.out).mono ?_
  rintro e w2 ⟨rfl, B2⟩
  have X2 := Lib.hid B2
  clear B2
  go_wp2_with fail
  refine (C1.out _ X2.out).mono ?_
  rintro e w3 ⟨rfl, B3⟩
  have X3 := Lib.hid B3
  clear B3
  go_wp2_with fail
  refine (C1.out _ X3.out).mono ?_
  rintro e w4 ⟨rfl, B4⟩
  have X4 := Lib.hid B4
  clear B4
  go_wp2_with fail
  refine (C3.out _ X4.out).mono ?_
  rintro e w5 ⟨rfl, B5⟩
  have X5 := Lib.hid B5
  clear B5
  go_wp2_with fail
  refine (C4.out _ X5.out).mono ?_
  rintro e w6 ⟨rfl, B6⟩
  have X6 := Lib.hid B6
  clear B6
  go_wp2_with fail
  refine (C5.out _ X6.out).mono ?_
  rintro e w7 ⟨rfl, B7⟩
  have X7 := Lib.hid B7
  clear B7
  go_wp2_with fail
  refine (C8.out _ X7.out).mono ?_
  rintro e w8 ⟨rfl, B8⟩
  have X8 := Lib.hid B8
  clear B8
  go_wp2_with fail
  refine (C6.out _ X8.out).mono ?_
  rintro e w9 ⟨rfl, B9⟩
  have X9 := Lib.hid B9
  clear B9
  go_wp2_with fail
  refine (C7.out _ X9.out).mono ?_
  rintro e w10 ⟨rfl, B10⟩
  have X10 := Lib.hid B10
  clear B10
  go_wp2_with fail
  refine (CG.out _ X10.out).mono ?_
  rintro e w11 ⟨rfl, B11⟩
  have X11 := Lib.hid B11
  clear B11
  go_wp2
  go_ret
  exact ⟨rfl, X11.out⟩
set_option maxRecDepth 100000 in
set_option maxHeartbeats 8000000 in
theorem pparts_some (l : Bytes) (M : List Bytes) (x : Bytes) (hl : l.length ≤ 1000) (h : partsL l = some (M ++ [x])) (w : World) (hm : MaxInt w) :
    Calls Tryd.prog 6 #[.string (bs l)] w fun e w' => e = .returned (.bool true) ∧ Below w.heap.size w w' := by
  have s1 : (bs l).size ≤ 1000 := by rw [size_bs]; exact hl
  have c1 := later_name w l
  have c2 := later_refName w l hl
  have c3 := refParts_some l (M ++ [x]) h
  have hk := partsL_len h
  have hsl := slashed_parts h
  have HH := Lib.hid h
  have HM := Lib.hid hm
  have B0 := Lib.hid (Below.refl w.heap.size w)
  have e1 : ((bs (ofL M)).toList == (bs (ofL M)).toList) = true := by simp
  have e2 : ((bs x).toList == (bs x).toList) = true := by simp
  have rest : ∀ (w1 : World) (g cap : Nat), MaxInt w1 → g < w1.heap.size → StrsAt w1 g 0 (M ++ [x]) → Later w1 16 #[.slice (some ⟨g, 0, none⟩) M.length cap] (.string (bs (ofL M))) ∧ (∀ W, Below w1.heap.size w1 W → W.cell? ⟨g, M.length, none⟩ = some (.string (bs x))) ∧
      Later w1 18 #[.string (bs l)] (.int .i64 0) ∧ Later w1 20 #[.string (bs l)] (.string (bs (ofL M))) ∧ Later w1 21 #[.string (bs l)] (.string (bs x)) ∧
      (∀ (W W2 : World), Below w1.heap.size w1 W → BlkS W2 W.heap.size (M ++ [x]) → Below w1.heap.size w1 W2 → Calls Tryd.prog 22 #[.slice (some ⟨W.heap.size, 0, none⟩) (M ++ [x]).length (M ++ [x]).length, .slice (some ⟨g, 0, none⟩) (M ++ [x]).length cap] W2 fun e w' => e = .returned (.bool true) ∧ Below w1.heap.size w1 w') := by
    intro w1 g cap hm1 hg hat
    refine ⟨?_, ?_, later_of hm1 fun W hW => check_some l _ h W hW, later_of hm1 fun W hW => parent_some l M x h W hW, later_of hm1 fun W hW => base_some l M x h W hW, ?_⟩
    · cases M with
      | nil => exact later_same fun W => refOf_zero _ _ W
      | cons y M =>
        intro W hW
        have hsm : SlS W w1.heap.size (some ⟨g, 0, none⟩) (y :: M) := fun j z hz => ⟨g, rfl, hg, by
          have := (hat.kept hW hg) j z (by rw [List.getElem?_append_left (List.getElem?_eq_some_iff.1 hz).1]; exact hz)
          rwa [Nat.zero_add] at this⟩
        refine (refOf_more (some ⟨g, 0, none⟩) cap w1.heap.size (y :: M) W (by simp) (by simp at hk ⊢; omega) (by
          have h2 := ofL_len_take ((y :: M) ++ [x]) (y :: M).length
          rw [List.take_left] at h2
          omega) hsm).mono fun e w' ⟨he, hw⟩ => ⟨he, hw ▸ hW⟩
    · intro W hW
      have := (hat.kept hW hg) M.length x (by simp)
      rwa [Nat.zero_add] at this
    · intro W W2 hW hblk hW2
      refine (texts_any (some ⟨W.heap.size, 0, none⟩) (some ⟨g, 0, none⟩) _ cap W2.heap.size W2.heap.size (M ++ [x]) (M ++ [x]) W2 (by omega) (by omega) (strs_sl hblk.at hblk.lt) (strs_sl (hat.kept hW2 hg) (Nat.lt_of_lt_of_le hg hW2.size))).mono fun e w' ⟨he, q, hw⟩ => ⟨by rw [he]; simp, hw ▸ below_drewN hW2 q⟩
  have RS := Lib.hid rest
  have c5 : ∀ W, MaxInt W → Calls Tryd.prog 19 #[.string (bs l)] W fun e w' => e = .returned (.slice (some ⟨W.heap.size, 0, none⟩) (M ++ [x]).length (M ++ [x]).length) ∧ BlkS w' W.heap.size (M ++ [x]) ∧ Below W.heap.size W w' := fun W hW => parts_some l (M ++ [x]) h (by simp) W hW
  have C5 := Lib.hid c5
  have CG := fun (w1 : World) (hW : MaxInt w1) => later_goes w1 hW
  have CGH := Lib.hid CG
  have en : (M ++ [x]).length = M.length + 1 := by simp
  rw [en] at hk C5 RS
  have HEN := Lib.hid en
  clear hm h hsl rest c5 CG en
  cases ho : okName l
  all_goals
    rw [ho] at c1 c2
    have C1 := Lib.hid c1
    have C2 := Lib.hid c2
    clear ho c1 c2
    go_enter Tryd.func6, Tryd.ntmps6
    go_wp2_with fail
    refine (C1.out _ B0.out).mono ?_
    rintro e wa1 ⟨rfl, Ba1⟩
    have Xa1 := Lib.hid Ba1
    clear Ba1
    go_wp2_with fail
    refine (C2.out _ Xa1.out).mono ?_
    rintro e wa2 ⟨rfl, Ba2⟩
    have Xa2 := Lib.hid Ba2
    clear Ba2
    go_wp2_with fail
    refine (C1.out _ Xa2.out).mono ?_
    rintro e wa3 ⟨rfl, Ba3⟩
    have Xa3 := Lib.hid Ba3
    clear Ba3
    go_wp2_with fail
    try
      refine (C1.out _ Xa3.out).mono ?_
      rintro e wa4 ⟨rfl, Ba4⟩
      clear Xa3
      have Xa3 := Lib.hid Ba4
      clear Ba4
      go_wp2_with fail
    refine (c3 _).mono ?_
    rintro e w1 ⟨v, rfl, O1, B1⟩
    have XB1 := Lib.hid (Xa3.out.trans (B1.mono Xa3.out.size))
    have hform : ∃ g cap, v = .slice (some ⟨g, 0, none⟩) (M.length + 1) cap ∧ M.length + 1 ≤ cap ∧ g < w1.heap.size ∧ StrsAt w1 g 0 (M ++ [x]) := by
      rcases ownS_form O1 with ⟨_, h0⟩ | ⟨g, cap, hv, hcap, _, hg, hat⟩
      · simp at h0
      · exact ⟨g, cap, by rw [hv, HEN.out], by rw [HEN.out] at hcap; exact hcap, hg, hat⟩
    obtain ⟨g, cap, hv, hcap, hg, hat⟩ := hform
    rw [hv]
    obtain ⟨d1, d2, d3, d4, d5, d6⟩ := RS.out w1 g cap (HM.out.kept XB1.out) hg hat
    have D1 := Lib.hid d1
    have D2 := Lib.hid d2
    have D3 := Lib.hid d3
    have D4 := Lib.hid d4
    have D5 := Lib.hid d5
    have D6 := Lib.hid d6
    have DG := Lib.hid (CGH.out w1 (HM.out.kept XB1.out))
    have HM1 := Lib.hid (HM.out.kept XB1.out)
    have Y0 := Lib.hid (Below.refl w1.heap.size w1)
    clear d1 d2 d3 d4 d5 d6 O1 B1 hv hat
    have hc : ((M.length + 1 : Nat) : Int) - 1 = (M.length : Int) := by omega
    have hz : ((M.length + 1 : Nat) : Int) = (M.length : Int) + 1 := by omega
    go_wp2_with fail
    refine (D1.out _ Y0.out).mono ?_
    rintro e wb1 ⟨rfl, Bb1⟩
    have hcell := D2.out _ Bb1
    have Xb1 := Lib.hid Bb1
    clear Bb1
    go_wp2_with fail
    refine (D3.out _ Xb1.out).mono ?_
    rintro e wb2 ⟨rfl, Bb2⟩
    have Xb2 := Lib.hid Bb2
    clear Bb2
    go_wp2_with fail
    refine (C5.out _ (HM1.out.kept Xb2.out)).mono ?_
    rintro e wb3 ⟨rfl, A3, Bb3⟩
    have Xb3 := Lib.hid (Xb2.out.trans (Bb3.mono Xb2.out.size))
    have DT := D6.out _ _ Xb2.out A3 Xb3.out
    clear Bb3 A3
    go_wp2_with fail
    refine DT.mono ?_
    rintro e wb4 ⟨rfl, Bb4⟩
    have Xb4 := Lib.hid Bb4
    clear Bb4 DT
    go_wp2_with fail
    refine (D4.out _ Xb4.out).mono ?_
    rintro e wc1 ⟨rfl, Bc1⟩
    have Xc1 := Lib.hid Bc1
    clear Bc1
    go_wp2_with fail
    refine (D5.out _ Xc1.out).mono ?_
    rintro e wc2 ⟨rfl, Bc2⟩
    have Xc2 := Lib.hid Bc2
    clear Bc2
    go_wp2_with fail
    refine (DG.out _ Xc2.out).mono ?_
    rintro e wc3 ⟨rfl, Bc3⟩
    have Xc3 := Lib.hid Bc3
    clear Bc3
    go_wp2
    go_ret
    exact ⟨rfl, XB1.out.trans (Xc3.out.mono XB1.out.size)⟩

set_option maxRecDepth 100000 in
theorem pparts_long (l : Bytes) (h : 1000 < l.length) (m1 : (bs l).size ≤ 9223372036854775807) (w : World) :
    Calls Tryd.prog 6 #[.string (bs l)] w fun e w' => e = .returned (.bool true) ∧ Below w.heap.size w w' := by
  rw [← size_bs] at h
  go_enter Tryd.func6, Tryd.ntmps6
  go_wp2
  go_ret
  exact ⟨rfl, Below.refl _ _⟩
theorem pparts_core (l : Bytes) (m1 : (bs l).size ≤ 9223372036854775807) (w : World) (hm : MaxInt w) :
    Calls Tryd.prog 6 #[.string (bs l)] w fun e w' => e = .returned (.bool true) ∧ Below w.heap.size w w' := by
  by_cases hl : l.length ≤ 1000
  · cases h : partsL l with
    | none => exact pparts_none l hl h w hm
    | some L =>
      rcases snoc_cases L with rfl | ⟨M, x, rfl⟩
      · exact pparts_nil l hl h w hm
      · exact pparts_some l M x hl h w hm
  · exact pparts_long l (by omega) m1 w
end Go.Proofs.YtebicmdbhhhofaaDoor
