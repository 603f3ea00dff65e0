/-
  PathBack, walked: a path is its parts, joined one by one.
-/
import Derived.Test.YtebicmdbhhhofaaDoorPathMore
import Derived.Test.YtebicmdbhhhofaaDoorExt
namespace Go.Proofs.YtebicmdbhhhofaaDoor
set_option linter.unusedVariables false
set_option linter.unusedSimpArgs false
open Go.RowKit

set_option maxRecDepth 100000 in
set_option maxHeartbeats 4000000 in
theorem back_none (l : Bytes) (hl : l.length ≤ 200) (h : partsL l = none) (w : World) (hm : MaxInt w) :
    Calls Tryd.prog 7 #[.string (bs l)] w fun e w' => e = .returned (.bool true) ∧ Below w.heap.size w w' := by
  have s1 : (bs l).size ≤ 200 := by rw [size_bs]; exact hl
  have C1 := Lib.hid (show Later w 18 #[.string (bs l)] (.int .i64 30) from later_of hm fun W hW => check_none l h (size_max hl (by omega)) W hW)
  have c2 := later_under w hm l [47] (by omega) (by simp)
  rw [show underB l [47] = false from by simp [underB, h]] at c2
  have C2 := Lib.hid c2
  have CG := Lib.hid (later_goes w hm)
  have B0 := Lib.hid (Below.refl w.heap.size w)
  clear hm h c2
  go_enter Tryd.func7, Tryd.ntmps7
  go_wp2_with fail
  refine (C1.out _ B0.out).mono ?_
  rintro e w1 ⟨rfl, B1⟩
  have X1 := Lib.hid B1
  clear B1
  go_wp2_with fail
  refine (C2.out _ X1.out).mono ?_
  rintro e w2 ⟨rfl, B2⟩
  have X2 := Lib.hid B2
  clear B2
  go_wp2_with fail
  refine (CG.out _ X2.out).mono ?_
  rintro e w3 ⟨rfl, B3⟩
  have X3 := Lib.hid B3
  clear B3
  go_wp2
  go_ret
  exact ⟨rfl, X3.out⟩

theorem join_take {l : Bytes} {L : List Bytes} (h : partsL l = some L) (k : Nat) (hk : k < L.length) : joinV (ofL (L.take k)) L[k] = .tuple #[.string (bs (ofL (L.take (k + 1)))), .int .i64 0] := by
  have hj : joinL (L.take k) L[k] = ofL (L.take (k + 1)) := by unfold joinL; rw [← take_snoc L k hk]
  have he : joinErr (L.take k) L[k] = false := by
    unfold joinErr
    rw [hj]
    have := take_len64 h (k + 1)
    simp
    omega
  unfold joinV
  rw [parts_take h k]
  show (if okName L[k] = true then joinVal (L.take k) L[k] else _) = _
  rw [if_pos (parts_good h _ (List.getElem_mem _))]
  unfold joinVal
  rw [he, hj]
  rfl
set_option maxRecDepth 100000 in
set_option maxHeartbeats 8000000 in
theorem back_some (l : Bytes) (L : List Bytes) (hl : l.length ≤ 200) (h : partsL l = some L) (w : World) (hm : MaxInt w) :
    Calls Tryd.prog 7 #[.string (bs l)] w fun e w' => e = .returned (.bool true) ∧ Below w.heap.size w w' := by
  have s1 : (bs l).size ≤ 200 := by rw [size_bs]; exact hl
  have hk := partsL_len h
  have HH := Lib.hid h
  have HM := Lib.hid hm
  have C1 := Lib.hid (show Later w 18 #[.string (bs l)] (.int .i64 0) from later_of hm fun W hW => check_some l L h W hW)
  -- Parts, in the form of a slice
  have c2 : ∀ W, MaxInt W → Calls Tryd.prog 19 #[.string (bs l)] W fun e w' => (∃ a c, e = .returned (.slice a L.length c) ∧ SlS w' w'.heap.size a L) ∧ Below W.heap.size W w' := by
    intro W hW
    by_cases hL : L = []
    · subst hL
      exact (parts_nil l h W).mono fun e w' ⟨he, hw⟩ => ⟨⟨_, _, he, nil_sl _ _ _⟩, hw ▸ Below.refl _ _⟩
    · exact (parts_some l L h hL W hW).mono fun e w' ⟨he, hb, hB⟩ => ⟨⟨_, _, he, strs_sl hb.at hb.lt⟩, hB⟩
  have C2 := Lib.hid c2
  have hl0 : ofL (L.take L.length) = l := by rw [List.take_length]; exact ofL_parts h
  have HL0 := Lib.hid hl0
  have C4 := Lib.hid (later_under w hm l [47] (by omega) (by simp))
  have hself : underB l l = true := (under_parts h h).2 (List.prefix_refl _)
  have hroot : underB l [47] = true := (under_parts h (show partsL [47] = some [] from rfl)).2 List.nil_prefix
  have C5 := Lib.hid (fun (W : World) (hW : MaxInt W) => hself ▸ later_under W hW l l (by omega) (by omega))
  have C6 := Lib.hid (fun (W : World) (hW : MaxInt W) => hroot ▸ later_under W hW l [47] (by omega) (by simp))
  have CG := Lib.hid (fun (W : World) (hW : MaxInt W) => later_goes W hW)
  have B0 := Lib.hid (Below.refl w.heap.size w)
  clear hm h hl0 c2 hself hroot
  obtain ⟨N, hN⟩ : ∃ N, N = L.length := ⟨_, rfl⟩
  rw [← hN] at hk HL0 C2
  have HN := Lib.hid hN
  clear hN
  go_enter Tryd.func7, Tryd.ntmps7
  go_wp2_with fail
  refine (C1.out _ B0.out).mono ?_
  rintro e wa1 ⟨rfl, Ba1⟩
  have Xa1 := Lib.hid Ba1
  clear Ba1
  go_wp2_with fail
  refine (C2.out _ (HM.out.kept Xa1.out)).mono ?_
  rintro e w2 ⟨⟨a, c, rfl, S2⟩, B2⟩
  have HS := Lib.hid S2
  have X2 := Lib.hid (Xa1.out.trans (B2.mono Xa1.out.size))
  clear B2 S2
  go_wp2_with fail
  go_loopw [4, 5] (fun s i wr => ∃ k : Nat, k ≤ N ∧ i = .int .i64 k ∧ s = .string (bs (ofL (L.take k))) ∧ Hid (Below w2.heap.size w2 wr)) (fun _ i _ => N - (intOf i).toNat)
  case atStart => exact ⟨0, by omega, rfl, rfl, Lib.hid (Below.refl _ _)⟩
  case round =>
    obtain ⟨k, hkN, rfl, rfl, HB⟩ := hrel
    have HMr := Lib.hid (HM.out.kept (X2.out.trans (HB.out.mono X2.out.size)))
    by_cases hlt : k < N
    · have hkl : k < L.length := by rw [← HN.out]; exact hlt
      obtain ⟨g, rfl, hg, hcell0⟩ := HS.out k L[k] (List.getElem?_eq_getElem hkl)
      have hgr : g < wr.heap.size := Nat.lt_of_lt_of_le hg HB.out.size
      have hcell : wr.cell? ⟨g, k, none⟩ = some (.string (bs L[k])) := (HB.out.cell (p := ⟨g, k, none⟩) hg).trans hcell0
      have h64 := take_len64 HH.out k
      have h65 := take_len64 HH.out (k + 1)
      have hx64 : (L[k]).length ≤ 1000 := by
        have h1 := len_take L k _ (List.getElem?_eq_getElem hkl)
        have h2 := ofL_len_take L (k + 1)
        have h3 := slashed_parts HH.out
        omega
      have d1 := later_name wr L[k]
      rw [parts_good HH.out _ (List.getElem_mem _)] at d1
      have d2 := later_under wr HMr.out l (ofL (L.take k)) (by omega) (by omega)
      rw [under_take HH.out k] at d2
      have d3 := later_under wr HMr.out (ofL (L.take k)) l (by omega) (by omega)
      rw [under_not HH.out k hkl] at d3
      have d4 := later_join wr HMr.out (ofL (L.take k)) L[k] (by omega) hx64
      rw [join_take HH.out k hkl] at d4
      have p5 := fun (W : World) (hW : MaxInt W) => later_parent W hW (ofL (L.take (k + 1))) (by omega)
      rw [parent_take HH.out k hkl] at p5
      have p6 := fun (W : World) (hW : MaxInt W) => later_base W hW (ofL (L.take (k + 1))) (by omega)
      rw [base_take HH.out k hkl] at p6
      have p7 : ∀ (W : World) (hW : MaxInt W), Later W 18 #[.string (bs (ofL (L.take (k + 1))))] (.int .i64 0) := fun W hW => later_of hW fun W' hW' => check_some _ _ (parts_take HH.out (k + 1)) W' hW'
      generalize hat : bs (ofL (L.take k)) = at1 at *
      generalize hnx : bs (ofL (L.take (k + 1))) = nx at *
      generalize hxx : bs L[k] = x at *
      have HAT := Lib.hid hat
      have HNX := Lib.hid hnx
      have D1 := Lib.hid d1
      have D2 := Lib.hid d2
      have D3 := Lib.hid d3
      have D4 := Lib.hid d4
      have P5 := Lib.hid p5
      have P6 := Lib.hid p6
      have P7 := Lib.hid p7
      have Y0 := Lib.hid (Below.refl wr.heap.size wr)
      clear d1 d2 d3 d4 p5 p6 p7 h64 h65 hx64 hcell0 hat hnx hxx hkl
      go_wp2_with fail
      refine (D1.out _ Y0.out).mono ?_
      rintro e wb1 ⟨rfl, Bb1⟩
      have Xb1 := Lib.hid Bb1
      clear Bb1
      go_wp2_with fail
      refine (D2.out _ Xb1.out).mono ?_
      rintro e wb2 ⟨rfl, Bb2⟩
      have Xb2 := Lib.hid Bb2
      clear Bb2
      go_wp2_with fail
      refine (D3.out _ Xb2.out).mono ?_
      rintro e wb3 ⟨rfl, Bb3⟩
      have Xb3 := Lib.hid Bb3
      have hcell3 : wb3.cell? ⟨g, k, none⟩ = some (.string x) := (Bb3.cell (p := ⟨g, k, none⟩) hgr).trans hcell
      clear Bb3
      go_wp2_with fail
      refine (D4.out _ Xb3.out).mono ?_
      rintro e wn ⟨rfl, Bn⟩
      have Xn := Lib.hid Bn
      have hcelln : ∀ o, (Wext wn o).cell? ⟨g, k, none⟩ = some (.string x) := fun o => ((Wext.below wn o).cell (p := ⟨g, k, none⟩) (Nat.lt_of_lt_of_le hgr Bn.size)).trans ((Bn.cell (p := ⟨g, k, none⟩) hgr).trans hcell)
      clear Bn hcell3
      have HMn := Lib.hid (HMr.out.kept Xn.out)
      have E5 := Lib.hid (later_ext (P5.out wn HMn.out))
      have E6 := Lib.hid (later_ext (P6.out wn HMn.out))
      have E7 := Lib.hid (later_ext (P7.out wn HMn.out))
      have t1 : (at1.toList == at1.toList) = true := by simp
      have t2 : (x.toList == x.toList) = true := by simp
      go_wp2_with fail
      refine wp_region_ext (by kernel_rfl) (by kernel_rfl) ?_
      repeat (go_big_quiet_step (first | (go_at_call 20; exact E5.out _) | (go_at_call 21; exact E6.out _) | (go_at_call 18; exact E7.out _)))
      refine wpQuiet_nil ?_
      intro w' hw'
      obtain ⟨oq, hw''⟩ := hw'
      subst hw''
      go_wp2
      have XE := Lib.hid (HB.out.trans (((Xn.out.trans ((Wext.below wn oq).mono Xn.out.size)).mono HB.out.size)))
      go_roundw
      case rel => exact ⟨k + 1, by omega, by go_num, by rw [HNX.out], XE⟩
      case measure => simp [intOf]; omega
    · obtain rfl : k = N := by omega
      have D5 := Lib.hid (C5.out wr HMr.out)
      have D6 := Lib.hid (C6.out wr HMr.out)
      have DG := Lib.hid (CG.out wr HMr.out)
      have Y0 := Lib.hid (Below.refl wr.heap.size wr)
      rw [HL0.out]
      have t1 : ((bs l).toList == (bs l).toList) = true := by simp
      go_wp2_with fail
      refine (D5.out _ Y0.out).mono ?_
      rintro e wc1 ⟨rfl, Bc1⟩
      have Xc1 := Lib.hid Bc1
      clear Bc1
      go_wp2_with fail
      refine (D6.out _ Xc1.out).mono ?_
      rintro e wc2 ⟨rfl, Bc2⟩
      have Xc2 := Lib.hid Bc2
      clear Bc2
      go_wp2_with fail
      refine (DG.out _ Xc2.out).mono ?_
      rintro e wc3 ⟨rfl, Bc3⟩
      have Xc3 := Lib.hid Bc3
      clear Bc3
      go_wp2
      go_ret
      exact ⟨rfl, (X2.out.trans (HB.out.mono X2.out.size)).trans (Xc3.out.mono (Nat.le_trans X2.out.size HB.out.size))⟩
set_option maxRecDepth 100000 in
theorem back_core (l : Bytes) (m1 : (bs l).size ≤ 9223372036854775807) (w : World) (hm : MaxInt w) :
    Calls Tryd.prog 7 #[.string (bs l)] w fun e w' => e = .returned (.bool true) ∧ Below w.heap.size w w' := by
  by_cases hl : l.length ≤ 200
  · cases h : partsL l with
    | none => exact back_none l hl h w hm
    | some L => exact back_some l L hl h w hm
  · have h : 200 < (bs l).size := by rw [size_bs]; omega
    go_enter Tryd.func7, Tryd.ntmps7
    go_wp2
    go_ret
    exact ⟨rfl, Below.refl _ _⟩
end Go.Proofs.YtebicmdbhhhofaaDoor
