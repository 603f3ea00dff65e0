/-
  TreeApart, walked.
-/
import Derived.Test.YtkhoeiapfoaapaaDoorLawTreeWhole
import Derived.Test.YtkhoeiapfoaapaaDoorApPlain
namespace Go.Proofs.YtkhoeiapfoaapaaDoor
set_option linter.unusedVariables false
set_option linter.unusedSimpArgs false
set_option linter.unusedVariables false
set_option linter.unusedSimpArgs false
open Go Go.RowKit Go.Shelf Go.MapKept Go.ChangeMaps Go.Maps Go.Sort

theorem rows_two {w : World} {l m : Row} (hl : RowOk w l) (hm : RowOk w m) : RowsAt (w.alloc (.cells #[.slice l.ao l.L.length l.c, .slice m.ao m.L.length m.c] 37)) (w.alloc (.cells #[.slice l.ao l.L.length l.c, .slice m.ao m.L.length m.c] 37)).heap.size (some ⟨w.heap.size, 0, none⟩) [l, m] := by
  intro k r hk
  have hb := belowA (Below.refl _ w) (.cells #[.slice l.ao l.L.length l.c, .slice m.ao m.L.length m.c] 37)
  rcases (show k = 0 ∨ k = 1 by have := (List.getElem?_eq_some_iff.1 hk).1; simp at this; omega) with rfl | rfl
  · simp at hk
    subst hk
    refine ⟨hl.below hb, w.heap.size, 0, rfl, by simp, ?_⟩
    rw [show 0 + 0 = 0 by omega, cell_of_row _ _ 0 _ 37 (0, 0) (heap_alloc_new w _)]
    rfl
  · simp at hk
    subst hk
    refine ⟨hm.below hb, w.heap.size, 0, rfl, by simp, ?_⟩
    rw [show 0 + 1 = 1 by omega, cell_of_row _ _ 1 _ 37 (0, 0) (heap_alloc_new w _)]
    rfl
/-- The path of an effect of a row that came in. -/
theorem row_path {w w' : World} {r : Row} (h : RowOk w r) (hb : Below w.heap.size w w') {i : Nat} (hi : i < r.L.length) : ∃ (e : Eff) (b off : Nat), r.E[i]? = some e ∧ r.ao = some ⟨b, off, none⟩ ∧ w'.cell? ⟨b, off + i * 11, none⟩ = some (.string (bs e.path)) := by
  obtain ⟨q, hq⟩ : ∃ q, r.L[i]? = some q := ⟨_, List.getElem?_eq_getElem hi⟩
  obtain ⟨e, he⟩ : ∃ e, r.E[i]? = some e := ⟨_, List.getElem?_eq_getElem (by rw [← h.like.1]; exact hi)⟩
  obtain ⟨q1, _, _⟩ := h.like.2 i q e hq he
  obtain ⟨b, off, h1, h2, h3⟩ := h.at_ i q hq
  have h4 := range_kept h3 hb h2 0 (.string (bs q.path)) rfl
  rw [q1] at h4
  exact ⟨e, b, off, he, h1, h4⟩
theorem atA_near (root : Bytes) (at_ : Int) (M : List (Bytes × Nd)) (E : List Eff) : at_ ≤ atA root at_ M E ∧ atA root at_ M E ≤ at_ + 1 := by
  unfold atA
  split <;> omega
theorem sameT_of {root : Bytes} {M M' : List (Bytes × Nd)} {a b : Int} (h : a = b) (hm : sameM M M' = true) : sameT root a M root b M' = true := by
  unfold sameT
  rw [hm, h]
  simp
theorem at_apart {M MA MB : List (Bytes × Nd)} {L K : List Eff} {t : Int} (h1 : (applyA pR MB L).1 = (applyA pR M L).1) (h2 : (applyA pR MA K).1 = (applyA pR M K).1) : atA pR (atA pR t M L) MA K = atA pR (atA pR t M K) MB L := by
  unfold atA
  rw [h1, h2]
  split <;> split <;> omega
/-- The paths so far are below z. -/
def AprSt (w w1 : World) (E : List Eff) (z : Bytes) (i : Nat) (wr : World) : Prop := Below w.heap.size w wr ∧ ∀ e ∈ E.take i, underB e.path z = true
set_option maxRecDepth 100000 in
set_option maxHeartbeats 8000000 in
theorem treeApart_core (l m : Row) (w : World) (hm : MaxInt w) (hl : RowOk w l) (hk : RowOk w m) :
    Calls Tryd.prog 7 #[.slice l.ao l.L.length l.c, .slice m.ao m.L.length m.c] w fun e w' => e = .returned (.bool true) ∧ Below w.heap.size w w' := by
  have hg := great_any (some ⟨w.heap.size, 0, none⟩) 2 [l, m] _ (rows_two hl hk) (by unfold maxLen; simp)
  obtain ⟨G, hG⟩ : ∃ G, G = greatB [l, m] := ⟨_, rfl⟩
  obtain ⟨N, hN⟩ : ∃ N, N = l.L.length := ⟨_, rfl⟩
  obtain ⟨K, hK⟩ : ∃ K, K = m.L.length := ⟨_, rfl⟩
  obtain ⟨la, hla⟩ : ∃ la, la = l.ao := ⟨_, rfl⟩
  obtain ⟨ma, hma⟩ : ∃ ma, ma = m.ao := ⟨_, rfl⟩
  obtain ⟨lc, hlc⟩ : ∃ lc, lc = l.c := ⟨_, rfl⟩
  obtain ⟨mc, hmc⟩ : ∃ mc, mc = m.c := ⟨_, rfl⟩
  rw [← hG, ← hN, ← hK, ← hla, ← hma, ← hlc, ← hmc] at hg
  rw [← hN, ← hK, ← hla, ← hma, ← hlc, ← hmc]
  have HGR := Lib.hid hg
  have HG := Lib.hid hG
  have HM := Lib.hid hm
  have HL := Lib.hid (And.intro hl (And.intro hN (And.intro hla hlc)))
  have HK := Lib.hid (And.intro hk (And.intro hK (And.intro hma hmc)))
  clear hg hG hm hl hk hN hK hla hma hlc hmc
  cases G with
  | true =>
    go_enter Tryd.func7, Tryd.ntmps7
    go_wp2_with fail
    refine HGR.out.mono ?_
    rintro e wz ⟨rfl, rfl⟩
    go_wp2
    go_ret
    exact ⟨rfl, belowA (Below.refl _ w) _⟩
  | false =>
    by_cases h1 : 20 < N
    · have t1 : decide ((20 : Int) < (N : Int)) = true := by simpa using (by omega : (20 : Int) < (N : Int))
      go_enter Tryd.func7, Tryd.ntmps7
      go_wp2_with fail
      refine HGR.out.mono ?_
      rintro e wz ⟨rfl, rfl⟩
      go_wp2
      go_ret
      exact ⟨rfl, belowA (Below.refl _ w) _⟩
    · have t1 : decide ((20 : Int) < (N : Int)) = false := by simpa using (by omega : (N : Int) ≤ 20)
      by_cases h2 : 20 < K
      · have t2 : decide ((20 : Int) < (K : Int)) = true := by simpa using (by omega : (20 : Int) < (K : Int))
        go_enter Tryd.func7, Tryd.ntmps7
        go_wp2_with fail
        refine HGR.out.mono ?_
        rintro e wz ⟨rfl, rfl⟩
        go_wp2
        go_ret
        exact ⟨rfl, belowA (Below.refl _ w) _⟩
      · have t2 : decide ((20 : Int) < (K : Int)) = false := by simpa using (by omega : (K : Int) ≤ 20)
        have HFL : Hid (∀ e ∈ l.E, FitE e) := Lib.hid (great_fit HG.out.symm (by simp))
        have HFK : Hid (∀ e ∈ m.E, FitE e) := Lib.hid (great_fit HG.out.symm (by simp))
        go_enter Tryd.func7, Tryd.ntmps7
        go_wp2_with fail
        refine HGR.out.mono ?_
        rintro e w1 ⟨rfl, hw1⟩
        have HB1 : Hid (Below w.heap.size w w1) := Lib.hid (by rw [← hw1]; exact belowA (Below.refl _ w) _)
        clear hw1 HGR
        go_wp2
        clear t1 t2
        go_loopw [5] (fun p wr => ∃ i : Nat, i ≤ N ∧ p = .int .i64 i ∧ Hid (AprSt w w1 l.E pRA i wr)) (fun p _ => N - (intOf p).toNat)
        case atStart => exact ⟨0, by omega, rfl, Lib.hid ⟨HB1.out, fun e he => by simp at he⟩⟩
        case round =>
          obtain ⟨i, hi, rfl, HS⟩ := hrel
          by_cases hlt : i < N
          · obtain ⟨e, b, off, he, hao, hload⟩ := row_path HL.out.1 HS.out.1 (i := i) (by rw [← HL.out.2.1]; exact hlt)
            rw [← HL.out.2.2.1] at hao
            subst hao
            obtain ⟨U, hU⟩ : ∃ U, U = underB e.path pRA := ⟨_, rfl⟩
            have hfe := HFL.out e (List.mem_of_getElem? he)
            have hu := under_any e.path pRA (by rw [size_bs]; have := hfe.path; omega) (by rw [size_bs]; decide) _ (HM.out.kept HS.out.1)
            rw [← hU] at hu
            have HU := Lib.hid hu
            have HE := Lib.hid (And.intro he hU)
            clear hu he hU hfe
            go_wp2_with fail
            refine HU.out.mono ?_
            rintro e' wu ⟨rfl, Bu⟩
            have HB := Lib.hid (HS.out.1.trans (Bu.mono HS.out.1.size))
            clear HU Bu hload
            cases U with
            | false =>
              go_wp2_with fail
              refine (grows_any _ (HM.out.kept HB.out)).mono ?_
              rintro e' wg ⟨rfl, Bg⟩
              have HBG := Lib.hid (HB.out.trans (Bg.mono HB.out.size))
              clear Bg
              go_wp2
              go_ret
              exact ⟨rfl, HBG.out⟩
            | true =>
              have HS2 : Hid (AprSt w w1 l.E pRA (i + 1) wu) := Lib.hid ⟨HB.out, fun x hx => by
                rw [List.take_add_one, HE.out.1] at hx
                rcases List.mem_append.1 hx with h | h
                · exact HS.out.2 x h
                · simp at h
                  subst h
                  exact HE.out.2.symm⟩
              go_wp2
              go_roundw
              case rel => exact ⟨i + 1, by omega, by go_num, HS2⟩
              case measure => simp [intOf]; omega
          · obtain rfl : N = i := by omega
            have HSL : Hid (∀ e ∈ l.E, underB e.path pRA = true) := Lib.hid (by
              have h := HS.out.2
              rw [HL.out.2.1, HL.out.1.like.1, List.take_length] at h
              exact h)
            have HBL := Lib.hid HS.out.1
            clear HS
            go_wp2
            go_loopw [6] (fun p wr => ∃ j : Nat, j ≤ K ∧ p = .int .i64 j ∧ Hid (AprSt w w1 m.E pRB j wr)) (fun p _ => K - (intOf p).toNat)
            case atStart => exact ⟨0, by omega, rfl, Lib.hid ⟨HBL.out, fun e he => by simp at he⟩⟩
            case round =>
              obtain ⟨i, hi, rfl, HS⟩ := hrel
              by_cases hlt : i < K
              · obtain ⟨e, b, off, he, hao, hload⟩ := row_path HK.out.1 HS.out.1 (i := i) (by rw [← HK.out.2.1]; exact hlt)
                rw [← HK.out.2.2.1] at hao
                subst hao
                obtain ⟨U, hU⟩ : ∃ U, U = underB e.path pRB := ⟨_, rfl⟩
                have hfe := HFK.out e (List.mem_of_getElem? he)
                have hu := under_any e.path pRB (by rw [size_bs]; have := hfe.path; omega) (by rw [size_bs]; decide) _ (HM.out.kept HS.out.1)
                rw [← hU] at hu
                have HU := Lib.hid hu
                have HE := Lib.hid (And.intro he hU)
                clear hu he hU hfe
                go_wp2_with fail
                refine HU.out.mono ?_
                rintro e' wu ⟨rfl, Bu⟩
                have HB := Lib.hid (HS.out.1.trans (Bu.mono HS.out.1.size))
                clear HU Bu hload
                cases U with
                | false =>
                  go_wp2_with fail
                  refine (grows_any _ (HM.out.kept HB.out)).mono ?_
                  rintro e' wg ⟨rfl, Bg⟩
                  have HBG := Lib.hid (HB.out.trans (Bg.mono HB.out.size))
                  clear Bg
                  go_wp2
                  go_ret
                  exact ⟨rfl, HBG.out⟩
                | true =>
                  have HS2 : Hid (AprSt w w1 m.E pRB (i + 1) wu) := Lib.hid ⟨HB.out, fun x hx => by
                    rw [List.take_add_one, HE.out.1] at hx
                    rcases List.mem_append.1 hx with h | h
                    · exact HS.out.2 x h
                    · simp at h
                      subst h
                      exact HE.out.2.symm⟩
                  go_wp2
                  go_roundw
                  case rel => exact ⟨i + 1, by omega, by go_num, HS2⟩
                  case measure => simp [intOf]; omega
              · obtain rfl : K = i := by omega
                have HSK : Hid (∀ e ∈ m.E, underB e.path pRB = true) := Lib.hid (by
                  have h := HS.out.2
                  rw [HK.out.2.1, HK.out.1.like.1, List.take_length] at h
                  exact h)
                have HBK := Lib.hid HS.out.1
                clear HS
                have hap := nodes_apart (zone_of partsA) (zone_of partsB) zonesApart invAB l.E m.E HSL.out HSK.out (by
                  have h3 : MAB.length = 3 := rfl
                  have := HL.out.1.like.1
                  have := HK.out.1.like.1
                  have := HL.out.2.1
                  have := HK.out.2.1
                  omega)
                obtain ⟨x, hx⟩ : ∃ x, (applyA pR MAB l.E).1 = x := ⟨_, rfl⟩
                obtain ⟨y, hy⟩ : ∃ y, (applyA pR MAB m.E).1 = y := ⟨_, rfl⟩
                have HPL := Lib.hid (And.intro hap (And.intro (hap.1.trans hx) (hap.2.1.trans hy)))
                have HX := Lib.hid (And.intro hx hy)
                have HAT := Lib.hid (And.intro (atA_near pR 1 MAB l.E) (atA_near pR 1 MAB m.E))
                clear hap hx hy HSL HSK HBL
                go_wp2_with fail
                refine (TR.new (root := pR) HBK.out HM.out (by decide) rootsR).mono ?_
                rintro e w2 ⟨a, rfl, R2, ha2, B2⟩
                have hal := R2.lt
                have HR2 : Hid (TR w w2 a pR 0 M0) := Lib.hid R2
                clear R2 B2
                go_wp2_with fail
                refine (TR.new (root := pR) HR2.out.bl HM.out (by decide) rootsR).mono ?_
                rintro e w3 ⟨b, rfl, R3, hb3, B3⟩
                have hab : a ≠ b := by omega
                have HS3 : Hid (TR w w3 a pR 0 M0 ∧ TR w w3 b pR 0 M0) := Lib.hid ⟨HR2.out.below B3, R3⟩
                clear R3 B3 HR2
                go_wp2_with fail
                refine (putE_cells pRA w3).mono ?_
                rintro e w4 ⟨a4, n4, c4, rfl, E4, B4⟩
                have HS4 := Lib.hid (And.intro (HS3.out.1.below B4) (HS3.out.2.below B4))
                have HE4 := Lib.hid E4
                clear E4
                clear B4
                go_wp2_with fail
                refine (putE_cells pRB w4).mono ?_
                rintro e w5 ⟨a5, n5, c5, rfl, E5, B5⟩
                have HS5 := Lib.hid (And.intro (HS4.out.1.below B5) (HS4.out.2.below B5))
                have HE5 := Lib.hid E5
                clear E5
                have HE4 := Lib.hid (HE4.out.below B5)
                clear B5
                go_wp2_with fail
                refine (HS5.out.1.apply2 (r := ⟨pRA, false, ⟨a4, n4, c4, zNums⟩⟩) (s := ⟨pRB, false, ⟨a5, n5, c5, zNums⟩⟩) (by decide) (by decide) HE4.out HE5.out (fit_put pRA (by decide)) (fit_put pRB (by decide)) (at' := 1) (atA_yes ap0)).mono ?_
                rintro e w6 ⟨rfl, R6, K6⟩
                have HS6 := Lib.hid (And.intro R6 (HS5.out.2.other HS5.out.1 (Ne.symm hab) K6))
                clear R6 K6
                go_wp2_with fail
                refine (putE_cells pRA w6).mono ?_
                rintro e w7 ⟨a7, n7, c7, rfl, E7, B7⟩
                have HS7 := Lib.hid (And.intro (HS6.out.1.below B7) (HS6.out.2.below B7))
                have HE7 := Lib.hid E7
                clear E7
                clear B7
                go_wp2_with fail
                refine (putE_cells pRB w7).mono ?_
                rintro e w8 ⟨a8, n8, c8, rfl, E8, B8⟩
                have HS8 := Lib.hid (And.intro (HS7.out.1.below B8) (HS7.out.2.below B8))
                have HE8 := Lib.hid E8
                clear E8
                have HE7 := Lib.hid (HE7.out.below B8)
                clear B8
                go_wp2_with fail
                refine (HS8.out.2.apply2 (r := ⟨pRA, false, ⟨a7, n7, c7, zNums⟩⟩) (s := ⟨pRB, false, ⟨a8, n8, c8, zNums⟩⟩) (by decide) (by decide) HE7.out HE8.out (fit_put pRA (by decide)) (fit_put pRB (by decide)) (at' := 1) (atA_yes ap0)).mono ?_
                rintro e w9 ⟨rfl, R9, K9⟩
                have HS9 := Lib.hid (And.intro (HS8.out.1.other HS8.out.2 hab K9) R9)
                clear R9 K9
                have hro9 := HL.out.1.below HS9.out.1.bl
                have hap9 := HS9.out.1.applyX (by decide) (by decide) hro9.like hro9.at_ HFL.out (by have := HL.out.2.1; omega) HX.out.1 rfl rfl N HL.out.2.1 (cap := l.c)
                rw [← HL.out.2.2.1, ← HL.out.2.2.2] at hap9
                have HAP9 := Lib.hid hap9
                clear hap9 hro9
                go_wp2_with fail
                refine HAP9.out.mono ?_
                rintro e w10 ⟨rfl, R10, K10⟩
                have HS10 := Lib.hid (And.intro R10 (HS9.out.2.other HS9.out.1 (Ne.symm hab) K10))
                clear R10 K10 HAP9
                have hro10 := HK.out.1.below HS10.out.1.bl
                have hap10 := HS10.out.1.applyX (by have := HAT.out.1; omega) (by have := HAT.out.1; omega) hro10.like hro10.at_ HFK.out (by have := HK.out.2.1; omega) HPL.out.2.2 rfl rfl K HK.out.2.1 (cap := m.c)
                rw [← HK.out.2.2.1, ← HK.out.2.2.2] at hap10
                have HAP10 := Lib.hid hap10
                clear hap10 hro10
                go_wp2_with fail
                refine HAP10.out.mono ?_
                rintro e w11 ⟨rfl, R11, K11⟩
                have HS11 := Lib.hid (And.intro R11 (HS10.out.2.other HS10.out.1 (Ne.symm hab) K11))
                clear R11 K11 HAP10
                have hro11 := HK.out.1.below HS11.out.2.bl
                have hap11 := HS11.out.2.applyX (by decide) (by decide) hro11.like hro11.at_ HFK.out (by have := HK.out.2.1; omega) HX.out.2 rfl rfl K HK.out.2.1 (cap := m.c)
                rw [← HK.out.2.2.1, ← HK.out.2.2.2] at hap11
                have HAP11 := Lib.hid hap11
                clear hap11 hro11
                go_wp2_with fail
                refine HAP11.out.mono ?_
                rintro e w12 ⟨rfl, R12, K12⟩
                have HS12 := Lib.hid (And.intro (HS11.out.1.other HS11.out.2 hab K12) R12)
                clear R12 K12 HAP11
                have hro12 := HL.out.1.below HS12.out.2.bl
                have hap12 := HS12.out.2.applyX (by have := HAT.out.2; omega) (by have := HAT.out.2; omega) hro12.like hro12.at_ HFL.out (by have := HL.out.2.1; omega) HPL.out.2.1 rfl rfl N HL.out.2.1 (cap := l.c)
                rw [← HL.out.2.2.1, ← HL.out.2.2.2] at hap12
                have HAP12 := Lib.hid hap12
                clear hap12 hro12
                go_wp2_with fail
                refine HAP12.out.mono ?_
                rintro e w13 ⟨rfl, R13, K13⟩
                have HS13 := Lib.hid (And.intro (HS12.out.1.other HS12.out.2 hab K13) R13)
                clear R13 K13 HAP12
                have hsame := HS13.out.1.same HS13.out.2
                rw [sameT_of (at_apart HPL.out.1.1 HPL.out.1.2.1) HPL.out.1.2.2] at hsame
                have HSAME := Lib.hid hsame
                clear hsame
                have hxx : (x == x) = true := by simp
                have hyy : (y == y) = true := by simp
                go_wp2_with fail
                refine HSAME.out.mono ?_
                rintro e w14 ⟨rfl, B14⟩
                have HR14 := Lib.hid (HS13.out.1.below B14)
                clear B14 HSAME
                go_wp2_with fail
                refine (grows_any _ HR14.out.max).mono ?_
                rintro e w15 ⟨rfl, B15⟩
                have HR15 := Lib.hid (HR14.out.below B15)
                clear B15
                go_wp2
                go_ret
                exact ⟨rfl, HR15.out.bl⟩
end Go.Proofs.YtkhoeiapfoaapaaDoor
