/-
  TreeSame, walked.
-/
import Derived.Test.YtkhoeiapfoaapaaDoorLawTreeWhole
import Derived.Test.YtkhoeiapfoaapaaDoorTrRows
import Derived.Laws.AppendOwnNone
import Derived.Deep.DeepCutAuto
import Derived.Deep.RegionHeld3
namespace Go.Proofs.YtkhoeiapfoaapaaDoor
set_option linter.unusedVariables false
set_option linter.unusedSimpArgs false
set_option linter.unusedVariables false
set_option linter.unusedSimpArgs false
open Go Go.RowKit Go.Shelf Go.MapKept Go.ChangeMaps Go.Maps Go.Sort

/-- Two like trees. -/
def SaSt (w : World) (a b : Nat) (i : Nat) (wr : World) : Prop := ∃ (at_ : Int) (M : List (Bytes × Nd)), TR w wr a pR at_ M ∧ TR w wr b pR at_ M ∧ 0 ≤ at_ ∧ at_ ≤ i ∧ Inv pR M
/-- Whether the rows, and one more, are too great. -/
def CutG (w : World) (R : List Row) (m : Row) (v : Value) (wc : World) : Prop := v = .bool (greatB (R ++ [m])) ∧ Below w.heap.size w wc
theorem sameT_more {root : Bytes} {at_ : Int} {M M' : List (Bytes × Nd)} : sameT root at_ M root (at_ + 1) M' = false := by
  unfold sameT
  have : (at_ == at_ + 1) = false := by simp; omega
  rw [this]
  simp
theorem atA_le (root : Bytes) (at_ : Int) (M : List (Bytes × Nd)) (E : List Eff) : at_ ≤ atA root at_ M E ∧ atA root at_ M E ≤ at_ + 1 := by
  unfold atA
  split <;> omega
theorem same_eq {w0 w : World} {a b : Nat} {root : Bytes} {at_ : Int} {M : List (Bytes × Nd)} (R : TR w0 w a root at_ M) (R2 : TR w0 w b root at_ M) (hn : (M.map (·.1)).Nodup) :
    Calls Tryd.prog 22 #[.pointer (some ⟨a, 0, none⟩), .pointer (some ⟨b, 0, none⟩)] w fun e w' => e = .returned (.bool true) ∧ Below w.heap.size w w' := by
  have h := R.same R2
  rw [sameT_refl hn] at h
  exact h
set_option maxRecDepth 100000 in
set_option maxHeartbeats 8000000 in
theorem treeSame_core (ao : Option Addr) (c : Nat) (R : List Row) (m : Row) (w : World) (hm : MaxInt w) (hR : RowsAt w w.heap.size ao R) (hcap : R.length * 24 ≤ 140737488351232) (hn : ao = none → c = 0) (hmo : RowOk w m) :
    Calls Tryd.prog 6 #[.slice ao R.length c, .slice m.ao m.L.length m.c] w fun e w' => e = .returned (.bool true) ∧ Below w.heap.size w w' := by
  obtain ⟨i0, hi, hz0, hz1, hz2⟩ := info_parts infoEffs
  obtain ⟨N, hN⟩ : ∃ N, N = R.length := ⟨_, rfl⟩
  obtain ⟨K, hK⟩ : ∃ K, K = m.L.length := ⟨_, rfl⟩
  obtain ⟨mc, hmc⟩ : ∃ mc, mc = m.c := ⟨_, rfl⟩
  obtain ⟨ma, hma⟩ : ∃ ma, ma = m.ao := ⟨_, rfl⟩
  rw [← hN] at hcap
  rw [← hN, ← hK, ← hmc, ← hma]
  have HIN := Lib.hid (And.intro hR (And.intro hN (And.intro hm hmo)))
  have HMV : Hid (m.val = .slice ma K mc) := Lib.hid (by unfold Row.val; rw [hK, hmc, hma])
  have HME := Lib.hid (And.intro hK (And.intro hmc hma))
  have HNN := Lib.hid hn
  have HOW := Lib.hid (World.ownsRow_made (base := w.heap.size) (e := 37) (size := 1) w #[] 0 (by omega) (by decide) rfl)
  clear hR hN hm hmo hK hmc hma hn
  go_enter Tryd.func6, Tryd.ntmps6
  go_upto_region 1 with (fail)
  go_cut [18] (fun v wc => CutG w R m v wc)
  case first =>
    cases ao with
    | none =>
      have hR0 := rows_nil HIN.out.1
      have hN0 : N = 0 := by rw [HIN.out.2.1, hR0]; rfl
      obtain rfl := HNN.out rfl
      subst hN0
      have HR0 := Lib.hid hR0
      have hc1 := cells_new1 (w.alloc (.cells #[] 37)) (.slice ma K mc) 37
      rw [World.size_alloc] at hc1
      have HC1 := Lib.hid hc1
      clear hR0 hc1
      go_wp2_with (first
        | (at_builtin; refine wpList_append_own_none rfl (.tmp 12) (.tmp 13) 49 rfl w.heap.size 37 i0 1 Tryd.underlying49 hi _ _ _ rfl HOW.out rfl ?_)
        | (at_builtin; refine wpList_append_new rfl (.tmp 14) (.tmp 16) 49 rfl w.heap.size 37 i0 (.slice none 0 0) 1 24 Tryd.underlying49 hi hz0 hz1 hz2 rfl (by decide) _ _ _ rfl (HOW.out.alloc _) ⟨w.heap.size + 1, 0, none⟩ 1 1 [.slice ma K mc] rfl rfl HC1.out (by intro u hu; simp at hu; subst hu; rfl) (by unfold maxLen; omega) (by omega) (by simp; omega) ?_; intro v2 w2 hown2 hgrow2 hwh2))
      have hB2 : Below w.heap.size w w2 := (belowA (belowA (Below.refl _ w) _) _).grown hgrow2 (by simp; omega) (fun g hg => by cases hg; exact Nat.le_refl _)
      have hRM : [Value.slice ma K mc] = (R ++ [m]).map Row.val := by rw [HR0.out, ← HMV.out]; rfl
      rw [List.nil_append, hRM] at hown2
      obtain ⟨a2, c2, rfl, RA⟩ := rows_of_own hown2 (fun r hr => by rw [HR0.out] at hr; simp at hr; subst hr; exact HIN.out.2.2.2.below hB2)
      have HGR := Lib.hid (great_any a2 c2 (R ++ [m]) w2 RA (by rw [HR0.out]; unfold maxLen; simp))
      have HB2 := Lib.hid hB2
      clear hB2 hRM hown2 RA hgrow2 hwh2
      go_wp2_with fail
      refine HGR.out.mono ?_
      rintro e wz ⟨rfl, rfl⟩
      go_wp2
      go_meet
      case rel => exact ⟨rfl, HB2.out⟩
    | some ad =>
      have hlen : (R.map Row.val).length = N * 1 := by rw [List.length_map, HIN.out.2.1]; omega
      have hsrc : ∀ j u, (R.map Row.val)[j]? = some u → (w.alloc (.cells #[] 37)).cell? (ad.add j) = some u := rows_src (B := (w.alloc (.cells #[] 37)).heap.size) (HIN.out.1.below (belowA (Below.refl _ w) _))
      have HL := Lib.hid (And.intro hlen hsrc)
      clear hlen hsrc
      go_wp2_with (first
        | (at_builtin; refine wpList_append_new rfl (.tmp 14) (.tmp 16) 49 rfl w.heap.size 37 i0 (.slice none 0 0) 1 24 Tryd.underlying49 hi hz0 hz1 hz2 rfl (by decide) _ _ _ rfl (hown1.alloc _) ⟨w1.heap.size, 0, none⟩ 1 1 [.slice ma K mc] rfl rfl (cells_new1 w1 _ _) (by intro u hu; simp at hu; subst hu; rfl) (by unfold maxLen; omega) (by omega) (by have := hgrow1.size; simp at this ⊢; omega) ?_; intro v2 w2 hown2 hgrow2 hwh2)
        | (at_builtin; refine wpList_append_new rfl (.tmp 12) (.tmp 13) 49 rfl w.heap.size 37 i0 (.slice none 0 0) 1 24 Tryd.underlying49 hi hz0 hz1 hz2 rfl (by decide) _ _ _ rfl HOW.out ad N c (R.map Row.val) rfl HL.out.1 HL.out.2 (rows_one R) (by unfold maxLen; omega) (by omega) (by simp) ?_; intro v1 w1 hown1 hgrow1 hwh1))
      have hB1 : Below w.heap.size w w1 := (belowA (Below.refl _ w) _).grown hgrow1 (by simp) (fun g hg => by cases hg; exact Nat.le_refl _)
      have hB2 : Below w.heap.size w w2 := (belowA hB1 _).grown hgrow2 (by have := hB1.size; simp; omega) (fun g hg => (hown1.lt g hg).1)
      have hRM : ([] ++ R.map Row.val) ++ [Value.slice ma K mc] = (R ++ [m]).map Row.val := by rw [← HMV.out]; simp
      rw [hRM] at hown2
      obtain ⟨a2, c2, rfl, RA⟩ := rows_of_own hown2 (fun r hr => by
        rcases List.mem_append.1 hr with h | h
        · obtain ⟨k, hk⟩ := List.getElem?_of_mem h
          exact (HIN.out.1 k r hk).1.below hB2
        · simp at h; subst h; exact HIN.out.2.2.2.below hB2)
      have HGR := Lib.hid (great_any a2 c2 (R ++ [m]) w2 RA (by have := HIN.out.2.1; unfold maxLen; simp; omega))
      have HB2 := Lib.hid hB2
      clear hB1 hB2 hRM hown1 hown2 RA hgrow1 hgrow2 hwh1 hwh2
      go_wp2_with fail
      refine HGR.out.mono ?_
      rintro e wz ⟨rfl, rfl⟩
      go_wp2
      go_meet
      case rel => exact ⟨rfl, HB2.out⟩
  case rest =>
    obtain ⟨rfl, hbw⟩ := hcut
    have HBW := Lib.hid hbw
    clear hbw HOW HNN
    obtain ⟨G, hG⟩ : ∃ G, G = greatB (R ++ [m]) := ⟨_, rfl⟩
    rw [← hG]
    have HG := Lib.hid hG
    clear hG
    cases G with
    | true =>
      go_wp2
      go_ret
      exact ⟨rfl, HBW.out⟩
    | false =>
      have hN40 : N ≤ 40 := by
        have := (great_no HG.out.symm).1
        rw [HIN.out.2.1]
        simp at this
        omega
      have HFR : Hid (∀ r ∈ R, (∀ e ∈ r.E, FitE e) ∧ r.E.length ≤ 200) := Lib.hid fun r hr => ⟨great_fit HG.out.symm (List.mem_append_left _ hr), great_len HG.out.symm (List.mem_append_left _ hr)⟩
      have HFM : Hid ((∀ e ∈ m.E, FitE e) ∧ m.E.length ≤ 200) := Lib.hid ⟨great_fit HG.out.symm (by simp), great_len HG.out.symm (by simp)⟩
      go_wp2_with fail
      refine (TR.new (root := pR) HBW.out HIN.out.2.2.1 (by decide) rootsR).mono ?_
      rintro e w2 ⟨a, rfl, R2, ha2, B2⟩
      have hal := R2.lt
      have HR2 : Hid (TR w w2 a pR 0 M0) := Lib.hid R2
      clear R2 B2
      go_wp2_with fail
      refine (TR.new (root := pR) HR2.out.bl HIN.out.2.2.1 (by decide) rootsR).mono ?_
      rintro e w3 ⟨b, rfl, R3, hb3, B3⟩
      have hab : a ≠ b := by omega
      have HS0 : Hid (SaSt w a b 0 w3) := Lib.hid ⟨0, M0, HR2.out.below B3, R3, Int.le_refl _, Int.le_refl _, Inv.made rootsR zNd⟩
      clear R3 B3
      go_wp2
      go_loopw [9] (fun p wr => ∃ i : Nat, i ≤ N ∧ p = .int .i64 i ∧ Hid (SaSt w a b i wr)) (fun p _ => N - (intOf p).toNat)
      case atStart => exact ⟨0, by omega, rfl, HS0⟩
      case round =>
        obtain ⟨i, hi, rfl, HS⟩ := hrel
        by_cases hlt : i < N
        · obtain ⟨r, hr⟩ : ∃ r, R[i]? = some r := ⟨_, List.getElem?_eq_getElem (by rw [← HIN.out.2.1]; exact hlt)⟩
          obtain ⟨at_, M, RA, RB, h0, h1, I⟩ := HS.out
          have HRA := Lib.hid RA
          have HRB := Lib.hid RB
          have HI := Lib.hid I
          have HND : Hid ((nodesA pR M r.E).map (·.1)).Nodup := Lib.hid I.nodes.nodup
          obtain ⟨hro0, bo, off, hao, hbo0, hcell0⟩ := HIN.out.1 i r hr
          subst hao
          have hro := hro0.below RA.bl
          have hcell := (RA.bl.cell (p := ⟨bo, off + i, none⟩) hbo0).trans hcell0
          have hboa : bo ≠ a := by have := RA.hb; omega
          have hbob : bo ≠ b := by have := RB.hb; omega
          have hbor : bo < wr.heap.size := Nat.lt_of_lt_of_le hbo0 RA.bl.size
          obtain ⟨n, hn⟩ : ∃ n, n = r.L.length := ⟨_, rfl⟩
          obtain ⟨x, hx⟩ : ∃ x, x = (applyA pR M r.E).1 := ⟨_, rfl⟩
          rw [← hn] at hcell
          have hfr := HFR.out r (List.mem_of_getElem? hr)
          have hrod : RowOk wr.drew r := hro.below (Below.refl _ wr).drew
          have hap := (RA.below (w' := wr.drew) (Below.refl _ wr).drew).applyX h0 (by omega) hrod.like hrod.at_ hfr.1 (by have := hrod.like.1; omega) hx.symm rfl rfl n hn (cap := r.c)
          have HAP := Lib.hid hap
          have HROW := Lib.hid (And.intro hro0 (And.intro hfr (And.intro hn hx)))
          clear RA RB I hap hro hro0 hrod hfr hn hx hr hbo0 hcell0
          go_wp2_with fail
          go_region_held3 (fun w' => w'.cell? ⟨bo, off + i, none⟩ = some (.slice r.ao n r.c)) (first | assumption | exact hcell | go_keep) (first
            | (go_at_call 22; refine HSA.out.mono ?_; rintro e w7 ⟨rfl, B7⟩; have ct7 : w7.cell? ⟨bo, off + i, none⟩ = some (.slice r.ao n r.c) := (B7.cell (p := ⟨bo, off + i, none⟩) hbo6).trans ct6)
            | (go_at_call 10; refine HAP2.out.mono ?_; rintro e w6 ⟨rfl, R6, K6⟩; have ct6 : w6.cell? ⟨bo, off + i, none⟩ = some (.slice r.ao n r.c) := (K6.cell (p := ⟨bo, off + i, none⟩) hbo5 hbob).trans ct5; have hbo6 : bo < w6.heap.size := Nat.lt_of_lt_of_le hbo5 K6.size; have R6a := R5.other R5b hab K6; have HSA := Lib.hid (same_eq R6a R6 HND.out); have HR6 := Lib.hid (And.intro R6a R6); clear R6 K6 R6a)
            | (go_at_call 10; refine HAP.out.mono ?_; rintro e w5 ⟨rfl, R5, K5⟩; have ct5 : w5.cell? ⟨bo, off + i, none⟩ = some (.slice r.ao n r.c) := (K5.cell (p := ⟨bo, off + i, none⟩) hbor hboa).trans hcell; have hbo5 : bo < w5.heap.size := Nat.lt_of_lt_of_le hbor K5.size; have R5b := (HRB.out.below (w' := wr.drew) (Below.refl _ wr).drew).other (HRA.out.below (w' := wr.drew) (Below.refl _ wr).drew) (Ne.symm hab) K5; have hro5 := HROW.out.1.below R5.bl; have HAP2 := Lib.hid (R5b.applyX h0 (by omega) hro5.like hro5.at_ HROW.out.2.1.1 (by have := hro5.like.1; have := HROW.out.2.1.2; omega) HROW.out.2.2.2.symm rfl rfl n HROW.out.2.2.1 (cap := r.c)); clear hro5 K5))
          all_goals
            have HB7 := Lib.hid B7
            clear B7 ct7 ct6 ct5 hcell
            go_wp2
            go_roundw
            case rel => exact ⟨i + 1, by omega, by go_num, Lib.hid ⟨_, _, HR6.out.1.below HB7.out, HR6.out.2.below HB7.out, Int.le_trans h0 (atA_le pR at_ M r.E).1, by have := (atA_le pR at_ M r.E).2; omega, HI.out.nodes⟩⟩
            case measure => simp [intOf]; omega
        · obtain rfl : i = N := by omega
          obtain ⟨at_, M, RA, RB, h0, h1, I⟩ := HS.out
          have HRA := Lib.hid RA
          have HRB := Lib.hid RB
          have HI := Lib.hid I
          have hala := RA.lt
          have halb := RB.lt
          clear RA RB I
          go_wp2_with fail
          refine HRA.out.clone.mono ?_
          rintro e w4 ⟨c', rfl, R4, hc4, B4⟩
          have hac : a ≠ c' := by omega
          have hbc : b ≠ c' := by omega
          have HR4 := Lib.hid (And.intro (HRA.out.below B4) (And.intro (HRB.out.below B4) R4))
          clear R4 B4
          go_wp2_with fail
          refine (same_eq HR4.out.1 HR4.out.2.2 HI.out.nodup).mono ?_
          rintro e w5 ⟨rfl, B5⟩
          have HR5 := Lib.hid (And.intro (HR4.out.1.below B5) (And.intro (HR4.out.2.1.below B5) (HR4.out.2.2.below B5)))
          clear B5
          obtain ⟨x, hx⟩ : ∃ x, x = (applyA pR M m.E).1 := ⟨_, rfl⟩
          have hmo := HIN.out.2.2.2.below HR5.out.1.bl
          have hap := HR5.out.2.2.applyX h0 (by omega) hmo.like hmo.at_ HFM.out.1 (by have := hmo.like.1; have := HFM.out.2; omega) hx.symm rfl rfl K HME.out.1 (cap := m.c)
          rw [← HME.out.2.1, ← HME.out.2.2] at hap
          have HAP := Lib.hid hap
          have HX := Lib.hid hx
          clear hmo hap hx
          go_wp2_with fail
          refine HAP.out.mono ?_
          rintro e w6 ⟨rfl, R6, K6⟩
          have HR6 := Lib.hid (And.intro (HR5.out.1.other HR5.out.2.2 hac K6) (And.intro (HR5.out.2.1.other HR5.out.2.2 hbc K6) R6))
          have hmo := HIN.out.2.2.2.below R6.bl
          clear R6 K6 HAP HR4
          have hat : (x = 0 ∧ atA pR at_ M m.E = at_ + 1) ∨ (x ≠ 0 ∧ atA pR at_ M m.E = at_ ∧ nodesA pR M m.E = M) := by
            rw [HX.out]
            unfold atA nodesA
            by_cases h : (applyA pR M m.E).1 = 0
            · rw [if_pos h]; exact .inl ⟨h, rfl⟩
            · rw [if_neg h, if_neg h]; exact .inr ⟨h, rfl, rfl⟩
          have HI6 := Lib.hid (HI.out.nodes (E := m.E))
          have hs1 : ∃ sm, sameT pR at_ M pR (atA pR at_ M m.E) (nodesA pR M m.E) = sm ∧ ((x = 0 ∧ sm = false) ∨ ((x == 0) = false ∧ (!(x == 0)) = true ∧ (!(x != 0)) = false ∧ sm = true)) := by
            refine ⟨_, rfl, ?_⟩
            rcases hat with ⟨h, e1⟩ | ⟨h, e1, e2⟩
            · rw [e1]; exact .inl ⟨h, sameT_more⟩
            · rw [e1, e2]; exact .inr ⟨(neq_int h).1, (neq_int h).2, by simp [h], sameT_refl HI.out.nodup⟩
          clear hat hmo
          obtain ⟨sm, hsm, hcase⟩ := hs1
          have hsame := HR6.out.1.same HR6.out.2.2
          rw [hsm] at hsame
          have HSAME := Lib.hid hsame
          clear hsame hsm
          go_wp2_with fail
          refine HSAME.out.mono ?_
          rintro e w7 ⟨rfl, B7⟩
          have HR7 := Lib.hid (And.intro (HR6.out.1.below B7) (And.intro (HR6.out.2.1.below B7) (HR6.out.2.2.below B7)))
          clear B7 HSAME
          rcases hcase with ⟨rfl, rfl⟩ | ⟨x1, x2, x3, rfl⟩
          all_goals
            go_wp2_with fail
            refine (same_eq HR7.out.1 HR7.out.2.1 HI.out.nodup).mono ?_
            rintro e w8 ⟨rfl, B8⟩
            have HR8 := Lib.hid (And.intro (HR7.out.1.below B8) (HR7.out.2.2.below B8))
            clear B8
            have hmo := HIN.out.2.2.2.below HR8.out.1.bl
            have hap := HR8.out.1.applyX h0 (by omega) hmo.like hmo.at_ HFM.out.1 (by have := hmo.like.1; have := HFM.out.2; omega) HX.out.symm rfl rfl K HME.out.1 (cap := m.c)
            rw [← HME.out.2.1, ← HME.out.2.2] at hap
            have HAP := Lib.hid hap
            clear hmo hap
            go_wp2_with fail
            refine HAP.out.mono ?_
            rintro e w9 ⟨rfl, R9, K9⟩
            have HR9 := Lib.hid (And.intro R9 (HR8.out.2.other HR8.out.1 (Ne.symm hac) K9))
            clear R9 K9 HAP
            go_wp2_with fail
            refine (same_eq HR9.out.1 HR9.out.2 HI6.out.nodup).mono ?_
            rintro e w10 ⟨rfl, B10⟩
            have HR10 := Lib.hid (HR9.out.1.below B10)
            clear B10
            go_wp2_with fail
            refine (grows_any _ HR10.out.max).mono ?_
            rintro e w11 ⟨rfl, B11⟩
            have HR11 := Lib.hid (HR10.out.below B11)
            clear B11
            go_wp2
            go_ret
            exact ⟨rfl, HR11.out.bl⟩
end Go.Proofs.YtkhoeiapfoaapaaDoor
