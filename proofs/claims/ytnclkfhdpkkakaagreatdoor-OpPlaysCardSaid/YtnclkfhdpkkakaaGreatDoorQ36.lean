/-
  The reference's create without Seq, walked.
-/
import Derived.Test.YtnclkfhdpkkakaaGreatDoorQ35
namespace Go.Proofs.YtnclkfhdpkkakaaGreatDoor
set_option linter.unusedVariables false
set_option linter.unusedSimpArgs false
open Go Go.RowKit Go.Shelf Go.MapKept Go.ChangeMaps Go.Maps Go.Sort
section
variable {w : World} {Z : Nat → Prop} {rb : Nat} {root : Bytes} {cnt : Int} {ao : Option Addr} {c0 : Nat} {R : List RawA} {M L : List (Bytes × Nd)}
set_option maxRecDepth 100000 in
set_option maxHeartbeats 16000000 in
theorem RefAt.q5create_0 {wb : World} (Tb : RefAt wb Z rb root cnt ao c0 R L) (hbb : Below wb.heap.size wb w) (H : Rel M L) (I : Inv root M) (F : Fit M) (NX : Nice M) (r : RawO) (o : Opl) (who : Sess) (at_ : Int) {lo lq : Nat → Prop} (hz : ∀ k, ¬ Z k → k < wb.heap.size → lq k) (hlo : ∀ k, lo k → k < wb.heap.size → lq k) (hlq : ∀ k, lq k → k < wb.heap.size) (hr : LeafO wb lo r o) (hp : o.path.length ≤ 900) (hu : underB o.path root = true) (hsq : o.seq = false) (x : Int) (hx : createE root M who o = x) :
  Calls Tryz.prog 77 #[.pointer (some ⟨rb, 0, none⟩), r.val, whoV who, .int .u64 at_] w fun e w' => (x = 0 ∧ QEnd lq w 0 (createX M at_ who o) ⟨newPath M o, newN o.data at_ who o.eph, []⟩ e w') ∨ (x ≠ 0 ∧ QEnd lq w x [] noAns e w') := by
 have T := Tb.below hbb
 have HTB := Lib.hid (And.intro Tb hbb)
 have HLQ := Lib.hid (And.intro hz (And.intro hlo hlq))
 clear Tb hbb hz hlo hlq
 obtain ⟨ok, op, oa, on, oc, ov, os, oe, pa, pn, pc⟩ := r
 obtain ⟨okd, opp, odata, over, oseq, oeph⟩ := o
 obtain ⟨ws, wn⟩ := who
 dsimp only at hsq
 subst hsq
 obtain ⟨q1, q2, q3, q4, q5, q6, q7, q8⟩ := hr
 dsimp only at q1 q2 q3 q4 q5 q6 q7 q8 hp hu
 subst q1 q2 q3 q4 q5
 unfold RawO.val RawO.cells whoV
 dsimp only
 obtain ⟨w1, hw1, hb1, hs1, k0, k1, k2⟩ := do_boxes w ok op oa on oc ov false oe pa pn pc ws wn
 have HSO : Hid ((Tryz.prog.info? 26).map (·.size) = some 7) := Lib.hid (by kernel_rfl)
 have HSR : Hid ((Tryz.prog.info? 43).map (·.size) = some 13) := Lib.hid infoReply13
 have HSS : Hid ((Tryz.prog.info? 29).map (·.size) = some 2) := Lib.hid (by kernel_rfl)
 have HSZ : Hid ((Tryz.prog.info? 39).map (·.size) = some 9) := Lib.hid (by kernel_rfl)
 have T1 := T.below hb1
 have hl0 : w.heap.size < w1.heap.size := by omega
 have hl1 : w.heap.size + 1 < w1.heap.size := by omega
 have y1 : ∀ w', Below w1.heap.size w1 w' → w'.cell? ⟨w.heap.size, 1, none⟩ = some (.string (bs op)) := fun w' hb => (hb.cell (p := ⟨w.heap.size, 1, none⟩) hl0).trans (cell_of_row _ _ 1 _ 26 (0, 0) k0)
 have y2 : ∀ w', Below w1.heap.size w1 w' → w'.cell? ⟨w.heap.size, 2, none⟩ = some (.slice oa on oc) := fun w' hb => (hb.cell (p := ⟨w.heap.size, 2, none⟩) hl0).trans (cell_of_row _ _ 2 _ 26 (0, 0) k0)
 have y4 : ∀ w', Below w1.heap.size w1 w' → w'.cell? ⟨w.heap.size, 4, none⟩ = some (.bool false) := fun w' hb => (hb.cell (p := ⟨w.heap.size, 4, none⟩) hl0).trans (cell_of_row _ _ 4 _ 26 (0, 0) k0)
 have y5 : ∀ w', Below w1.heap.size w1 w' → w'.cell? ⟨w.heap.size, 5, none⟩ = some (.bool oe) := fun w' hb => (hb.cell (p := ⟨w.heap.size, 5, none⟩) hl0).trans (cell_of_row _ _ 5 _ 26 (0, 0) k0)
 have s0 : ∀ w', Below w1.heap.size w1 w' → w'.cell? ⟨w.heap.size + 1, 0, none⟩ = some (.int .i64 ws) := fun w' hb => (hb.cell (p := ⟨w.heap.size + 1, 0, none⟩) hl1).trans (cell_of_row _ _ 0 _ 29 (0, 0) k1)
 have s1 : ∀ w', Below w1.heap.size w1 w' → w'.cell? ⟨w.heap.size + 1, 1, none⟩ = some (.int .u32 wn) := fun w' hb => (hb.cell (p := ⟨w.heap.size + 1, 1, none⟩) hl1).trans (cell_of_row _ _ 1 _ 29 (0, 0) k1)
 have rr0 : ∀ w', Below w1.heap.size w1 w' → w'.cell? ⟨rb, 0, none⟩ = some (.string (bs root)) := fun w' hb => (T1.below hb).c0
 have HY := Lib.hid (And.intro y1 (And.intro y2 (And.intro y4 (And.intro y5 (And.intro s0 (And.intro s1 rr0))))))
 obtain ⟨t1, ht1⟩ : ∃ t1, t1 = decide (op = root) := ⟨_, rfl⟩
 have te := (neq_of ht1.symm).1
 have HT1 := Lib.hid ht1
 have HX := Lib.hid hx
 have hRl : R.length ≤ 1000 := by
  have h1 := T.like.1
  have h2 := H.len I.nodup
  have h3 := F.len
  omega
 have HD := Lib.hid (And.intro T (And.intro T1 (And.intro H (And.intro I (And.intro F (And.intro NX (And.intro hRl hu)))))))
 have HO := Lib.hid (And.intro q6 (And.intro q7 q8))
 have HP := Lib.hid hp
 have H1 := Lib.hid (And.intro hb1 (And.intro hs1 (And.intro k0 (And.intro k1 (And.intro k2 hw1)))))
 have HL := Lib.hid (And.intro hl0 hl1)
 clear T T1 H I F NX hRl hu q6 q7 q8 hp hb1 hs1 k0 k1 k2 hw1 hl0 hl1 ht1 hx y2 y5 s0 s1
 go_enter Tryz.func77, Tryz.ntmps77
 go_wp2_with fail
 rw [← H1.out.2.2.2.2.2]
 refine wp_region_held_drew (S := Below w1.heap.size w1) (by kernel_rfl) (Below.refl _ w1).drew (fun hS => ?_)
 refine tI 0 rfl hS ?_
 refine tJ 1 rfl hS y1 ?_
 refine tI 2 rfl hS ?_
 refine tI 3 rfl hS ?_
 simp only [putS]
 refine tI 4 rfl hS ?_
 refine tJ 5 rfl hS rr0 ?_
 refine tI 6 rfl hS ?_
 simp only [putS]
 refine wpAnyH_done (by kernel_rfl) ?_ _
 have z1 := y1 _ hS
 have z4 := y4 _ hS
 have HS := Lib.hid hS
 clear hS y1 y4 rr0
 cases t1
 case true =>
  have hpr : op = root := by have := HT1.out; simpa using this.symm
  have HPR := Lib.hid hpr
  clear hpr
  go_wp2_with fail
  refine (q5no_any 32 _).mono ?_
  rintro e wN ⟨rfl, BN⟩
  have hbN : Below w1.heap.size w1 wN := HS.out.trans (BN.mono HS.out.size)
  have HTN : Hid (wN.there (w.heap.size + 2) 0 13) := Lib.hid (there_of ((hbN.block _ (by have := H1.out.2.1; omega)).trans H1.out.2.2.2.2.1) (by simp))
  have HBN : Hid (Below w.heap.size w wN) := Lib.hid (H1.out.1.trans (hbN.mono H1.out.1.size))
  have HON : Hid ((#[.int .i64 32, .string ⟨#[]⟩, .slice none 0 0, .int .u32 0, .int .u32 0, .int .u32 0, .int .i64 0, .int .u32 0, .int .u64 0, .int .u64 0, .int .u64 0, .slice none 0 0, .slice none 0 0] : Array Value).all (·.oneCell') = true) := Lib.hid (by simp [Value.oneCell'])
  clear BN hbN
  go_wp2_with (refine wpList_store_mid rfl 43 (.tmp 9) (.tmp 30) rfl (w.heap.size + 2) 0 #[.int .i64 32, .string ⟨#[]⟩, .slice none 0 0, .int .u32 0, .int .u32 0, .int .u32 0, .int .i64 0, .int .u32 0, .int .u64 0, .int .u64 0, .int .u64 0, .slice none 0 0, .slice none 0 0] rfl rfl HTN.out HSR.out HON.out ?_)
  refine bodyPost_ret (results_tmp_cell_mid rfl _ _ (w.heap.size + 2) 0 [.int .i64 32, .string ⟨#[]⟩, .slice none 0 0, .int .u32 0, .int .u32 0, .int .u32 0, .int .i64 0, .int .u32 0, .int .u64 0, .int .u64 0, .int .u64 0, .slice none 0 0, .slice none 0 0] _ rfl (World.rangeAt_setCells_same _ _ _ _ HTN.out) Tryz.underlying43 rfl HSR.out) rfl ?_
  have e3 : x = 32 := by
   rw [← HX.out]
   unfold createE
   rw [if_pos HPR.out]
   rfl
  subst e3
  exact .inr ⟨by decide, q_no 32 HBN.out (by omega)⟩
 case false =>
  have hne : Hid (op ≠ root) := Lib.hid (by have := HT1.out; simpa using this.symm)
  obtain ⟨Lp, hLp⟩ := q_under HD.out.2.2.2.2.2.2.2
  have HLP := Lib.hid hLp
  clear hLp te
  go_wp2_with fail
  refine (q5parent_any op Lp HLP.out (by have := HP.out; omega) _).mono ?_
  rintro e w2 ⟨rfl, B2'⟩
  have HB2 := Lib.hid (HS.out.trans (B2'.mono HS.out.size))
  clear B2'
  go_wp2_with fail
  refine (HTB.out.1.q5node (HTB.out.2.trans ((H1.out.1.trans (HB2.out.mono H1.out.1.size)).mono HTB.out.2.size)) HD.out.2.2.1 HD.out.2.2.2.2.2.2.1 (parentL op)).mono ?_
  rintro e w3 ⟨⟨ra, rn, rc, ⟨u1, u2, u3, u4, u5, u6, u7, u8⟩⟩, rfl, hrd, B3'⟩
  have HB3 := Lib.hid (HB2.out.trans (B3'.mono HB2.out.size))
  unfold Raw.cells Nums.cells
  dsimp only
  obtain ⟨gi, hgi⟩ : ∃ gi, gi = (getA (parentL op) M).isSome := ⟨_, rfl⟩
  rw [← hgi]
  obtain ⟨nd, hnd⟩ : ∃ nd, nd = (getA (parentL op) M).getD zNd := ⟨_, rfl⟩
  rw [← hnd] at hrd
  have hnum : (⟨u1, u2, u3, u4, u5, u6, u7, u8⟩ : Nums) = nd.num := hrd.num
  have HND := Lib.hid (And.intro hgi (And.intro hnd (And.intro hrd hnum)))
  have hnx : 0 ≤ u3 ∧ u3 < 4294967296 := by
   have h := nice_node HD.out.2.2.2.2.2.1 (parentL op)
   rw [← hnd, ← hnum] at h
   exact h
  have HNX := Lib.hid hnx
  obtain ⟨v3, hv3⟩ : ∃ v3, v3 = w3.alloc (.cells #[.slice ra rn rc, .int .u32 u1, .int .u32 u2, .int .u32 u3, .int .i64 u4, .int .u32 u5, .int .u64 u6, .int .u64 u7, .int .u64 u8] 39) := ⟨_, rfl⟩
  have hbv : Below w3.heap.size w3 v3 := by rw [hv3]; exact belowA (Below.refl _ w3) _
  have k3 : v3.heap[w3.heap.size]? = some (.cells #[.slice ra rn rc, .int .u32 u1, .int .u32 u2, .int .u32 u3, .int .i64 u4, .int .u32 u5, .int .u64 u6, .int .u64 u7, .int .u64 u8] 39 (0, 0)) := by rw [hv3]; exact heap_alloc_new w3 _
  have hb3 : Below w1.heap.size w1 v3 := HB3.out.trans (hbv.mono HB3.out.size)
  have z3 := (nine k3).2.2.2.1
  have z4 := HY.out.2.2.1 _ hb3
  have z1 := HY.out.1 _ hb3
  have H3 := Lib.hid (And.intro hbv (And.intro k3 (And.intro hb3 hv3)))
  clear hbv k3 hb3 hv3 hgi hnd hrd hnum hnx B3'
  go_upto_region 7 with fail
  rw [← H3.out.2.2.2]
  obtain ⟨P, hP⟩ : ∃ P, P = op := ⟨_, rfl⟩
  have HPP : Hid (newPath M ⟨ok, op, odata, ov, false, oe⟩ = P) := Lib.hid (by rw [hP]; rfl)
  have HPL : Hid (P.length ≤ 920) := Lib.hid (by rw [hP]; have := HP.out; omega)
  go_wp2_with fail
  rw [← hP]
  clear hP
  refine (refParts_any P (by rw [size_bs]; have := HPL.out; omega) _).mono ?_
  rintro e w5 ⟨v5, rfl, B5'⟩
  have HB5 := Lib.hid (H3.out.2.2.1.trans (B5'.mono H3.out.2.2.1.size))
  have h53 : Below w3.heap.size w3 w5 := H3.out.1.trans (B5'.mono H3.out.1.size)
  have k5 : w5.heap[w3.heap.size]? = some (.cells #[.slice ra rn rc, .int .u32 u1, .int .u32 u2, .int .u32 u3, .int .i64 u4, .int .u32 u5, .int .u64 u6, .int .u64 u7, .int .u64 u8] 39 (0, 0)) := (B5'.block _ (lt_of_block H3.out.2.1)).trans H3.out.2.1
  have HK5 := Lib.hid (And.intro k5 h53)
  obtain ⟨t3, ht3⟩ : ∃ t3, t3 = (partsL P).isSome := ⟨_, rfl⟩
  rw [← ht3]
  have HT3 := Lib.hid ht3
  clear B5' k5 h53 ht3 z1 z3 z4
  cases t3
  case false =>
   go_wp2_with fail
   refine (q5no_any 30 _).mono ?_
   rintro e wN ⟨rfl, BN⟩
   have hbN : Below w1.heap.size w1 wN := HB5.out.trans (BN.mono HB5.out.size)
   have HTN : Hid (wN.there (w.heap.size + 2) 0 13) := Lib.hid (there_of ((hbN.block _ (by have := H1.out.2.1; omega)).trans H1.out.2.2.2.2.1) (by simp))
   have HBN : Hid (Below w.heap.size w wN) := Lib.hid (H1.out.1.trans (hbN.mono H1.out.1.size))
   have HON : Hid ((#[.int .i64 30, .string ⟨#[]⟩, .slice none 0 0, .int .u32 0, .int .u32 0, .int .u32 0, .int .i64 0, .int .u32 0, .int .u64 0, .int .u64 0, .int .u64 0, .slice none 0 0, .slice none 0 0] : Array Value).all (·.oneCell') = true) := Lib.hid (by simp [Value.oneCell'])
   clear BN hbN
   go_wp2_with (refine wpList_store_mid rfl 43 (.tmp 9) (.tmp 57) rfl (w.heap.size + 2) 0 #[.int .i64 30, .string ⟨#[]⟩, .slice none 0 0, .int .u32 0, .int .u32 0, .int .u32 0, .int .i64 0, .int .u32 0, .int .u64 0, .int .u64 0, .int .u64 0, .slice none 0 0, .slice none 0 0] rfl rfl HTN.out HSR.out HON.out ?_)
   refine bodyPost_ret (results_tmp_cell_mid rfl _ _ (w.heap.size + 2) 0 [.int .i64 30, .string ⟨#[]⟩, .slice none 0 0, .int .u32 0, .int .u32 0, .int .u32 0, .int .i64 0, .int .u32 0, .int .u64 0, .int .u64 0, .int .u64 0, .slice none 0 0, .slice none 0 0] _ rfl (World.rangeAt_setCells_same _ _ _ _ HTN.out) Tryz.underlying43 rfl HSR.out) rfl ?_
   have e3 : x = 30 := by
    rw [← HX.out]
    unfold createE
    rw [if_neg hne.out, HPP.out, if_pos HT3.out.symm]
   subst e3
   exact .inr ⟨by decide, q_no 30 HBN.out (by omega)⟩
  case true =>
  have HP1 := Lib.hid (newPath_ok (M := M) (o := ⟨ok, op, odata, ov, false, oe⟩) HD.out.2.2.2.2.2.2.2 hne.out (by rw [HPP.out]; exact HT3.out.symm))
  have HPA : Hid (parentL P = parentL op) := Lib.hid (by have h := HP1.out.2.2; rw [HPP.out] at h; exact h)
  cases gi
  case false =>
   have hno : getA (parentL op) M = none := by
    have h := HND.out.1
    cases hg : getA (parentL op) M with
    | none => rfl
    | some d => rw [hg] at h; cases h
   have HNO := Lib.hid hno
   clear hno
   go_wp2_with fail
   refine (q5no_any 31 _).mono ?_
   rintro e wN ⟨rfl, BN⟩
   have hbN : Below w1.heap.size w1 wN := HB5.out.trans (BN.mono HB5.out.size)
   have HTN : Hid (wN.there (w.heap.size + 2) 0 13) := Lib.hid (there_of ((hbN.block _ (by have := H1.out.2.1; omega)).trans H1.out.2.2.2.2.1) (by simp))
   have HBN : Hid (Below w.heap.size w wN) := Lib.hid (H1.out.1.trans (hbN.mono H1.out.1.size))
   have HON : Hid ((#[.int .i64 31, .string ⟨#[]⟩, .slice none 0 0, .int .u32 0, .int .u32 0, .int .u32 0, .int .i64 0, .int .u32 0, .int .u64 0, .int .u64 0, .int .u64 0, .slice none 0 0, .slice none 0 0] : Array Value).all (·.oneCell') = true) := Lib.hid (by simp [Value.oneCell'])
   clear BN hbN
   go_wp2_with (refine wpList_store_mid rfl 43 (.tmp 9) (.tmp 62) rfl (w.heap.size + 2) 0 #[.int .i64 31, .string ⟨#[]⟩, .slice none 0 0, .int .u32 0, .int .u32 0, .int .u32 0, .int .i64 0, .int .u32 0, .int .u64 0, .int .u64 0, .int .u64 0, .slice none 0 0, .slice none 0 0] rfl rfl HTN.out HSR.out HON.out ?_)
   refine bodyPost_ret (results_tmp_cell_mid rfl _ _ (w.heap.size + 2) 0 [.int .i64 31, .string ⟨#[]⟩, .slice none 0 0, .int .u32 0, .int .u32 0, .int .u32 0, .int .i64 0, .int .u32 0, .int .u64 0, .int .u64 0, .int .u64 0, .slice none 0 0, .slice none 0 0] _ rfl (World.rangeAt_setCells_same _ _ _ _ HTN.out) Tryz.underlying43 rfl HSR.out) rfl ?_
   have e3 : x = 31 := by
    rw [← HX.out]
    unfold createE
    rw [if_neg hne.out, HPP.out, if_neg (by rw [← HT3.out]; simp), HPA.out, HNO.out]
   subst e3
   exact .inr ⟨by decide, q_no 31 HBN.out (by omega)⟩
  case true =>
  have hgs : getA (parentL op) M = some nd := by
   have h := HND.out.1
   have h2 := HND.out.2.1
   cases hg : getA (parentL op) M with
   | none => rw [hg] at h; cases h
   | some d => rw [hg] at h2; rw [h2]; rfl
  have HGS := Lib.hid hgs
  have z4 := (nine HK5.out.1).2.2.2.2.1
  have z5 := (nine HK5.out.1).2.2.2.2.2.1
  obtain ⟨bn, hbn⟩ : ∃ bn, bn = (u5 != 0) := ⟨_, rfl⟩
  obtain ⟨bz, hbz⟩ : ∃ bz, bz = (u4 != 0) := ⟨_, rfl⟩
  have tn : (u5 != 0) = bn := hbn.symm
  have tz : (u4 != 0) = bz := hbz.symm
  have hown : noSess nd.num.os nd.num.on = (!bz && !bn) := by
   rw [← HND.out.2.2.2]
   unfold noSess
   rw [hbn, hbz]
   by_cases h1 : u4 = 0 <;> by_cases h2 : u5 = 0 <;> simp [h1, h2]
  have HOW := Lib.hid hown
  clear hgs hbn hbz hown
  go_upto_region 14 with fail
  go_cut [72] (fun v wc => v = .bool (bn || bz) ∧ w5 = wc)
  case first =>
   cases bn
   all_goals
    go_wp2_with fail
    go_meet
    case rel => first | exact ⟨rfl, rfl⟩ | exact ⟨by simp, rfl⟩
  case rest =>
  obtain ⟨rfl, rfl⟩ := hcut
  obtain ⟨bo, hbo⟩ : ∃ bo, bo = (bn || bz) := ⟨_, rfl⟩
  rw [← hbo]
  have HBO : Hid (noSess nd.num.os nd.num.on = !bo) := Lib.hid (by rw [HOW.out, hbo]; cases bn <;> cases bz <;> rfl)
  clear tn tz hbo z4 z5
  cases bo
  case true =>
   go_wp2_with fail
   refine (q5no_any 34 _).mono ?_
   rintro e wN ⟨rfl, BN⟩
   have hbN : Below w1.heap.size w1 wN := HB5.out.trans (BN.mono HB5.out.size)
   have HTN : Hid (wN.there (w.heap.size + 2) 0 13) := Lib.hid (there_of ((hbN.block _ (by have := H1.out.2.1; omega)).trans H1.out.2.2.2.2.1) (by simp))
   have HBN : Hid (Below w.heap.size w wN) := Lib.hid (H1.out.1.trans (hbN.mono H1.out.1.size))
   have HON : Hid ((#[.int .i64 34, .string ⟨#[]⟩, .slice none 0 0, .int .u32 0, .int .u32 0, .int .u32 0, .int .i64 0, .int .u32 0, .int .u64 0, .int .u64 0, .int .u64 0, .slice none 0 0, .slice none 0 0] : Array Value).all (·.oneCell') = true) := Lib.hid (by simp [Value.oneCell'])
   clear BN hbN
   go_wp2_with (refine wpList_store_mid rfl 43 (.tmp 9) (.tmp 75) rfl (w.heap.size + 2) 0 #[.int .i64 34, .string ⟨#[]⟩, .slice none 0 0, .int .u32 0, .int .u32 0, .int .u32 0, .int .i64 0, .int .u32 0, .int .u64 0, .int .u64 0, .int .u64 0, .slice none 0 0, .slice none 0 0] rfl rfl HTN.out HSR.out HON.out ?_)
   refine bodyPost_ret (results_tmp_cell_mid rfl _ _ (w.heap.size + 2) 0 [.int .i64 34, .string ⟨#[]⟩, .slice none 0 0, .int .u32 0, .int .u32 0, .int .u32 0, .int .i64 0, .int .u32 0, .int .u64 0, .int .u64 0, .int .u64 0, .slice none 0 0, .slice none 0 0] _ rfl (World.rangeAt_setCells_same _ _ _ _ HTN.out) Tryz.underlying43 rfl HSR.out) rfl ?_
   have e3 : x = 34 := by
    rw [← HX.out]
    unfold createE
    rw [if_neg hne.out, HPP.out, if_neg (by rw [← HT3.out]; simp), HPA.out, HGS.out]
    dsimp only
    rw [if_pos (by rw [HBO.out]; rfl)]
   subst e3
   exact .inr ⟨by decide, q_no 34 HBN.out (by omega)⟩
  case false =>
  obtain ⟨cn, hcn⟩ : ∃ c, c = (wn == 0) := ⟨_, rfl⟩
  obtain ⟨cs, hcs⟩ : ∃ c, c = (ws == 0) := ⟨_, rfl⟩
  have tn : (wn == 0) = cn := hcn.symm
  have tz : (ws == 0) = cs := hcs.symm
  have hns : noSess ws wn = (cs && cn) := by
   unfold noSess
   rw [hcn, hcs]
   by_cases h1 : ws = 0 <;> by_cases h2 : wn = 0 <;> simp [h1, h2]
  have HNS := Lib.hid hns
  have z5 := HY.out.2.2.2.1 _ HB5.out
  have z0 := HY.out.2.2.2.2.1 _ HB5.out
  have z1 := HY.out.2.2.2.2.2.1 _ HB5.out
  clear hcn hcs hns
  go_upto_region 16 with fail
  go_cut [87] (fun v wc => v = .bool (oe && cn && cs) ∧ w5 = wc)
  case first =>
   cases oe
   case false =>
    go_wp2_with fail
    go_meet
    case rel => exact ⟨rfl, rfl⟩
   case true =>
    cases cn
    all_goals
     go_wp2_with fail
     go_meet
     case rel => first | exact ⟨rfl, rfl⟩ | exact ⟨by simp, rfl⟩
  case rest =>
  obtain ⟨rfl, rfl⟩ := hcut
  obtain ⟨be, hbe⟩ : ∃ be, be = (oe && cn && cs) := ⟨_, rfl⟩
  rw [← hbe]
  have HBE : Hid ((oe = true ∧ noSess ws wn = true) ↔ be = true) := Lib.hid (by rw [HNS.out, hbe]; cases oe <;> cases cn <;> cases cs <;> simp)
  clear tn tz hbe z0 z1
  cases be
  case true =>
   go_wp2_with fail
   refine (q5no_any 63 _).mono ?_
   rintro e wN ⟨rfl, BN⟩
   have hbN : Below w1.heap.size w1 wN := HB5.out.trans (BN.mono HB5.out.size)
   have HTN : Hid (wN.there (w.heap.size + 2) 0 13) := Lib.hid (there_of ((hbN.block _ (by have := H1.out.2.1; omega)).trans H1.out.2.2.2.2.1) (by simp))
   have HBN : Hid (Below w.heap.size w wN) := Lib.hid (H1.out.1.trans (hbN.mono H1.out.1.size))
   have HON : Hid ((#[.int .i64 63, .string ⟨#[]⟩, .slice none 0 0, .int .u32 0, .int .u32 0, .int .u32 0, .int .i64 0, .int .u32 0, .int .u64 0, .int .u64 0, .int .u64 0, .slice none 0 0, .slice none 0 0] : Array Value).all (·.oneCell') = true) := Lib.hid (by simp [Value.oneCell'])
   clear BN hbN
   go_wp2_with (refine wpList_store_mid rfl 43 (.tmp 9) (.tmp 90) rfl (w.heap.size + 2) 0 #[.int .i64 63, .string ⟨#[]⟩, .slice none 0 0, .int .u32 0, .int .u32 0, .int .u32 0, .int .i64 0, .int .u32 0, .int .u64 0, .int .u64 0, .int .u64 0, .slice none 0 0, .slice none 0 0] rfl rfl HTN.out HSR.out HON.out ?_)
   refine bodyPost_ret (results_tmp_cell_mid rfl _ _ (w.heap.size + 2) 0 [.int .i64 63, .string ⟨#[]⟩, .slice none 0 0, .int .u32 0, .int .u32 0, .int .u32 0, .int .i64 0, .int .u32 0, .int .u64 0, .int .u64 0, .int .u64 0, .slice none 0 0, .slice none 0 0] _ rfl (World.rangeAt_setCells_same _ _ _ _ HTN.out) Tryz.underlying43 rfl HSR.out) rfl ?_
   have e3 : x = 63 := by
    rw [← HX.out]
    unfold createE
    rw [if_neg hne.out, HPP.out, if_neg (by rw [← HT3.out]; simp), HPA.out, HGS.out]
    dsimp only
    rw [if_neg (by rw [HBO.out]; simp), if_pos (HBE.out.2 (by simp))]
   subst e3
   exact .inr ⟨by decide, q_no 63 HBN.out (by omega)⟩
  case false =>
  go_wp2_with fail
  refine ((HD.out.2.1.below HB5.out).find HD.out.2.2.2.2.2.2.1 P).mono ?_
  rintro e w6 ⟨hw6, i, rfl, hf⟩
  have hw6 := hw6.symm
  subst hw6
  rcases HD.out.2.2.1.find hf with ⟨rfl, h0⟩ | ⟨k, d, rfl, hk, hg⟩
  rotate_left
  ·have HG := Lib.hid hg
   have tk : decide ((0 : Int) ≤ (k : Int)) = true := by simp
   clear hf hk hg
   go_wp2_with fail
   refine (q5no_any 32 _).mono ?_
   rintro e wN ⟨rfl, BN⟩
   have hbN : Below w1.heap.size w1 wN := HB5.out.trans (BN.mono HB5.out.size)
   have HTN : Hid (wN.there (w.heap.size + 2) 0 13) := Lib.hid (there_of ((hbN.block _ (by have := H1.out.2.1; omega)).trans H1.out.2.2.2.2.1) (by simp))
   have HBN : Hid (Below w.heap.size w wN) := Lib.hid (H1.out.1.trans (hbN.mono H1.out.1.size))
   have HON : Hid ((#[.int .i64 32, .string ⟨#[]⟩, .slice none 0 0, .int .u32 0, .int .u32 0, .int .u32 0, .int .i64 0, .int .u32 0, .int .u64 0, .int .u64 0, .int .u64 0, .slice none 0 0, .slice none 0 0] : Array Value).all (·.oneCell') = true) := Lib.hid (by simp [Value.oneCell'])
   clear BN hbN
   go_wp2_with (refine wpList_store_mid rfl 43 (.tmp 9) (.tmp 97) rfl (w.heap.size + 2) 0 #[.int .i64 32, .string ⟨#[]⟩, .slice none 0 0, .int .u32 0, .int .u32 0, .int .u32 0, .int .i64 0, .int .u32 0, .int .u64 0, .int .u64 0, .int .u64 0, .slice none 0 0, .slice none 0 0] rfl rfl HTN.out HSR.out HON.out ?_)
   refine bodyPost_ret (results_tmp_cell_mid rfl _ _ (w.heap.size + 2) 0 [.int .i64 32, .string ⟨#[]⟩, .slice none 0 0, .int .u32 0, .int .u32 0, .int .u32 0, .int .i64 0, .int .u32 0, .int .u64 0, .int .u64 0, .int .u64 0, .slice none 0 0, .slice none 0 0] _ rfl (World.rangeAt_setCells_same _ _ _ _ HTN.out) Tryz.underlying43 rfl HSR.out) rfl ?_
   have e3 : x = 32 := by
    rw [← HX.out]
    unfold createE
    rw [if_neg hne.out, HPP.out, if_neg (by rw [← HT3.out]; simp), HPA.out, HGS.out]
    dsimp only
    rw [if_neg (by rw [HBO.out]; simp), if_neg (fun h => by have := HBE.out.1 h; cases this), if_pos (by rw [HG.out]; rfl)]
   subst e3
   exact .inr ⟨by decide, q_no 32 HBN.out (by omega)⟩
  have H0 := Lib.hid h0
  have hlen : R.length = M.length := by rw [HD.out.1.like.1]; exact HD.out.2.2.1.len HD.out.2.2.2.1.nodup
  have c2 := (HD.out.2.1.below HB5.out).c2
  obtain ⟨nR, hnR⟩ : ∃ n, n = R.length := ⟨_, rfl⟩
  rw [← hnR] at c2 hlen
  obtain ⟨tq, htq⟩ : ∃ t, t = decide (48 ≤ nR) := ⟨_, rfl⟩
  have tq1 : decide ((48 : Int) ≤ (nR : Int)) = tq := by rw [htq]; simp; omega
  have tq2 : decide (48 ≤ nR) = tq := htq.symm
  have HTQ : Hid ((48 ≤ M.length) ↔ tq = true) := Lib.hid (by rw [htq, ← hlen]; simp)
  clear hf h0 htq hlen hnR
  cases tq
  case true =>
   go_wp2_with fail
   refine (q5no_any 36 _).mono ?_
   rintro e wN ⟨rfl, BN⟩
   have hbN : Below w1.heap.size w1 wN := HB5.out.trans (BN.mono HB5.out.size)
   have HTN : Hid (wN.there (w.heap.size + 2) 0 13) := Lib.hid (there_of ((hbN.block _ (by have := H1.out.2.1; omega)).trans H1.out.2.2.2.2.1) (by simp))
   have HBN : Hid (Below w.heap.size w wN) := Lib.hid (H1.out.1.trans (hbN.mono H1.out.1.size))
   have HON : Hid ((#[.int .i64 36, .string ⟨#[]⟩, .slice none 0 0, .int .u32 0, .int .u32 0, .int .u32 0, .int .i64 0, .int .u32 0, .int .u64 0, .int .u64 0, .int .u64 0, .slice none 0 0, .slice none 0 0] : Array Value).all (·.oneCell') = true) := Lib.hid (by simp [Value.oneCell'])
   clear BN hbN
   go_wp2_with (refine wpList_store_mid rfl 43 (.tmp 9) (.tmp 106) rfl (w.heap.size + 2) 0 #[.int .i64 36, .string ⟨#[]⟩, .slice none 0 0, .int .u32 0, .int .u32 0, .int .u32 0, .int .i64 0, .int .u32 0, .int .u64 0, .int .u64 0, .int .u64 0, .slice none 0 0, .slice none 0 0] rfl rfl HTN.out HSR.out HON.out ?_)
   refine bodyPost_ret (results_tmp_cell_mid rfl _ _ (w.heap.size + 2) 0 [.int .i64 36, .string ⟨#[]⟩, .slice none 0 0, .int .u32 0, .int .u32 0, .int .u32 0, .int .i64 0, .int .u32 0, .int .u64 0, .int .u64 0, .int .u64 0, .slice none 0 0, .slice none 0 0] _ rfl (World.rangeAt_setCells_same _ _ _ _ HTN.out) Tryz.underlying43 rfl HSR.out) rfl ?_
   have e3 : x = 36 := by
    rw [← HX.out]
    unfold createE
    rw [if_neg hne.out, HPP.out, if_neg (by rw [← HT3.out]; simp), HPA.out, HGS.out]
    dsimp only
    rw [if_neg (by rw [HBO.out]; simp), if_neg (fun h => by have := HBE.out.1 h; cases this), if_neg (by rw [H0.out]; simp), if_pos (HTQ.out.2 (by simp))]
   subst e3
   exact .inr ⟨by decide, q_no 36 HBN.out (by omega)⟩
  case false =>
  have hx0 : x = 0 := by
   rw [← HX.out]
   unfold createE
   rw [if_neg hne.out, HPP.out, if_neg (by rw [← HT3.out]; simp), HPA.out, HGS.out]
   dsimp only
   rw [if_neg (by rw [HBO.out]; simp), if_neg (fun h => by have := HBE.out.1 h; cases this), if_neg (by rw [H0.out]; simp), if_neg (fun h => by have := HTQ.out.1 h; cases this)]
  subst hx0
  obtain ⟨kn, hkn⟩ : ∃ kn, kn = inc32 u2 := ⟨_, rfl⟩
  have tk : ∀ _ : True, IntKind.u32.wrap (u2 + 1) = kn := fun _ => hkn.symm
  have d2 := (nine HK5.out.1).2.2.1
  have f5 := frozen0 HK5.out.1
  have f2 := f5 2
  have HKN := Lib.hid hkn
  obtain ⟨w6, hw6⟩ : ∃ w6, w6 = w5.setCell ⟨w3.heap.size, 2, none⟩ (.int .u32 kn) := ⟨_, rfl⟩
  have k6 : w6.heap[w3.heap.size]? = some (.cells #[.slice ra rn rc, .int .u32 u1, .int .u32 kn, .int .u32 u3, .int .i64 u4, .int .u32 u5, .int .u64 u6, .int .u64 u7, .int .u64 u8] 39 (0, 0)) := by rw [hw6]; simp [World.setCell, Array.getElem?_modify, HK5.out.1]
  have K6 : Kept (· = w3.heap.size) w5 w6 := by rw [hw6]; exact Kept.setCell (S := (· = w3.heap.size)) (p := ⟨w3.heap.size, 2, none⟩) (Kept.refl _ w5) rfl _
  have H6 := Lib.hid (And.intro k6 (And.intro K6 hw6))
  clear hkn k6 K6 hw6 f5 z4 z5
  go_upto_region 23 with fail
  clear c2
  rw [← H6.out.2.2]
  have d8 := (nine H6.out.1).2.2.2.2.2.2.2.2
  have f8 := frozen0 H6.out.1 8
  obtain ⟨w7, hw7⟩ : ∃ w7, w7 = w6.setCell ⟨w3.heap.size, 8, none⟩ (.int .u64 at_) := ⟨_, rfl⟩
  have k7 : w7.heap[w3.heap.size]? = some (.cells #[.slice ra rn rc, .int .u32 u1, .int .u32 kn, .int .u32 u3, .int .i64 u4, .int .u32 u5, .int .u64 u6, .int .u64 u7, .int .u64 at_] 39 (0, 0)) := by rw [hw7]; simp [World.setCell, Array.getElem?_modify, H6.out.1]
  have K7 : Kept (· = w3.heap.size) w5 w7 := by rw [hw7]; exact Kept.setCell (S := (· = w3.heap.size)) (p := ⟨w3.heap.size, 8, none⟩) H6.out.2.1 rfl _
  have H7 := Lib.hid (And.intro k7 (And.intro K7 hw7))
  clear k7 K7 hw7 d2 f2
  go_upto_region 24 with fail
  rw [← H7.out.2.2]
  clear d8 f8
  have B57 : Below w1.heap.size w1 w7 := HB5.out.trans (H7.out.2.1.below HB5.out.size (fun j e => by have e : j = w3.heap.size := e; have := HB3.out.size; omega))
  have z4 := HY.out.2.2.1 _ B57
  obtain ⟨nn, hnn⟩ : ∃ nn, nn = u3 := ⟨_, rfl⟩
  obtain ⟨w8, hw8⟩ : ∃ w8, w8 = w7 := ⟨_, rfl⟩
  subst hw8
  subst hnn
  have HB8 : Hid (Below w1.heap.size w1 w8) := Lib.hid B57
  have H8 := H7
  clear B57
  go_upto_region 26 with fail
  clear z4
  obtain ⟨v9, hv9⟩ : ∃ v9, v9 = w8.alloc (.cells #[.slice oa on oc, .int .u32 0, .int .u32 0, .int .u32 0, .int .i64 0, .int .u32 0, .int .u64 at_, .int .u64 at_, .int .u64 at_] 39) := ⟨_, rfl⟩
  have hb9 : Below w8.heap.size w8 v9 := by rw [hv9]; exact belowA (Below.refl _ w8) _
  have k9 : v9.heap[w8.heap.size]? = some (.cells #[.slice oa on oc, .int .u32 0, .int .u32 0, .int .u32 0, .int .i64 0, .int .u32 0, .int .u64 at_, .int .u64 at_, .int .u64 at_] 39 (0, 0)) := by rw [hv9]; exact heap_alloc_new w8 _
  have z2 := HY.out.2.1 _ HB8.out
  have H9 := Lib.hid (And.intro hb9 (And.intro k9 hv9))
  clear hb9 k9 hv9
  go_upto_region 27 with fail
  rw [← H9.out.2.2]
  clear z2
  have B9 : Below w1.heap.size w1 v9 := HB8.out.trans (H9.out.1.mono HB8.out.size)
  have z5 := HY.out.2.2.2.1 _ B9
  have HB9 := Lib.hid B9
  obtain ⟨LP, hLP⟩ : ∃ LP, partsL P = some LP := by
   have h := HT3.out
   cases hp : partsL P with
   | none => rw [hp] at h; cases h
   | some l => exact ⟨l, rfl⟩
  have HLPP := Lib.hid hLP
  clear B9 hLP
  cases oe
  case true =>
   have h1b := (HB9.out.block _ HL.out.2).trans H1.out.2.2.2.1
   have HRS := Lib.hid (range_blk h1b)
   have HT2 : Hid (v9.there w8.heap.size 4 2) := Lib.hid (q_there H9.out.2.1 4 2 (show 4 + 2 ≤ 9 by decide))
   have HON2 : Hid ((#[.int .i64 ws, .int .u32 wn] : Array Value).all (·.oneCell') = true) := Lib.hid (by simp [Value.oneCell'])
   clear h1b
   obtain ⟨w10, hw10⟩ : ∃ w10, w10 = v9.setCells w8.heap.size 4 [.int .i64 ws, .int .u32 wn] := ⟨_, rfl⟩
   have k10 : w10.heap[w8.heap.size]? = some (.cells #[.slice oa on oc, .int .u32 0, .int .u32 0, .int .u32 0, .int .i64 ws, .int .u32 wn, .int .u64 at_, .int .u64 at_, .int .u64 at_] 39 (0, 0)) := by rw [hw10]; simp [World.setCells, World.setCell, Array.getElem?_modify, H9.out.2.1]
   have K10 : Kept (· = w8.heap.size) v9 w10 := by rw [hw10]; exact Kept.setCells (S := (· = w8.heap.size)) (p := w8.heap.size) rfl _ 4 (Kept.refl _ v9)
   have HW10 := Lib.hid hw10
   have H10 := Lib.hid (And.intro k10 K10)
   clear k10 K10 hw10
   go_upto_region 29 with (first
    | (refine wpList_load_mid rfl 29 (.tmp 6) rfl (w.heap.size + 1) 0 rfl [.int .i64 ws, .int .u32 wn] _ HRS.out Tryz.underlying29 rfl HSS.out ?_)
    | (refine wpList_store_mid rfl 29 (.tmp 128) (.tmp 127) rfl w8.heap.size 4 #[.int .i64 ws, .int .u32 wn] rfl rfl HT2.out HSS.out HON2.out ?_))
   rw [← HW10.out]
   clear z5
   have HB10 : Hid (Below w1.heap.size w1 w10) := Lib.hid (HB9.out.trans (H10.out.2.below HB9.out.size (fun j e => by have e : j = w8.heap.size := e; have := HB8.out.size; omega)))
   have hn38 : w3.heap.size ≠ w8.heap.size := by have := lt_of_block H8.out.1; omega
   have k3 : w10.heap[w3.heap.size]? = some (.cells #[.slice ra rn rc, .int .u32 u1, .int .u32 kn, .int .u32 nn, .int .i64 u4, .int .u32 u5, .int .u64 u6, .int .u64 u7, .int .u64 at_] 39 (0, 0)) := (H10.out.2.block _ (Nat.lt_of_lt_of_le (lt_of_block H8.out.1) H9.out.1.size) (fun e => hn38 e)).trans ((H9.out.1.block _ (lt_of_block H8.out.1)).trans H8.out.1)
   have hS0 : World.rangeAt w10.drew w3.heap.size 0 [.slice ra rn rc, .int .u32 u1, .int .u32 kn, .int .u32 nn, .int .i64 u4, .int .u32 u5, .int .u64 u6, .int .u64 u7, .int .u64 at_] ∧ World.rangeAt w10.drew w8.heap.size 0 [.slice oa on oc, .int .u32 0, .int .u32 0, .int .u32 0, .int .i64 ws, .int .u32 wn, .int .u64 at_, .int .u64 at_, .int .u64 at_] := ⟨range_blk k3, range_blk H10.out.1⟩
   have HS00 := Lib.hid hS0
   have hb3 : w.heap.size + 2 ≠ w3.heap.size ∧ w.heap.size + 2 ≠ w8.heap.size := by have := HB3.out.size; have := H1.out.2.1; have := HB8.out.size; omega
   have HN3 := Lib.hid hb3
   have hk2 : w10.heap[w.heap.size + 2]? = some (.cells #[.int .i64 0, .string ⟨#[]⟩, .slice none 0 0, .int .u32 0, .int .u32 0, .int .u32 0, .int .i64 0, .int .u32 0, .int .u64 0, .int .u64 0, .int .u64 0, .slice none 0 0, .slice none 0 0] 43 (0, 0)) := (HB10.out.block _ (by have := H1.out.2.1; omega)).trans H1.out.2.2.2.2.1
   have HK2 := Lib.hid hk2
   clear hS0 k3 hn38 hb3 hk2
   refine wp_region_held_drew (S := fun w' => World.rangeAt w' w3.heap.size 0 [.slice ra rn rc, .int .u32 u1, .int .u32 kn, .int .u32 nn, .int .i64 u4, .int .u32 u5, .int .u64 u6, .int .u64 u7, .int .u64 at_] ∧ World.rangeAt w' w8.heap.size 0 [.slice oa on oc, .int .u32 0, .int .u32 0, .int .u32 0, .int .i64 ws, .int .u32 wn, .int .u64 at_, .int .u64 at_, .int .u64 at_]) (by kernel_rfl) HS00.out (fun hS => ?_)
   refine tI 0 rfl hS ?_
   refine tI 4 rfl hS ?_
   refine tI 8 rfl hS ?_
   refine tL 2 rfl hS 39 (.tmp 11) w3.heap.size 0 [.slice ra rn rc, .int .u32 u1, .int .u32 kn, .int .u32 nn, .int .i64 u4, .int .u32 u5, .int .u64 u6, .int .u64 u7, .int .u64 at_] (fun _ h => h.1) Tryz.underlying39 HSZ.out ?_
   simp only [putS]
   refine tL 5 rfl hS 39 (.tmp 15) w8.heap.size 0 [.slice oa on oc, .int .u32 0, .int .u32 0, .int .u32 0, .int .i64 ws, .int .u32 wn, .int .u64 at_, .int .u64 at_, .int .u64 at_] (fun _ h => h.2) Tryz.underlying39 HSZ.out ?_
   refine tL 9 rfl hS 39 (.tmp 15) w8.heap.size 0 [.slice oa on oc, .int .u32 0, .int .u32 0, .int .u32 0, .int .i64 ws, .int .u32 wn, .int .u64 at_, .int .u64 at_, .int .u64 at_] (fun _ h => h.2) Tryz.underlying39 HSZ.out ?_
   refine tI 6 rfl hS ?_
   refine tI 10 rfl hS ?_
   simp only [putS]
   refine cI 1 rfl ?_
   refine (q5parent_any P LP HLPP.out (by have := HPL.out; omega) _).mono ?_
   rintro e wp ⟨rfl, Bp'⟩
   have Bp : Below w10.heap.size w10 wp := (Below.refl _ w10).drew.trans Bp'
   have sp : World.rangeAt wp w3.heap.size 0 [.slice ra rn rc, .int .u32 u1, .int .u32 kn, .int .u32 nn, .int .i64 u4, .int .u32 u5, .int .u64 u6, .int .u64 u7, .int .u64 at_] ∧ World.rangeAt wp w8.heap.size 0 [.slice oa on oc, .int .u32 0, .int .u32 0, .int .u32 0, .int .i64 ws, .int .u32 wn, .int .u64 at_, .int .u64 at_, .int .u64 at_] := ⟨range_kept HS00.out.1 Bp' (World.block_lt_of_cell? _ _ (HS00.out.1 0 _ rfl)), range_kept HS00.out.2 Bp' (World.block_lt_of_cell? _ _ (HS00.out.2 0 _ rfl))⟩
   refine ⟨sp, ?_⟩
   try dsimp only
   simp only [putS]
   refine tI 3 rfl sp ?_
   simp only [putS]
   obtain ⟨wq, hwq⟩ : ∃ wq, wq = wp.alloc (.cells #[.string (bs (parentL P)), .bool false, .slice ra rn rc, .int .u32 u1, .int .u32 kn, .int .u32 nn, .int .i64 u4, .int .u32 u5, .int .u64 u6, .int .u64 u7, .int .u64 at_, .string (bs P), .bool false, .slice oa on oc, .int .u32 0, .int .u32 0, .int .u32 0, .int .i64 ws, .int .u32 wn, .int .u64 at_, .int .u64 at_, .int .u64 at_] 88) := ⟨_, rfl⟩
   have hbq : Below wp.heap.size wp wq := by rw [hwq]; exact belowA (Below.refl _ wp) _
   have kq : wq.heap[wp.heap.size]? = some (.cells #[.string (bs (parentL P)), .bool false, .slice ra rn rc, .int .u32 u1, .int .u32 kn, .int .u32 nn, .int .i64 u4, .int .u32 u5, .int .u64 u6, .int .u64 u7, .int .u64 at_, .string (bs P), .bool false, .slice oa on oc, .int .u32 0, .int .u32 0, .int .u32 0, .int .i64 ws, .int .u32 wn, .int .u64 at_, .int .u64 at_, .int .u64 at_] 88 (0, 0)) := by rw [hwq]; exact heap_alloc_new wp _
   have sq : World.rangeAt wq w3.heap.size 0 [.slice ra rn rc, .int .u32 u1, .int .u32 kn, .int .u32 nn, .int .i64 u4, .int .u32 u5, .int .u64 u6, .int .u64 u7, .int .u64 at_] ∧ World.rangeAt wq w8.heap.size 0 [.slice oa on oc, .int .u32 0, .int .u32 0, .int .u32 0, .int .i64 ws, .int .u32 wn, .int .u64 at_, .int .u64 at_, .int .u64 at_] := ⟨range_kept sp.1 hbq (World.block_lt_of_cell? _ _ (sp.1 0 _ rfl)), range_kept sp.2 hbq (World.block_lt_of_cell? _ _ (sp.2 0 _ rfl))⟩
   refine give_in 7 rfl (by kernel_rfl) (by rfl) (.slice (some ⟨wp.heap.size, 0, none⟩) 2 2) wq (by rw [hwq]; go_simp <;> first | rfl | exact ⟨rfl, rfl⟩) sq ?_
   simp only [putS]
   refine tI 11 rfl sq ?_
   simp only [putS]
   have bq : Below w10.heap.size w10 wq := Bp.trans (hbq.mono Bp.size)
   have ht : wq.there (w.heap.size + 2) 0 13 := there_of ((bq.block _ (lt_of_block HK2.out)).trans HK2.out) (by simp)
   have HON : Hid ((#[.int .i64 0, .string (bs P), .slice oa on oc, .int .u32 0, .int .u32 0, .int .u32 0, .int .i64 ws, .int .u32 wn, .int .u64 at_, .int .u64 at_, .int .u64 at_, .slice none 0 0, .slice none 0 0] : Array Value).all (·.oneCell') = true) := Lib.hid (by simp [Value.oneCell'])
   refine sI 12 rfl 43 (.tmp 9) (.tmp 139) (w.heap.size + 2) 0 #[.int .i64 0, .string (bs P), .slice oa on oc, .int .u32 0, .int .u32 0, .int .u32 0, .int .i64 ws, .int .u32 wn, .int .u64 at_, .int .u64 at_, .int .u64 at_, .slice none 0 0, .slice none 0 0] ht HSR.out HON.out ⟨range_set sq.1 (fun e => HN3.out.1 e.symm), range_set sq.2 (fun e => HN3.out.2 e.symm)⟩ ?_
   simp only [putS]
   refine wpAnyH_done (by kernel_rfl) ?_ _
   have HQ := Lib.hid (And.intro kq (And.intro bq ht))
   have HPS := Lib.hid Bp.size
   clear kq bq ht sp sq hbq Bp Bp' hwq hS
   go_wp2_with fail
   refine bodyPost_ret (results_tmp_cell_mid rfl _ _ (w.heap.size + 2) 0 [.int .i64 0, .string (bs P), .slice oa on oc, .int .u32 0, .int .u32 0, .int .u32 0, .int .i64 ws, .int .u32 wn, .int .u64 at_, .int .u64 at_, .int .u64 at_, .slice none 0 0, .slice none 0 0] _ rfl (World.rangeAt_setCells_same _ _ _ _ HQ.out.2.2) Tryz.underlying43 rfl HSR.out) rfl ?_
   have hW : Below w.heap.size w (wq.setCells (w.heap.size + 2) 0 [.int .i64 0, .string (bs P), .slice oa on oc, .int .u32 0, .int .u32 0, .int .u32 0, .int .i64 ws, .int .u32 wn, .int .u64 at_, .int .u64 at_, .int .u64 at_, .slice none 0 0, .slice none 0 0]) := q_box _ ((H1.out.1.trans (HB10.out.mono H1.out.1.size)).trans (HQ.out.2.1.mono (H1.out.1.trans (HB10.out.mono H1.out.1.size)).size)) (by omega)
   have kW : (wq.setCells (w.heap.size + 2) 0 [.int .i64 0, .string (bs P), .slice oa on oc, .int .u32 0, .int .u32 0, .int .u32 0, .int .i64 ws, .int .u32 wn, .int .u64 at_, .int .u64 at_, .int .u64 at_, .slice none 0 0, .slice none 0 0]).heap[wp.heap.size]? = some (.cells #[.string (bs (parentL P)), .bool false, .slice ra rn rc, .int .u32 u1, .int .u32 kn, .int .u32 nn, .int .i64 u4, .int .u32 u5, .int .u64 u6, .int .u64 u7, .int .u64 at_, .string (bs P), .bool false, .slice oa on oc, .int .u32 0, .int .u32 0, .int .u32 0, .int .i64 ws, .int .u32 wn, .int .u64 at_, .int .u64 at_, .int .u64 at_] 88 (0, 0)) := by
    have K : Kept (· = w.heap.size + 2) wq (wq.setCells (w.heap.size + 2) 0 [.int .i64 0, .string (bs P), .slice oa on oc, .int .u32 0, .int .u32 0, .int .u32 0, .int .i64 ws, .int .u32 wn, .int .u64 at_, .int .u64 at_, .int .u64 at_, .slice none 0 0, .slice none 0 0]) := Kept.setCells (S := (· = w.heap.size + 2)) (p := w.heap.size + 2) rfl _ 0 (Kept.refl _ wq)
    exact (K.block _ (lt_of_block HQ.out.1) (fun e => by
     have e : wp.heap.size = w.heap.size + 2 := e
     have h2 := lt_of_block HK2.out
     have h3 := HPS.out
     omega)).trans HQ.out.1
   have hcu : createU M at_ ⟨ok, op, odata, ov, false, true⟩ = ⟨nd.data, ⟨u1, kn, nn, u4, u5, u6, u7, at_⟩⟩ := by
    unfold createU
    rw [if_neg (show ¬ (false = true) by decide), HPP.out, HPA.out, ← HND.out.2.1]
    unfold upN
    rw [← HND.out.2.2.2, HKN.out]
   have hcx : createX M at_ ⟨ws, wn⟩ ⟨ok, op, odata, ov, false, true⟩ = [⟨parentL P, false, ⟨nd.data, ⟨u1, kn, nn, u4, u5, u6, u7, at_⟩⟩⟩, ⟨P, false, newN odata at_ ⟨ws, wn⟩ true⟩] := by
    unfold createX
    rw [hcu, HPP.out]
   have hWb := HTB.out.2.trans (hW.mono HTB.out.2.size)
   have hr1 := (HND.out.2.2.1.monoB (lo' := lq) HLQ.out.1).below hWb
   have hr2 : Reads (wq.setCells (w.heap.size + 2) 0 [.int .i64 0, .string (bs P), .slice oa on oc, .int .u32 0, .int .u32 0, .int .u32 0, .int .i64 ws, .int .u32 wn, .int .u64 at_, .int .u64 at_, .int .u64 at_, .slice none 0 0, .slice none 0 0]) lq ⟨oa, on, oc, ⟨0, 0, 0, ws, wn, at_, at_, at_⟩⟩ (newN odata at_ ⟨ws, wn⟩ true) := ⟨rfl, HO.out.1, ((byte_low HO.out.2.1 HLQ.out.2.1).below hWb).mono (fun _ h => h) hWb.size, HO.out.2.2⟩
   refine ⟨_, _, rfl, ?_, ?_, hW⟩
   ·rw [hcx]
    exact q_effs2 (r1 := ⟨parentL P, false, ⟨ra, rn, rc, ⟨u1, kn, nn, u4, u5, u6, u7, at_⟩⟩⟩) (r2 := ⟨P, false, ⟨oa, on, oc, ⟨0, 0, 0, ws, wn, at_, at_, at_⟩⟩⟩) kW (by have := HPS.out; have := (H1.out.1.trans (HB10.out.mono H1.out.1.size)).size; omega) ⟨rfl, rfl, rfl, hr1.len, hr1.data, hr1.nil⟩ ⟨rfl, rfl, hr2⟩
   ·exact ⟨⟨oa, on, oc, ⟨0, 0, 0, ws, wn, at_, at_, at_⟩⟩, none, 0, by rw [HPP.out]; rfl, hr2.mono (fun k h => Or.inl h), StrLo.nil _ _ _⟩
  case false =>
   obtain ⟨w10, hw10⟩ : ∃ w10, w10 = v9 := ⟨_, rfl⟩
   have k10 : w10.heap[w8.heap.size]? = some (.cells #[.slice oa on oc, .int .u32 0, .int .u32 0, .int .u32 0, .int .i64 0, .int .u32 0, .int .u64 at_, .int .u64 at_, .int .u64 at_] 39 (0, 0)) := by rw [hw10]; exact H9.out.2.1
   have K10 : Kept (· = w8.heap.size) v9 w10 := by rw [hw10]; exact Kept.refl _ _
   have HW10 := Lib.hid hw10
   have H10 := Lib.hid (And.intro k10 K10)
   clear k10 K10 hw10
   go_upto_region 29 with fail
   rw [← HW10.out]
   clear z5
   have HB10 : Hid (Below w1.heap.size w1 w10) := Lib.hid (HB9.out.trans (H10.out.2.below HB9.out.size (fun j e => by have e : j = w8.heap.size := e; have := HB8.out.size; omega)))
   have hn38 : w3.heap.size ≠ w8.heap.size := by have := lt_of_block H8.out.1; omega
   have k3 : w10.heap[w3.heap.size]? = some (.cells #[.slice ra rn rc, .int .u32 u1, .int .u32 kn, .int .u32 nn, .int .i64 u4, .int .u32 u5, .int .u64 u6, .int .u64 u7, .int .u64 at_] 39 (0, 0)) := (H10.out.2.block _ (Nat.lt_of_lt_of_le (lt_of_block H8.out.1) H9.out.1.size) (fun e => hn38 e)).trans ((H9.out.1.block _ (lt_of_block H8.out.1)).trans H8.out.1)
   have hS0 : World.rangeAt w10.drew w3.heap.size 0 [.slice ra rn rc, .int .u32 u1, .int .u32 kn, .int .u32 nn, .int .i64 u4, .int .u32 u5, .int .u64 u6, .int .u64 u7, .int .u64 at_] ∧ World.rangeAt w10.drew w8.heap.size 0 [.slice oa on oc, .int .u32 0, .int .u32 0, .int .u32 0, .int .i64 0, .int .u32 0, .int .u64 at_, .int .u64 at_, .int .u64 at_] := ⟨range_blk k3, range_blk H10.out.1⟩
   have HS00 := Lib.hid hS0
   have hb3 : w.heap.size + 2 ≠ w3.heap.size ∧ w.heap.size + 2 ≠ w8.heap.size := by have := HB3.out.size; have := H1.out.2.1; have := HB8.out.size; omega
   have HN3 := Lib.hid hb3
   have hk2 : w10.heap[w.heap.size + 2]? = some (.cells #[.int .i64 0, .string ⟨#[]⟩, .slice none 0 0, .int .u32 0, .int .u32 0, .int .u32 0, .int .i64 0, .int .u32 0, .int .u64 0, .int .u64 0, .int .u64 0, .slice none 0 0, .slice none 0 0] 43 (0, 0)) := (HB10.out.block _ (by have := H1.out.2.1; omega)).trans H1.out.2.2.2.2.1
   have HK2 := Lib.hid hk2
   clear hS0 k3 hn38 hb3 hk2
   refine wp_region_held_drew (S := fun w' => World.rangeAt w' w3.heap.size 0 [.slice ra rn rc, .int .u32 u1, .int .u32 kn, .int .u32 nn, .int .i64 u4, .int .u32 u5, .int .u64 u6, .int .u64 u7, .int .u64 at_] ∧ World.rangeAt w' w8.heap.size 0 [.slice oa on oc, .int .u32 0, .int .u32 0, .int .u32 0, .int .i64 0, .int .u32 0, .int .u64 at_, .int .u64 at_, .int .u64 at_]) (by kernel_rfl) HS00.out (fun hS => ?_)
   refine tI 0 rfl hS ?_
   refine tI 4 rfl hS ?_
   refine tI 8 rfl hS ?_
   refine tL 2 rfl hS 39 (.tmp 11) w3.heap.size 0 [.slice ra rn rc, .int .u32 u1, .int .u32 kn, .int .u32 nn, .int .i64 u4, .int .u32 u5, .int .u64 u6, .int .u64 u7, .int .u64 at_] (fun _ h => h.1) Tryz.underlying39 HSZ.out ?_
   simp only [putS]
   refine tL 5 rfl hS 39 (.tmp 15) w8.heap.size 0 [.slice oa on oc, .int .u32 0, .int .u32 0, .int .u32 0, .int .i64 0, .int .u32 0, .int .u64 at_, .int .u64 at_, .int .u64 at_] (fun _ h => h.2) Tryz.underlying39 HSZ.out ?_
   refine tL 9 rfl hS 39 (.tmp 15) w8.heap.size 0 [.slice oa on oc, .int .u32 0, .int .u32 0, .int .u32 0, .int .i64 0, .int .u32 0, .int .u64 at_, .int .u64 at_, .int .u64 at_] (fun _ h => h.2) Tryz.underlying39 HSZ.out ?_
   refine tI 6 rfl hS ?_
   refine tI 10 rfl hS ?_
   simp only [putS]
   refine cI 1 rfl ?_
   refine (q5parent_any P LP HLPP.out (by have := HPL.out; omega) _).mono ?_
   rintro e wp ⟨rfl, Bp'⟩
   have Bp : Below w10.heap.size w10 wp := (Below.refl _ w10).drew.trans Bp'
   have sp : World.rangeAt wp w3.heap.size 0 [.slice ra rn rc, .int .u32 u1, .int .u32 kn, .int .u32 nn, .int .i64 u4, .int .u32 u5, .int .u64 u6, .int .u64 u7, .int .u64 at_] ∧ World.rangeAt wp w8.heap.size 0 [.slice oa on oc, .int .u32 0, .int .u32 0, .int .u32 0, .int .i64 0, .int .u32 0, .int .u64 at_, .int .u64 at_, .int .u64 at_] := ⟨range_kept HS00.out.1 Bp' (World.block_lt_of_cell? _ _ (HS00.out.1 0 _ rfl)), range_kept HS00.out.2 Bp' (World.block_lt_of_cell? _ _ (HS00.out.2 0 _ rfl))⟩
   refine ⟨sp, ?_⟩
   try dsimp only
   simp only [putS]
   refine tI 3 rfl sp ?_
   simp only [putS]
   obtain ⟨wq, hwq⟩ : ∃ wq, wq = wp.alloc (.cells #[.string (bs (parentL P)), .bool false, .slice ra rn rc, .int .u32 u1, .int .u32 kn, .int .u32 nn, .int .i64 u4, .int .u32 u5, .int .u64 u6, .int .u64 u7, .int .u64 at_, .string (bs P), .bool false, .slice oa on oc, .int .u32 0, .int .u32 0, .int .u32 0, .int .i64 0, .int .u32 0, .int .u64 at_, .int .u64 at_, .int .u64 at_] 88) := ⟨_, rfl⟩
   have hbq : Below wp.heap.size wp wq := by rw [hwq]; exact belowA (Below.refl _ wp) _
   have kq : wq.heap[wp.heap.size]? = some (.cells #[.string (bs (parentL P)), .bool false, .slice ra rn rc, .int .u32 u1, .int .u32 kn, .int .u32 nn, .int .i64 u4, .int .u32 u5, .int .u64 u6, .int .u64 u7, .int .u64 at_, .string (bs P), .bool false, .slice oa on oc, .int .u32 0, .int .u32 0, .int .u32 0, .int .i64 0, .int .u32 0, .int .u64 at_, .int .u64 at_, .int .u64 at_] 88 (0, 0)) := by rw [hwq]; exact heap_alloc_new wp _
   have sq : World.rangeAt wq w3.heap.size 0 [.slice ra rn rc, .int .u32 u1, .int .u32 kn, .int .u32 nn, .int .i64 u4, .int .u32 u5, .int .u64 u6, .int .u64 u7, .int .u64 at_] ∧ World.rangeAt wq w8.heap.size 0 [.slice oa on oc, .int .u32 0, .int .u32 0, .int .u32 0, .int .i64 0, .int .u32 0, .int .u64 at_, .int .u64 at_, .int .u64 at_] := ⟨range_kept sp.1 hbq (World.block_lt_of_cell? _ _ (sp.1 0 _ rfl)), range_kept sp.2 hbq (World.block_lt_of_cell? _ _ (sp.2 0 _ rfl))⟩
   refine give_in 7 rfl (by kernel_rfl) (by rfl) (.slice (some ⟨wp.heap.size, 0, none⟩) 2 2) wq (by rw [hwq]; go_simp <;> first | rfl | exact ⟨rfl, rfl⟩) sq ?_
   simp only [putS]
   refine tI 11 rfl sq ?_
   simp only [putS]
   have bq : Below w10.heap.size w10 wq := Bp.trans (hbq.mono Bp.size)
   have ht : wq.there (w.heap.size + 2) 0 13 := there_of ((bq.block _ (lt_of_block HK2.out)).trans HK2.out) (by simp)
   have HON : Hid ((#[.int .i64 0, .string (bs P), .slice oa on oc, .int .u32 0, .int .u32 0, .int .u32 0, .int .i64 0, .int .u32 0, .int .u64 at_, .int .u64 at_, .int .u64 at_, .slice none 0 0, .slice none 0 0] : Array Value).all (·.oneCell') = true) := Lib.hid (by simp [Value.oneCell'])
   refine sI 12 rfl 43 (.tmp 9) (.tmp 139) (w.heap.size + 2) 0 #[.int .i64 0, .string (bs P), .slice oa on oc, .int .u32 0, .int .u32 0, .int .u32 0, .int .i64 0, .int .u32 0, .int .u64 at_, .int .u64 at_, .int .u64 at_, .slice none 0 0, .slice none 0 0] ht HSR.out HON.out ⟨range_set sq.1 (fun e => HN3.out.1 e.symm), range_set sq.2 (fun e => HN3.out.2 e.symm)⟩ ?_
   simp only [putS]
   refine wpAnyH_done (by kernel_rfl) ?_ _
   have HQ := Lib.hid (And.intro kq (And.intro bq ht))
   have HPS := Lib.hid Bp.size
   clear kq bq ht sp sq hbq Bp Bp' hwq hS
   go_wp2_with fail
   refine bodyPost_ret (results_tmp_cell_mid rfl _ _ (w.heap.size + 2) 0 [.int .i64 0, .string (bs P), .slice oa on oc, .int .u32 0, .int .u32 0, .int .u32 0, .int .i64 0, .int .u32 0, .int .u64 at_, .int .u64 at_, .int .u64 at_, .slice none 0 0, .slice none 0 0] _ rfl (World.rangeAt_setCells_same _ _ _ _ HQ.out.2.2) Tryz.underlying43 rfl HSR.out) rfl ?_
   have hW : Below w.heap.size w (wq.setCells (w.heap.size + 2) 0 [.int .i64 0, .string (bs P), .slice oa on oc, .int .u32 0, .int .u32 0, .int .u32 0, .int .i64 0, .int .u32 0, .int .u64 at_, .int .u64 at_, .int .u64 at_, .slice none 0 0, .slice none 0 0]) := q_box _ ((H1.out.1.trans (HB10.out.mono H1.out.1.size)).trans (HQ.out.2.1.mono (H1.out.1.trans (HB10.out.mono H1.out.1.size)).size)) (by omega)
   have kW : (wq.setCells (w.heap.size + 2) 0 [.int .i64 0, .string (bs P), .slice oa on oc, .int .u32 0, .int .u32 0, .int .u32 0, .int .i64 0, .int .u32 0, .int .u64 at_, .int .u64 at_, .int .u64 at_, .slice none 0 0, .slice none 0 0]).heap[wp.heap.size]? = some (.cells #[.string (bs (parentL P)), .bool false, .slice ra rn rc, .int .u32 u1, .int .u32 kn, .int .u32 nn, .int .i64 u4, .int .u32 u5, .int .u64 u6, .int .u64 u7, .int .u64 at_, .string (bs P), .bool false, .slice oa on oc, .int .u32 0, .int .u32 0, .int .u32 0, .int .i64 0, .int .u32 0, .int .u64 at_, .int .u64 at_, .int .u64 at_] 88 (0, 0)) := by
    have K : Kept (· = w.heap.size + 2) wq (wq.setCells (w.heap.size + 2) 0 [.int .i64 0, .string (bs P), .slice oa on oc, .int .u32 0, .int .u32 0, .int .u32 0, .int .i64 0, .int .u32 0, .int .u64 at_, .int .u64 at_, .int .u64 at_, .slice none 0 0, .slice none 0 0]) := Kept.setCells (S := (· = w.heap.size + 2)) (p := w.heap.size + 2) rfl _ 0 (Kept.refl _ wq)
    exact (K.block _ (lt_of_block HQ.out.1) (fun e => by
     have e : wp.heap.size = w.heap.size + 2 := e
     have h2 := lt_of_block HK2.out
     have h3 := HPS.out
     omega)).trans HQ.out.1
   have hcu : createU M at_ ⟨ok, op, odata, ov, false, false⟩ = ⟨nd.data, ⟨u1, kn, nn, u4, u5, u6, u7, at_⟩⟩ := by
    unfold createU
    rw [if_neg (show ¬ (false = true) by decide), HPP.out, HPA.out, ← HND.out.2.1]
    unfold upN
    rw [← HND.out.2.2.2, HKN.out]
   have hcx : createX M at_ ⟨ws, wn⟩ ⟨ok, op, odata, ov, false, false⟩ = [⟨parentL P, false, ⟨nd.data, ⟨u1, kn, nn, u4, u5, u6, u7, at_⟩⟩⟩, ⟨P, false, newN odata at_ ⟨ws, wn⟩ false⟩] := by
    unfold createX
    rw [hcu, HPP.out]
   have hWb := HTB.out.2.trans (hW.mono HTB.out.2.size)
   have hr1 := (HND.out.2.2.1.monoB (lo' := lq) HLQ.out.1).below hWb
   have hr2 : Reads (wq.setCells (w.heap.size + 2) 0 [.int .i64 0, .string (bs P), .slice oa on oc, .int .u32 0, .int .u32 0, .int .u32 0, .int .i64 0, .int .u32 0, .int .u64 at_, .int .u64 at_, .int .u64 at_, .slice none 0 0, .slice none 0 0]) lq ⟨oa, on, oc, ⟨0, 0, 0, 0, 0, at_, at_, at_⟩⟩ (newN odata at_ ⟨ws, wn⟩ false) := ⟨rfl, HO.out.1, ((byte_low HO.out.2.1 HLQ.out.2.1).below hWb).mono (fun _ h => h) hWb.size, HO.out.2.2⟩
   refine ⟨_, _, rfl, ?_, ?_, hW⟩
   ·rw [hcx]
    exact q_effs2 (r1 := ⟨parentL P, false, ⟨ra, rn, rc, ⟨u1, kn, nn, u4, u5, u6, u7, at_⟩⟩⟩) (r2 := ⟨P, false, ⟨oa, on, oc, ⟨0, 0, 0, 0, 0, at_, at_, at_⟩⟩⟩) kW (by have := HPS.out; have := (H1.out.1.trans (HB10.out.mono H1.out.1.size)).size; omega) ⟨rfl, rfl, rfl, hr1.len, hr1.data, hr1.nil⟩ ⟨rfl, rfl, hr2⟩
   ·exact ⟨⟨oa, on, oc, ⟨0, 0, 0, 0, 0, at_, at_, at_⟩⟩, none, 0, by rw [HPP.out]; rfl, hr2.mono (fun k h => Or.inl h), StrLo.nil _ _ _⟩
theorem RefAt.q5create {wb : World} (T : RefAt wb Z rb root cnt ao c0 R L) (hbb : Below wb.heap.size wb w) (H : Rel M L) (I : Inv root M) (F : Fit M) (NX : Nice M) (r : RawO) (o : Opl) (who : Sess) (at_ : Int) {lo lq : Nat → Prop} (hz : ∀ k, ¬ Z k → k < wb.heap.size → lq k) (hlo : ∀ k, lo k → k < wb.heap.size → lq k) (hlq : ∀ k, lq k → k < wb.heap.size) (hr : LeafO wb lo r o) (hp : o.path.length ≤ 900) (hu : underB o.path root = true) (x : Int) (hx : createE root M who o = x) :
  Calls Tryz.prog 77 #[.pointer (some ⟨rb, 0, none⟩), r.val, whoV who, .int .u64 at_] w fun e w' => (x = 0 ∧ QEnd lq w 0 (createX M at_ who o) ⟨newPath M o, newN o.data at_ who o.eph, []⟩ e w') ∨ (x ≠ 0 ∧ QEnd lq w x [] noAns e w') := by
 cases hs : o.seq with
 | false => exact T.q5create_0 hbb H I F NX r o who at_ hz hlo hlq hr hp hu hs x hx
 | true => exact T.q5create_1 hbb H I F NX r o who at_ hz hlo hlq hr hp hu hs x hx
end
end Go.Proofs.YtnclkfhdpkkakaaGreatDoor
