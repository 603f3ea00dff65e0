/-
  The reference's one: set. The reference's one: remove; all kinds.
-/
import Derived.Test.YtnclkfhdpkkakaaGreatDoorQ37
namespace Go.Proofs.YtnclkfhdpkkakaaGreatDoor
set_option linter.unusedVariables false
set_option linter.unusedSimpArgs false
open Go Go.RowKit Go.Shelf Go.MapKept Go.ChangeMaps Go.Maps Go.Sort
section
variable {w : World} {Z : Nat → Prop} {rb : Nat} {root : Bytes} {cnt : Int} {ao : Option Addr} {c0 : Nat} {R : List RawA} {M L : List (Bytes × Nd)}
set_option maxRecDepth 100000 in
set_option maxHeartbeats 64000000 in
theorem RefAt.q5one_set {wb : World} (Tb : RefAt wb Z rb root cnt ao c0 R L) (hbb : Below wb.heap.size wb w) (H : Rel M L) (I : Inv root M) (F : Fit M) (NX : Nice M) (hrl : root.length ≤ 1000) (r : RawO) (o : Opl) (who : Sess) (at_ : Int) {lo lq : Nat → Prop} (hz : ∀ k, ¬ Z k → k < wb.heap.size → lq k) (hlo : ∀ k, lo k → k < wb.heap.size → lq k) (hlq : ∀ k, lq k → k < wb.heap.size) (hr : LeafO wb lo r o) (hp : o.path.length ≤ 900) (hk : o.kind = 3) {Post : Ending → World → Prop} (hpost : ∀ e w', QEnd lq w (opE root M who o) (opXs root M at_ who o) (opR root M at_ who o).a e w' → Post e w') :
  Calls Tryz.prog 52 #[.pointer (some ⟨rb, 0, none⟩), r.val, whoV who, .int .u64 at_] w Post := by
 have T := Tb.below hbb
 have HTB := Lib.hid (And.intro Tb hbb)
 have HLQ := Lib.hid (And.intro hz (And.intro hlo hlq))
 clear Tb hbb hz hlo hlq
 obtain ⟨ok, op, oa, on, oc, ov, os, oe, pa, pn, pc⟩ := r
 obtain ⟨okd, opp, odata, over, oseq, oeph⟩ := o
 obtain ⟨ws, wn⟩ := who
 have HR := Lib.hid hr
 obtain ⟨q1, q2, q3, q4, q5, q6, q7, q8⟩ := hr
 dsimp only at q1 q2 q3 q4 q5 q6 q7 q8 hp hk
 subst q1 q2 q3 q4 q5
 subst hk
 have HPOST := Lib.hid hpost
 clear hpost
 unfold RawO.val RawO.cells whoV
 dsimp only
 obtain ⟨w1, hw1, hb1, hs1, k0, k1, k2⟩ := do_boxes w 3 op oa on oc ov os oe pa pn pc ws wn
 have HSO : Hid ((Tryz.prog.info? 26).map (·.size) = some 7) := Lib.hid (by kernel_rfl)
 have HSR : Hid ((Tryz.prog.info? 43).map (·.size) = some 13) := Lib.hid infoReply13
 have HSS : Hid ((Tryz.prog.info? 29).map (·.size) = some 2) := Lib.hid (by kernel_rfl)
 have HSZ : Hid ((Tryz.prog.info? 39).map (·.size) = some 9) := Lib.hid (by kernel_rfl)
 have T1 := T.below hb1
 have hl0 : w.heap.size < w1.heap.size := by omega
 have hl1 : w.heap.size + 1 < w1.heap.size := by omega
 have y0 : ∀ w', Below w1.heap.size w1 w' → w'.cell? ⟨w.heap.size, 0, none⟩ = some (.int .u8 3) := fun w' hb => (hb.cell (p := ⟨w.heap.size, 0, none⟩) hl0).trans (cell_of_row _ _ 0 _ 26 (0, 0) k0)
 have y1 : ∀ w', Below w1.heap.size w1 w' → w'.cell? ⟨w.heap.size, 1, none⟩ = some (.string (bs op)) := fun w' hb => (hb.cell (p := ⟨w.heap.size, 1, none⟩) hl0).trans (cell_of_row _ _ 1 _ 26 (0, 0) k0)
 have y2 : ∀ w', Below w1.heap.size w1 w' → w'.cell? ⟨w.heap.size, 2, none⟩ = some (.slice oa on oc) := fun w' hb => (hb.cell (p := ⟨w.heap.size, 2, none⟩) hl0).trans (cell_of_row _ _ 2 _ 26 (0, 0) k0)
 have y3 : ∀ w', Below w1.heap.size w1 w' → w'.cell? ⟨w.heap.size, 3, none⟩ = some (.int .i64 ov) := fun w' hb => (hb.cell (p := ⟨w.heap.size, 3, none⟩) hl0).trans (cell_of_row _ _ 3 _ 26 (0, 0) k0)
 have rr0 : ∀ w', Below w1.heap.size w1 w' → w'.cell? ⟨rb, 0, none⟩ = some (.string (bs root)) := fun w' hb => (T1.below hb).c0
 have HY := Lib.hid (And.intro y0 (And.intro y1 (And.intro y2 (And.intro y3 rr0))))
 have hRl : R.length ≤ 1000 := by
  have h1 := T.like.1
  have h2 := H.len I.nodup
  have h3 := F.len
  omega
 have HD := Lib.hid (And.intro T (And.intro T1 (And.intro H (And.intro I (And.intro F (And.intro NX hRl))))))
 have HO := Lib.hid (And.intro q6 (And.intro q7 q8))
 have HP := Lib.hid hp
 have H1 := Lib.hid (And.intro hb1 (And.intro hs1 (And.intro k0 (And.intro k1 (And.intro k2 hw1)))))
 have HL := Lib.hid (And.intro hl0 hl1)
 have KU := Lib.hid (later_refUnder w1 op root (by omega) hrl)
 obtain ⟨tu, htu⟩ : ∃ tu, tu = underB op root := ⟨_, rfl⟩
 rw [← htu] at KU
 have HTU := Lib.hid htu
 clear T T1 H I F NX hRl q6 q7 q8 hp hb1 hs1 k0 k1 k2 hw1 hl0 hl1 htu y0 y2 y3
 go_enter Tryz.func52, Tryz.ntmps52
 go_wp2_with fail
 rw [← H1.out.2.2.2.2.2]
 refine wp_region_held_drew (S := Below w1.heap.size w1) (by kernel_rfl) (Below.refl _ w1).drew (fun hS => ?_)
 refine tI 0 rfl hS ?_
 refine tJ 1 rfl hS y1 ?_
 refine tI 2 rfl hS ?_
 refine tI 3 rfl hS ?_
 simp only [putS]
 refine tI 4 rfl hS ?_
 refine tJ 5 rfl hS rr0 ?_
 simp only [putS]
 refine cI 6 rfl ?_
 refine (KU.out _ hS).mono ?_
 rintro e w2 ⟨rfl, B2⟩
 refine ⟨B2, ?_⟩
 try dsimp only
 simp only [putS]
 refine tI 7 rfl B2 ?_
 simp only [putS]
 refine wpAnyH_done (by kernel_rfl) ?_ _
 have HB2 := Lib.hid B2
 clear hS B2 y1 rr0
 have z0 := HY.out.1 _ HB2.out
 cases tu
 case false =>
  go_wp2_with fail
  refine (q5no_any 30 _).mono ?_
  rintro e wN ⟨rfl, BN⟩
  have hbN : Below w1.heap.size w1 wN := HB2.out.trans (BN.mono HB2.out.size)
  have HTN : Hid (wN.there (w.heap.size + 2) 0 13) := Lib.hid (there_of ((hbN.block _ (by have := H1.out.2.1; omega)).trans H1.out.2.2.2.2.1) (by simp))
  have HBN : Hid (Below w.heap.size w wN) := Lib.hid (H1.out.1.trans (hbN.mono H1.out.1.size))
  have HON : Hid ((#[.int .i64 30, .string ⟨#[]⟩, .slice none 0 0, .int .u32 0, .int .u32 0, .int .u32 0, .int .i64 0, .int .u32 0, .int .u64 0, .int .u64 0, .int .u64 0, .slice none 0 0, .slice none 0 0] : Array Value).all (·.oneCell') = true) := Lib.hid (by simp [Value.oneCell'])
  clear BN hbN
  go_wp2_with (refine wpList_store_mid rfl 43 (.tmp 9) (.tmp 24) rfl (w.heap.size + 2) 0 #[.int .i64 30, .string ⟨#[]⟩, .slice none 0 0, .int .u32 0, .int .u32 0, .int .u32 0, .int .i64 0, .int .u32 0, .int .u64 0, .int .u64 0, .int .u64 0, .slice none 0 0, .slice none 0 0] rfl rfl HTN.out HSR.out HON.out ?_)
  refine bodyPost_ret (results_tmp_cell_mid rfl _ _ (w.heap.size + 2) 0 [.int .i64 30, .string ⟨#[]⟩, .slice none 0 0, .int .u32 0, .int .u32 0, .int .u32 0, .int .i64 0, .int .u32 0, .int .u64 0, .int .u64 0, .int .u64 0, .slice none 0 0, .slice none 0 0] _ rfl (World.rangeAt_setCells_same _ _ _ _ HTN.out) Tryz.underlying43 rfl HSR.out) rfl ?_
  have e3 : opE root M ⟨ws, wn⟩ ⟨3, op, odata, ov, os, oe⟩ = 30 := by
   unfold opE
   rw [if_pos HTU.out.symm]
  exact HPOST.out _ _ (q_err e3 (by decide) (q_no 30 HBN.out (by omega)))
 case true =>
  have HU : Hid (underB op root = true) := Lib.hid HTU.out.symm
  go_wp2_with fail
  have y0 := HY.out.1
  refine wp_region_held_drew (S := Below w1.heap.size w1) (by kernel_rfl) HB2.out.drew (fun hS => ?_)
  refine tI 0 rfl hS ?_
  refine tJ 1 rfl hS y0 ?_
  refine tI 2 rfl hS ?_
  refine tI 3 rfl hS ?_
  simp only [putS]
  refine tN 4 rfl hS ?_
  refine tN 5 rfl hS ?_
  refine tN 6 rfl hS ?_
  refine tN 7 rfl hS ?_
  simp only [putS]
  refine tN 8 rfl hS ?_
  refine tN 9 rfl hS ?_
  refine tN 10 rfl hS ?_
  refine tI 11 rfl hS ?_
  simp only [putS]
  refine wpAnyH_done (by kernel_rfl) ?_ _
  clear y0
  have HB3 := Lib.hid hS
  clear hS
  have z1 := HY.out.2.1 _ HB3.out
  go_wp2_with fail
  refine (HTB.out.1.q5node (HTB.out.2.trans ((H1.out.1.trans (HB3.out.mono H1.out.1.size)).mono HTB.out.2.size)) HD.out.2.2.1 HD.out.2.2.2.2.2.2 op).mono ?_
  rintro e w4 ⟨⟨ra, rn, rc, ⟨u1, u2, u3, u4, u5, u6, u7, u8⟩⟩, rfl, hrd, B4'⟩
  have HB4 := Lib.hid (HB3.out.trans (B4'.mono HB3.out.size))
  unfold Raw.cells Nums.cells
  dsimp only
  obtain ⟨gi, hgi⟩ : ∃ gi, gi = (getA op M).isSome := ⟨_, rfl⟩
  rw [← hgi]
  obtain ⟨nd, hnd⟩ : ∃ nd, nd = (getA op M).getD zNd := ⟨_, rfl⟩
  rw [← hnd] at hrd
  have hnum : (⟨u1, u2, u3, u4, u5, u6, u7, u8⟩ : Nums) = nd.num := hrd.num
  have HND := Lib.hid (And.intro hgi (And.intro hnd (And.intro hrd hnum)))
  obtain ⟨v4, hv4⟩ : ∃ v4, v4 = w4.alloc (.cells #[.slice ra rn rc, .int .u32 u1, .int .u32 u2, .int .u32 u3, .int .i64 u4, .int .u32 u5, .int .u64 u6, .int .u64 u7, .int .u64 u8] 39) := ⟨_, rfl⟩
  have hbv : Below w4.heap.size w4 v4 := by rw [hv4]; exact belowA (Below.refl _ w4) _
  have k4_ : v4.heap[w4.heap.size]? = some (.cells #[.slice ra rn rc, .int .u32 u1, .int .u32 u2, .int .u32 u3, .int .i64 u4, .int .u32 u5, .int .u64 u6, .int .u64 u7, .int .u64 u8] 39 (0, 0)) := by rw [hv4]; exact heap_alloc_new w4 _
  have hb4 : Below w1.heap.size w1 v4 := HB4.out.trans (hbv.mono HB4.out.size)
  have H4 := Lib.hid (And.intro hbv (And.intro k4_ (And.intro hb4 hv4)))
  clear hbv k4_ hb4 hv4 hgi hnd hrd hnum B4' z0 z1
  go_upto_region 8 with fail
  rw [← H4.out.2.2.2]
  cases gi
  case false =>
   have HNO : Hid (getA op M = none) := Lib.hid (by
    have h := HND.out.1
    cases hg : getA op M with
    | none => rfl
    | some d => rw [hg] at h; cases h)
   go_wp2_with fail
   refine (q5no_any 31 _).mono ?_
   rintro e wN ⟨rfl, BN⟩
   have hbN : Below w1.heap.size w1 wN := H4.out.2.2.1.trans (BN.mono H4.out.2.2.1.size)
   have HTN : Hid (wN.there (w.heap.size + 2) 0 13) := Lib.hid (there_of ((hbN.block _ (by have := H1.out.2.1; omega)).trans H1.out.2.2.2.2.1) (by simp))
   have HBN : Hid (Below w.heap.size w wN) := Lib.hid (H1.out.1.trans (hbN.mono H1.out.1.size))
   have HON : Hid ((#[.int .i64 31, .string ⟨#[]⟩, .slice none 0 0, .int .u32 0, .int .u32 0, .int .u32 0, .int .i64 0, .int .u32 0, .int .u64 0, .int .u64 0, .int .u64 0, .slice none 0 0, .slice none 0 0] : Array Value).all (·.oneCell') = true) := Lib.hid (by simp [Value.oneCell'])
   clear BN hbN
   go_wp2_with (refine wpList_store_mid rfl 43 (.tmp 9) (.tmp 61) rfl (w.heap.size + 2) 0 #[.int .i64 31, .string ⟨#[]⟩, .slice none 0 0, .int .u32 0, .int .u32 0, .int .u32 0, .int .i64 0, .int .u32 0, .int .u64 0, .int .u64 0, .int .u64 0, .slice none 0 0, .slice none 0 0] rfl rfl HTN.out HSR.out HON.out ?_)
   refine bodyPost_ret (results_tmp_cell_mid rfl _ _ (w.heap.size + 2) 0 [.int .i64 31, .string ⟨#[]⟩, .slice none 0 0, .int .u32 0, .int .u32 0, .int .u32 0, .int .i64 0, .int .u32 0, .int .u64 0, .int .u64 0, .int .u64 0, .slice none 0 0, .slice none 0 0] _ rfl (World.rangeAt_setCells_same _ _ _ _ HTN.out) Tryz.underlying43 rfl HSR.out) rfl ?_
   have e3 : opE root M ⟨ws, wn⟩ ⟨3, op, odata, ov, os, oe⟩ = 31 := by
    exact q_none HU.out ⟨show (2 : Int) ≤ 3 by decide, show (3 : Int) ≤ 6 by decide⟩ (fun h => absurd h (show ¬ (3 : Int) = 2 by decide)) HNO.out
   exact HPOST.out _ _ (q_err e3 (by decide) (q_no 31 HBN.out (by omega)))
  case true =>
  have HGS : Hid (getA op M = some nd) := Lib.hid (by
   have h := HND.out.1
   have h2 := HND.out.2.1
   cases hg : getA op M with
   | none => rw [hg] at h; cases h
   | some d => rw [hg] at h2; rw [h2]; rfl)
  have z0 := HY.out.1 _ H4.out.2.2.1
  have z3 := HY.out.2.2.2.1 _ H4.out.2.2.1
  have n1 := (nine H4.out.2.1).2.1
  obtain ⟨kv, hkv⟩ : ∃ kv, kv = decide (0 ≤ ov) := ⟨_, rfl⟩
  obtain ⟨kw, hkw⟩ : ∃ kw, kw = (ov != IntKind.i64.wrap u1) := ⟨_, rfl⟩
  have tv : decide (0 ≤ ov) = kv := hkv.symm
  have tw : (ov != IntKind.i64.wrap u1) = kw := hkw.symm
  have tw2 : (ov != wrap64 u1) = kw := by rw [hkw, IntWalk.i64_left]
  obtain ⟨vb, hvb⟩ : ∃ vb, vb = (true && kv && kw) := ⟨_, rfl⟩
  have HVB : Hid (vb = true ↔ (true = true ∧ 0 ≤ ov ∧ ov ≠ IntKind.i64.wrap nd.num.ver)) := Lib.hid (by
   have hu1 : nd.num.ver = u1 := by rw [← HND.out.2.2.2]
   rw [hvb, hkv, hkw, hu1]
   simp [and_assoc])
  have HVE := Lib.hid hvb
  clear hkv hkw hvb
  go_upto_region 10 with fail
  go_cut [77] (fun v wc => v = .bool vb ∧ v4 = wc)
  case first =>
   skip
   all_goals
    cases kv
    all_goals
     go_wp2_with fail
     go_meet
     case rel => exact ⟨by rw [HVE.out]; first | rfl | simp, rfl⟩
  case rest =>
  obtain ⟨rfl, rfl⟩ := hcut
  clear tv tw tw2 z3 n1
  cases vb
  case true =>
   go_wp2_with fail
   refine (q5no_any 35 _).mono ?_
   rintro e wN ⟨rfl, BN⟩
   have hbN : Below w1.heap.size w1 wN := H4.out.2.2.1.trans (BN.mono H4.out.2.2.1.size)
   have HTN : Hid (wN.there (w.heap.size + 2) 0 13) := Lib.hid (there_of ((hbN.block _ (by have := H1.out.2.1; omega)).trans H1.out.2.2.2.2.1) (by simp))
   have HBN : Hid (Below w.heap.size w wN) := Lib.hid (H1.out.1.trans (hbN.mono H1.out.1.size))
   have HON : Hid ((#[.int .i64 35, .string ⟨#[]⟩, .slice none 0 0, .int .u32 0, .int .u32 0, .int .u32 0, .int .i64 0, .int .u32 0, .int .u64 0, .int .u64 0, .int .u64 0, .slice none 0 0, .slice none 0 0] : Array Value).all (·.oneCell') = true) := Lib.hid (by simp [Value.oneCell'])
   clear BN hbN
   go_wp2_with (refine wpList_store_mid rfl 43 (.tmp 9) (.tmp 80) rfl (w.heap.size + 2) 0 #[.int .i64 35, .string ⟨#[]⟩, .slice none 0 0, .int .u32 0, .int .u32 0, .int .u32 0, .int .i64 0, .int .u32 0, .int .u64 0, .int .u64 0, .int .u64 0, .slice none 0 0, .slice none 0 0] rfl rfl HTN.out HSR.out HON.out ?_)
   refine bodyPost_ret (results_tmp_cell_mid rfl _ _ (w.heap.size + 2) 0 [.int .i64 35, .string ⟨#[]⟩, .slice none 0 0, .int .u32 0, .int .u32 0, .int .u32 0, .int .i64 0, .int .u32 0, .int .u64 0, .int .u64 0, .int .u64 0, .slice none 0 0, .slice none 0 0] _ rfl (World.rangeAt_setCells_same _ _ _ _ HTN.out) Tryz.underlying43 rfl HSR.out) rfl ?_
   have e3 : opE root M ⟨ws, wn⟩ ⟨3, op, odata, ov, os, oe⟩ = 35 := by
    have h := HVB.out.1 (by simp)
    exact q_ver HU.out (Or.inl rfl) HGS.out h.2
   exact HPOST.out _ _ (q_err e3 (by decide) (q_no 35 HBN.out (by omega)))
  case false =>
  have HV0 : Hid (¬ (true = true ∧ 0 ≤ ov ∧ ov ≠ IntKind.i64.wrap nd.num.ver)) := Lib.hid (fun h => by have := HVB.out.2 h; cases this)
  have z2 := HY.out.2.2.1 _ H4.out.2.2.1
  have n0 := (nine H4.out.2.1).1
  have f0 := frozen0 H4.out.2.1 0
  obtain ⟨w5, hw5⟩ : ∃ w', w' = v4.setCell ⟨w4.heap.size, 0, none⟩ (.slice oa on oc) := ⟨_, rfl⟩
  have k5 : w5.heap[w4.heap.size]? = some (.cells #[.slice oa on oc, .int .u32 u1, .int .u32 u2, .int .u32 u3, .int .i64 u4, .int .u32 u5, .int .u64 u6, .int .u64 u7, .int .u64 u8] 39 (0, 0)) := by rw [hw5]; simp [World.setCell, Array.getElem?_modify, H4.out.2.1]
  have K5 : Kept (· = w4.heap.size) v4 w5 := by rw [hw5]; exact Kept.setCell (S := (· = w4.heap.size)) (p := ⟨w4.heap.size, 0, none⟩) (Kept.refl _ v4) rfl _
  have H5 := Lib.hid (And.intro k5 (And.intro K5 hw5))
  clear k5 K5 hw5
  go_upto_region 22 with fail
  rw [← H5.out.2.2]
  clear z0 z2 n0 f0
  have n1 := (nine H5.out.1).2.1
  have f1 := frozen0 H5.out.1 1
  obtain ⟨vn, hvn⟩ : ∃ vn, vn = inc32 u1 := ⟨_, rfl⟩
  have tk : ∀ _ : True, IntKind.u32.wrap (u1 + 1) = vn := fun _ => hvn.symm
  have HVN := Lib.hid hvn
  obtain ⟨w6, hw6⟩ : ∃ w', w' = w5.setCell ⟨w4.heap.size, 1, none⟩ (.int .u32 vn) := ⟨_, rfl⟩
  have k6 : w6.heap[w4.heap.size]? = some (.cells #[.slice oa on oc, .int .u32 vn, .int .u32 u2, .int .u32 u3, .int .i64 u4, .int .u32 u5, .int .u64 u6, .int .u64 u7, .int .u64 u8] 39 (0, 0)) := by rw [hw6]; simp [World.setCell, Array.getElem?_modify, H5.out.1]
  have K6 : Kept (· = w4.heap.size) v4 w6 := by rw [hw6]; exact Kept.setCell (S := (· = w4.heap.size)) (p := ⟨w4.heap.size, 1, none⟩) H5.out.2.1 rfl _
  have H6 := Lib.hid (And.intro k6 (And.intro K6 hw6))
  clear k6 K6 hw6 hvn
  go_upto_region 23 with fail
  rw [← H6.out.2.2]
  clear n1 f1
  have n7 := (nine H6.out.1).2.2.2.2.2.2.2.1
  have f7 := frozen0 H6.out.1 7
  obtain ⟨w7, hw7⟩ : ∃ w', w' = w6.setCell ⟨w4.heap.size, 7, none⟩ (.int .u64 at_) := ⟨_, rfl⟩
  have k7 : w7.heap[w4.heap.size]? = some (.cells #[.slice oa on oc, .int .u32 vn, .int .u32 u2, .int .u32 u3, .int .i64 u4, .int .u32 u5, .int .u64 u6, .int .u64 at_, .int .u64 u8] 39 (0, 0)) := by rw [hw7]; simp [World.setCell, Array.getElem?_modify, H6.out.1]
  have K7 : Kept (· = w4.heap.size) v4 w7 := by rw [hw7]; exact Kept.setCell (S := (· = w4.heap.size)) (p := ⟨w4.heap.size, 7, none⟩) H6.out.2.1 rfl _
  have H7 := Lib.hid (And.intro k7 (And.intro K7 hw7))
  clear k7 K7 hw7
  go_upto_region 24 with fail
  rw [← H7.out.2.2]
  clear n7 f7
  have B7 : Below w1.heap.size w1 w7 := H4.out.2.2.1.trans (H7.out.2.1.below H4.out.2.2.1.size (fun j e => by have e : j = w4.heap.size := e; have := HB4.out.size; omega))
  have hn4 : w.heap.size ≠ w.heap.size + 2 ∧ w4.heap.size ≠ w.heap.size + 2 := by have := HB4.out.size; have := H1.out.2.1; omega
  have kop := (B7.block _ HL.out.1).trans H1.out.2.2.1
  have hS0 : World.rangeAt w7.drew w.heap.size 0 [.int .u8 3, .string (bs op), .slice oa on oc, .int .i64 ov, .bool os, .bool oe, .slice pa pn pc] ∧ World.rangeAt w7.drew w4.heap.size 0 [.slice oa on oc, .int .u32 vn, .int .u32 u2, .int .u32 u3, .int .i64 u4, .int .u32 u5, .int .u64 u6, .int .u64 at_, .int .u64 u8] := ⟨range_blk kop, range_blk H7.out.1⟩
  have HN4 := Lib.hid hn4
  have HB7 := Lib.hid B7
  have yy : ∀ w', World.rangeAt w' w.heap.size 0 [.int .u8 3, .string (bs op), .slice oa on oc, .int .i64 ov, .bool os, .bool oe, .slice pa pn pc] ∧ World.rangeAt w' w4.heap.size 0 [.slice oa on oc, .int .u32 vn, .int .u32 u2, .int .u32 u3, .int .i64 u4, .int .u32 u5, .int .u64 u6, .int .u64 at_, .int .u64 u8] → w'.cell? ⟨w.heap.size, 1, none⟩ = some (.string (bs op)) := fun w' h => h.1 1 _ rfl
  clear kop hn4 B7
  refine wp_region_held_drew (S := fun w' => World.rangeAt w' w.heap.size 0 [.int .u8 3, .string (bs op), .slice oa on oc, .int .i64 ov, .bool os, .bool oe, .slice pa pn pc] ∧ World.rangeAt w' w4.heap.size 0 [.slice oa on oc, .int .u32 vn, .int .u32 u2, .int .u32 u3, .int .i64 u4, .int .u32 u5, .int .u64 u6, .int .u64 at_, .int .u64 u8]) (by kernel_rfl) hS0 (fun hS => ?_)
  refine tI 0 rfl hS ?_
  refine tJ 1 rfl hS yy ?_
  refine tL 2 rfl hS 39 (.tmp 10) w4.heap.size 0 [.slice oa on oc, .int .u32 vn, .int .u32 u2, .int .u32 u3, .int .i64 u4, .int .u32 u5, .int .u64 u6, .int .u64 at_, .int .u64 u8] (fun _ h => h.2) Tryz.underlying39 HSZ.out ?_
  refine tI 3 rfl hS ?_
  simp only [putS]
  refine tI 5 rfl hS ?_
  refine tJ 6 rfl hS yy ?_
  refine tL 7 rfl hS 39 (.tmp 10) w4.heap.size 0 [.slice oa on oc, .int .u32 vn, .int .u32 u2, .int .u32 u3, .int .i64 u4, .int .u32 u5, .int .u64 u6, .int .u64 at_, .int .u64 u8] (fun _ h => h.2) Tryz.underlying39 HSZ.out ?_
  refine tI 8 rfl hS ?_
  simp only [putS]
  obtain ⟨wq, hwq⟩ : ∃ wq, wq = w7.drew.alloc (.cells #[.string (bs op), .bool false, .slice oa on oc, .int .u32 vn, .int .u32 u2, .int .u32 u3, .int .i64 u4, .int .u32 u5, .int .u64 u6, .int .u64 at_, .int .u64 u8] 88) := ⟨_, rfl⟩
  have hbq : Below w7.heap.size w7 wq := by rw [hwq]; exact belowA (Below.refl _ w7).drew _
  have hbd : Below w7.drew.heap.size w7.drew wq := by rw [hwq]; exact belowA (Below.refl _ _) _
  have kq : wq.heap[w7.heap.size]? = some (.cells #[.string (bs op), .bool false, .slice oa on oc, .int .u32 vn, .int .u32 u2, .int .u32 u3, .int .i64 u4, .int .u32 u5, .int .u64 u6, .int .u64 at_, .int .u64 u8] 88 (0, 0)) := by rw [hwq]; exact heap_alloc_new w7.drew _
  have sq : World.rangeAt wq w.heap.size 0 [.int .u8 3, .string (bs op), .slice oa on oc, .int .i64 ov, .bool os, .bool oe, .slice pa pn pc] ∧ World.rangeAt wq w4.heap.size 0 [.slice oa on oc, .int .u32 vn, .int .u32 u2, .int .u32 u3, .int .i64 u4, .int .u32 u5, .int .u64 u6, .int .u64 at_, .int .u64 u8] := ⟨range_kept hS.1 hbd (World.block_lt_of_cell? _ _ (hS.1 0 _ rfl)), range_kept hS.2 hbd (World.block_lt_of_cell? _ _ (hS.2 0 _ rfl))⟩
  refine give_in 4 rfl (by kernel_rfl) (by rfl) (.slice (some ⟨w7.heap.size, 0, none⟩) 1 1) wq (by rw [hwq]; go_simp <;> first | rfl | exact ⟨rfl, rfl⟩) sq ?_
  simp only [putS]
  refine tI 9 rfl sq ?_
  simp only [putS]
  have bq : Below w1.heap.size w1 wq := HB7.out.trans (hbq.mono HB7.out.size)
  have HTH : Hid (wq.there (w.heap.size + 2) 0 13) := Lib.hid (there_of ((bq.block _ (by have := H1.out.2.1; omega)).trans H1.out.2.2.2.2.1) (by simp))
  have HON : Hid ((#[.int .i64 0, .string (bs op), .slice oa on oc, .int .u32 vn, .int .u32 u2, .int .u32 u3, .int .i64 u4, .int .u32 u5, .int .u64 u6, .int .u64 at_, .int .u64 u8, .slice none 0 0, .slice none 0 0] : Array Value).all (·.oneCell') = true) := Lib.hid (by simp [Value.oneCell'])
  refine sI 10 rfl 43 (.tmp 9) (.tmp 139) (w.heap.size + 2) 0 #[.int .i64 0, .string (bs op), .slice oa on oc, .int .u32 vn, .int .u32 u2, .int .u32 u3, .int .i64 u4, .int .u32 u5, .int .u64 u6, .int .u64 at_, .int .u64 u8, .slice none 0 0, .slice none 0 0] HTH.out HSR.out HON.out ⟨range_set sq.1 (fun e => HN4.out.1 e), range_set sq.2 (fun e => HN4.out.2 e)⟩ ?_
  simp only [putS]
  refine wpAnyH_done (by kernel_rfl) ?_ _
  have HQ := Lib.hid (And.intro kq bq)
  clear hS hS0 yy sq hbq hbd kq bq hwq
  go_wp2_with fail
  refine bodyPost_ret (results_tmp_cell_mid rfl _ _ (w.heap.size + 2) 0 [.int .i64 0, .string (bs op), .slice oa on oc, .int .u32 vn, .int .u32 u2, .int .u32 u3, .int .i64 u4, .int .u32 u5, .int .u64 u6, .int .u64 at_, .int .u64 u8, .slice none 0 0, .slice none 0 0] _ rfl (World.rangeAt_setCells_same _ _ _ _ HTH.out) Tryz.underlying43 rfl HSR.out) rfl ?_
  refine HPOST.out _ _ ?_
  have hW : Below w.heap.size w (wq.setCells (w.heap.size + 2) 0 [.int .i64 0, .string (bs op), .slice oa on oc, .int .u32 vn, .int .u32 u2, .int .u32 u3, .int .i64 u4, .int .u32 u5, .int .u64 u6, .int .u64 at_, .int .u64 u8, .slice none 0 0, .slice none 0 0]) := q_box _ (H1.out.1.trans (HQ.out.2.mono H1.out.1.size)) (by omega)
  have K9 : Kept (· = w.heap.size + 2) wq (wq.setCells (w.heap.size + 2) 0 [.int .i64 0, .string (bs op), .slice oa on oc, .int .u32 vn, .int .u32 u2, .int .u32 u3, .int .i64 u4, .int .u32 u5, .int .u64 u6, .int .u64 at_, .int .u64 u8, .slice none 0 0, .slice none 0 0]) := Kept.setCells (S := (· = w.heap.size + 2)) (p := w.heap.size + 2) rfl _ 0 (Kept.refl _ wq)
  have hs7 := HB7.out.size
  have hs1 := H1.out.2.1
  have kW := (K9.block w7.heap.size (lt_of_block HQ.out.1) (fun e => by have e : w7.heap.size = w.heap.size + 2 := e; omega)).trans HQ.out.1
  obtain ⟨g1, g2, g3⟩ := q_set (at_ := at_) (who := ⟨ws, wn⟩) (o := ⟨3, op, odata, ov, os, oe⟩) HU.out rfl HGS.out (fun h => HV0.out ⟨by trivial, h⟩)
  have hsn : setN nd odata at_ = ⟨odata, ⟨vn, u2, u3, u4, u5, u6, at_, u8⟩⟩ := by
   unfold setN
   rw [← HND.out.2.2.2, HVN.out]
  rw [g1, g2, g3]
  dsimp only
  rw [hsn]
  have hWb := HTB.out.2.trans (hW.mono HTB.out.2.size)
  have hr2 : Reads (wq.setCells (w.heap.size + 2) 0 [.int .i64 0, .string (bs op), .slice oa on oc, .int .u32 vn, .int .u32 u2, .int .u32 u3, .int .i64 u4, .int .u32 u5, .int .u64 u6, .int .u64 at_, .int .u64 u8, .slice none 0 0, .slice none 0 0]) lq ⟨oa, on, oc, ⟨vn, u2, u3, u4, u5, u6, at_, u8⟩⟩ ⟨odata, ⟨vn, u2, u3, u4, u5, u6, at_, u8⟩⟩ := ⟨rfl, HO.out.1, ((byte_low HO.out.2.1 HLQ.out.2.1).below hWb).mono (fun _ h => h) hWb.size, HO.out.2.2⟩
  exact ⟨_, _, rfl, q_effs1 (r1 := ⟨op, false, ⟨oa, on, oc, ⟨vn, u2, u3, u4, u5, u6, at_, u8⟩⟩⟩) kW (by omega) ⟨rfl, rfl, hr2⟩, ⟨⟨oa, on, oc, ⟨vn, u2, u3, u4, u5, u6, at_, u8⟩⟩, none, 0, rfl, hr2.mono (fun k h => Or.inl h), StrLo.nil _ _ _⟩, hW⟩
end
end Go.Proofs.YtnclkfhdpkkakaaGreatDoor
namespace Go.Proofs.YtnclkfhdpkkakaaGreatDoor
set_option linter.unusedVariables false
set_option linter.unusedSimpArgs false
open Go Go.RowKit Go.Shelf Go.MapKept Go.ChangeMaps Go.Maps Go.Sort
theorem q_kd33 {root : Bytes} {M : List (Bytes × Nd)} {who : Sess} {o : Opl} {d : Nd} (hu : underB o.path root = true) (hk : o.kind = 2) (hr : o.path ≠ root) (hg : getA o.path M = some d) (h : ¬ (0 ≤ o.ver ∧ o.ver ≠ IntKind.i64.wrap d.num.ver)) (hkd : 0 < (kidsS root M o.path).length) : opE root M who o = 33 := by
 rw [opE_is hu, if_neg (by omega), if_pos hk]
 unfold removeE
 rw [if_neg hr, if_neg (by rw [q_v0 hg h]; simp), if_pos hkd]
theorem q_rem {root : Bytes} {M : List (Bytes × Nd)} {at_ : Int} {who : Sess} {o : Opl} {d : Nd} (hu : underB o.path root = true) (hk : o.kind = 2) (hr : o.path ≠ root) (hg : getA o.path M = some d) (h : ¬ (0 ≤ o.ver ∧ o.ver ≠ IntKind.i64.wrap d.num.ver)) (hkd : ¬ 0 < (kidsS root M o.path).length) : opE root M who o = 0 ∧ opXs root M at_ who o = [⟨o.path, true, zNd⟩, ⟨parentL o.path, false, upN ((getA (parentL o.path) M).getD zNd) at_⟩] ∧ (opR root M at_ who o).a = ⟨o.path, zNd, []⟩ := by
 have hE : opE root M who o = 0 := by
  rw [opE_is hu, if_neg (by omega), if_pos hk]
  unfold removeE
  rw [if_neg hr, if_neg (by rw [q_v0 hg h]; simp), if_neg hkd]
 refine ⟨hE, ?_, ?_⟩
 ·unfold opXs opX
  rw [if_neg (by rw [hE]; simp), if_neg (by omega), if_pos hk]
  rfl
 ·unfold opR opA
  rw [if_neg (by rw [hE]; simp), if_neg (by omega), if_pos hk]
section
variable {w : World} {Z : Nat → Prop} {rb : Nat} {root : Bytes} {cnt : Int} {ao : Option Addr} {c0 : Nat} {R : List RawA} {M L : List (Bytes × Nd)}
set_option maxRecDepth 100000 in
set_option maxHeartbeats 64000000 in
theorem RefAt.q5one_remove {wb : World} (Tb : RefAt wb Z rb root cnt ao c0 R L) (hbb : Below wb.heap.size wb w) (H : Rel M L) (I : Inv root M) (F : Fit M) (NX : Nice M) (hrl : root.length ≤ 1000) (r : RawO) (o : Opl) (who : Sess) (at_ : Int) {lo lq : Nat → Prop} (hz : ∀ k, ¬ Z k → k < wb.heap.size → lq k) (hlo : ∀ k, lo k → k < wb.heap.size → lq k) (hlq : ∀ k, lq k → k < wb.heap.size) (hr : LeafO wb lo r o) (hp : o.path.length ≤ 900) (hk : o.kind = 2) {Post : Ending → World → Prop} (hpost : ∀ e w', QEnd lq w (opE root M who o) (opXs root M at_ who o) (opR root M at_ who o).a e w' → Post e w') :
  Calls Tryz.prog 52 #[.pointer (some ⟨rb, 0, none⟩), r.val, whoV who, .int .u64 at_] w Post := by
 have T := Tb.below hbb
 have HTB := Lib.hid (And.intro Tb hbb)
 have HLQ := Lib.hid (And.intro hz (And.intro hlo hlq))
 clear Tb hbb hz hlo hlq
 obtain ⟨ok, op, oa, on, oc, ov, os, oe, pa, pn, pc⟩ := r
 obtain ⟨okd, opp, odata, over, oseq, oeph⟩ := o
 obtain ⟨ws, wn⟩ := who
 have HR := Lib.hid hr
 obtain ⟨q1, q2, q3, q4, q5, q6, q7, q8⟩ := hr
 dsimp only at q1 q2 q3 q4 q5 q6 q7 q8 hp hk
 subst q1 q2 q3 q4 q5
 subst hk
 have HPOST := Lib.hid hpost
 clear hpost
 unfold RawO.val RawO.cells whoV
 dsimp only
 obtain ⟨w1, hw1, hb1, hs1, k0, k1, k2⟩ := do_boxes w 2 op oa on oc ov os oe pa pn pc ws wn
 have HSO : Hid ((Tryz.prog.info? 26).map (·.size) = some 7) := Lib.hid (by kernel_rfl)
 have HSR : Hid ((Tryz.prog.info? 43).map (·.size) = some 13) := Lib.hid infoReply13
 have HSS : Hid ((Tryz.prog.info? 29).map (·.size) = some 2) := Lib.hid (by kernel_rfl)
 have HSZ : Hid ((Tryz.prog.info? 39).map (·.size) = some 9) := Lib.hid (by kernel_rfl)
 have T1 := T.below hb1
 have hl0 : w.heap.size < w1.heap.size := by omega
 have hl1 : w.heap.size + 1 < w1.heap.size := by omega
 have y0 : ∀ w', Below w1.heap.size w1 w' → w'.cell? ⟨w.heap.size, 0, none⟩ = some (.int .u8 2) := fun w' hb => (hb.cell (p := ⟨w.heap.size, 0, none⟩) hl0).trans (cell_of_row _ _ 0 _ 26 (0, 0) k0)
 have y1 : ∀ w', Below w1.heap.size w1 w' → w'.cell? ⟨w.heap.size, 1, none⟩ = some (.string (bs op)) := fun w' hb => (hb.cell (p := ⟨w.heap.size, 1, none⟩) hl0).trans (cell_of_row _ _ 1 _ 26 (0, 0) k0)
 have y2 : ∀ w', Below w1.heap.size w1 w' → w'.cell? ⟨w.heap.size, 2, none⟩ = some (.slice oa on oc) := fun w' hb => (hb.cell (p := ⟨w.heap.size, 2, none⟩) hl0).trans (cell_of_row _ _ 2 _ 26 (0, 0) k0)
 have y3 : ∀ w', Below w1.heap.size w1 w' → w'.cell? ⟨w.heap.size, 3, none⟩ = some (.int .i64 ov) := fun w' hb => (hb.cell (p := ⟨w.heap.size, 3, none⟩) hl0).trans (cell_of_row _ _ 3 _ 26 (0, 0) k0)
 have rr0 : ∀ w', Below w1.heap.size w1 w' → w'.cell? ⟨rb, 0, none⟩ = some (.string (bs root)) := fun w' hb => (T1.below hb).c0
 have HY := Lib.hid (And.intro y0 (And.intro y1 (And.intro y2 (And.intro y3 rr0))))
 have hRl : R.length ≤ 1000 := by
  have h1 := T.like.1
  have h2 := H.len I.nodup
  have h3 := F.len
  omega
 have HD := Lib.hid (And.intro T (And.intro T1 (And.intro H (And.intro I (And.intro F (And.intro NX hRl))))))
 have HO := Lib.hid (And.intro q6 (And.intro q7 q8))
 have HP := Lib.hid hp
 have H1 := Lib.hid (And.intro hb1 (And.intro hs1 (And.intro k0 (And.intro k1 (And.intro k2 hw1)))))
 have HL := Lib.hid (And.intro hl0 hl1)
 have KU := Lib.hid (later_refUnder w1 op root (by omega) hrl)
 obtain ⟨tu, htu⟩ : ∃ tu, tu = underB op root := ⟨_, rfl⟩
 rw [← htu] at KU
 have HTU := Lib.hid htu
 clear T T1 H I F NX hRl q6 q7 q8 hp hb1 hs1 k0 k1 k2 hw1 hl0 hl1 htu y0 y2 y3
 go_enter Tryz.func52, Tryz.ntmps52
 go_wp2_with fail
 rw [← H1.out.2.2.2.2.2]
 refine wp_region_held_drew (S := Below w1.heap.size w1) (by kernel_rfl) (Below.refl _ w1).drew (fun hS => ?_)
 refine tI 0 rfl hS ?_
 refine tJ 1 rfl hS y1 ?_
 refine tI 2 rfl hS ?_
 refine tI 3 rfl hS ?_
 simp only [putS]
 refine tI 4 rfl hS ?_
 refine tJ 5 rfl hS rr0 ?_
 simp only [putS]
 refine cI 6 rfl ?_
 refine (KU.out _ hS).mono ?_
 rintro e w2 ⟨rfl, B2⟩
 refine ⟨B2, ?_⟩
 try dsimp only
 simp only [putS]
 refine tI 7 rfl B2 ?_
 simp only [putS]
 refine wpAnyH_done (by kernel_rfl) ?_ _
 have HB2 := Lib.hid B2
 clear hS B2 y1 rr0
 have z0 := HY.out.1 _ HB2.out
 cases tu
 case false =>
  go_wp2_with fail
  refine (q5no_any 30 _).mono ?_
  rintro e wN ⟨rfl, BN⟩
  have hbN : Below w1.heap.size w1 wN := HB2.out.trans (BN.mono HB2.out.size)
  have HTN : Hid (wN.there (w.heap.size + 2) 0 13) := Lib.hid (there_of ((hbN.block _ (by have := H1.out.2.1; omega)).trans H1.out.2.2.2.2.1) (by simp))
  have HBN : Hid (Below w.heap.size w wN) := Lib.hid (H1.out.1.trans (hbN.mono H1.out.1.size))
  have HON : Hid ((#[.int .i64 30, .string ⟨#[]⟩, .slice none 0 0, .int .u32 0, .int .u32 0, .int .u32 0, .int .i64 0, .int .u32 0, .int .u64 0, .int .u64 0, .int .u64 0, .slice none 0 0, .slice none 0 0] : Array Value).all (·.oneCell') = true) := Lib.hid (by simp [Value.oneCell'])
  clear BN hbN
  go_wp2_with (refine wpList_store_mid rfl 43 (.tmp 9) (.tmp 24) rfl (w.heap.size + 2) 0 #[.int .i64 30, .string ⟨#[]⟩, .slice none 0 0, .int .u32 0, .int .u32 0, .int .u32 0, .int .i64 0, .int .u32 0, .int .u64 0, .int .u64 0, .int .u64 0, .slice none 0 0, .slice none 0 0] rfl rfl HTN.out HSR.out HON.out ?_)
  refine bodyPost_ret (results_tmp_cell_mid rfl _ _ (w.heap.size + 2) 0 [.int .i64 30, .string ⟨#[]⟩, .slice none 0 0, .int .u32 0, .int .u32 0, .int .u32 0, .int .i64 0, .int .u32 0, .int .u64 0, .int .u64 0, .int .u64 0, .slice none 0 0, .slice none 0 0] _ rfl (World.rangeAt_setCells_same _ _ _ _ HTN.out) Tryz.underlying43 rfl HSR.out) rfl ?_
  have e3 : opE root M ⟨ws, wn⟩ ⟨2, op, odata, ov, os, oe⟩ = 30 := by
   unfold opE
   rw [if_pos HTU.out.symm]
  exact HPOST.out _ _ (q_err e3 (by decide) (q_no 30 HBN.out (by omega)))
 case true =>
  have HU : Hid (underB op root = true) := Lib.hid HTU.out.symm
  go_wp2_with fail
  have y0 := HY.out.1
  have y1 := HY.out.2.1
  have rr0 := HY.out.2.2.2.2
  obtain ⟨t1, ht1⟩ : ∃ t1, t1 = decide (op = root) := ⟨_, rfl⟩
  have te := (neq_of ht1.symm).1
  have HT1 := Lib.hid ht1
  clear ht1
  refine wp_region_held_drew (S := Below w1.heap.size w1) (by kernel_rfl) HB2.out.drew (fun hS => ?_)
  refine tI 0 rfl hS ?_
  refine tJ 1 rfl hS y0 ?_
  refine tI 2 rfl hS ?_
  refine tI 3 rfl hS ?_
  simp only [putS]
  refine tI 4 rfl hS ?_
  refine tJ 5 rfl hS y1 ?_
  refine tI 6 rfl hS ?_
  refine tI 7 rfl hS ?_
  simp only [putS]
  refine tI 8 rfl hS ?_
  refine tJ 9 rfl hS rr0 ?_
  refine tI 10 rfl hS ?_
  refine tI 11 rfl hS ?_
  simp only [putS]
  refine wpAnyH_done (by kernel_rfl) ?_ _
  clear y0 y1 rr0
  have HB3 := Lib.hid hS
  clear hS
  cases t1
  case true =>
   have HPR : Hid (op = root) := Lib.hid (by have := HT1.out; simpa using this.symm)
   go_wp2_with fail
   refine (q5no_any 30 _).mono ?_
   rintro e wN ⟨rfl, BN⟩
   have hbN : Below w1.heap.size w1 wN := HB3.out.trans (BN.mono HB3.out.size)
   have HTN : Hid (wN.there (w.heap.size + 2) 0 13) := Lib.hid (there_of ((hbN.block _ (by have := H1.out.2.1; omega)).trans H1.out.2.2.2.2.1) (by simp))
   have HBN : Hid (Below w.heap.size w wN) := Lib.hid (H1.out.1.trans (hbN.mono H1.out.1.size))
   have HON : Hid ((#[.int .i64 30, .string ⟨#[]⟩, .slice none 0 0, .int .u32 0, .int .u32 0, .int .u32 0, .int .i64 0, .int .u32 0, .int .u64 0, .int .u64 0, .int .u64 0, .slice none 0 0, .slice none 0 0] : Array Value).all (·.oneCell') = true) := Lib.hid (by simp [Value.oneCell'])
   clear BN hbN
   go_wp2_with (refine wpList_store_mid rfl 43 (.tmp 9) (.tmp 49) rfl (w.heap.size + 2) 0 #[.int .i64 30, .string ⟨#[]⟩, .slice none 0 0, .int .u32 0, .int .u32 0, .int .u32 0, .int .i64 0, .int .u32 0, .int .u64 0, .int .u64 0, .int .u64 0, .slice none 0 0, .slice none 0 0] rfl rfl HTN.out HSR.out HON.out ?_)
   refine bodyPost_ret (results_tmp_cell_mid rfl _ _ (w.heap.size + 2) 0 [.int .i64 30, .string ⟨#[]⟩, .slice none 0 0, .int .u32 0, .int .u32 0, .int .u32 0, .int .i64 0, .int .u32 0, .int .u64 0, .int .u64 0, .int .u64 0, .slice none 0 0, .slice none 0 0] _ rfl (World.rangeAt_setCells_same _ _ _ _ HTN.out) Tryz.underlying43 rfl HSR.out) rfl ?_
   have e3 : opE root M ⟨ws, wn⟩ ⟨2, op, odata, ov, os, oe⟩ = 30 := by
    rw [opE_is HU.out, if_neg (show ¬ (2 : Int) = 1 by decide), if_pos (show (2 : Int) = 2 from rfl)]
    unfold removeE
    rw [if_pos HPR.out]
   exact HPOST.out _ _ (q_err e3 (by decide) (q_no 30 HBN.out (by omega)))
  case false =>
  have HNE : Hid (op ≠ root) := Lib.hid (by have := HT1.out; simpa using this.symm)
  clear te
  have z1 := HY.out.2.1 _ HB3.out
  go_wp2_with fail
  refine (HTB.out.1.q5node (HTB.out.2.trans ((H1.out.1.trans (HB3.out.mono H1.out.1.size)).mono HTB.out.2.size)) HD.out.2.2.1 HD.out.2.2.2.2.2.2 op).mono ?_
  rintro e w4 ⟨⟨ra, rn, rc, ⟨u1, u2, u3, u4, u5, u6, u7, u8⟩⟩, rfl, hrd, B4'⟩
  have HB4 := Lib.hid (HB3.out.trans (B4'.mono HB3.out.size))
  unfold Raw.cells Nums.cells
  dsimp only
  obtain ⟨gi, hgi⟩ : ∃ gi, gi = (getA op M).isSome := ⟨_, rfl⟩
  rw [← hgi]
  obtain ⟨nd, hnd⟩ : ∃ nd, nd = (getA op M).getD zNd := ⟨_, rfl⟩
  rw [← hnd] at hrd
  have hnum : (⟨u1, u2, u3, u4, u5, u6, u7, u8⟩ : Nums) = nd.num := hrd.num
  have HND := Lib.hid (And.intro hgi (And.intro hnd (And.intro hrd hnum)))
  obtain ⟨v4, hv4⟩ : ∃ v4, v4 = w4.alloc (.cells #[.slice ra rn rc, .int .u32 u1, .int .u32 u2, .int .u32 u3, .int .i64 u4, .int .u32 u5, .int .u64 u6, .int .u64 u7, .int .u64 u8] 39) := ⟨_, rfl⟩
  have hbv : Below w4.heap.size w4 v4 := by rw [hv4]; exact belowA (Below.refl _ w4) _
  have k4_ : v4.heap[w4.heap.size]? = some (.cells #[.slice ra rn rc, .int .u32 u1, .int .u32 u2, .int .u32 u3, .int .i64 u4, .int .u32 u5, .int .u64 u6, .int .u64 u7, .int .u64 u8] 39 (0, 0)) := by rw [hv4]; exact heap_alloc_new w4 _
  have hb4 : Below w1.heap.size w1 v4 := HB4.out.trans (hbv.mono HB4.out.size)
  have H4 := Lib.hid (And.intro hbv (And.intro k4_ (And.intro hb4 hv4)))
  clear hbv k4_ hb4 hv4 hgi hnd hrd hnum B4' z0 z1
  go_upto_region 8 with fail
  rw [← H4.out.2.2.2]
  cases gi
  case false =>
   have HNO : Hid (getA op M = none) := Lib.hid (by
    have h := HND.out.1
    cases hg : getA op M with
    | none => rfl
    | some d => rw [hg] at h; cases h)
   go_wp2_with fail
   refine (q5no_any 31 _).mono ?_
   rintro e wN ⟨rfl, BN⟩
   have hbN : Below w1.heap.size w1 wN := H4.out.2.2.1.trans (BN.mono H4.out.2.2.1.size)
   have HTN : Hid (wN.there (w.heap.size + 2) 0 13) := Lib.hid (there_of ((hbN.block _ (by have := H1.out.2.1; omega)).trans H1.out.2.2.2.2.1) (by simp))
   have HBN : Hid (Below w.heap.size w wN) := Lib.hid (H1.out.1.trans (hbN.mono H1.out.1.size))
   have HON : Hid ((#[.int .i64 31, .string ⟨#[]⟩, .slice none 0 0, .int .u32 0, .int .u32 0, .int .u32 0, .int .i64 0, .int .u32 0, .int .u64 0, .int .u64 0, .int .u64 0, .slice none 0 0, .slice none 0 0] : Array Value).all (·.oneCell') = true) := Lib.hid (by simp [Value.oneCell'])
   clear BN hbN
   go_wp2_with (refine wpList_store_mid rfl 43 (.tmp 9) (.tmp 61) rfl (w.heap.size + 2) 0 #[.int .i64 31, .string ⟨#[]⟩, .slice none 0 0, .int .u32 0, .int .u32 0, .int .u32 0, .int .i64 0, .int .u32 0, .int .u64 0, .int .u64 0, .int .u64 0, .slice none 0 0, .slice none 0 0] rfl rfl HTN.out HSR.out HON.out ?_)
   refine bodyPost_ret (results_tmp_cell_mid rfl _ _ (w.heap.size + 2) 0 [.int .i64 31, .string ⟨#[]⟩, .slice none 0 0, .int .u32 0, .int .u32 0, .int .u32 0, .int .i64 0, .int .u32 0, .int .u64 0, .int .u64 0, .int .u64 0, .slice none 0 0, .slice none 0 0] _ rfl (World.rangeAt_setCells_same _ _ _ _ HTN.out) Tryz.underlying43 rfl HSR.out) rfl ?_
   have e3 : opE root M ⟨ws, wn⟩ ⟨2, op, odata, ov, os, oe⟩ = 31 := by
    exact q_none HU.out ⟨show (2 : Int) ≤ 2 by decide, show (2 : Int) ≤ 6 by decide⟩ (fun _ => HNE.out) HNO.out
   exact HPOST.out _ _ (q_err e3 (by decide) (q_no 31 HBN.out (by omega)))
  case true =>
  have HGS : Hid (getA op M = some nd) := Lib.hid (by
   have h := HND.out.1
   have h2 := HND.out.2.1
   cases hg : getA op M with
   | none => rw [hg] at h; cases h
   | some d => rw [hg] at h2; rw [h2]; rfl)
  have z0 := HY.out.1 _ H4.out.2.2.1
  have z3 := HY.out.2.2.2.1 _ H4.out.2.2.1
  have n1 := (nine H4.out.2.1).2.1
  obtain ⟨kv, hkv⟩ : ∃ kv, kv = decide (0 ≤ ov) := ⟨_, rfl⟩
  obtain ⟨kw, hkw⟩ : ∃ kw, kw = (ov != IntKind.i64.wrap u1) := ⟨_, rfl⟩
  have tv : decide (0 ≤ ov) = kv := hkv.symm
  have tw : (ov != IntKind.i64.wrap u1) = kw := hkw.symm
  have tw2 : (ov != wrap64 u1) = kw := by rw [hkw, IntWalk.i64_left]
  obtain ⟨vb, hvb⟩ : ∃ vb, vb = (true && kv && kw) := ⟨_, rfl⟩
  have HVB : Hid (vb = true ↔ (true = true ∧ 0 ≤ ov ∧ ov ≠ IntKind.i64.wrap nd.num.ver)) := Lib.hid (by
   have hu1 : nd.num.ver = u1 := by rw [← HND.out.2.2.2]
   rw [hvb, hkv, hkw, hu1]
   simp [and_assoc])
  have HVE := Lib.hid hvb
  clear hkv hkw hvb
  go_upto_region 10 with fail
  go_cut [77] (fun v wc => v = .bool vb ∧ v4 = wc)
  case first =>
   skip
   all_goals
    cases kv
    all_goals
     go_wp2_with fail
     go_meet
     case rel => exact ⟨by rw [HVE.out]; first | rfl | simp, rfl⟩
  case rest =>
  obtain ⟨rfl, rfl⟩ := hcut
  clear tv tw tw2 z3 n1
  cases vb
  case true =>
   go_wp2_with fail
   refine (q5no_any 35 _).mono ?_
   rintro e wN ⟨rfl, BN⟩
   have hbN : Below w1.heap.size w1 wN := H4.out.2.2.1.trans (BN.mono H4.out.2.2.1.size)
   have HTN : Hid (wN.there (w.heap.size + 2) 0 13) := Lib.hid (there_of ((hbN.block _ (by have := H1.out.2.1; omega)).trans H1.out.2.2.2.2.1) (by simp))
   have HBN : Hid (Below w.heap.size w wN) := Lib.hid (H1.out.1.trans (hbN.mono H1.out.1.size))
   have HON : Hid ((#[.int .i64 35, .string ⟨#[]⟩, .slice none 0 0, .int .u32 0, .int .u32 0, .int .u32 0, .int .i64 0, .int .u32 0, .int .u64 0, .int .u64 0, .int .u64 0, .slice none 0 0, .slice none 0 0] : Array Value).all (·.oneCell') = true) := Lib.hid (by simp [Value.oneCell'])
   clear BN hbN
   go_wp2_with (refine wpList_store_mid rfl 43 (.tmp 9) (.tmp 80) rfl (w.heap.size + 2) 0 #[.int .i64 35, .string ⟨#[]⟩, .slice none 0 0, .int .u32 0, .int .u32 0, .int .u32 0, .int .i64 0, .int .u32 0, .int .u64 0, .int .u64 0, .int .u64 0, .slice none 0 0, .slice none 0 0] rfl rfl HTN.out HSR.out HON.out ?_)
   refine bodyPost_ret (results_tmp_cell_mid rfl _ _ (w.heap.size + 2) 0 [.int .i64 35, .string ⟨#[]⟩, .slice none 0 0, .int .u32 0, .int .u32 0, .int .u32 0, .int .i64 0, .int .u32 0, .int .u64 0, .int .u64 0, .int .u64 0, .slice none 0 0, .slice none 0 0] _ rfl (World.rangeAt_setCells_same _ _ _ _ HTN.out) Tryz.underlying43 rfl HSR.out) rfl ?_
   have e3 : opE root M ⟨ws, wn⟩ ⟨2, op, odata, ov, os, oe⟩ = 35 := by
    have h := HVB.out.1 (by simp)
    exact q_verR HU.out rfl HNE.out HGS.out h.2
   exact HPOST.out _ _ (q_err e3 (by decide) (q_no 35 HBN.out (by omega)))
  case false =>
  have HV0 : Hid (¬ (true = true ∧ 0 ≤ ov ∧ ov ≠ IntKind.i64.wrap nd.num.ver)) := Lib.hid (fun h => by have := HVB.out.2 h; cases this)
  have z1 := HY.out.2.1 _ H4.out.2.2.1
  obtain ⟨kl, hkl⟩ : ∃ kl, kl = (kidsS root M op).length := ⟨_, rfl⟩
  have hkd := (HD.out.2.1.below H4.out.2.2.1).kidsN HD.out.2.2.2.2.2.2 HD.out.2.2.1 HD.out.2.2.2.1 HD.out.2.2.2.2.1 op
  rw [← hkl] at hkd
  have HKD := Lib.hid hkd
  have HKL := Lib.hid hkl
  clear hkd hkl
  go_wp2_with fail
  refine HKD.out.mono ?_
  rintro e wk ⟨ka, kc, rfl, hkn, Bk⟩
  have HBK := Lib.hid (H4.out.2.2.1.trans (Bk.mono H4.out.2.2.1.size))
  obtain ⟨tk, htk⟩ : ∃ tk, tk = decide (0 < kl) := ⟨_, rfl⟩
  have tk1 : decide ((0 : Int) < (kl : Int)) = tk := by rw [htk]; simp
  have tk2 : decide (0 < kl) = tk := htk.symm
  have HTK := Lib.hid htk
  clear hkn Bk htk
  cases tk
  case true =>
   go_wp2_with fail
   refine (q5no_any 33 _).mono ?_
   rintro e wN ⟨rfl, BN⟩
   have hbN : Below w1.heap.size w1 wN := HBK.out.trans (BN.mono HBK.out.size)
   have HTN : Hid (wN.there (w.heap.size + 2) 0 13) := Lib.hid (there_of ((hbN.block _ (by have := H1.out.2.1; omega)).trans H1.out.2.2.2.2.1) (by simp))
   have HBN : Hid (Below w.heap.size w wN) := Lib.hid (H1.out.1.trans (hbN.mono H1.out.1.size))
   have HON : Hid ((#[.int .i64 33, .string ⟨#[]⟩, .slice none 0 0, .int .u32 0, .int .u32 0, .int .u32 0, .int .i64 0, .int .u32 0, .int .u64 0, .int .u64 0, .int .u64 0, .slice none 0 0, .slice none 0 0] : Array Value).all (·.oneCell') = true) := Lib.hid (by simp [Value.oneCell'])
   clear BN hbN
   go_wp2_with (refine wpList_store_mid rfl 43 (.tmp 9) (.tmp 93) rfl (w.heap.size + 2) 0 #[.int .i64 33, .string ⟨#[]⟩, .slice none 0 0, .int .u32 0, .int .u32 0, .int .u32 0, .int .i64 0, .int .u32 0, .int .u64 0, .int .u64 0, .int .u64 0, .slice none 0 0, .slice none 0 0] rfl rfl HTN.out HSR.out HON.out ?_)
   refine bodyPost_ret (results_tmp_cell_mid rfl _ _ (w.heap.size + 2) 0 [.int .i64 33, .string ⟨#[]⟩, .slice none 0 0, .int .u32 0, .int .u32 0, .int .u32 0, .int .i64 0, .int .u32 0, .int .u64 0, .int .u64 0, .int .u64 0, .slice none 0 0, .slice none 0 0] _ rfl (World.rangeAt_setCells_same _ _ _ _ HTN.out) Tryz.underlying43 rfl HSR.out) rfl ?_
   have e3 : opE root M ⟨ws, wn⟩ ⟨2, op, odata, ov, os, oe⟩ = 33 := by
    exact q_kd33 HU.out rfl HNE.out HGS.out (fun h => HV0.out ⟨by trivial, h⟩) (by rw [← HKL.out]; have := HTK.out; simpa using this.symm)
   exact HPOST.out _ _ (q_err e3 (by decide) (q_no 33 HBN.out (by omega)))
  case false =>
  have HK0 : Hid (¬ 0 < (kidsS root M op).length) := Lib.hid (by rw [← HKL.out]; have := HTK.out; simpa using this.symm)
  have z1 := HY.out.2.1 _ HBK.out
  obtain ⟨Lp, hLp⟩ := q_under HU.out
  have HLP := Lib.hid hLp
  clear hLp
  go_wp2_with fail
  clear tk1 tk2
  refine (q5parent_any op Lp HLP.out (by have := HP.out; omega) _).mono ?_
  rintro e w5 ⟨rfl, B5'⟩
  have HB5 := Lib.hid (HBK.out.trans (B5'.mono HBK.out.size))
  clear B5' z0
  go_wp2_with fail
  refine (HTB.out.1.q5node (HTB.out.2.trans ((H1.out.1.trans (HB5.out.mono H1.out.1.size)).mono HTB.out.2.size)) HD.out.2.2.1 HD.out.2.2.2.2.2.2 (parentL op)).mono ?_
  rintro e w6 ⟨⟨sa, sn, sc, ⟨s1, s2, s3, s4, s5, s6, s7, s8⟩⟩, rfl, hrd2, B6'⟩
  have HB6 := Lib.hid (HB5.out.trans (B6'.mono HB5.out.size))
  unfold Raw.cells Nums.cells
  dsimp only
  generalize (getA (parentL op) M).isSome = gi2
  obtain ⟨nu, hnu⟩ : ∃ nu, nu = (getA (parentL op) M).getD zNd := ⟨_, rfl⟩
  rw [← hnu] at hrd2
  have hnum2 : (⟨s1, s2, s3, s4, s5, s6, s7, s8⟩ : Nums) = nu.num := hrd2.num
  have HNU := Lib.hid (And.intro hnu (And.intro hrd2 hnum2))
  obtain ⟨v6, hv6⟩ : ∃ v6, v6 = w6.alloc (.cells #[.slice sa sn sc, .int .u32 s1, .int .u32 s2, .int .u32 s3, .int .i64 s4, .int .u32 s5, .int .u64 s6, .int .u64 s7, .int .u64 s8] 39) := ⟨_, rfl⟩
  have hbv : Below w6.heap.size w6 v6 := by rw [hv6]; exact belowA (Below.refl _ w6) _
  have k6 : v6.heap[w6.heap.size]? = some (.cells #[.slice sa sn sc, .int .u32 s1, .int .u32 s2, .int .u32 s3, .int .i64 s4, .int .u32 s5, .int .u64 s6, .int .u64 s7, .int .u64 s8] 39 (0, 0)) := by rw [hv6]; exact heap_alloc_new w6 _
  have hb6 : Below w1.heap.size w1 v6 := HB6.out.trans (hbv.mono HB6.out.size)
  have H6 := Lib.hid (And.intro k6 (And.intro hb6 hv6))
  clear hbv k6 hb6 hv6 hnu hrd2 hnum2 B6' z1
  go_upto_region 17 with fail
  rw [← H6.out.2.2]
  have d2 := (nine H6.out.1).2.2.1
  have f2 := frozen0 H6.out.1 2
  obtain ⟨kn, hkn⟩ : ∃ kn, kn = inc32 s2 := ⟨_, rfl⟩
  have tk : ∀ _ : True, IntKind.u32.wrap (s2 + 1) = kn := fun _ => hkn.symm
  have HKN := Lib.hid hkn
  obtain ⟨w7, hw7⟩ : ∃ w', w' = v6.setCell ⟨w6.heap.size, 2, none⟩ (.int .u32 kn) := ⟨_, rfl⟩
  have k7 : w7.heap[w6.heap.size]? = some (.cells #[.slice sa sn sc, .int .u32 s1, .int .u32 kn, .int .u32 s3, .int .i64 s4, .int .u32 s5, .int .u64 s6, .int .u64 s7, .int .u64 s8] 39 (0, 0)) := by rw [hw7]; simp [World.setCell, Array.getElem?_modify, H6.out.1]
  have K7 : Kept (· = w6.heap.size) v6 w7 := by rw [hw7]; exact Kept.setCell (S := (· = w6.heap.size)) (p := ⟨w6.heap.size, 2, none⟩) (Kept.refl _ v6) rfl _
  have H7 := Lib.hid (And.intro k7 (And.intro K7 hw7))
  clear k7 K7 hw7 hkn
  go_upto_region 18 with fail
  rw [← H7.out.2.2]
  clear d2 f2
  have d8 := (nine H7.out.1).2.2.2.2.2.2.2.2
  have f8 := frozen0 H7.out.1 8
  obtain ⟨w8, hw8⟩ : ∃ w', w' = w7.setCell ⟨w6.heap.size, 8, none⟩ (.int .u64 at_) := ⟨_, rfl⟩
  have k8 : w8.heap[w6.heap.size]? = some (.cells #[.slice sa sn sc, .int .u32 s1, .int .u32 kn, .int .u32 s3, .int .i64 s4, .int .u32 s5, .int .u64 s6, .int .u64 s7, .int .u64 at_] 39 (0, 0)) := by rw [hw8]; simp [World.setCell, Array.getElem?_modify, H7.out.1]
  have K8 : Kept (· = w6.heap.size) v6 w8 := by rw [hw8]; exact Kept.setCell (S := (· = w6.heap.size)) (p := ⟨w6.heap.size, 8, none⟩) H7.out.2.1 rfl _
  have H8 := Lib.hid (And.intro k8 (And.intro K8 hw8))
  clear k8 K8 hw8
  go_upto_region 19 with fail
  rw [← H8.out.2.2]
  clear d8 f8
  have B8 : Below w1.heap.size w1 w8 := H6.out.2.1.trans (H8.out.2.1.below H6.out.2.1.size (fun j e => by have e : j = w6.heap.size := e; have := HB6.out.size; omega))
  have hn4 : w.heap.size ≠ w.heap.size + 2 ∧ w6.heap.size ≠ w.heap.size + 2 := by have := HB6.out.size; have := H1.out.2.1; omega
  have kop := (B8.block _ HL.out.1).trans H1.out.2.2.1
  have hS0 : World.rangeAt w8.drew w.heap.size 0 [.int .u8 2, .string (bs op), .slice oa on oc, .int .i64 ov, .bool os, .bool oe, .slice pa pn pc] ∧ World.rangeAt w8.drew w6.heap.size 0 [.slice sa sn sc, .int .u32 s1, .int .u32 kn, .int .u32 s3, .int .i64 s4, .int .u32 s5, .int .u64 s6, .int .u64 s7, .int .u64 at_] := ⟨range_blk kop, range_blk H8.out.1⟩
  have HN4 := Lib.hid hn4
  have HB8 := Lib.hid B8
  have yy : ∀ w', World.rangeAt w' w.heap.size 0 [.int .u8 2, .string (bs op), .slice oa on oc, .int .i64 ov, .bool os, .bool oe, .slice pa pn pc] ∧ World.rangeAt w' w6.heap.size 0 [.slice sa sn sc, .int .u32 s1, .int .u32 kn, .int .u32 s3, .int .i64 s4, .int .u32 s5, .int .u64 s6, .int .u64 s7, .int .u64 at_] → w'.cell? ⟨w.heap.size, 1, none⟩ = some (.string (bs op)) := fun w' h => h.1 1 _ rfl
  clear kop hn4 B8
  refine wp_region_held_drew (S := fun w' => World.rangeAt w' w.heap.size 0 [.int .u8 2, .string (bs op), .slice oa on oc, .int .i64 ov, .bool os, .bool oe, .slice pa pn pc] ∧ World.rangeAt w' w6.heap.size 0 [.slice sa sn sc, .int .u32 s1, .int .u32 kn, .int .u32 s3, .int .i64 s4, .int .u32 s5, .int .u64 s6, .int .u64 s7, .int .u64 at_]) (by kernel_rfl) hS0 (fun hS => ?_)
  refine tI 0 rfl hS ?_
  refine tJ 1 rfl hS yy ?_
  refine tI 2 rfl hS ?_
  refine tI 3 rfl hS ?_
  simp only [putS]
  refine tJ 4 rfl hS yy ?_
  refine tI 9 rfl hS ?_
  refine tJ 10 rfl hS yy ?_
  refine tI 11 rfl hS ?_
  simp only [putS]
  refine tL 6 rfl hS 39 (.tmp 12) w6.heap.size 0 [.slice sa sn sc, .int .u32 s1, .int .u32 kn, .int .u32 s3, .int .i64 s4, .int .u32 s5, .int .u64 s6, .int .u64 s7, .int .u64 at_] (fun _ h => h.2) Tryz.underlying39 HSZ.out ?_
  simp only [putS]
  refine cI 5 rfl ?_
  refine (q5parent_any op Lp HLP.out (by have := HP.out; omega) _).mono ?_
  rintro e wp ⟨rfl, Bp'⟩
  have Bp : Below w8.heap.size w8 wp := (Below.refl _ w8).drew.trans Bp'
  have sp : World.rangeAt wp w.heap.size 0 [.int .u8 2, .string (bs op), .slice oa on oc, .int .i64 ov, .bool os, .bool oe, .slice pa pn pc] ∧ World.rangeAt wp w6.heap.size 0 [.slice sa sn sc, .int .u32 s1, .int .u32 kn, .int .u32 s3, .int .i64 s4, .int .u32 s5, .int .u64 s6, .int .u64 s7, .int .u64 at_] := ⟨range_kept hS.1 Bp' (World.block_lt_of_cell? _ _ (hS.1 0 _ rfl)), range_kept hS.2 Bp' (World.block_lt_of_cell? _ _ (hS.2 0 _ rfl))⟩
  refine ⟨sp, ?_⟩
  try dsimp only
  simp only [putS]
  refine tI 7 rfl sp ?_
  simp only [putS]
  obtain ⟨wq, hwq⟩ : ∃ wq, wq = wp.alloc (.cells #[.string (bs op), .bool true, .slice none 0 0, .int .u32 0, .int .u32 0, .int .u32 0, .int .i64 0, .int .u32 0, .int .u64 0, .int .u64 0, .int .u64 0, .string (bs (parentL op)), .bool false, .slice sa sn sc, .int .u32 s1, .int .u32 kn, .int .u32 s3, .int .i64 s4, .int .u32 s5, .int .u64 s6, .int .u64 s7, .int .u64 at_] 88) := ⟨_, rfl⟩
  have hbq : Below wp.heap.size wp wq := by rw [hwq]; exact belowA (Below.refl _ wp) _
  have kq : wq.heap[wp.heap.size]? = some (.cells #[.string (bs op), .bool true, .slice none 0 0, .int .u32 0, .int .u32 0, .int .u32 0, .int .i64 0, .int .u32 0, .int .u64 0, .int .u64 0, .int .u64 0, .string (bs (parentL op)), .bool false, .slice sa sn sc, .int .u32 s1, .int .u32 kn, .int .u32 s3, .int .i64 s4, .int .u32 s5, .int .u64 s6, .int .u64 s7, .int .u64 at_] 88 (0, 0)) := by rw [hwq]; exact heap_alloc_new wp _
  have sq : World.rangeAt wq w.heap.size 0 [.int .u8 2, .string (bs op), .slice oa on oc, .int .i64 ov, .bool os, .bool oe, .slice pa pn pc] ∧ World.rangeAt wq w6.heap.size 0 [.slice sa sn sc, .int .u32 s1, .int .u32 kn, .int .u32 s3, .int .i64 s4, .int .u32 s5, .int .u64 s6, .int .u64 s7, .int .u64 at_] := ⟨range_kept sp.1 hbq (World.block_lt_of_cell? _ _ (sp.1 0 _ rfl)), range_kept sp.2 hbq (World.block_lt_of_cell? _ _ (sp.2 0 _ rfl))⟩
  refine give_in 8 rfl (by kernel_rfl) (by rfl) (.slice (some ⟨wp.heap.size, 0, none⟩) 2 2) wq (by rw [hwq]; go_simp <;> first | rfl | exact ⟨rfl, rfl⟩) sq ?_
  simp only [putS]
  refine tI 12 rfl sq ?_
  simp only [putS]
  have bq : Below w1.heap.size w1 wq := HB8.out.trans ((Bp.trans (hbq.mono Bp.size)).mono HB8.out.size)
  have HTH : Hid (wq.there (w.heap.size + 2) 0 13) := Lib.hid (there_of ((bq.block _ (by have := H1.out.2.1; omega)).trans H1.out.2.2.2.2.1) (by simp))
  have HON : Hid ((#[.int .i64 0, .string (bs op), .slice none 0 0, .int .u32 0, .int .u32 0, .int .u32 0, .int .i64 0, .int .u32 0, .int .u64 0, .int .u64 0, .int .u64 0, .slice none 0 0, .slice none 0 0] : Array Value).all (·.oneCell') = true) := Lib.hid (by simp [Value.oneCell'])
  refine sI 13 rfl 43 (.tmp 9) (.tmp 119) (w.heap.size + 2) 0 #[.int .i64 0, .string (bs op), .slice none 0 0, .int .u32 0, .int .u32 0, .int .u32 0, .int .i64 0, .int .u32 0, .int .u64 0, .int .u64 0, .int .u64 0, .slice none 0 0, .slice none 0 0] HTH.out HSR.out HON.out ⟨range_set sq.1 (fun e => HN4.out.1 e), range_set sq.2 (fun e => HN4.out.2 e)⟩ ?_
  simp only [putS]
  refine wpAnyH_done (by kernel_rfl) ?_ _
  have HQ := Lib.hid (And.intro kq (And.intro bq Bp.size))
  clear hS hS0 yy sp sq hbq kq bq hwq Bp Bp'
  go_wp2_with fail
  refine bodyPost_ret (results_tmp_cell_mid rfl _ _ (w.heap.size + 2) 0 [.int .i64 0, .string (bs op), .slice none 0 0, .int .u32 0, .int .u32 0, .int .u32 0, .int .i64 0, .int .u32 0, .int .u64 0, .int .u64 0, .int .u64 0, .slice none 0 0, .slice none 0 0] _ rfl (World.rangeAt_setCells_same _ _ _ _ HTH.out) Tryz.underlying43 rfl HSR.out) rfl ?_
  refine HPOST.out _ _ ?_
  have hW : Below w.heap.size w (wq.setCells (w.heap.size + 2) 0 [.int .i64 0, .string (bs op), .slice none 0 0, .int .u32 0, .int .u32 0, .int .u32 0, .int .i64 0, .int .u32 0, .int .u64 0, .int .u64 0, .int .u64 0, .slice none 0 0, .slice none 0 0]) := q_box _ (H1.out.1.trans (HQ.out.2.1.mono H1.out.1.size)) (by omega)
  have K9 : Kept (· = w.heap.size + 2) wq (wq.setCells (w.heap.size + 2) 0 [.int .i64 0, .string (bs op), .slice none 0 0, .int .u32 0, .int .u32 0, .int .u32 0, .int .i64 0, .int .u32 0, .int .u64 0, .int .u64 0, .int .u64 0, .slice none 0 0, .slice none 0 0]) := Kept.setCells (S := (· = w.heap.size + 2)) (p := w.heap.size + 2) rfl _ 0 (Kept.refl _ wq)
  have hs8 := HB8.out.size
  have hs1 := H1.out.2.1
  have hps := HQ.out.2.2
  have kW := (K9.block wp.heap.size (lt_of_block HQ.out.1) (fun e => by have e : wp.heap.size = w.heap.size + 2 := e; omega)).trans HQ.out.1
  obtain ⟨g1, g2, g3⟩ := q_rem (at_ := at_) (who := ⟨ws, wn⟩) (o := ⟨2, op, odata, ov, os, oe⟩) HU.out rfl HNE.out HGS.out (fun h => HV0.out ⟨by trivial, h⟩) HK0.out
  have hsn : upN ((getA (parentL op) M).getD zNd) at_ = ⟨nu.data, ⟨s1, kn, s3, s4, s5, s6, s7, at_⟩⟩ := by
   rw [← HNU.out.1]
   unfold upN
   rw [← HNU.out.2.2, HKN.out]
  rw [g1, g2, g3]
  dsimp only
  rw [hsn]
  have hWb := HTB.out.2.trans (hW.mono HTB.out.2.size)
  have hr1 := (HNU.out.2.1.monoB (lo' := lq) HLQ.out.1).below hWb
  exact ⟨_, _, rfl, q_effs2 (r1 := ⟨op, true, zRaw⟩) (r2 := ⟨parentL op, false, ⟨sa, sn, sc, ⟨s1, kn, s3, s4, s5, s6, s7, at_⟩⟩⟩) kW (by omega) ⟨rfl, rfl, zReads _ _⟩ ⟨rfl, rfl, rfl, hr1.len, hr1.data, hr1.nil⟩, ⟨zRaw, none, 0, rfl, zReads _ _, StrLo.nil _ _ _⟩, hW⟩
theorem RefAt.q5one {wb : World} (Tb : RefAt wb Z rb root cnt ao c0 R L) (hbb : Below wb.heap.size wb w) (H : Rel M L) (I : Inv root M) (F : Fit M) (NX : Nice M) (hrl : root.length ≤ 1000) (r : RawO) (o : Opl) (who : Sess) (at_ : Int) {lo lq : Nat → Prop} (hz : ∀ k, ¬ Z k → k < wb.heap.size → lq k) (hlo : ∀ k, lo k → k < wb.heap.size → lq k) (hlq : ∀ k, lq k → k < wb.heap.size) (hr : LeafO wb lo r o) (hl : Leafy o) :
  Calls Tryz.prog 52 #[.pointer (some ⟨rb, 0, none⟩), r.val, whoV who, .int .u64 at_] w (QEnd lq w (opE root M who o) (opXs root M at_ who o) (opR root M at_ who o).a) := by
 obtain ⟨h1, h6, hp, _⟩ := hl
 by_cases k1 : o.kind = 1
 ·exact Tb.q5one_create hbb H I F NX hrl r o who at_ hz hlo hlq hr hp k1 (fun _ _ h => h)
 by_cases k2 : o.kind = 2
 ·exact Tb.q5one_remove hbb H I F NX hrl r o who at_ hz hlo hlq hr hp k2 (fun _ _ h => h)
 by_cases k3 : o.kind = 3
 ·exact Tb.q5one_set hbb H I F NX hrl r o who at_ hz hlo hlq hr hp k3 (fun _ _ h => h)
 by_cases k6 : o.kind = 6
 ·exact Tb.q5one_kids hbb H I F NX hrl r o who at_ hz hlo hlq hr hp k6 (fun _ _ h => h)
 exact Tb.q5one_get hbb H I F NX hrl r o who at_ hz hlo hlq hr hp (by omega) (fun _ _ h => h)
end
end Go.Proofs.YtnclkfhdpkkakaaGreatDoor
