/-
  The reference's one: create. The reference's one: what reads. The reference's one: kids.
-/
import Derived.Test.YtnclkfhdpkkakaaGreatDoorQ36
namespace Go.Proofs.YtnclkfhdpkkakaaGreatDoor
set_option linter.unusedVariables false
set_option linter.unusedSimpArgs false
open Go Go.RowKit Go.Shelf Go.MapKept Go.ChangeMaps Go.Maps Go.Sort
theorem q_err {root : Bytes} {M : List (Bytes × Nd)} {at_ : Int} {who : Sess} {o : Opl} {lq : Nat → Prop} {w w' : World} {x : Int} {e : Ending} (h : opE root M who o = x) (hx : x ≠ 0) (hq : QEnd lq w x [] noAns e w') : QEnd lq w (opE root M who o) (opXs root M at_ who o) (opR root M at_ who o).a e w' := by
 have e1 : opXs root M at_ who o = [] := by unfold opXs; rw [if_pos (by rw [h]; exact hx)]
 have e2 : (opR root M at_ who o).a = noAns := by unfold opR; rw [if_pos (by rw [h]; exact hx)]
 rw [e1, e2, h]
 exact hq
section
variable {w : World} {Z : Nat → Prop} {rb : Nat} {root : Bytes} {cnt : Int} {ao : Option Addr} {c0 : Nat} {R : List RawA} {M L : List (Bytes × Nd)}
theorem RefAt.q5create_op {wb : World} (T : RefAt wb Z rb root cnt ao c0 R L) (hbb : Below wb.heap.size wb w) (H : Rel M L) (I : Inv root M) (F : Fit M) (NX : Nice M) (r : RawO) (o : Opl) (who : Sess) (at_ : Int) {lo lq : Nat → Prop} (hz : ∀ k, ¬ Z k → k < wb.heap.size → lq k) (hlo : ∀ k, lo k → k < wb.heap.size → lq k) (hlq : ∀ k, lq k → k < wb.heap.size) (hr : LeafO wb lo r o) (hp : o.path.length ≤ 900) (hu : underB o.path root = true) (hk : o.kind = 1) :
  Calls Tryz.prog 77 #[.pointer (some ⟨rb, 0, none⟩), r.val, whoV who, .int .u64 at_] w (QEnd lq w (opE root M who o) (opXs root M at_ who o) (opR root M at_ who o).a) := by
 have hE : opE root M who o = createE root M who o := by rw [opE_is hu, if_pos hk]
 refine (T.q5create hbb H I F NX r o who at_ hz hlo hlq hr hp hu _ rfl).mono ?_
 rintro e w' (⟨h0, hq⟩ | ⟨h0, hq⟩)
 ·have e1 : opXs root M at_ who o = createX M at_ who o := by
   unfold opXs opX
   rw [if_neg (by rw [hE, h0]; simp), if_pos hk]
  have e2 : (opR root M at_ who o).a = ⟨newPath M o, newN o.data at_ who o.eph, []⟩ := by
   unfold opR opA
   rw [if_neg (by rw [hE, h0]; simp), if_pos hk]
  rw [e1, e2, hE, h0]
  exact hq
 ·rw [← hE] at h0 hq
  exact q_err rfl h0 hq
set_option maxRecDepth 100000 in
set_option maxHeartbeats 64000000 in
theorem RefAt.q5one_create {wb : World} (Tb : RefAt wb Z rb root cnt ao c0 R L) (hbb : Below wb.heap.size wb w) (H : Rel M L) (I : Inv root M) (F : Fit M) (NX : Nice M) (hrl : root.length ≤ 1000) (r : RawO) (o : Opl) (who : Sess) (at_ : Int) {lo lq : Nat → Prop} (hz : ∀ k, ¬ Z k → k < wb.heap.size → lq k) (hlo : ∀ k, lo k → k < wb.heap.size → lq k) (hlq : ∀ k, lq k → k < wb.heap.size) (hr : LeafO wb lo r o) (hp : o.path.length ≤ 900) (hk : o.kind = 1) {Post : Ending → World → Prop} (hpost : ∀ e w', QEnd lq w (opE root M who o) (opXs root M at_ who o) (opR root M at_ who o).a e w' → Post e w') :
  Calls Tryz.prog 52 #[.pointer (some ⟨rb, 0, none⟩), r.val, whoV who, .int .u64 at_] w Post := by
 have T := Tb.below hbb
 have HTB := Lib.hid (And.intro Tb hbb)
 have HLQ := Lib.hid (And.intro hz (And.intro hlo hlq))
 clear Tb hbb hz hlo hlq
 obtain ⟨ok, op, oa, on, oc, ov, os, oe, pa, pn, pc⟩ := r
 obtain ⟨okd, opp, odata, over, oseq, oeph⟩ := o
 obtain ⟨ws, wn⟩ := who
 have HR := Lib.hid hr
 obtain ⟨q1, q2, q3, q4, q5, q6, q7, q8⟩ := hr
 dsimp only at q1 q2 q3 q4 q5 q6 q7 q8 hp hk
 subst q1 q2 q3 q4 q5
 subst hk
 have HPOST := Lib.hid hpost
 clear hpost
 unfold RawO.val RawO.cells whoV
 dsimp only
 obtain ⟨w1, hw1, hb1, hs1, k0, k1, k2⟩ := do_boxes w 1 op oa on oc ov os oe pa pn pc ws wn
 have HSO : Hid ((Tryz.prog.info? 26).map (·.size) = some 7) := Lib.hid (by kernel_rfl)
 have HSR : Hid ((Tryz.prog.info? 43).map (·.size) = some 13) := Lib.hid infoReply13
 have HSS : Hid ((Tryz.prog.info? 29).map (·.size) = some 2) := Lib.hid (by kernel_rfl)
 have HSZ : Hid ((Tryz.prog.info? 39).map (·.size) = some 9) := Lib.hid (by kernel_rfl)
 have T1 := T.below hb1
 have hl0 : w.heap.size < w1.heap.size := by omega
 have hl1 : w.heap.size + 1 < w1.heap.size := by omega
 have y0 : ∀ w', Below w1.heap.size w1 w' → w'.cell? ⟨w.heap.size, 0, none⟩ = some (.int .u8 1) := fun w' hb => (hb.cell (p := ⟨w.heap.size, 0, none⟩) hl0).trans (cell_of_row _ _ 0 _ 26 (0, 0) k0)
 have y1 : ∀ w', Below w1.heap.size w1 w' → w'.cell? ⟨w.heap.size, 1, none⟩ = some (.string (bs op)) := fun w' hb => (hb.cell (p := ⟨w.heap.size, 1, none⟩) hl0).trans (cell_of_row _ _ 1 _ 26 (0, 0) k0)
 have y2 : ∀ w', Below w1.heap.size w1 w' → w'.cell? ⟨w.heap.size, 2, none⟩ = some (.slice oa on oc) := fun w' hb => (hb.cell (p := ⟨w.heap.size, 2, none⟩) hl0).trans (cell_of_row _ _ 2 _ 26 (0, 0) k0)
 have y3 : ∀ w', Below w1.heap.size w1 w' → w'.cell? ⟨w.heap.size, 3, none⟩ = some (.int .i64 ov) := fun w' hb => (hb.cell (p := ⟨w.heap.size, 3, none⟩) hl0).trans (cell_of_row _ _ 3 _ 26 (0, 0) k0)
 have rr0 : ∀ w', Below w1.heap.size w1 w' → w'.cell? ⟨rb, 0, none⟩ = some (.string (bs root)) := fun w' hb => (T1.below hb).c0
 have HY := Lib.hid (And.intro y0 (And.intro y1 (And.intro y2 (And.intro y3 rr0))))
 have hRl : R.length ≤ 1000 := by
  have h1 := T.like.1
  have h2 := H.len I.nodup
  have h3 := F.len
  omega
 have HD := Lib.hid (And.intro T (And.intro T1 (And.intro H (And.intro I (And.intro F (And.intro NX hRl))))))
 have HO := Lib.hid (And.intro q6 (And.intro q7 q8))
 have HP := Lib.hid hp
 have H1 := Lib.hid (And.intro hb1 (And.intro hs1 (And.intro k0 (And.intro k1 (And.intro k2 hw1)))))
 have HL := Lib.hid (And.intro hl0 hl1)
 have KU := Lib.hid (later_refUnder w1 op root (by omega) hrl)
 obtain ⟨tu, htu⟩ : ∃ tu, tu = underB op root := ⟨_, rfl⟩
 rw [← htu] at KU
 have HTU := Lib.hid htu
 clear T T1 H I F NX hRl q6 q7 q8 hp hb1 hs1 k0 k1 k2 hw1 hl0 hl1 htu y0 y2 y3
 go_enter Tryz.func52, Tryz.ntmps52
 go_wp2_with fail
 rw [← H1.out.2.2.2.2.2]
 refine wp_region_held_drew (S := Below w1.heap.size w1) (by kernel_rfl) (Below.refl _ w1).drew (fun hS => ?_)
 refine tI 0 rfl hS ?_
 refine tJ 1 rfl hS y1 ?_
 refine tI 2 rfl hS ?_
 refine tI 3 rfl hS ?_
 simp only [putS]
 refine tI 4 rfl hS ?_
 refine tJ 5 rfl hS rr0 ?_
 simp only [putS]
 refine cI 6 rfl ?_
 refine (KU.out _ hS).mono ?_
 rintro e w2 ⟨rfl, B2⟩
 refine ⟨B2, ?_⟩
 try dsimp only
 simp only [putS]
 refine tI 7 rfl B2 ?_
 simp only [putS]
 refine wpAnyH_done (by kernel_rfl) ?_ _
 have HB2 := Lib.hid B2
 clear hS B2 y1 rr0
 have z0 := HY.out.1 _ HB2.out
 cases tu
 case false =>
  go_wp2_with fail
  refine (q5no_any 30 _).mono ?_
  rintro e wN ⟨rfl, BN⟩
  have hbN : Below w1.heap.size w1 wN := HB2.out.trans (BN.mono HB2.out.size)
  have HTN : Hid (wN.there (w.heap.size + 2) 0 13) := Lib.hid (there_of ((hbN.block _ (by have := H1.out.2.1; omega)).trans H1.out.2.2.2.2.1) (by simp))
  have HBN : Hid (Below w.heap.size w wN) := Lib.hid (H1.out.1.trans (hbN.mono H1.out.1.size))
  have HON : Hid ((#[.int .i64 30, .string ⟨#[]⟩, .slice none 0 0, .int .u32 0, .int .u32 0, .int .u32 0, .int .i64 0, .int .u32 0, .int .u64 0, .int .u64 0, .int .u64 0, .slice none 0 0, .slice none 0 0] : Array Value).all (·.oneCell') = true) := Lib.hid (by simp [Value.oneCell'])
  clear BN hbN
  go_wp2_with (refine wpList_store_mid rfl 43 (.tmp 9) (.tmp 24) rfl (w.heap.size + 2) 0 #[.int .i64 30, .string ⟨#[]⟩, .slice none 0 0, .int .u32 0, .int .u32 0, .int .u32 0, .int .i64 0, .int .u32 0, .int .u64 0, .int .u64 0, .int .u64 0, .slice none 0 0, .slice none 0 0] rfl rfl HTN.out HSR.out HON.out ?_)
  refine bodyPost_ret (results_tmp_cell_mid rfl _ _ (w.heap.size + 2) 0 [.int .i64 30, .string ⟨#[]⟩, .slice none 0 0, .int .u32 0, .int .u32 0, .int .u32 0, .int .i64 0, .int .u32 0, .int .u64 0, .int .u64 0, .int .u64 0, .slice none 0 0, .slice none 0 0] _ rfl (World.rangeAt_setCells_same _ _ _ _ HTN.out) Tryz.underlying43 rfl HSR.out) rfl ?_
  have e3 : opE root M ⟨ws, wn⟩ ⟨1, op, odata, ov, os, oe⟩ = 30 := by
   unfold opE
   rw [if_pos HTU.out.symm]
  exact HPOST.out _ _ (q_err e3 (by decide) (q_no 30 HBN.out (by omega)))
 case true =>
  have HU : Hid (underB op root = true) := Lib.hid HTU.out.symm
  have HRO := Lib.hid (range_blk ((HB2.out.block _ HL.out.1).trans H1.out.2.2.1))
  have HRS := Lib.hid (range_blk ((HB2.out.block _ HL.out.2).trans H1.out.2.2.2.1))
  have hcr := HTB.out.1.q5create_op (w := w2) (HTB.out.2.trans ((H1.out.1.trans (HB2.out.mono H1.out.1.size)).mono HTB.out.2.size)) HD.out.2.2.1 HD.out.2.2.2.1 HD.out.2.2.2.2.1 HD.out.2.2.2.2.2.1 ⟨1, op, oa, on, oc, ov, os, oe, pa, pn, pc⟩ ⟨1, op, odata, ov, os, oe⟩ ⟨ws, wn⟩ at_ HLQ.out.1 HLQ.out.2.1 HLQ.out.2.2 HR.out HP.out HU.out rfl
  unfold RawO.val RawO.cells whoV at hcr
  dsimp only at hcr
  have HCR := Lib.hid hcr
  clear hcr
  go_wp2_with (first
   | (refine wpList_load_mid rfl 26 (.tmp 5) rfl w.heap.size 0 rfl [.int .u8 1, .string (bs op), .slice oa on oc, .int .i64 ov, .bool os, .bool oe, .slice pa pn pc] _ HRO.out Tryz.underlying26 rfl HSO.out ?_)
   | (refine wpList_load_mid rfl 29 (.tmp 6) rfl (w.heap.size + 1) 0 rfl [.int .i64 ws, .int .u32 wn] _ HRS.out Tryz.underlying29 rfl HSS.out ?_))
  refine HCR.out.mono ?_
  rintro e wc ⟨v1, v2, rfl, hE, ⟨⟨ra, rn, rc, ⟨r1, r2, r3, r4, r5, r6, r7, r8⟩⟩, ka, kc, rfl, g1, g2⟩, hB⟩
  have hq : QEnd lq w2 (opE root M ⟨ws, wn⟩ ⟨1, op, odata, ov, os, oe⟩) (opXs root M at_ ⟨ws, wn⟩ ⟨1, op, odata, ov, os, oe⟩) (opR root M at_ ⟨ws, wn⟩ ⟨1, op, odata, ov, os, oe⟩).a (.returned (.tuple #[v1, .agg (repCells (opE root M ⟨ws, wn⟩ ⟨1, op, odata, ov, os, oe⟩) (opR root M at_ ⟨ws, wn⟩ ⟨1, op, odata, ov, os, oe⟩).a.path ⟨ra, rn, rc, ⟨r1, r2, r3, r4, r5, r6, r7, r8⟩⟩ ka (opR root M at_ ⟨ws, wn⟩ ⟨1, op, odata, ov, os, oe⟩).a.kids.length kc none 0 0).toArray])) wc := ⟨_, _, rfl, hE, ⟨_, _, _, rfl, g1, g2⟩, hB⟩
  have hbc : Below w1.heap.size w1 wc := HB2.out.trans (hB.mono HB2.out.size)
  have HTN : Hid (wc.there (w.heap.size + 2) 0 13) := Lib.hid (there_of ((hbc.block _ (by have := H1.out.2.1; omega)).trans H1.out.2.2.2.2.1) (by simp))
  obtain ⟨ex, hex⟩ : ∃ ex, ex = opE root M ⟨ws, wn⟩ ⟨1, op, odata, ov, os, oe⟩ := ⟨_, rfl⟩
  obtain ⟨px, hpx⟩ : ∃ px, px = (opR root M at_ ⟨ws, wn⟩ ⟨1, op, odata, ov, os, oe⟩).a.path := ⟨_, rfl⟩
  obtain ⟨kn, hkn⟩ : ∃ kn, kn = (opR root M at_ ⟨ws, wn⟩ ⟨1, op, odata, ov, os, oe⟩).a.kids.length := ⟨_, rfl⟩
  have HQ := Lib.hid hq
  have HE := Lib.hid (And.intro hex (And.intro hpx hkn))
  rw [← hex, ← hpx, ← hkn]
  clear hq hbc hex hpx hkn hE g1 g2 hB
  unfold repCells Raw.cells Nums.cells
  dsimp only [List.cons_append, List.nil_append]
  have HON : Hid ((#[.int .i64 ex, .string (bs px), .slice ra rn rc, .int .u32 r1, .int .u32 r2, .int .u32 r3, .int .i64 r4, .int .u32 r5, .int .u64 r6, .int .u64 r7, .int .u64 r8, .slice ka kn kc, .slice none 0 0] : Array Value).all (·.oneCell') = true) := Lib.hid (by simp [Value.oneCell'])
  go_wp2_with (refine wpList_store_mid rfl 43 (.tmp 9) (.tmp 34) rfl (w.heap.size + 2) 0 #[.int .i64 ex, .string (bs px), .slice ra rn rc, .int .u32 r1, .int .u32 r2, .int .u32 r3, .int .i64 r4, .int .u32 r5, .int .u64 r6, .int .u64 r7, .int .u64 r8, .slice ka kn kc, .slice none 0 0] rfl rfl HTN.out HSR.out HON.out ?_)
  refine bodyPost_ret (results_tmp_cell_mid rfl _ _ (w.heap.size + 2) 0 [.int .i64 ex, .string (bs px), .slice ra rn rc, .int .u32 r1, .int .u32 r2, .int .u32 r3, .int .i64 r4, .int .u32 r5, .int .u64 r6, .int .u64 r7, .int .u64 r8, .slice ka kn kc, .slice none 0 0] _ rfl (World.rangeAt_setCells_same _ _ _ _ HTN.out) Tryz.underlying43 rfl HSR.out) rfl ?_
  refine HPOST.out _ _ ?_
  have hq := HQ.out
  rw [← HE.out.1, ← HE.out.2.1, ← HE.out.2.2] at hq
  rw [← HE.out.1]
  exact QEnd.box _ hq (H1.out.1.trans (HB2.out.mono H1.out.1.size)) (fun k h => Nat.lt_of_lt_of_le (HLQ.out.2.2 k h) HTB.out.2.size) rfl (by have := HB2.out.size; have := H1.out.2.1; omega)
end
end Go.Proofs.YtnclkfhdpkkakaaGreatDoor
namespace Go.Proofs.YtnclkfhdpkkakaaGreatDoor
set_option linter.unusedVariables false
set_option linter.unusedSimpArgs false
open Go Go.RowKit Go.Shelf Go.MapKept Go.ChangeMaps Go.Maps Go.Sort
theorem q_none {root : Bytes} {M : List (Bytes × Nd)} {who : Sess} {o : Opl} (hu : underB o.path root = true) (hk : 2 ≤ o.kind ∧ o.kind ≤ 6) (hr : o.kind = 2 → o.path ≠ root) (hn : getA o.path M = none) : opE root M who o = 31 := by
 have hv : verE M o = 31 := by unfold verE; rw [hn]
 rw [opE_is hu, if_neg (by omega)]
 by_cases h2 : o.kind = 2
 ·rw [if_pos h2]
  unfold removeE
  rw [if_neg (hr h2), if_pos (by rw [hv]; decide)]
  exact hv
 ·rw [if_neg h2]
  by_cases h3 : o.kind = 3 ∨ o.kind = 4
  ·rw [if_pos h3]
   exact hv
  ·rw [if_neg h3, hn]
   rfl
theorem q_v35 {M : List (Bytes × Nd)} {o : Opl} {d : Nd} (hg : getA o.path M = some d) (h : 0 ≤ o.ver ∧ o.ver ≠ IntKind.i64.wrap d.num.ver) : verE M o = 35 := by
 unfold verE
 rw [hg]
 exact if_pos h
theorem q_v0 {M : List (Bytes × Nd)} {o : Opl} {d : Nd} (hg : getA o.path M = some d) (h : ¬ (0 ≤ o.ver ∧ o.ver ≠ IntKind.i64.wrap d.num.ver)) : verE M o = 0 := by
 unfold verE
 rw [hg]
 exact if_neg h
theorem q_ver {root : Bytes} {M : List (Bytes × Nd)} {who : Sess} {o : Opl} {d : Nd} (hu : underB o.path root = true) (hk : o.kind = 3 ∨ o.kind = 4) (hg : getA o.path M = some d) (h : 0 ≤ o.ver ∧ o.ver ≠ IntKind.i64.wrap d.num.ver) : opE root M who o = 35 := by
 rw [opE_is hu, if_neg (by omega), if_neg (by omega), if_pos hk]
 exact q_v35 hg h
theorem q_verR {root : Bytes} {M : List (Bytes × Nd)} {who : Sess} {o : Opl} {d : Nd} (hu : underB o.path root = true) (hk : o.kind = 2) (hr : o.path ≠ root) (hg : getA o.path M = some d) (h : 0 ≤ o.ver ∧ o.ver ≠ IntKind.i64.wrap d.num.ver) : opE root M who o = 35 := by
 rw [opE_is hu, if_neg (by omega), if_pos hk]
 unfold removeE
 rw [if_neg hr, if_pos (by rw [q_v35 hg h]; decide)]
 exact q_v35 hg h
theorem q_got {root : Bytes} {M : List (Bytes × Nd)} {at_ : Int} {who : Sess} {o : Opl} {d : Nd} (hu : underB o.path root = true) (hk : o.kind = 4 ∨ o.kind = 5) (hg : getA o.path M = some d) (h : o.kind = 4 → ¬ (0 ≤ o.ver ∧ o.ver ≠ IntKind.i64.wrap d.num.ver)) : opE root M who o = 0 ∧ opXs root M at_ who o = [] ∧ (opR root M at_ who o).a = ⟨o.path, d, []⟩ := by
 have hE : opE root M who o = 0 := by
  rw [opE_is hu, if_neg (by omega), if_neg (by omega)]
  rcases hk with hk | hk
  ·rw [if_pos (Or.inr hk)]
   exact q_v0 hg (h hk)
  ·rw [if_neg (by omega), hg]
   rfl
 refine ⟨hE, ?_, ?_⟩
 ·unfold opXs opX
  rw [if_neg (by rw [hE]; simp), if_neg (by omega), if_neg (by omega), if_neg (by omega)]
 ·unfold opR opA
  rw [if_neg (by rw [hE]; simp), if_neg (by omega), if_neg (by omega), if_neg (by omega), if_neg (by omega), node_is hg]
section
variable {w : World} {Z : Nat → Prop} {rb : Nat} {root : Bytes} {cnt : Int} {ao : Option Addr} {c0 : Nat} {R : List RawA} {M L : List (Bytes × Nd)}
set_option maxRecDepth 100000 in
set_option maxHeartbeats 64000000 in
theorem RefAt.q5one_get {wb : World} (Tb : RefAt wb Z rb root cnt ao c0 R L) (hbb : Below wb.heap.size wb w) (H : Rel M L) (I : Inv root M) (F : Fit M) (NX : Nice M) (hrl : root.length ≤ 1000) (r : RawO) (o : Opl) (who : Sess) (at_ : Int) {lo lq : Nat → Prop} (hz : ∀ k, ¬ Z k → k < wb.heap.size → lq k) (hlo : ∀ k, lo k → k < wb.heap.size → lq k) (hlq : ∀ k, lq k → k < wb.heap.size) (hr : LeafO wb lo r o) (hp : o.path.length ≤ 900) (hk : o.kind = 4 ∨ o.kind = 5) {Post : Ending → World → Prop} (hpost : ∀ e w', QEnd lq w (opE root M who o) (opXs root M at_ who o) (opR root M at_ who o).a e w' → Post e w') :
  Calls Tryz.prog 52 #[.pointer (some ⟨rb, 0, none⟩), r.val, whoV who, .int .u64 at_] w Post := by
 have T := Tb.below hbb
 have HTB := Lib.hid (And.intro Tb hbb)
 have HLQ := Lib.hid (And.intro hz (And.intro hlo hlq))
 clear Tb hbb hz hlo hlq
 obtain ⟨ok, op, oa, on, oc, ov, os, oe, pa, pn, pc⟩ := r
 obtain ⟨okd, opp, odata, over, oseq, oeph⟩ := o
 obtain ⟨ws, wn⟩ := who
 have HR := Lib.hid hr
 obtain ⟨q1, q2, q3, q4, q5, q6, q7, q8⟩ := hr
 dsimp only at q1 q2 q3 q4 q5 q6 q7 q8 hp hk
 subst q1 q2 q3 q4 q5
 have HPOST := Lib.hid hpost
 clear hpost
 unfold RawO.val RawO.cells whoV
 dsimp only
 obtain ⟨w1, hw1, hb1, hs1, k0, k1, k2⟩ := do_boxes w ok op oa on oc ov os oe pa pn pc ws wn
 have HSO : Hid ((Tryz.prog.info? 26).map (·.size) = some 7) := Lib.hid (by kernel_rfl)
 have HSR : Hid ((Tryz.prog.info? 43).map (·.size) = some 13) := Lib.hid infoReply13
 have HSS : Hid ((Tryz.prog.info? 29).map (·.size) = some 2) := Lib.hid (by kernel_rfl)
 have HSZ : Hid ((Tryz.prog.info? 39).map (·.size) = some 9) := Lib.hid (by kernel_rfl)
 have T1 := T.below hb1
 have hl0 : w.heap.size < w1.heap.size := by omega
 have hl1 : w.heap.size + 1 < w1.heap.size := by omega
 have y0 : ∀ w', Below w1.heap.size w1 w' → w'.cell? ⟨w.heap.size, 0, none⟩ = some (.int .u8 ok) := fun w' hb => (hb.cell (p := ⟨w.heap.size, 0, none⟩) hl0).trans (cell_of_row _ _ 0 _ 26 (0, 0) k0)
 have y1 : ∀ w', Below w1.heap.size w1 w' → w'.cell? ⟨w.heap.size, 1, none⟩ = some (.string (bs op)) := fun w' hb => (hb.cell (p := ⟨w.heap.size, 1, none⟩) hl0).trans (cell_of_row _ _ 1 _ 26 (0, 0) k0)
 have y2 : ∀ w', Below w1.heap.size w1 w' → w'.cell? ⟨w.heap.size, 2, none⟩ = some (.slice oa on oc) := fun w' hb => (hb.cell (p := ⟨w.heap.size, 2, none⟩) hl0).trans (cell_of_row _ _ 2 _ 26 (0, 0) k0)
 have y3 : ∀ w', Below w1.heap.size w1 w' → w'.cell? ⟨w.heap.size, 3, none⟩ = some (.int .i64 ov) := fun w' hb => (hb.cell (p := ⟨w.heap.size, 3, none⟩) hl0).trans (cell_of_row _ _ 3 _ 26 (0, 0) k0)
 have rr0 : ∀ w', Below w1.heap.size w1 w' → w'.cell? ⟨rb, 0, none⟩ = some (.string (bs root)) := fun w' hb => (T1.below hb).c0
 have HY := Lib.hid (And.intro y0 (And.intro y1 (And.intro y2 (And.intro y3 rr0))))
 have hRl : R.length ≤ 1000 := by
  have h1 := T.like.1
  have h2 := H.len I.nodup
  have h3 := F.len
  omega
 have HD := Lib.hid (And.intro T (And.intro T1 (And.intro H (And.intro I (And.intro F (And.intro NX hRl))))))
 have HO := Lib.hid (And.intro q6 (And.intro q7 q8))
 have HP := Lib.hid hp
 have H1 := Lib.hid (And.intro hb1 (And.intro hs1 (And.intro k0 (And.intro k1 (And.intro k2 hw1)))))
 have HL := Lib.hid (And.intro hl0 hl1)
 have KU := Lib.hid (later_refUnder w1 op root (by omega) hrl)
 obtain ⟨tu, htu⟩ : ∃ tu, tu = underB op root := ⟨_, rfl⟩
 rw [← htu] at KU
 have HTU := Lib.hid htu
 clear T T1 H I F NX hRl q6 q7 q8 hp hb1 hs1 k0 k1 k2 hw1 hl0 hl1 htu y0 y2 y3
 go_enter Tryz.func52, Tryz.ntmps52
 go_wp2_with fail
 rw [← H1.out.2.2.2.2.2]
 refine wp_region_held_drew (S := Below w1.heap.size w1) (by kernel_rfl) (Below.refl _ w1).drew (fun hS => ?_)
 refine tI 0 rfl hS ?_
 refine tJ 1 rfl hS y1 ?_
 refine tI 2 rfl hS ?_
 refine tI 3 rfl hS ?_
 simp only [putS]
 refine tI 4 rfl hS ?_
 refine tJ 5 rfl hS rr0 ?_
 simp only [putS]
 refine cI 6 rfl ?_
 refine (KU.out _ hS).mono ?_
 rintro e w2 ⟨rfl, B2⟩
 refine ⟨B2, ?_⟩
 try dsimp only
 simp only [putS]
 refine tI 7 rfl B2 ?_
 simp only [putS]
 refine wpAnyH_done (by kernel_rfl) ?_ _
 have HB2 := Lib.hid B2
 clear hS B2 y1 rr0
 have z0 := HY.out.1 _ HB2.out
 cases tu
 case false =>
  go_wp2_with fail
  refine (q5no_any 30 _).mono ?_
  rintro e wN ⟨rfl, BN⟩
  have hbN : Below w1.heap.size w1 wN := HB2.out.trans (BN.mono HB2.out.size)
  have HTN : Hid (wN.there (w.heap.size + 2) 0 13) := Lib.hid (there_of ((hbN.block _ (by have := H1.out.2.1; omega)).trans H1.out.2.2.2.2.1) (by simp))
  have HBN : Hid (Below w.heap.size w wN) := Lib.hid (H1.out.1.trans (hbN.mono H1.out.1.size))
  have HON : Hid ((#[.int .i64 30, .string ⟨#[]⟩, .slice none 0 0, .int .u32 0, .int .u32 0, .int .u32 0, .int .i64 0, .int .u32 0, .int .u64 0, .int .u64 0, .int .u64 0, .slice none 0 0, .slice none 0 0] : Array Value).all (·.oneCell') = true) := Lib.hid (by simp [Value.oneCell'])
  clear BN hbN
  go_wp2_with (refine wpList_store_mid rfl 43 (.tmp 9) (.tmp 24) rfl (w.heap.size + 2) 0 #[.int .i64 30, .string ⟨#[]⟩, .slice none 0 0, .int .u32 0, .int .u32 0, .int .u32 0, .int .i64 0, .int .u32 0, .int .u64 0, .int .u64 0, .int .u64 0, .slice none 0 0, .slice none 0 0] rfl rfl HTN.out HSR.out HON.out ?_)
  refine bodyPost_ret (results_tmp_cell_mid rfl _ _ (w.heap.size + 2) 0 [.int .i64 30, .string ⟨#[]⟩, .slice none 0 0, .int .u32 0, .int .u32 0, .int .u32 0, .int .i64 0, .int .u32 0, .int .u64 0, .int .u64 0, .int .u64 0, .slice none 0 0, .slice none 0 0] _ rfl (World.rangeAt_setCells_same _ _ _ _ HTN.out) Tryz.underlying43 rfl HSR.out) rfl ?_
  have e3 : opE root M ⟨ws, wn⟩ ⟨ok, op, odata, ov, os, oe⟩ = 30 := by
   unfold opE
   rw [if_pos HTU.out.symm]
  exact HPOST.out _ _ (q_err e3 (by decide) (q_no 30 HBN.out (by omega)))
 case true =>
  have HU : Hid (underB op root = true) := Lib.hid HTU.out.symm
  have tk1 : (ok == 1) = false := by rw [beq_eq_false_iff_ne]; omega
  have tk2 : (ok == 2) = false := by rw [beq_eq_false_iff_ne]; omega
  have tk3 : (ok == 3) = false := by rw [beq_eq_false_iff_ne]; omega
  have tk6 : (ok == 6) = false := by rw [beq_eq_false_iff_ne]; omega
  obtain ⟨k4, hk4⟩ : ∃ k4, k4 = decide (ok ≤ 4) := ⟨_, rfl⟩
  have tk4 : decide (ok ≤ 4) = k4 := hk4.symm
  have HK4 := Lib.hid (And.intro hk4 hk)
  clear hk4 hk
  go_wp2_with fail
  have y0 := HY.out.1
  refine wp_region_held_drew (S := Below w1.heap.size w1) (by kernel_rfl) HB2.out.drew (fun hS => ?_)
  refine tI 0 rfl hS ?_
  refine tJ 1 rfl hS y0 ?_
  refine tI 2 rfl hS ?_
  refine tI 3 rfl hS ?_
  simp only [putS]
  refine tN 4 rfl hS ?_
  refine tN 5 rfl hS ?_
  refine tN 6 rfl hS ?_
  refine tN 7 rfl hS ?_
  simp only [putS]
  refine tN 8 rfl hS ?_
  refine tN 9 rfl hS ?_
  refine tN 10 rfl hS ?_
  refine tI 11 rfl hS ?_
  simp only [putS]
  refine wpAnyH_done (by kernel_rfl) ?_ _
  clear y0
  have HB3 := Lib.hid hS
  clear hS
  have z1 := HY.out.2.1 _ HB3.out
  go_wp2_with fail
  refine (HTB.out.1.q5node (HTB.out.2.trans ((H1.out.1.trans (HB3.out.mono H1.out.1.size)).mono HTB.out.2.size)) HD.out.2.2.1 HD.out.2.2.2.2.2.2 op).mono ?_
  rintro e w4 ⟨⟨ra, rn, rc, ⟨u1, u2, u3, u4, u5, u6, u7, u8⟩⟩, rfl, hrd, B4'⟩
  have HB4 := Lib.hid (HB3.out.trans (B4'.mono HB3.out.size))
  unfold Raw.cells Nums.cells
  dsimp only
  obtain ⟨gi, hgi⟩ : ∃ gi, gi = (getA op M).isSome := ⟨_, rfl⟩
  rw [← hgi]
  obtain ⟨nd, hnd⟩ : ∃ nd, nd = (getA op M).getD zNd := ⟨_, rfl⟩
  rw [← hnd] at hrd
  have hnum : (⟨u1, u2, u3, u4, u5, u6, u7, u8⟩ : Nums) = nd.num := hrd.num
  have HND := Lib.hid (And.intro hgi (And.intro hnd (And.intro hrd hnum)))
  obtain ⟨v4, hv4⟩ : ∃ v4, v4 = w4.alloc (.cells #[.slice ra rn rc, .int .u32 u1, .int .u32 u2, .int .u32 u3, .int .i64 u4, .int .u32 u5, .int .u64 u6, .int .u64 u7, .int .u64 u8] 39) := ⟨_, rfl⟩
  have hbv : Below w4.heap.size w4 v4 := by rw [hv4]; exact belowA (Below.refl _ w4) _
  have k4_ : v4.heap[w4.heap.size]? = some (.cells #[.slice ra rn rc, .int .u32 u1, .int .u32 u2, .int .u32 u3, .int .i64 u4, .int .u32 u5, .int .u64 u6, .int .u64 u7, .int .u64 u8] 39 (0, 0)) := by rw [hv4]; exact heap_alloc_new w4 _
  have hb4 : Below w1.heap.size w1 v4 := HB4.out.trans (hbv.mono HB4.out.size)
  have H4 := Lib.hid (And.intro hbv (And.intro k4_ (And.intro hb4 hv4)))
  clear hbv k4_ hb4 hv4 hgi hnd hrd hnum B4' z0 z1
  go_upto_region 8 with fail
  rw [← H4.out.2.2.2]
  cases gi
  case false =>
   have HNO : Hid (getA op M = none) := Lib.hid (by
    have h := HND.out.1
    cases hg : getA op M with
    | none => rfl
    | some d => rw [hg] at h; cases h)
   go_wp2_with fail
   refine (q5no_any 31 _).mono ?_
   rintro e wN ⟨rfl, BN⟩
   have hbN : Below w1.heap.size w1 wN := H4.out.2.2.1.trans (BN.mono H4.out.2.2.1.size)
   have HTN : Hid (wN.there (w.heap.size + 2) 0 13) := Lib.hid (there_of ((hbN.block _ (by have := H1.out.2.1; omega)).trans H1.out.2.2.2.2.1) (by simp))
   have HBN : Hid (Below w.heap.size w wN) := Lib.hid (H1.out.1.trans (hbN.mono H1.out.1.size))
   have HON : Hid ((#[.int .i64 31, .string ⟨#[]⟩, .slice none 0 0, .int .u32 0, .int .u32 0, .int .u32 0, .int .i64 0, .int .u32 0, .int .u64 0, .int .u64 0, .int .u64 0, .slice none 0 0, .slice none 0 0] : Array Value).all (·.oneCell') = true) := Lib.hid (by simp [Value.oneCell'])
   clear BN hbN
   go_wp2_with (refine wpList_store_mid rfl 43 (.tmp 9) (.tmp 61) rfl (w.heap.size + 2) 0 #[.int .i64 31, .string ⟨#[]⟩, .slice none 0 0, .int .u32 0, .int .u32 0, .int .u32 0, .int .i64 0, .int .u32 0, .int .u64 0, .int .u64 0, .int .u64 0, .slice none 0 0, .slice none 0 0] rfl rfl HTN.out HSR.out HON.out ?_)
   refine bodyPost_ret (results_tmp_cell_mid rfl _ _ (w.heap.size + 2) 0 [.int .i64 31, .string ⟨#[]⟩, .slice none 0 0, .int .u32 0, .int .u32 0, .int .u32 0, .int .i64 0, .int .u32 0, .int .u64 0, .int .u64 0, .int .u64 0, .slice none 0 0, .slice none 0 0] _ rfl (World.rangeAt_setCells_same _ _ _ _ HTN.out) Tryz.underlying43 rfl HSR.out) rfl ?_
   have e3 : opE root M ⟨ws, wn⟩ ⟨ok, op, odata, ov, os, oe⟩ = 31 := by
    exact q_none HU.out ⟨by have := HK4.out.2; show (2 : Int) ≤ ok; omega, by have := HK4.out.2; show ok ≤ 6; omega⟩ (fun h => by have h : ok = 2 := h; have := HK4.out.2; omega) HNO.out
   exact HPOST.out _ _ (q_err e3 (by decide) (q_no 31 HBN.out (by omega)))
  case true =>
  have HGS : Hid (getA op M = some nd) := Lib.hid (by
   have h := HND.out.1
   have h2 := HND.out.2.1
   cases hg : getA op M with
   | none => rw [hg] at h; cases h
   | some d => rw [hg] at h2; rw [h2]; rfl)
  have z0 := HY.out.1 _ H4.out.2.2.1
  have z3 := HY.out.2.2.2.1 _ H4.out.2.2.1
  have n1 := (nine H4.out.2.1).2.1
  obtain ⟨kv, hkv⟩ : ∃ kv, kv = decide (0 ≤ ov) := ⟨_, rfl⟩
  obtain ⟨kw, hkw⟩ : ∃ kw, kw = (ov != IntKind.i64.wrap u1) := ⟨_, rfl⟩
  have tv : decide (0 ≤ ov) = kv := hkv.symm
  have tw : (ov != IntKind.i64.wrap u1) = kw := hkw.symm
  have tw2 : (ov != wrap64 u1) = kw := by rw [hkw, IntWalk.i64_left]
  obtain ⟨vb, hvb⟩ : ∃ vb, vb = (k4 && kv && kw) := ⟨_, rfl⟩
  have HVB : Hid (vb = true ↔ (k4 = true ∧ 0 ≤ ov ∧ ov ≠ IntKind.i64.wrap nd.num.ver)) := Lib.hid (by
   have hu1 : nd.num.ver = u1 := by rw [← HND.out.2.2.2]
   rw [hvb, hkv, hkw, hu1]
   simp [and_assoc])
  have HVE := Lib.hid hvb
  clear hkv hkw hvb
  go_upto_region 10 with fail
  go_cut [77] (fun v wc => v = .bool vb ∧ v4 = wc)
  case first =>
   cases k4
   all_goals
    cases kv
    all_goals
     go_wp2_with fail
     go_meet
     case rel => exact ⟨by rw [HVE.out]; first | rfl | simp, rfl⟩
  case rest =>
  obtain ⟨rfl, rfl⟩ := hcut
  clear tv tw tw2 z3 n1
  cases vb
  case true =>
   go_wp2_with fail
   refine (q5no_any 35 _).mono ?_
   rintro e wN ⟨rfl, BN⟩
   have hbN : Below w1.heap.size w1 wN := H4.out.2.2.1.trans (BN.mono H4.out.2.2.1.size)
   have HTN : Hid (wN.there (w.heap.size + 2) 0 13) := Lib.hid (there_of ((hbN.block _ (by have := H1.out.2.1; omega)).trans H1.out.2.2.2.2.1) (by simp))
   have HBN : Hid (Below w.heap.size w wN) := Lib.hid (H1.out.1.trans (hbN.mono H1.out.1.size))
   have HON : Hid ((#[.int .i64 35, .string ⟨#[]⟩, .slice none 0 0, .int .u32 0, .int .u32 0, .int .u32 0, .int .i64 0, .int .u32 0, .int .u64 0, .int .u64 0, .int .u64 0, .slice none 0 0, .slice none 0 0] : Array Value).all (·.oneCell') = true) := Lib.hid (by simp [Value.oneCell'])
   clear BN hbN
   go_wp2_with (refine wpList_store_mid rfl 43 (.tmp 9) (.tmp 80) rfl (w.heap.size + 2) 0 #[.int .i64 35, .string ⟨#[]⟩, .slice none 0 0, .int .u32 0, .int .u32 0, .int .u32 0, .int .i64 0, .int .u32 0, .int .u64 0, .int .u64 0, .int .u64 0, .slice none 0 0, .slice none 0 0] rfl rfl HTN.out HSR.out HON.out ?_)
   refine bodyPost_ret (results_tmp_cell_mid rfl _ _ (w.heap.size + 2) 0 [.int .i64 35, .string ⟨#[]⟩, .slice none 0 0, .int .u32 0, .int .u32 0, .int .u32 0, .int .i64 0, .int .u32 0, .int .u64 0, .int .u64 0, .int .u64 0, .slice none 0 0, .slice none 0 0] _ rfl (World.rangeAt_setCells_same _ _ _ _ HTN.out) Tryz.underlying43 rfl HSR.out) rfl ?_
   have e3 : opE root M ⟨ws, wn⟩ ⟨ok, op, odata, ov, os, oe⟩ = 35 := by
    have h := HVB.out.1 (by simp)
    have hk1 := HK4.out.1
    rw [h.1] at hk1
    have h4 : ok ≤ 4 := by simpa using hk1.symm
    have h5 := HK4.out.2
    have h6 : ok = 4 := by omega
    exact q_ver HU.out (Or.inr h6) HGS.out h.2
   exact HPOST.out _ _ (q_err e3 (by decide) (q_no 35 HBN.out (by omega)))
  case false =>
  have HV0 : Hid (¬ (k4 = true ∧ 0 ≤ ov ∧ ov ≠ IntKind.i64.wrap nd.num.ver)) := Lib.hid (fun h => by have := HVB.out.2 h; cases this)
  go_upto_region 27 with fail
  have hn4 : w.heap.size ≠ w.heap.size + 2 ∧ w4.heap.size ≠ w.heap.size + 2 := by have := HB4.out.size; have := H1.out.2.1; omega
  have kop := (H4.out.2.2.1.block _ HL.out.1).trans H1.out.2.2.1
  have hS0 : World.rangeAt v4.drew w.heap.size 0 [.int .u8 ok, .string (bs op), .slice oa on oc, .int .i64 ov, .bool os, .bool oe, .slice pa pn pc] ∧ World.rangeAt v4.drew w4.heap.size 0 [.slice ra rn rc, .int .u32 u1, .int .u32 u2, .int .u32 u3, .int .i64 u4, .int .u32 u5, .int .u64 u6, .int .u64 u7, .int .u64 u8] := ⟨range_blk kop, range_blk H4.out.2.1⟩
  have HTH : Hid (v4.drew.there (w.heap.size + 2) 0 13) := Lib.hid (there_of ((H4.out.2.2.1.block _ (by have := H1.out.2.1; omega)).trans H1.out.2.2.2.2.1) (by simp))
  have HN4 := Lib.hid hn4
  have yy : ∀ w', World.rangeAt w' w.heap.size 0 [.int .u8 ok, .string (bs op), .slice oa on oc, .int .i64 ov, .bool os, .bool oe, .slice pa pn pc] ∧ World.rangeAt w' w4.heap.size 0 [.slice ra rn rc, .int .u32 u1, .int .u32 u2, .int .u32 u3, .int .i64 u4, .int .u32 u5, .int .u64 u6, .int .u64 u7, .int .u64 u8] → w'.cell? ⟨w.heap.size, 1, none⟩ = some (.string (bs op)) := fun w' h => h.1 1 _ rfl
  clear kop hn4 z0
  refine wp_region_held_drew (S := fun w' => World.rangeAt w' w.heap.size 0 [.int .u8 ok, .string (bs op), .slice oa on oc, .int .i64 ov, .bool os, .bool oe, .slice pa pn pc] ∧ World.rangeAt w' w4.heap.size 0 [.slice ra rn rc, .int .u32 u1, .int .u32 u2, .int .u32 u3, .int .i64 u4, .int .u32 u5, .int .u64 u6, .int .u64 u7, .int .u64 u8]) (by kernel_rfl) hS0 (fun hS => ?_)
  refine tI 0 rfl hS ?_
  refine tJ 1 rfl hS yy ?_
  refine tL 2 rfl hS 39 (.tmp 10) w4.heap.size 0 [.slice ra rn rc, .int .u32 u1, .int .u32 u2, .int .u32 u3, .int .i64 u4, .int .u32 u5, .int .u64 u6, .int .u64 u7, .int .u64 u8] (fun _ h => h.2) Tryz.underlying39 HSZ.out ?_
  refine tI 3 rfl hS ?_
  simp only [putS]
  refine tI 4 rfl hS ?_
  simp only [putS]
  have HON : Hid ((#[.int .i64 0, .string (bs op), .slice ra rn rc, .int .u32 u1, .int .u32 u2, .int .u32 u3, .int .i64 u4, .int .u32 u5, .int .u64 u6, .int .u64 u7, .int .u64 u8, .slice none 0 0, .slice none 0 0] : Array Value).all (·.oneCell') = true) := Lib.hid (by simp [Value.oneCell'])
  refine sI 5 rfl 43 (.tmp 9) (.tmp 153) (w.heap.size + 2) 0 #[.int .i64 0, .string (bs op), .slice ra rn rc, .int .u32 u1, .int .u32 u2, .int .u32 u3, .int .i64 u4, .int .u32 u5, .int .u64 u6, .int .u64 u7, .int .u64 u8, .slice none 0 0, .slice none 0 0] HTH.out HSR.out HON.out ⟨range_set hS.1 (fun e => HN4.out.1 e), range_set hS.2 (fun e => HN4.out.2 e)⟩ ?_
  simp only [putS]
  refine wpAnyH_done (by kernel_rfl) ?_ _
  clear hS hS0 yy
  go_wp2_with fail
  refine bodyPost_ret (results_tmp_cell_mid rfl _ _ (w.heap.size + 2) 0 [.int .i64 0, .string (bs op), .slice ra rn rc, .int .u32 u1, .int .u32 u2, .int .u32 u3, .int .i64 u4, .int .u32 u5, .int .u64 u6, .int .u64 u7, .int .u64 u8, .slice none 0 0, .slice none 0 0] _ rfl (World.rangeAt_setCells_same _ _ _ _ HTH.out) Tryz.underlying43 rfl HSR.out) rfl ?_
  refine HPOST.out _ _ ?_
  have hW : Below w.heap.size w (v4.drew.setCells (w.heap.size + 2) 0 [.int .i64 0, .string (bs op), .slice ra rn rc, .int .u32 u1, .int .u32 u2, .int .u32 u3, .int .i64 u4, .int .u32 u5, .int .u64 u6, .int .u64 u7, .int .u64 u8, .slice none 0 0, .slice none 0 0]) := q_box _ ((H1.out.1.trans (H4.out.2.2.1.mono H1.out.1.size)).drew) (by omega)
  obtain ⟨g1, g2, g3⟩ := q_got (at_ := at_) (who := ⟨ws, wn⟩) (o := ⟨ok, op, odata, ov, os, oe⟩) HU.out HK4.out.2 HGS.out (fun h4 => by
   intro h
   refine HV0.out ⟨?_, h⟩
   have h4 : ok = 4 := h4
   rw [HK4.out.1, h4]
   rfl)
  rw [g1, g2, g3]
  have hWb := HTB.out.2.trans (hW.mono HTB.out.2.size)
  have hr1 := (HND.out.2.2.1.monoB (lo' := fun k => lq k ∨ w.heap.size + 3 ≤ k) (fun k h1 h2 => Or.inl (HLQ.out.1 k h1 h2))).below hWb
  exact ⟨_, _, rfl, EffsB.nil _ _ _, ⟨⟨ra, rn, rc, ⟨u1, u2, u3, u4, u5, u6, u7, u8⟩⟩, none, 0, rfl, hr1, StrLo.nil _ _ _⟩, hW⟩
end
end Go.Proofs.YtnclkfhdpkkakaaGreatDoor
namespace Go.Proofs.YtnclkfhdpkkakaaGreatDoor
set_option linter.unusedVariables false
set_option linter.unusedSimpArgs false
open Go Go.RowKit Go.Shelf Go.MapKept Go.ChangeMaps Go.Maps Go.Sort
theorem q_kids {root : Bytes} {M : List (Bytes × Nd)} {at_ : Int} {who : Sess} {o : Opl} {d : Nd} (hu : underB o.path root = true) (hk : o.kind = 6) (hg : getA o.path M = some d) : opE root M who o = 0 ∧ opXs root M at_ who o = [] ∧ (opR root M at_ who o).a = ⟨o.path, d, kidsS root M o.path⟩ := by
 have hE : opE root M who o = 0 := by
  rw [opE_is hu, if_neg (by omega), if_neg (by omega), if_neg (by omega), hg]
  rfl
 refine ⟨hE, ?_, ?_⟩
 ·unfold opXs opX
  rw [if_neg (by rw [hE]; simp), if_neg (by omega), if_neg (by omega), if_neg (by omega)]
 ·unfold opR opA
  rw [if_neg (by rw [hE]; simp), if_neg (by omega), if_neg (by omega), if_neg (by omega), if_pos hk, node_is hg]
theorem q_set {root : Bytes} {M : List (Bytes × Nd)} {at_ : Int} {who : Sess} {o : Opl} {d : Nd} (hu : underB o.path root = true) (hk : o.kind = 3) (hg : getA o.path M = some d) (h : ¬ (0 ≤ o.ver ∧ o.ver ≠ IntKind.i64.wrap d.num.ver)) : opE root M who o = 0 ∧ opXs root M at_ who o = [⟨o.path, false, setN d o.data at_⟩] ∧ (opR root M at_ who o).a = ⟨o.path, setN d o.data at_, []⟩ := by
 have hE : opE root M who o = 0 := by
  rw [opE_is hu, if_neg (by omega), if_neg (by omega), if_pos (Or.inl hk)]
  exact q_v0 hg h
 refine ⟨hE, ?_, ?_⟩
 ·unfold opXs opX
  rw [if_neg (by rw [hE]; simp), if_neg (by omega), if_neg (by omega), if_pos hk]
  unfold setX
  rw [node_is hg]
 ·unfold opR opA
  rw [if_neg (by rw [hE]; simp), if_neg (by omega), if_neg (by omega), if_pos hk, node_is hg]
section
variable {w : World} {Z : Nat → Prop} {rb : Nat} {root : Bytes} {cnt : Int} {ao : Option Addr} {c0 : Nat} {R : List RawA} {M L : List (Bytes × Nd)}
set_option maxRecDepth 100000 in
set_option maxHeartbeats 64000000 in
theorem RefAt.q5one_kids {wb : World} (Tb : RefAt wb Z rb root cnt ao c0 R L) (hbb : Below wb.heap.size wb w) (H : Rel M L) (I : Inv root M) (F : Fit M) (NX : Nice M) (hrl : root.length ≤ 1000) (r : RawO) (o : Opl) (who : Sess) (at_ : Int) {lo lq : Nat → Prop} (hz : ∀ k, ¬ Z k → k < wb.heap.size → lq k) (hlo : ∀ k, lo k → k < wb.heap.size → lq k) (hlq : ∀ k, lq k → k < wb.heap.size) (hr : LeafO wb lo r o) (hp : o.path.length ≤ 900) (hk : o.kind = 6) {Post : Ending → World → Prop} (hpost : ∀ e w', QEnd lq w (opE root M who o) (opXs root M at_ who o) (opR root M at_ who o).a e w' → Post e w') :
  Calls Tryz.prog 52 #[.pointer (some ⟨rb, 0, none⟩), r.val, whoV who, .int .u64 at_] w Post := by
 have T := Tb.below hbb
 have HTB := Lib.hid (And.intro Tb hbb)
 have HLQ := Lib.hid (And.intro hz (And.intro hlo hlq))
 clear Tb hbb hz hlo hlq
 obtain ⟨ok, op, oa, on, oc, ov, os, oe, pa, pn, pc⟩ := r
 obtain ⟨okd, opp, odata, over, oseq, oeph⟩ := o
 obtain ⟨ws, wn⟩ := who
 have HR := Lib.hid hr
 obtain ⟨q1, q2, q3, q4, q5, q6, q7, q8⟩ := hr
 dsimp only at q1 q2 q3 q4 q5 q6 q7 q8 hp hk
 subst q1 q2 q3 q4 q5
 subst hk
 have HPOST := Lib.hid hpost
 clear hpost
 unfold RawO.val RawO.cells whoV
 dsimp only
 obtain ⟨w1, hw1, hb1, hs1, k0, k1, k2⟩ := do_boxes w 6 op oa on oc ov os oe pa pn pc ws wn
 have HSO : Hid ((Tryz.prog.info? 26).map (·.size) = some 7) := Lib.hid (by kernel_rfl)
 have HSR : Hid ((Tryz.prog.info? 43).map (·.size) = some 13) := Lib.hid infoReply13
 have HSS : Hid ((Tryz.prog.info? 29).map (·.size) = some 2) := Lib.hid (by kernel_rfl)
 have HSZ : Hid ((Tryz.prog.info? 39).map (·.size) = some 9) := Lib.hid (by kernel_rfl)
 have T1 := T.below hb1
 have hl0 : w.heap.size < w1.heap.size := by omega
 have hl1 : w.heap.size + 1 < w1.heap.size := by omega
 have y0 : ∀ w', Below w1.heap.size w1 w' → w'.cell? ⟨w.heap.size, 0, none⟩ = some (.int .u8 6) := fun w' hb => (hb.cell (p := ⟨w.heap.size, 0, none⟩) hl0).trans (cell_of_row _ _ 0 _ 26 (0, 0) k0)
 have y1 : ∀ w', Below w1.heap.size w1 w' → w'.cell? ⟨w.heap.size, 1, none⟩ = some (.string (bs op)) := fun w' hb => (hb.cell (p := ⟨w.heap.size, 1, none⟩) hl0).trans (cell_of_row _ _ 1 _ 26 (0, 0) k0)
 have y2 : ∀ w', Below w1.heap.size w1 w' → w'.cell? ⟨w.heap.size, 2, none⟩ = some (.slice oa on oc) := fun w' hb => (hb.cell (p := ⟨w.heap.size, 2, none⟩) hl0).trans (cell_of_row _ _ 2 _ 26 (0, 0) k0)
 have y3 : ∀ w', Below w1.heap.size w1 w' → w'.cell? ⟨w.heap.size, 3, none⟩ = some (.int .i64 ov) := fun w' hb => (hb.cell (p := ⟨w.heap.size, 3, none⟩) hl0).trans (cell_of_row _ _ 3 _ 26 (0, 0) k0)
 have rr0 : ∀ w', Below w1.heap.size w1 w' → w'.cell? ⟨rb, 0, none⟩ = some (.string (bs root)) := fun w' hb => (T1.below hb).c0
 have HY := Lib.hid (And.intro y0 (And.intro y1 (And.intro y2 (And.intro y3 rr0))))
 have hRl : R.length ≤ 1000 := by
  have h1 := T.like.1
  have h2 := H.len I.nodup
  have h3 := F.len
  omega
 have HD := Lib.hid (And.intro T (And.intro T1 (And.intro H (And.intro I (And.intro F (And.intro NX hRl))))))
 have HO := Lib.hid (And.intro q6 (And.intro q7 q8))
 have HP := Lib.hid hp
 have H1 := Lib.hid (And.intro hb1 (And.intro hs1 (And.intro k0 (And.intro k1 (And.intro k2 hw1)))))
 have HL := Lib.hid (And.intro hl0 hl1)
 have KU := Lib.hid (later_refUnder w1 op root (by omega) hrl)
 obtain ⟨tu, htu⟩ : ∃ tu, tu = underB op root := ⟨_, rfl⟩
 rw [← htu] at KU
 have HTU := Lib.hid htu
 clear T T1 H I F NX hRl q6 q7 q8 hp hb1 hs1 k0 k1 k2 hw1 hl0 hl1 htu y0 y2 y3
 go_enter Tryz.func52, Tryz.ntmps52
 go_wp2_with fail
 rw [← H1.out.2.2.2.2.2]
 refine wp_region_held_drew (S := Below w1.heap.size w1) (by kernel_rfl) (Below.refl _ w1).drew (fun hS => ?_)
 refine tI 0 rfl hS ?_
 refine tJ 1 rfl hS y1 ?_
 refine tI 2 rfl hS ?_
 refine tI 3 rfl hS ?_
 simp only [putS]
 refine tI 4 rfl hS ?_
 refine tJ 5 rfl hS rr0 ?_
 simp only [putS]
 refine cI 6 rfl ?_
 refine (KU.out _ hS).mono ?_
 rintro e w2 ⟨rfl, B2⟩
 refine ⟨B2, ?_⟩
 try dsimp only
 simp only [putS]
 refine tI 7 rfl B2 ?_
 simp only [putS]
 refine wpAnyH_done (by kernel_rfl) ?_ _
 have HB2 := Lib.hid B2
 clear hS B2 y1 rr0
 have z0 := HY.out.1 _ HB2.out
 cases tu
 case false =>
  go_wp2_with fail
  refine (q5no_any 30 _).mono ?_
  rintro e wN ⟨rfl, BN⟩
  have hbN : Below w1.heap.size w1 wN := HB2.out.trans (BN.mono HB2.out.size)
  have HTN : Hid (wN.there (w.heap.size + 2) 0 13) := Lib.hid (there_of ((hbN.block _ (by have := H1.out.2.1; omega)).trans H1.out.2.2.2.2.1) (by simp))
  have HBN : Hid (Below w.heap.size w wN) := Lib.hid (H1.out.1.trans (hbN.mono H1.out.1.size))
  have HON : Hid ((#[.int .i64 30, .string ⟨#[]⟩, .slice none 0 0, .int .u32 0, .int .u32 0, .int .u32 0, .int .i64 0, .int .u32 0, .int .u64 0, .int .u64 0, .int .u64 0, .slice none 0 0, .slice none 0 0] : Array Value).all (·.oneCell') = true) := Lib.hid (by simp [Value.oneCell'])
  clear BN hbN
  go_wp2_with (refine wpList_store_mid rfl 43 (.tmp 9) (.tmp 24) rfl (w.heap.size + 2) 0 #[.int .i64 30, .string ⟨#[]⟩, .slice none 0 0, .int .u32 0, .int .u32 0, .int .u32 0, .int .i64 0, .int .u32 0, .int .u64 0, .int .u64 0, .int .u64 0, .slice none 0 0, .slice none 0 0] rfl rfl HTN.out HSR.out HON.out ?_)
  refine bodyPost_ret (results_tmp_cell_mid rfl _ _ (w.heap.size + 2) 0 [.int .i64 30, .string ⟨#[]⟩, .slice none 0 0, .int .u32 0, .int .u32 0, .int .u32 0, .int .i64 0, .int .u32 0, .int .u64 0, .int .u64 0, .int .u64 0, .slice none 0 0, .slice none 0 0] _ rfl (World.rangeAt_setCells_same _ _ _ _ HTN.out) Tryz.underlying43 rfl HSR.out) rfl ?_
  have e3 : opE root M ⟨ws, wn⟩ ⟨6, op, odata, ov, os, oe⟩ = 30 := by
   unfold opE
   rw [if_pos HTU.out.symm]
  exact HPOST.out _ _ (q_err e3 (by decide) (q_no 30 HBN.out (by omega)))
 case true =>
  have HU : Hid (underB op root = true) := Lib.hid HTU.out.symm
  go_wp2_with fail
  have y0 := HY.out.1
  refine wp_region_held_drew (S := Below w1.heap.size w1) (by kernel_rfl) HB2.out.drew (fun hS => ?_)
  refine tI 0 rfl hS ?_
  refine tJ 1 rfl hS y0 ?_
  refine tI 2 rfl hS ?_
  refine tI 3 rfl hS ?_
  simp only [putS]
  refine tN 4 rfl hS ?_
  refine tN 5 rfl hS ?_
  refine tN 6 rfl hS ?_
  refine tN 7 rfl hS ?_
  simp only [putS]
  refine tN 8 rfl hS ?_
  refine tN 9 rfl hS ?_
  refine tN 10 rfl hS ?_
  refine tI 11 rfl hS ?_
  simp only [putS]
  refine wpAnyH_done (by kernel_rfl) ?_ _
  clear y0
  have HB3 := Lib.hid hS
  clear hS
  have z1 := HY.out.2.1 _ HB3.out
  go_wp2_with fail
  refine (HTB.out.1.q5node (HTB.out.2.trans ((H1.out.1.trans (HB3.out.mono H1.out.1.size)).mono HTB.out.2.size)) HD.out.2.2.1 HD.out.2.2.2.2.2.2 op).mono ?_
  rintro e w4 ⟨⟨ra, rn, rc, ⟨u1, u2, u3, u4, u5, u6, u7, u8⟩⟩, rfl, hrd, B4'⟩
  have HB4 := Lib.hid (HB3.out.trans (B4'.mono HB3.out.size))
  unfold Raw.cells Nums.cells
  dsimp only
  obtain ⟨gi, hgi⟩ : ∃ gi, gi = (getA op M).isSome := ⟨_, rfl⟩
  rw [← hgi]
  obtain ⟨nd, hnd⟩ : ∃ nd, nd = (getA op M).getD zNd := ⟨_, rfl⟩
  rw [← hnd] at hrd
  have hnum : (⟨u1, u2, u3, u4, u5, u6, u7, u8⟩ : Nums) = nd.num := hrd.num
  have HND := Lib.hid (And.intro hgi (And.intro hnd (And.intro hrd hnum)))
  obtain ⟨v4, hv4⟩ : ∃ v4, v4 = w4.alloc (.cells #[.slice ra rn rc, .int .u32 u1, .int .u32 u2, .int .u32 u3, .int .i64 u4, .int .u32 u5, .int .u64 u6, .int .u64 u7, .int .u64 u8] 39) := ⟨_, rfl⟩
  have hbv : Below w4.heap.size w4 v4 := by rw [hv4]; exact belowA (Below.refl _ w4) _
  have k4_ : v4.heap[w4.heap.size]? = some (.cells #[.slice ra rn rc, .int .u32 u1, .int .u32 u2, .int .u32 u3, .int .i64 u4, .int .u32 u5, .int .u64 u6, .int .u64 u7, .int .u64 u8] 39 (0, 0)) := by rw [hv4]; exact heap_alloc_new w4 _
  have hb4 : Below w1.heap.size w1 v4 := HB4.out.trans (hbv.mono HB4.out.size)
  have H4 := Lib.hid (And.intro hbv (And.intro k4_ (And.intro hb4 hv4)))
  clear hbv k4_ hb4 hv4 hgi hnd hrd hnum B4' z0 z1
  go_upto_region 8 with fail
  rw [← H4.out.2.2.2]
  cases gi
  case false =>
   have HNO : Hid (getA op M = none) := Lib.hid (by
    have h := HND.out.1
    cases hg : getA op M with
    | none => rfl
    | some d => rw [hg] at h; cases h)
   go_wp2_with fail
   refine (q5no_any 31 _).mono ?_
   rintro e wN ⟨rfl, BN⟩
   have hbN : Below w1.heap.size w1 wN := H4.out.2.2.1.trans (BN.mono H4.out.2.2.1.size)
   have HTN : Hid (wN.there (w.heap.size + 2) 0 13) := Lib.hid (there_of ((hbN.block _ (by have := H1.out.2.1; omega)).trans H1.out.2.2.2.2.1) (by simp))
   have HBN : Hid (Below w.heap.size w wN) := Lib.hid (H1.out.1.trans (hbN.mono H1.out.1.size))
   have HON : Hid ((#[.int .i64 31, .string ⟨#[]⟩, .slice none 0 0, .int .u32 0, .int .u32 0, .int .u32 0, .int .i64 0, .int .u32 0, .int .u64 0, .int .u64 0, .int .u64 0, .slice none 0 0, .slice none 0 0] : Array Value).all (·.oneCell') = true) := Lib.hid (by simp [Value.oneCell'])
   clear BN hbN
   go_wp2_with (refine wpList_store_mid rfl 43 (.tmp 9) (.tmp 61) rfl (w.heap.size + 2) 0 #[.int .i64 31, .string ⟨#[]⟩, .slice none 0 0, .int .u32 0, .int .u32 0, .int .u32 0, .int .i64 0, .int .u32 0, .int .u64 0, .int .u64 0, .int .u64 0, .slice none 0 0, .slice none 0 0] rfl rfl HTN.out HSR.out HON.out ?_)
   refine bodyPost_ret (results_tmp_cell_mid rfl _ _ (w.heap.size + 2) 0 [.int .i64 31, .string ⟨#[]⟩, .slice none 0 0, .int .u32 0, .int .u32 0, .int .u32 0, .int .i64 0, .int .u32 0, .int .u64 0, .int .u64 0, .int .u64 0, .slice none 0 0, .slice none 0 0] _ rfl (World.rangeAt_setCells_same _ _ _ _ HTN.out) Tryz.underlying43 rfl HSR.out) rfl ?_
   have e3 : opE root M ⟨ws, wn⟩ ⟨6, op, odata, ov, os, oe⟩ = 31 := by
    exact q_none HU.out ⟨show (2 : Int) ≤ 6 by decide, show (6 : Int) ≤ 6 by decide⟩ (fun h => absurd h (show ¬ (6 : Int) = 2 by decide)) HNO.out
   exact HPOST.out _ _ (q_err e3 (by decide) (q_no 31 HBN.out (by omega)))
  case true =>
  have HGS : Hid (getA op M = some nd) := Lib.hid (by
   have h := HND.out.1
   have h2 := HND.out.2.1
   cases hg : getA op M with
   | none => rw [hg] at h; cases h
   | some d => rw [hg] at h2; rw [h2]; rfl)
  have z0 := HY.out.1 _ H4.out.2.2.1
  have z3 := HY.out.2.2.2.1 _ H4.out.2.2.1
  have n1 := (nine H4.out.2.1).2.1
  obtain ⟨kv, hkv⟩ : ∃ kv, kv = decide (0 ≤ ov) := ⟨_, rfl⟩
  obtain ⟨kw, hkw⟩ : ∃ kw, kw = (ov != IntKind.i64.wrap u1) := ⟨_, rfl⟩
  have tv : decide (0 ≤ ov) = kv := hkv.symm
  have tw : (ov != IntKind.i64.wrap u1) = kw := hkw.symm
  have tw2 : (ov != wrap64 u1) = kw := by rw [hkw, IntWalk.i64_left]
  obtain ⟨vb, hvb⟩ : ∃ vb, vb = (false && kv && kw) := ⟨_, rfl⟩
  have HVB : Hid (vb = true ↔ (false = true ∧ 0 ≤ ov ∧ ov ≠ IntKind.i64.wrap nd.num.ver)) := Lib.hid (by
   have hu1 : nd.num.ver = u1 := by rw [← HND.out.2.2.2]
   rw [hvb, hkv, hkw, hu1]
   simp [and_assoc])
  have HVE := Lib.hid hvb
  clear hkv hkw hvb
  go_upto_region 10 with fail
  go_cut [77] (fun v wc => v = .bool vb ∧ v4 = wc)
  case first =>
   skip
   all_goals
    cases kv
    all_goals
     go_wp2_with fail
     go_meet
     case rel => exact ⟨by rw [HVE.out]; first | rfl | simp, rfl⟩
  case rest =>
  obtain ⟨rfl, rfl⟩ := hcut
  clear tv tw tw2 z3 n1
  have hvf : vb = false := by
   cases vb with
   | false => rfl
   | true => exact absurd (HVB.out.1 rfl).1 (by decide)
  subst hvf
  go_upto_region 26 with fail
  have hn4 : w.heap.size ≠ w.heap.size + 2 ∧ w4.heap.size ≠ w.heap.size + 2 := by have := HB4.out.size; have := H1.out.2.1; omega
  have kop := (H4.out.2.2.1.block _ HL.out.1).trans H1.out.2.2.1
  have hS0 : World.rangeAt v4.drew w.heap.size 0 [.int .u8 6, .string (bs op), .slice oa on oc, .int .i64 ov, .bool os, .bool oe, .slice pa pn pc] ∧ World.rangeAt v4.drew w4.heap.size 0 [.slice ra rn rc, .int .u32 u1, .int .u32 u2, .int .u32 u3, .int .i64 u4, .int .u32 u5, .int .u64 u6, .int .u64 u7, .int .u64 u8] := ⟨range_blk kop, range_blk H4.out.2.1⟩
  obtain ⟨kl, hkl⟩ : ∃ kl, kl = (kidsS root M op).length := ⟨_, rfl⟩
  have hkd := (HD.out.2.1.below H4.out.2.2.1.drew).kidsN HD.out.2.2.2.2.2.2 HD.out.2.2.1 HD.out.2.2.2.1 HD.out.2.2.2.2.1 op
  rw [← hkl] at hkd
  have HKD := Lib.hid hkd
  have HKL := Lib.hid hkl
  have HN4 := Lib.hid hn4
  have yy : ∀ w', World.rangeAt w' w.heap.size 0 [.int .u8 6, .string (bs op), .slice oa on oc, .int .i64 ov, .bool os, .bool oe, .slice pa pn pc] ∧ World.rangeAt w' w4.heap.size 0 [.slice ra rn rc, .int .u32 u1, .int .u32 u2, .int .u32 u3, .int .i64 u4, .int .u32 u5, .int .u64 u6, .int .u64 u7, .int .u64 u8] → w'.cell? ⟨w.heap.size, 1, none⟩ = some (.string (bs op)) := fun w' h => h.1 1 _ rfl
  clear kop hn4 z0 hkd hkl
  refine wp_region_held_drew (S := fun w' => World.rangeAt w' w.heap.size 0 [.int .u8 6, .string (bs op), .slice oa on oc, .int .i64 ov, .bool os, .bool oe, .slice pa pn pc] ∧ World.rangeAt w' w4.heap.size 0 [.slice ra rn rc, .int .u32 u1, .int .u32 u2, .int .u32 u3, .int .i64 u4, .int .u32 u5, .int .u64 u6, .int .u64 u7, .int .u64 u8]) (by kernel_rfl) hS0 (fun hS => ?_)
  refine tI 0 rfl hS ?_
  refine tJ 1 rfl hS yy ?_
  refine tL 2 rfl hS 39 (.tmp 10) w4.heap.size 0 [.slice ra rn rc, .int .u32 u1, .int .u32 u2, .int .u32 u3, .int .i64 u4, .int .u32 u5, .int .u64 u6, .int .u64 u7, .int .u64 u8] (fun _ h => h.2) Tryz.underlying39 HSZ.out ?_
  refine tI 3 rfl hS ?_
  simp only [putS]
  refine tI 4 rfl hS ?_
  refine tJ 5 rfl hS yy ?_
  simp only [putS]
  refine cI 6 rfl ?_
  refine HKD.out.mono ?_
  rintro e wk ⟨ka, kc, rfl, hkn, Bk⟩
  have sk : World.rangeAt wk w.heap.size 0 [.int .u8 6, .string (bs op), .slice oa on oc, .int .i64 ov, .bool os, .bool oe, .slice pa pn pc] ∧ World.rangeAt wk w4.heap.size 0 [.slice ra rn rc, .int .u32 u1, .int .u32 u2, .int .u32 u3, .int .i64 u4, .int .u32 u5, .int .u64 u6, .int .u64 u7, .int .u64 u8] := ⟨range_kept hS.1 Bk (World.block_lt_of_cell? _ _ (hS.1 0 _ rfl)), range_kept hS.2 Bk (World.block_lt_of_cell? _ _ (hS.2 0 _ rfl))⟩
  refine ⟨sk, ?_⟩
  try dsimp only
  simp only [putS]
  refine tI 7 rfl sk ?_
  refine tI 8 rfl sk ?_
  simp only [putS]
  have hbk : Below w1.heap.size w1 wk := H4.out.2.2.1.drew.trans (Bk.mono H4.out.2.2.1.drew.size)
  have HTH : Hid (wk.there (w.heap.size + 2) 0 13) := Lib.hid (there_of ((hbk.block _ (by have := H1.out.2.1; omega)).trans H1.out.2.2.2.2.1) (by simp))
  have HON : Hid ((#[.int .i64 0, .string (bs op), .slice ra rn rc, .int .u32 u1, .int .u32 u2, .int .u32 u3, .int .i64 u4, .int .u32 u5, .int .u64 u6, .int .u64 u7, .int .u64 u8, .slice ka kl kc, .slice none 0 0] : Array Value).all (·.oneCell') = true) := Lib.hid (by simp [Value.oneCell'])
  refine sI 9 rfl 43 (.tmp 9) (.tmp 149) (w.heap.size + 2) 0 #[.int .i64 0, .string (bs op), .slice ra rn rc, .int .u32 u1, .int .u32 u2, .int .u32 u3, .int .i64 u4, .int .u32 u5, .int .u64 u6, .int .u64 u7, .int .u64 u8, .slice ka kl kc, .slice none 0 0] HTH.out HSR.out HON.out ⟨range_set sk.1 (fun e => HN4.out.1 e), range_set sk.2 (fun e => HN4.out.2 e)⟩ ?_
  simp only [putS]
  refine wpAnyH_done (by kernel_rfl) ?_ _
  have HKN := Lib.hid (And.intro hkn hbk)
  clear hS hS0 yy sk hkn hbk Bk
  go_wp2_with fail
  refine bodyPost_ret (results_tmp_cell_mid rfl _ _ (w.heap.size + 2) 0 [.int .i64 0, .string (bs op), .slice ra rn rc, .int .u32 u1, .int .u32 u2, .int .u32 u3, .int .i64 u4, .int .u32 u5, .int .u64 u6, .int .u64 u7, .int .u64 u8, .slice ka kl kc, .slice none 0 0] _ rfl (World.rangeAt_setCells_same _ _ _ _ HTH.out) Tryz.underlying43 rfl HSR.out) rfl ?_
  refine HPOST.out _ _ ?_
  have hW : Below w.heap.size w (wk.setCells (w.heap.size + 2) 0 [.int .i64 0, .string (bs op), .slice ra rn rc, .int .u32 u1, .int .u32 u2, .int .u32 u3, .int .i64 u4, .int .u32 u5, .int .u64 u6, .int .u64 u7, .int .u64 u8, .slice ka kl kc, .slice none 0 0]) := q_box _ (H1.out.1.trans (HKN.out.2.mono H1.out.1.size)) (by omega)
  obtain ⟨g1, g2, g3⟩ := q_kids (at_ := at_) (who := ⟨ws, wn⟩) (o := ⟨6, op, odata, ov, os, oe⟩) HU.out rfl HGS.out
  rw [g1, g2, g3]
  have hWb := HTB.out.2.trans (hW.mono HTB.out.2.size)
  have hr1 := (HND.out.2.2.1.monoB (lo' := fun k => lq k ∨ w.heap.size + 3 ≤ k) (fun k h1 h2 => Or.inl (HLQ.out.1 k h1 h2))).below hWb
  have K9 : Kept (· = w.heap.size + 2) wk (wk.setCells (w.heap.size + 2) 0 [.int .i64 0, .string (bs op), .slice ra rn rc, .int .u32 u1, .int .u32 u2, .int .u32 u3, .int .i64 u4, .int .u32 u5, .int .u64 u6, .int .u64 u7, .int .u64 u8, .slice ka kl kc, .slice none 0 0]) := Kept.setCells (S := (· = w.heap.size + 2)) (p := w.heap.size + 2) rfl _ 0 (Kept.refl _ wk)
  have hvs := H4.out.2.2.1.size
  have hs1 := H1.out.2.1
  have hks : StrLo (wk.setCells (w.heap.size + 2) 0 [.int .i64 0, .string (bs op), .slice ra rn rc, .int .u32 u1, .int .u32 u2, .int .u32 u3, .int .i64 u4, .int .u32 u5, .int .u64 u6, .int .u64 u7, .int .u64 u8, .slice ka kl kc, .slice none 0 0]) (fun k => lq k ∨ w.heap.size + 3 ≤ k) ka (kidsS root M op) := fun k p hk => by
   obtain ⟨b, off, h1, h2, h3, h4⟩ := HKN.out.1 k p hk
   have h2 : v4.heap.size ≤ b := h2
   exact ⟨b, off, h1, Or.inr (by omega), Nat.lt_of_lt_of_le h3 K9.size, (K9.cell (p := ⟨b, off + k, none⟩) h3 (fun e => by have e : b = w.heap.size + 2 := e; omega)).trans h4⟩
  exact ⟨_, _, rfl, EffsB.nil _ _ _, ⟨⟨ra, rn, rc, ⟨u1, u2, u3, u4, u5, u6, u7, u8⟩⟩, ka, kc, by rw [HKL.out]; rfl, hr1, hks⟩, hW⟩
end
end Go.Proofs.YtnclkfhdpkkakaaGreatDoor
