/-
  The reference's Do of a multi, walked. The reference's Do of any operation; its Effects: the same ones?.
-/
import Derived.Test.YtnclkfhdpkkakaaGreatDoorQ40
namespace Go.Proofs.YtnclkfhdpkkakaaGreatDoor
set_option linter.unusedVariables false
set_option linter.unusedSimpArgs false
open Go Go.RowKit Go.Shelf Go.MapKept Go.ChangeMaps Go.Maps Go.Sort
def QSt (wb w1 : World) (xb B : Nat) (root : Bytes) (at_ : Int) (M : List (Bytes × Nd)) (who : Sess) (ps : List Opl) (v : Value) (k : Nat) (wr : World) : Prop :=
 runE root (at_ + 1) who M (ps.take k) = 0 ∧ ∃ ra rc LE LR cx, QB wb w1 wr xb B root cx (runM root (at_ + 1) who M (ps.take k)) (runX root (at_ + 1) who M (ps.take k)) (runR root (at_ + 1) who M (ps.take k)) ra rc k v LE LR ∧ 0 ≤ cx ∧ cx ≤ at_ + k
theorem q_runFit {root : Bytes} {M : List (Bytes × Nd)} {at_ : Int} {who : Sess} (I : Inv root M) (F : Fit M) (l : List Opl) (hl : ∀ o ∈ l, Leafy o) : Fit (runM root at_ who M l) := by
 have h := F.all (run_fitE (root := root) (at_ := at_) (who := who) l F I hl) (root := root)
 rw [run_fits l I] at h
 exact h
theorem q_eta {root : Bytes} {M : List (Bytes × Nd)} {at_ : Int} {who : Sess} {o : Opl} : (⟨opE root M who o, (opR root M at_ who o).a⟩ : Rep) = opR root M at_ who o := by
 unfold opR
 split
 ·rfl
 ·rename_i h
  have h : opE root M who o = 0 := by simpa using h
  rw [h]
theorem q_flat {w : World} {B : Nat} {la : Option Addr} {Ln : List RawE} (h : EffsAt w B la Ln) {ad : Addr} (hla : la = some ad) (j : Nat) (u : Value) (hu : (Ln.flatMap RawE.cells)[j]? = some u) : w.cell? (ad.add j) = some u := by
 cases hL : Ln with
 | nil => rw [hL] at hu; simp at hu
 | cons r Ls =>
  obtain ⟨b, off, e1, _, _⟩ := h 0 r (by rw [hL]; rfl)
  have e : ad = ⟨b, off, none⟩ := Option.some.inj (hla.symm.trans e1)
  subst e
  rw [e1] at h
  exact h.flat j u hu
theorem q_rowB {lq : Nat → Prop} {w w' : World} {base : Nat} {v : Value} {L : List RawE} {E : List Eff} (h : w'.ownsRow base 88 11 v L.length (L.flatMap RawE.cells)) (hb : w.heap.size ≤ base) (hl : LikeE w' lq L E) : EffsB lq w w' v E := by
 rcases h.2 with ⟨h1, h0⟩ | ⟨g, cap, cur, h1, hbg, hg, _⟩
 ·have hL : L = [] := List.eq_nil_of_length_eq_zero h0
  have hE : E = [] := List.eq_nil_of_length_eq_zero (by rw [← hl.1, hL]; rfl)
  subst hL hE
  rw [h1]
  exact EffsB.nil _ _ _
 ·refine ⟨some ⟨g, 0, none⟩, cap, L, by rw [h1, hl.1], ⟨fun b off e => by cases e; omega, fun e => by cases e⟩, fun k r hk => ⟨g, 0, rfl, lt_of_block hg, fun j u hu => ?_⟩, hl⟩
  have := h.cells (g := g) (by rw [h1]; rfl) (k * 11 + j) u (flat_at L k r hk j u hu)
  rw [Addr.add_lit, Nat.zero_add] at this
  rw [show 0 + k * 11 + j = k * 11 + j by omega]
  exact this
theorem q_leafy {w : World} {pa : Option Addr} {Q : List Opl} (h : PartsAt w pa Q) : ∀ p ∈ Q, Leafy p := fun p hp => by
 obtain ⟨k, hk⟩ := List.mem_iff_getElem?.1 hp
 obtain ⟨_, _, _, _, _, _, _, h7⟩ := h k p hk
 exact h7
section
variable {w : World} {Z : Nat → Prop} {rb : Nat} {root : Bytes} {cnt : Int} {ao : Option Addr} {c0 : Nat} {R : List RawA} {M L : List (Bytes × Nd)}
set_option maxRecDepth 100000 in
set_option maxHeartbeats 16000000 in
theorem RefAt.q5do_mul {wb : World} (Tb : RefAt wb Z rb root cnt ao c0 R L) (hbb : Below wb.heap.size wb w) (H : Rel M L) (I : Inv root M) (F : Fit M) (NX : Nice M) (hrl : root.length ≤ 1000) (h0 : 0 ≤ cnt) (h1 : cnt ≤ 1000000) (r : RawO) (o : OpV) (who : Sess) (ce : Int) {lo : Nat → Prop} (hr : LeafO wb lo r o.leaf) (HC : ∀ w', Below w.heap.size w w' → Calls Tryz.prog 32 #[r.val] w' (CheckIs w' ce)) (hce : ce = 0) (hk : o.leaf.kind = 7) (hpn : r.pn = o.parts.length) (h6 : o.parts.length ≤ 6) (hpt : PartsAt wb r.pa o.parts) :
  Calls Tryz.prog 30 #[.pointer (some ⟨rb, 0, none⟩), r.val, whoV who] w (DoEndQ wb w root M cnt who ce o) := by
 have T := Tb.below hbb
 have HTB := Lib.hid (And.intro Tb hbb)
 clear Tb hbb
 obtain ⟨ok, op, oa, on, oc, ov, os, oe, pa, pn, pc⟩ := r
 obtain ⟨ws, wn⟩ := who
 have HR := Lib.hid hr
 unfold RawO.val RawO.cells whoV
 unfold RawO.val RawO.cells at HC
 dsimp only at HC ⊢
 obtain ⟨w1, hw1, hb1, hs1, k0, k1, k2⟩ := do_boxes w ok op oa on oc ov os oe pa pn pc ws wn
 have HSO : Hid ((Tryz.prog.info? 26).map (·.size) = some 7) := Lib.hid (by kernel_rfl)
 have HSR : Hid ((Tryz.prog.info? 43).map (·.size) = some 13) := Lib.hid infoReply13
 have HSS : Hid ((Tryz.prog.info? 29).map (·.size) = some 2) := Lib.hid (by kernel_rfl)
 have T1 := T.below hb1
 have hl0 : w.heap.size < w1.heap.size := by omega
 have hl1 : w.heap.size + 1 < w1.heap.size := by omega
 have HD := Lib.hid (And.intro T (And.intro T1 (And.intro H (And.intro I (And.intro F (And.intro NX hrl))))))
 have H1 := Lib.hid (And.intro hb1 (And.intro hs1 (And.intro k0 (And.intro k1 (And.intro k2 hw1)))))
 have HL := Lib.hid (And.intro hl0 hl1)
 have HCK := Lib.hid (HC w1 hb1)
 have HR1 := Lib.hid (range_blk k0)
 have HCN := Lib.hid (And.intro h0 h1)
 subst hce
 obtain ⟨lf, ps⟩ := o
 dsimp only at hk hpn h6 hpt
 have hk7 : ok = 7 := by have h := HR.out.kind; exact h.trans hk
 have tk7 : (ok != 7) = false := by rw [hk7]; rfl
 have y0 := fun (w' : World) (hb : Below w1.heap.size w1 w') => (hb.cell (p := ⟨w.heap.size, 0, none⟩) hl0).trans (cell_of_row _ _ 0 _ 26 (0, 0) k0)
 have y6 := fun (w' : World) (hb : Below w1.heap.size w1 w') => (hb.cell (p := ⟨w.heap.size, 6, none⟩) hl0).trans (cell_of_row _ _ 6 _ 26 (0, 0) k0)
 have HY0 := Lib.hid (And.intro y0 y6)
 have HK := Lib.hid (And.intro hk (And.intro hpn (And.intro h6 hpt)))
 clear hk hpn h6 hpt hk7 y0 y6
 clear T T1 H I F NX hrl hb1 hs1 k0 k1 k2 hw1 hl0 hl1 hr HC h0 h1
 go_enter Tryz.func30, Tryz.ntmps30
 go_upto_region 1 with fail
 rw [← H1.out.2.2.2.2.2]
 go_wp2_with (refine wpList_load_mid rfl 26 (.tmp 4) rfl w.heap.size 0 rfl [.int .u8 ok, .string (bs op), .slice oa on oc, .int .i64 ov, .bool os, .bool oe, .slice pa pn pc] _ HR1.out Tryz.underlying26 rfl HSO.out ?_)
 refine HCK.out.mono ?_
 rintro e w2 ⟨rfl, B2⟩
 have HB2 := Lib.hid B2
 clear B2
 have z0 := HY0.out.1 w2 HB2.out
 go_wp2_with fail
 refine (HTB.out.1.q5own (HTB.out.2.trans ((H1.out.1.trans (HB2.out.mono H1.out.1.size)).mono HTB.out.2.size)) HD.out.2.2.1 HD.out.2.2.2.1 HD.out.2.2.2.2.1).mono ?_
 rintro e w3 ⟨xb, ao3, c3, rfl, hxb, TX, B3'⟩
 obtain ⟨w4, hw4⟩ : ∃ w4, w4 = w3.alloc (.cells #[.int .i64 0, .string ⟨#[]⟩, .slice none 0 0, .int .u32 0, .int .u32 0, .int .u32 0, .int .i64 0, .int .u32 0, .int .u64 0, .int .u64 0, .int .u64 0, .slice none 0 0, .slice none 0 0] 43) := ⟨_, rfl⟩
 have b34 : Below w3.heap.size w3 w4 := by rw [hw4]; exact belowA (Below.refl _ w3) _
 have b13 : Below w1.heap.size w1 w3 := HB2.out.trans (B3'.mono HB2.out.size)
 have hs12 := HB2.out.size
 have hs23 := B3'.size
 have hs1 := H1.out.2.1
 have Q0 : QB wb w1 w4 xb w3.heap.size root cnt M [] [] none 0 0 (.slice none 0 0) [] [] := by
  refine ⟨⟨by omega, by omega, by have := HTB.out.2.size; omega⟩, b13.trans (b34.mono b13.size), ⟨_, _, _, _, (TX.rezS (Z' := ZQ wb w1 xb w3.heap.size (.slice none 0 0) (.slice none 0 0)) (fun j hj h => ?_)).below b34, HD.out.2.2.1⟩, repRow_nil _ _ _, rfl, by rw [hw4]; exact heap_alloc_new w3 _, fun j h => (by cases h), World.ownsRow_nil _ _ _ _, ⟨rfl, fun k r e h => by simp at h⟩⟩
  rcases h with h | h | h | h | h
  ·exact .inl h
  ·omega
  ·exact .inr (by have := HTB.out.2.size; omega)
  ·cases h
  ·cases h
 have hst : QSt wb w1 xb w3.heap.size root cnt M ⟨ws, wn⟩ ps (.slice none 0 0) 0 w4 := ⟨rfl, none, 0, [], [], cnt, Q0, HCN.out.1, by omega⟩
 have HST := Lib.hid hst
 have HW4 := Lib.hid hw4
 clear Q0 hst hw4 b34 b13 hs12 hs23 TX B3' hxb z0
 go_upto_region 9 with fail
 rw [← HW4.out]
 have hn6 : pn ≤ 6 := by rw [HK.out.2.1]; exact HK.out.2.2.1
 go_wp2_with fail
 go_loopw [10, 12] (fun av iv wr => ∃ (v : Value) (k : Nat), v = av ∧ k ≤ pn ∧ iv = .int .i64 k ∧ Hid (QSt wb w1 xb w3.heap.size root cnt M ⟨ws, wn⟩ ps v k wr)) (fun _ iv _ => pn - (intOf iv).toNat)
 case atStart => exact ⟨_, 0, rfl, Nat.zero_le _, rfl, HST⟩
 case round =>
  obtain ⟨v, k, rfl, hk, rfl, HS⟩ := hrel
  obtain ⟨hrun, ra, rc, LE, LR, cx, Q, hcx0, hcx1⟩ := HS.out
  have HQ0 := Lib.hid (And.intro hrun (And.intro Q (And.intro hcx0 hcx1)))
  by_cases hlt : k < pn
  ·have tlt : decide ((k : Int) < (pn : Int)) = true := by simp; omega
   have hlt2 : k < ps.length := by rw [← HK.out.2.1]; exact hlt
   obtain ⟨p, hp⟩ : ∃ p, ps[k]? = some p := ⟨_, List.getElem?_eq_getElem hlt2⟩
   obtain ⟨g, off, ⟨pk, pp, da, dn, dc, pv, psq, pse, fa, fn, fc⟩, hpa, hgl, hrg, hlf, hly⟩ := HK.out.2.2.2 k p hp
   subst hpa
   have bw1 : Below wb.heap.size wb wr := HTB.out.2.trans ((H1.out.1.trans (Q.bl.mono H1.out.1.size)).mono HTB.out.2.size)
   have y6 : ∀ w', Below wr.heap.size wr w' → w'.cell? ⟨w.heap.size, 6, none⟩ = some (.slice (some ⟨g, off, none⟩) pn pc) := fun w' hb => HY0.out.2 w' (Q.bl.trans (hb.mono Q.bl.size))
   have yp : ∀ w', Below wr.heap.size wr w' → w'.rangeAt g (off + k * 7) [.int .u8 pk, .string (bs pp), .slice da dn dc, .int .i64 pv, .bool psq, .bool pse, .slice fa fn fc] := fun w' hb => range_kept hrg (bw1.trans (hb.mono bw1.size)) hgl
   have ys : ∀ w', Below wr.heap.size wr w' → w'.rangeAt (w.heap.size + 1) 0 [.int .i64 ws, .int .u32 wn] := fun w' hb => range_blk (((Q.bl.trans (hb.mono Q.bl.size)).block _ HL.out.2).trans H1.out.2.2.2.1)
   have q1 : ∀ w', Below wr.heap.size wr w' → w'.cell? ⟨rb, 1, none⟩ = some (.int .u64 cnt) := fun w' hb => (HD.out.2.1.below (Q.bl.trans (hb.mono Q.bl.size))).c1
   have ti : ∀ w', Below wr.heap.size wr w' → (k : Int) < (pn : Int) := fun _ _ => by omega
   have twc : ∀ _ : True, IntKind.u64.wrap (cnt + 1) = cnt + 1 := fun _ => by have := HCN.out; rw [IntKind.wrap_u64]; omega
   obtain ⟨aoX, cX, RX, LX, TX, HX⟩ := Q.tree
   have Ik := HD.out.2.2.2.1.run (at_ := cnt + 1) (who := ⟨ws, wn⟩) (ps.take k)
   have Nk := Nice.run (root := root) (at_ := cnt + 1) (who := ⟨ws, wn⟩) (ps.take k) HD.out.2.2.2.2.2.1
   have Fk := q_runFit (at_ := cnt + 1) (who := ⟨ws, wn⟩) HD.out.2.2.2.1 HD.out.2.2.2.2.1 (ps.take k) (fun q hq => q_leafy HK.out.2.2.2 q (List.mem_of_mem_take hq))
   have hxx := Q.hx
   have hone : ∀ W0, Below wr.heap.size wr W0 → Calls Tryz.prog 52 #[.pointer (some ⟨xb, 0, none⟩), .agg #[.int .u8 pk, .string (bs pp), .slice da dn dc, .int .i64 pv, .bool psq, .bool pse, .slice fa fn fc], .agg #[.int .i64 ws, .int .u32 wn], .int .u64 (cnt + 1)] W0 (QEnd (fun j => ¬ ZQ wb w1 xb w3.heap.size (.slice ra k rc) v j ∧ j < wr.heap.size) W0 (opE root (runM root (cnt + 1) ⟨ws, wn⟩ M (ps.take k)) ⟨ws, wn⟩ p) (opXs root (runM root (cnt + 1) ⟨ws, wn⟩ M (ps.take k)) (cnt + 1) ⟨ws, wn⟩ p) (opR root (runM root (cnt + 1) ⟨ws, wn⟩ M (ps.take k)) (cnt + 1) ⟨ws, wn⟩ p).a) := fun W0 hW0 =>
    TX.q5one hW0 HX Ik Fk Nk HD.out.2.2.2.2.2.2 ⟨pk, pp, da, dn, dc, pv, psq, pse, fa, fn, fc⟩ p ⟨ws, wn⟩ (cnt + 1) (lq := (fun j => ¬ ZQ wb w1 xb w3.heap.size (.slice ra k rc) v j ∧ j < wr.heap.size)) (fun j h1 h2 => ⟨h1, h2⟩) (fun j h1 h2 => ⟨fun h => by
     have h1 : j < wb.heap.size := h1
     rcases h with h | h | h | h | h
     ·omega
     ·omega
     ·omega
     ·have := (Q.rep.own.lt j h).1; omega
     ·have := (Q.own.lt j h).1; omega, h2⟩) (fun j h => h.2) (hlf.below bw1) hly
   have HONE := Lib.hid hone
   have HLF := Lib.hid (And.intro hp (And.intro hlt2 (And.intro Ik (And.intro Nk (And.intro Fk hly)))))
   have hsw : ∀ j, (fun j => ¬ ZQ wb w1 xb w3.heap.size (.slice ra k rc) v j ∧ j < wr.heap.size) j → j < wr.heap.size := fun j h => h.2
   have HSW := Lib.hid hsw
   clear hone TX HX Ik Nk Fk hxx hrg hlf hly hgl bw1 hp hrun Q hcx0 hcx1 HS hsw
   have z6 := y6 wr (Below.refl _ wr)
   go_upto_region 12 with fail
   clear z6
   go_cut [13, 14] (fun lv pv wc => PQ (fun j => ¬ ZQ wb w1 xb w3.heap.size (.slice ra k rc) v j ∧ j < wr.heap.size) wr (opXs root (runM root (cnt + 1) ⟨ws, wn⟩ M (ps.take k)) (cnt + 1) ⟨ws, wn⟩ p) ⟨opE root (runM root (cnt + 1) ⟨ws, wn⟩ M (ps.take k)) ⟨ws, wn⟩ p, (opR root (runM root (cnt + 1) ⟨ws, wn⟩ M (ps.take k)) (cnt + 1) ⟨ws, wn⟩ p).a⟩ lv pv wc)
   case first =>
    refine wp_region_held_drew (S := fun w' => Below wr.heap.size wr w') (by kernel_rfl) (Below.refl _ wr).drew (fun hS => ?_)
    refine tI 0 rfl hS ?_
    refine tI 1 rfl hS ?_
    refine tJ 2 rfl hS y6 ?_
    refine tI 3 rfl hS ?_
    simp only [putS]
    refine tJ 4 rfl hS ti ?_
    refine tL 5 rfl hS 26 (.tmp 51) g (off + k * 7) [.int .u8 pk, .string (bs pp), .slice da dn dc, .int .i64 pv, .bool psq, .bool pse, .slice fa fn fc] yp Tryz.underlying26 HSO.out ?_
    refine tL 6 rfl hS 29 (.tmp 5) (w.heap.size + 1) 0 [.int .i64 ws, .int .u32 wn] ys Tryz.underlying29 HSS.out ?_
    refine tI 7 rfl hS ?_
    simp only [putS]
    refine tI 8 rfl hS ?_
    refine tI 9 rfl hS ?_
    refine tJ 10 rfl hS q1 ?_
    refine tI 11 rfl hS ?_
    simp only [putS]
    refine call_or 12 16 rfl rfl (by kernel_rfl) (by rfl) (by rfl) _ _ (by go_simp <;> first | rfl | exact ⟨rfl, rfl⟩) (.pointer (some ⟨wr.heap.size, 0, none⟩)) (wr.drew.alloc (.cells #[.int .i64 0, .string ⟨#[]⟩, .slice none 0 0, .int .u32 0, .int .u32 0, .int .u32 0, .int .i64 0, .int .u32 0, .int .u64 0, .int .u64 0, .int .u64 0, .slice none 0 0, .slice none 0 0] 43)) (by go_simp <;> first | rfl | exact ⟨rfl, rfl⟩) ?_ (hS.alloc hS.size _) ?_
    ·refine (HONE.out _ hS).mono ?_
     rintro e w6 ⟨v1, v2, rfl, hE, ⟨⟨ra0, rn, rc0, ⟨r1, r2, r3, r4, r5, r6, r7, r8⟩⟩, ka, kc, rfl, g1, g2⟩, hB⟩
     have B6 : Below wr.heap.size wr w6 := hS.trans (hB.mono hS.size)
     refine ⟨B6, ?_⟩
     try dsimp only
     simp only [putS]
     refine tI 13 rfl B6 ?_
     refine tI 14 rfl B6 ?_
     refine tI 15 rfl B6 ?_
     simp only [putS]
     have B7 := B6.alloc B6.size (.cells #[.int .i64 0, .string ⟨#[]⟩, .slice none 0 0, .int .u32 0, .int .u32 0, .int .u32 0, .int .i64 0, .int .u32 0, .int .u64 0, .int .u64 0, .int .u64 0, .slice none 0 0, .slice none 0 0] 43)
     refine gI 16 rfl (.pointer (some ⟨w6.heap.size, 0, none⟩)) (w6.alloc (.cells #[.int .i64 0, .string ⟨#[]⟩, .slice none 0 0, .int .u32 0, .int .u32 0, .int .u32 0, .int .i64 0, .int .u32 0, .int .u64 0, .int .u64 0, .int .u64 0, .slice none 0 0, .slice none 0 0] 43)) B7 ?_
     simp only [putS]
     refine tI 17 rfl B7 ?_
     simp only [putS]
     have k7 := heap_alloc_new w6 (.cells #[.int .i64 0, .string ⟨#[]⟩, .slice none 0 0, .int .u32 0, .int .u32 0, .int .u32 0, .int .i64 0, .int .u32 0, .int .u64 0, .int .u64 0, .int .u64 0, .slice none 0 0, .slice none 0 0] 43)
     have ht : (w6.alloc (.cells #[.int .i64 0, .string ⟨#[]⟩, .slice none 0 0, .int .u32 0, .int .u32 0, .int .u32 0, .int .i64 0, .int .u32 0, .int .u64 0, .int .u64 0, .int .u64 0, .slice none 0 0, .slice none 0 0] 43)).there w6.heap.size 0 13 := there_of k7 (by simp)
     have hpq := pq_of (x := opE root (runM root (cnt + 1) ⟨ws, wn⟩ M (ps.take k)) ⟨ws, wn⟩ p) (kc := kc) HSW.out hS hB (belowA (Below.refl _ w6) (.cells #[.int .i64 0, .string ⟨#[]⟩, .slice none 0 0, .int .u32 0, .int .u32 0, .int .u32 0, .int .i64 0, .int .u32 0, .int .u64 0, .int .u64 0, .int .u64 0, .slice none 0 0, .slice none 0 0] 43)) B6.size (Or.inl (Nat.le_refl _)) k7 rfl hE g1 g2
     generalize hex : opE root (runM root (cnt + 1) ⟨ws, wn⟩ M (ps.take k)) ⟨ws, wn⟩ p = ex at hpq ⊢
     generalize hAA : (opR root (runM root (cnt + 1) ⟨ws, wn⟩ M (ps.take k)) (cnt + 1) ⟨ws, wn⟩ p).a = AA at hpq ⊢
     have HEX := Lib.hid (And.intro hex hAA)
     clear hex hAA
     generalize AA.path = px at hpq ⊢
     generalize AA.kids.length = kn at hpq ⊢
     unfold repCells Raw.cells Nums.cells at hpq
     unfold repCells Raw.cells Nums.cells
     dsimp only [List.cons_append, List.nil_append] at hpq
     dsimp only [List.cons_append, List.nil_append]
     have HON : Hid ((#[.int .i64 ex, .string (bs px), .slice ra0 rn rc0, .int .u32 r1, .int .u32 r2, .int .u32 r3, .int .i64 r4, .int .u32 r5, .int .u64 r6, .int .u64 r7, .int .u64 r8, .slice ka kn kc, .slice none 0 0] : Array Value).all (·.oneCell') = true) := Lib.hid (by simp [Value.oneCell'])
     refine sI 18 rfl 43 (.tmp 14) (.tmp 61) w6.heap.size 0 #[.int .i64 ex, .string (bs px), .slice ra0 rn rc0, .int .u32 r1, .int .u32 r2, .int .u32 r3, .int .i64 r4, .int .u32 r5, .int .u64 r6, .int .u64 r7, .int .u64 r8, .slice ka kn kc, .slice none 0 0] ht HSR.out HON.out (B7.trans ((Kept.setCells (S := (· = w6.heap.size)) (p := w6.heap.size) rfl _ 0 (Kept.refl _ _)).below B7.size (fun j e => by have e : j = w6.heap.size := e; have := B6.size; omega))) ?_
     simp only [putS]
     refine wpAnyH_done (by kernel_rfl) ?_ _
     go_wp2_with fail
     go_meet
     case rel =>
      rw [HEX.out.1, HEX.out.2]
      exact hpq
    ·skip
     simp only [putS]
     have b0 := hS.alloc hS.size (.cells #[.int .i64 0, .string ⟨#[]⟩, .slice none 0 0, .int .u32 0, .int .u32 0, .int .u32 0, .int .i64 0, .int .u32 0, .int .u64 0, .int .u64 0, .int .u64 0, .slice none 0 0, .slice none 0 0] 43)
     refine cI 12 rfl ?_
     refine (HONE.out _ b0).mono ?_
     rintro e w6 ⟨v1, v2, rfl, hE, ⟨⟨ra0, rn, rc0, ⟨r1, r2, r3, r4, r5, r6, r7, r8⟩⟩, ka, kc, rfl, g1, g2⟩, hB⟩
     have B6 : Below wr.heap.size wr w6 := b0.trans (hB.mono b0.size)
     refine ⟨B6, ?_⟩
     try dsimp only
     simp only [putS]
     refine tI 13 rfl B6 ?_
     refine tI 14 rfl B6 ?_
     refine tI 15 rfl B6 ?_
     refine tI 17 rfl B6 ?_
     simp only [putS]
     have k7 := (hB.block wr.heap.size (by simp)).trans (heap_alloc_new wr.drew (.cells #[.int .i64 0, .string ⟨#[]⟩, .slice none 0 0, .int .u32 0, .int .u32 0, .int .u32 0, .int .i64 0, .int .u32 0, .int .u64 0, .int .u64 0, .int .u64 0, .slice none 0 0, .slice none 0 0] 43))
     have ht : w6.there wr.heap.size 0 13 := there_of k7 (by simp)
     have hpq := pq_of (x := opE root (runM root (cnt + 1) ⟨ws, wn⟩ M (ps.take k)) ⟨ws, wn⟩ p) (kc := kc) HSW.out b0 hB (Below.refl _ w6) (Nat.le_refl _) (Or.inr (by simp)) k7 rfl hE g1 g2
     generalize hex : opE root (runM root (cnt + 1) ⟨ws, wn⟩ M (ps.take k)) ⟨ws, wn⟩ p = ex at hpq ⊢
     generalize hAA : (opR root (runM root (cnt + 1) ⟨ws, wn⟩ M (ps.take k)) (cnt + 1) ⟨ws, wn⟩ p).a = AA at hpq ⊢
     have HEX := Lib.hid (And.intro hex hAA)
     clear hex hAA
     generalize AA.path = px at hpq ⊢
     generalize AA.kids.length = kn at hpq ⊢
     unfold repCells Raw.cells Nums.cells at hpq
     unfold repCells Raw.cells Nums.cells
     dsimp only [List.cons_append, List.nil_append] at hpq
     dsimp only [List.cons_append, List.nil_append]
     have HON : Hid ((#[.int .i64 ex, .string (bs px), .slice ra0 rn rc0, .int .u32 r1, .int .u32 r2, .int .u32 r3, .int .i64 r4, .int .u32 r5, .int .u64 r6, .int .u64 r7, .int .u64 r8, .slice ka kn kc, .slice none 0 0] : Array Value).all (·.oneCell') = true) := Lib.hid (by simp [Value.oneCell'])
     refine sI 18 rfl 43 (.tmp 14) (.tmp 61) wr.heap.size 0 #[.int .i64 ex, .string (bs px), .slice ra0 rn rc0, .int .u32 r1, .int .u32 r2, .int .u32 r3, .int .i64 r4, .int .u32 r5, .int .u64 r6, .int .u64 r7, .int .u64 r8, .slice ka kn kc, .slice none 0 0] ht HSR.out HON.out (B6.trans ((Kept.setCells (S := (· = wr.heap.size)) (p := wr.heap.size) rfl _ 0 (Kept.refl _ _)).below B6.size (fun j e => by have e : j = wr.heap.size := e; omega))) ?_
     simp only [putS]
     refine wpAnyH_done (by kernel_rfl) ?_ _
     go_wp2_with fail
     go_meet
     case rel =>
      rw [HEX.out.1, HEX.out.2]
      exact hpq
   case rest =>
   obtain ⟨pb, ⟨ex, px, ⟨ra0, rn, rc0, ⟨r1, r2, r3, r4, r5, r6, r7, r8⟩⟩, ka, kn, kc⟩, la, lc, Ln, rfl, rfl, kpb0, hpb, Bc, gl, gn, gE, gL, gR⟩ := hcut
   have kpb : wc.heap[pb]? = some (.cells #[.int .i64 ex, .string (bs px), .slice ra0 rn rc0, .int .u32 r1, .int .u32 r2, .int .u32 r3, .int .i64 r4, .int .u32 r5, .int .u64 r6, .int .u64 r7, .int .u64 r8, .slice ka kn kc, .slice none 0 0] 43 (0, 0)) := kpb0
   have hex : ex = opE root (runM root (cnt + 1) ⟨ws, wn⟩ M (ps.take k)) ⟨ws, wn⟩ p := gR.e
   obtain ⟨nE, hnE⟩ : ∃ nE, nE = (opXs root (runM root (cnt + 1) ⟨ws, wn⟩ M (ps.take k)) (cnt + 1) ⟨ws, wn⟩ p).length := ⟨_, rfl⟩
   rw [← hnE]
   have Q := HQ0.out.2.1
   have Q1 := Q.below Bc
   obtain ⟨w9, hw9⟩ : ∃ w9, w9 = wc.alloc (.cells #[.int .i64 ex, .string (bs px), .slice ra0 rn rc0, .int .u32 r1, .int .u32 r2, .int .u32 r3, .int .i64 r4, .int .u32 r5, .int .u64 r6, .int .u64 r7, .int .u64 r8, .slice ka kn kc, .slice none 0 0] 43) := ⟨_, rfl⟩
   have B9 : Below wc.heap.size wc w9 := by rw [hw9]; exact belowA (Below.refl _ wc) _
   have k9 : w9.heap[wc.heap.size]? = some (.cells #[.int .i64 ex, .string (bs px), .slice ra0 rn rc0, .int .u32 r1, .int .u32 r2, .int .u32 r3, .int .i64 r4, .int .u32 r5, .int .u64 r6, .int .u64 r7, .int .u64 r8, .slice ka kn kc, .slice none 0 0] 43 (0, 0)) := by rw [hw9]; exact heap_alloc_new wc _
   have Q9 := Q1.below B9
   have own9 : w9.ownsRow w1.heap.size 43 13 (.slice ra k rc) k (LR.flatMap RawR.cells) := by have h := Q9.rep.own; rw [Q9.hk] at h; exact h
   have c12 : wc.cell? ⟨w3.heap.size, 12, none⟩ = some (.slice ra k rc) := cell_of_row _ _ 12 _ 43 (0, 0) Q1.kB
   have HR8 := Lib.hid (range_blk kpb)
   have hC9 : ∀ j u, ([.int .i64 ex, .string (bs px), .slice ra0 rn rc0, .int .u32 r1, .int .u32 r2, .int .u32 r3, .int .i64 r4, .int .u32 r5, .int .u64 r6, .int .u64 r7, .int .u64 r8, .slice ka kn kc, .slice none 0 0] : List Value)[j]? = some u → w9.cell? ((⟨wc.heap.size, 0, none⟩ : Addr).add j) = some u := fun j u hu => by
    rw [Addr.add_lit, Nat.zero_add]
    have := range_blk k9 j u hu
    rw [Nat.zero_add] at this
    exact this
   have hpl : ∀ u ∈ ([.int .i64 ex, .string (bs px), .slice ra0 rn rc0, .int .u32 r1, .int .u32 r2, .int .u32 r3, .int .i64 r4, .int .u32 r5, .int .u64 r6, .int .u64 r7, .int .u64 r8, .slice ka kn kc, .slice none 0 0] : List Value), u.oneCell' = true := by intro u hu; simp only [List.mem_cons, List.not_mem_nil, or_false] at hu; rcases hu with rfl | rfl | rfl | rfl | rfl | rfl | rfl | rfl | rfl | rfl | rfl | rfl | rfl <;> rfl
   have hm1 : k + 1 ≤ maxLen := by unfold maxLen; omega
   have hm2 : (k + 1) * 152 ≤ 140737488355328 := by omega
   have hb9 : w1.heap.size ≤ w9.heap.size := Q9.bl.size
   obtain ⟨i0, hi0, hz0, hz1, hz2⟩ := info_parts infoReply
   have hown : ∀ j, (Value.slice ra k rc).ownBlock = some j → j ≠ pb := fun j h => by have := (Q.rep.own.lt j h).2; omega
   have kpb9 := (B9.block pb (lt_of_block kpb)).trans kpb
   have HA := Lib.hid (And.intro own9 (And.intro hC9 (And.intro hpl (And.intro hm1 (And.intro hm2 hb9)))))
   have HI0 := Lib.hid (And.intro hi0 (And.intro hz0 (And.intro hz1 hz2)))
   have HP9 := Lib.hid (And.intro Q9 (And.intro kpb9 (And.intro hown (lt_of_block Q.kB))))
   have HW9 := Lib.hid hw9
   have HG := Lib.hid (And.intro gl (And.intro gn (And.intro gE (And.intro gL gR))))
   have HX := Lib.hid (And.intro hex (And.intro hnE (And.intro hpb (And.intro Bc B9))))
   clear own9 hC9 hpl hm1 hm2 hb9 hi0 hz0 hz1 hz2 hown kpb9 kpb0 kpb Q Q1 Q9 hw9 gl gn gE gL gR hex hnE hpb Bc B9 k9
   go_upto_region 14 with (first
    | (refine wpList_load_mid rfl 43 (.tmp 14) rfl pb 0 rfl [.int .i64 ex, .string (bs px), .slice ra0 rn rc0, .int .u32 r1, .int .u32 r2, .int .u32 r3, .int .i64 r4, .int .u32 r5, .int .u64 r6, .int .u64 r7, .int .u64 r8, .slice ka kn kc, .slice none 0 0] _ HR8.out Tryz.underlying43 rfl HSR.out ?_)
    | (at_builtin; rw [← HW9.out]; refine wpList_append_new rfl (.tmp 63) (.tmp 65) 41 rfl w1.heap.size 43 i0 (.agg #[.int .i64 0, .string ⟨#[]⟩, .slice none 0 0, .int .u32 0, .int .u32 0, .int .u32 0, .int .i64 0, .int .u32 0, .int .u64 0, .int .u64 0, .int .u64 0, .slice none 0 0, .slice none 0 0]) 13 152 Tryz.underlying41 HI0.out.1 HI0.out.2.1 HI0.out.2.2.1 HI0.out.2.2.2 rfl (by decide) (.slice ra k rc) k (LR.flatMap RawR.cells) rfl HA.out.1 ⟨wc.heap.size, 0, none⟩ 1 1 [.int .i64 ex, .string (bs px), .slice ra0 rn rc0, .int .u32 r1, .int .u32 r2, .int .u32 r3, .int .i64 r4, .int .u32 r5, .int .u64 r6, .int .u64 r7, .int .u64 r8, .slice ka kn kc, .slice none 0 0] rfl rfl HA.out.2.1 HA.out.2.2.1 HA.out.2.2.2.1 HA.out.2.2.2.2.1 HA.out.2.2.2.2.2 ?_; intro v10 w10 hown10 hgrow10 hwh10; have kB10 := (hgrow10.block w3.heap.size (lt_of_block HP9.out.1.kB) (fun e => HP9.out.1.rB _ e.symm rfl)).trans HP9.out.1.kB; have k10 := (hgrow10.block pb (lt_of_block HP9.out.2.1) (fun e => HP9.out.2.2.1 _ e.symm rfl)).trans HP9.out.2.1; have q12 : w10.cell? ⟨w3.heap.size, 12, none⟩ = some (.slice ra k rc) := cell_of_row _ _ 12 _ 43 (0, 0) kB10; have f12 : w10.frozen? ⟨w3.heap.size, 12, none⟩ = false := (by simp [World.frozen?, kB10]); obtain ⟨ra', rc', hv2⟩ := row_form hown10; subst hv2; have H10 := Lib.hid (And.intro hown10 (And.intro hgrow10 (And.intro hwh10 (And.intro kB10 k10)))); clear hown10 hgrow10 hwh10 kB10 k10))
   clear c12 q12 f12
   obtain ⟨w11, hw11⟩ : ∃ w11, w11 = w10.setCell ⟨w3.heap.size, 12, none⟩ (.slice ra' (k + 1) rc') := ⟨_, rfl⟩
   rw [← hw11]
   have hrd : ReadsR w9 (fun j => LoQ wb w1 xb w3.heap.size v j ∧ (Value.slice ra k rc).ownBlock ≠ some j) ⟨ex, px, ⟨ra0, rn, rc0, ⟨r1, r2, r3, r4, r5, r6, r7, r8⟩⟩, ka, kn, kc⟩ ⟨opE root (runM root (cnt + 1) ⟨ws, wn⟩ M (ps.take k)) ⟨ws, wn⟩ p, (opR root (runM root (cnt + 1) ⟨ws, wn⟩ M (ps.take k)) (cnt + 1) ⟨ws, wn⟩ p).a⟩ := by
    have Q := HQ0.out.2.1
    have hxx := Q.hx
    have hbl := Q.bl.size
    obtain ⟨cs, hxb⟩ := Q.xblk
    have h1 := lt_of_block hxb
    have h2 := lt_of_block Q.kB
    exact (HG.out.2.2.2.2.mono (lo' := fun j => LoQ wb w1 xb w3.heap.size v j ∧ (Value.slice ra k rc).ownBlock ≠ some j) (fun j hj _ => by
     rcases hj with hj | hj
     ·exact ⟨⟨fun e => hj.1 (.inl e), fun e => hj.1 (.inr (.inl e)), fun e => hj.1 (.inr (.inr (.inl e))), fun e => hj.1 (.inr (.inr (.inr (.inr e))))⟩, fun e => hj.1 (.inr (.inr (.inr (.inl e))))⟩
     ·exact ⟨⟨by omega, by omega, by omega, fun e => by have := (Q.own.lt j e).2; omega⟩, fun e => by have := (Q.rep.own.lt j e).2; omega⟩)).keptS (Kept.ofBelow (S := fun _ => False) HX.out.2.2.2.2) (fun _ _ _ h => h)
   have Q11 := HP9.out.1.reply hrd H10.out.1 H10.out.2.1 H10.out.2.2.1 hw11
   have K11 : Kept (· = w3.heap.size) w10 w11 := by rw [hw11]; exact Kept.setCell (S := (· = w3.heap.size)) (p := ⟨w3.heap.size, 12, none⟩) (Kept.refl _ w10) rfl _
   have k11 := (K11.block pb (lt_of_block H10.out.2.2.2.2) (fun e => by have e : pb = w3.heap.size := e; have := HP9.out.2.2.2; have := HX.out.2.2.1; omega)).trans H10.out.2.2.2.2
   have kB11 := Q11.kB
   have y0 : w11.cell? ⟨pb, 0, none⟩ = some (.int .i64 ex) := cell_of_row _ _ 0 _ 43 (0, 0) k11
   have hKc : Below wc.heap.size wc w9 := HX.out.2.2.2.2
   have H11 := Lib.hid (And.intro Q11 (And.intro kB11 K11))
   by_cases hx0 : ex = 0
   ·have tx : (ex != 0) = false := by rw [hx0]; rfl
    have he0 : opE root (runM root (cnt + 1) ⟨ws, wn⟩ M (ps.take k)) ⟨ws, wn⟩ p = 0 := by rw [← HX.out.1]; exact hx0
    have hfit := op_fits (root := root) (at_ := cnt + 1) (who := ⟨ws, wn⟩) HLF.out.2.2.1 p
    have hFE := op_fitE (root := root) (at_ := cnt + 1) (who := ⟨ws, wn⟩) HLF.out.2.2.2.2.1 HLF.out.2.2.2.2.2
    have KG := kept_grown H10.out.2.1
    have Q := HQ0.out.2.1
    have hrs : ∀ j, (Value.slice ra k rc).ownBlock = some j → j < wr.heap.size := fun j h => (Q.rep.own.lt j h).2
    have hs1 := HX.out.2.2.2.1.size
    have hs2 := hKc.size
    have hs3 := KG.size
    have hBw := HP9.out.2.2.2
    have gE11 : EffsAt w11 w11.heap.size la Ln := fun i r hr => by
     obtain ⟨b, off', e1, e2, e3⟩ := HG.out.2.2.1 i r hr
     have h1 := HG.out.1 b off' e1
     have e4 := range_kept e3 hKc e2
     have hb9 : b < w9.heap.size := by omega
     have hb10 : b < w10.heap.size := by omega
     exact ⟨b, off', e1, Nat.lt_of_lt_of_le hb10 K11.size, fun j u hu => (K11.cell (p := ⟨b, off' + i * 11 + j, none⟩) hb10 (fun e => by have e : b = w3.heap.size := e; omega)).trans ((KG.cell (p := ⟨b, off' + i * 11 + j, none⟩) hb9 (fun e => by have := hrs b e; omega)).trans (e4 j u hu))⟩
    have gL11 : LikeE w11 (fun j => ¬ ZQ wb w1 xb w3.heap.size (.slice ra' (k + 1) rc') v j) Ln (opXs root (runM root (cnt + 1) ⟨ws, wn⟩ M (ps.take k)) (cnt + 1) ⟨ws, wn⟩ p) := by
     have h1 := HG.out.2.2.2.1.below hKc
     have h2 := (h1.keptS KG (fun j hj e => hj.1 (.inr (.inr (.inr (.inl e)))))).keptS K11 (fun j hj e => hj.1 (.inr (.inl e)))
     exact h2.both (fun j hj _ h => by
      rcases h with h | h | h | h | h
      ·exact hj.1 (.inl h)
      ·exact hj.1 (.inr (.inl h))
      ·exact hj.1 (.inr (.inr (.inl h)))
      ·rcases H10.out.2.2.1 j h with h3 | h3
       ·exact hj.1 (.inr (.inr (.inr (.inl h3))))
       ·have := hj.2; omega
      ·exact hj.1 (.inr (.inr (.inr (.inr h)))))
    have hLn : Ln.length = nE := by rw [HX.out.2.1]; exact HG.out.2.2.2.1.1
    have hn2 : nE ≤ 2 := by rw [HX.out.2.1]; exact opXs_len
    have hLE : LE.length ≤ 12 := by
     have h1 := Q.like.1
     have h2 := runX_len (root := root) (at_ := cnt + 1) (who := ⟨ws, wn⟩) (ps.take k) M
     have h3 : (ps.take k).length ≤ k := by rw [List.length_take]; omega
     omega
    obtain ⟨j0, hj0, hw0, hw1', hw2'⟩ := info_parts infoEffect
    have HJ := Lib.hid (And.intro hj0 (And.intro hw0 (And.intro hw1' hw2')))
    have HOK := Lib.hid (And.intro he0 (And.intro hfit (And.intro hFE (And.intro gE11 (And.intro gL11 (And.intro hLn (And.intro hn2 hLE)))))))
    have hxb1 : xb < wr.heap.size := by obtain ⟨cs, h⟩ := Q.xblk; exact lt_of_block h
    have HXB := Lib.hid hxb1
    clear hx0 he0 hfit hFE KG Q hrs hs1 hs2 hs3 hBw gE11 gL11 hLn hLE hj0 hw0 hw1' hw2' hKc kB11 K11 k11 hw11 hrd Q11 hxb1
    by_cases hE0 : nE = 0
    ·have tn : decide ((0 : Int) < (nE : Int)) = false := by rw [hE0]; rfl
     have tn2 : decide (0 < nE) = false := by rw [hE0]; rfl
     have HE0 := Lib.hid hE0
     have hM : opM root (runM root (cnt + 1) ⟨ws, wn⟩ M (ps.take k)) (cnt + 1) ⟨ws, wn⟩ p = (runM root (cnt + 1) ⟨ws, wn⟩ M (ps.take k)) := by
      have h := HOK.out.2.1
      have h0 : opXs root (runM root (cnt + 1) ⟨ws, wn⟩ M (ps.take k)) (cnt + 1) ⟨ws, wn⟩ p = [] := List.eq_nil_of_length_eq_zero (by rw [← HX.out.2.1]; exact hE0)
      rw [h0] at h
      exact (congrArg Prod.snd h).symm
     have Q12 : QB wb w1 w11 xb w3.heap.size root cx (opM root (runM root (cnt + 1) ⟨ws, wn⟩ M (ps.take k)) (cnt + 1) ⟨ws, wn⟩ p) (runX root (cnt + 1) ⟨ws, wn⟩ M (ps.take k)) (runR root (cnt + 1) ⟨ws, wn⟩ M (ps.take k) ++ [⟨opE root (runM root (cnt + 1) ⟨ws, wn⟩ M (ps.take k)) ⟨ws, wn⟩ p, (opR root (runM root (cnt + 1) ⟨ws, wn⟩ M (ps.take k)) (cnt + 1) ⟨ws, wn⟩ p).a⟩]) ra' rc' (k + 1) v LE (LR ++ [⟨ex, px, ⟨ra0, rn, rc0, ⟨r1, r2, r3, r4, r5, r6, r7, r8⟩⟩, ka, kn, kc⟩]) := by rw [hM]; exact H11.out.1
     have HQ12 := Lib.hid (And.intro Q12 (And.intro HOK.out.2.2.2.1 HOK.out.2.2.2.2.1))
     have hcx : 0 ≤ cx ∧ cx ≤ cnt + (k : Int) + 1 := by have := HQ0.out.2.2; omega
     have HCX := Lib.hid hcx
     clear hE0 hM Q12 hcx
     go_upto_region 19 with fail
     clear y0 tx tn tn2
     have own12 := HQ12.out.1.own
     have hnews : ∀ ad, la = some ad → ∀ j u, (Ln.flatMap RawE.cells)[j]? = some u → w11.cell? (ad.add j) = some u := fun ad hla j u hu => q_flat HQ12.out.2.1 hla j u hu
     have hfl : (Ln.flatMap RawE.cells).length = nE * 11 := by rw [flatE_len, HOK.out.2.2.2.2.2.1]
     have hno : la = none → nE = 0 ∧ lc = 0 := fun e => by
      obtain ⟨h1, h2⟩ := HG.out.2.1 e
      refine ⟨?_, h2⟩
      rw [HX.out.2.1, h1]
      rfl
     have hbb := HQ12.out.1.bl.size
     have HB12 := Lib.hid (And.intro own12 (And.intro hnews (And.intro hfl (And.intro hno hbb))))
     have hle := HOK.out.2.2.2.2.2.2.2
     have hm3 : LE.length + nE ≤ maxLen := by unfold maxLen; omega
     have hm4 : (LE.length + nE) * 104 ≤ 140737488355328 := by omega
     clear own12 hnews hfl hno hbb hle
     go_wp2_with (at_builtin; refine wpList_append_any rfl (.tmp 81) (.tmp 82) 35 rfl w1.heap.size 88 j0 (.agg #[.string ⟨#[]⟩, .bool false, .slice none 0 0, .int .u32 0, .int .u32 0, .int .u32 0, .int .i64 0, .int .u32 0, .int .u64 0, .int .u64 0, .int .u64 0]) 11 104 Tryz.underlying35 HJ.out.1 HJ.out.2.1 HJ.out.2.2.1 HJ.out.2.2.2 rfl (by decide) v LE.length (LE.flatMap RawE.cells) rfl HB12.out.1 la nE lc (Ln.flatMap RawE.cells) rfl HB12.out.2.2.2.1 HB12.out.2.2.1 HB12.out.2.1 (rawE_plain Ln) hm3 hm4 HB12.out.2.2.2.2 ?_; intro v13 w13 own13 grow13 wh13; have H13 := Lib.hid (And.intro own13 (And.intro grow13 wh13)); clear own13 grow13 wh13)
     go_roundw
     case rel =>
      have Q13 := HQ12.out.1.effs HQ12.out.2.2 (by rw [List.length_append, List.flatMap_append, HOK.out.2.2.2.2.2.1]; exact H13.out.1) H13.out.2.1 H13.out.2.2
      have ht : ps.take (k + 1) = ps.take k ++ [p] := by rw [List.take_add_one, HLF.out.1]; rfl
      obtain ⟨e1, e2, e3, e4⟩ := run_snoc (root := root) (at_ := cnt + 1) (who := ⟨ws, wn⟩) p (ps.take k) M HQ0.out.1
      refine ⟨v13, k + 1, rfl, by omega, by go_num, Lib.hid ⟨by rw [ht, e1]; exact HOK.out.1, ra', rc', LE ++ Ln, LR ++ [⟨ex, px, ⟨ra0, rn, rc0, ⟨r1, r2, r3, r4, r5, r6, r7, r8⟩⟩, ka, kn, kc⟩], cx, ?_, HCX.out.1, by have := HCX.out.2; omega⟩⟩
      rw [ht, e2, e3, e4, ← q_eta]
      exact Q13
     case measure => simp [intOf]; omega
    ·have tn : decide ((0 : Int) < (nE : Int)) = true := by simp; omega
     have tn2 : decide (0 < nE) = true := by simp; omega
     have hE1 : 0 < nE := by omega
     obtain ⟨aoN, cN, RN, LN, TN, HN'⟩ := H11.out.1.tree
     have Q11 := H11.out.1
     have hhx := Q11.hx
     have hbs := Q11.bl.size
     have hap := TN.apply HN' HLF.out.2.2.1 HLF.out.2.2.2.2.1 HD.out.2.2.2.2.2.2 HQ0.out.2.2.1 (by have := HQ0.out.2.2.2; have := HCN.out; omega) la lc Ln (opXs root (runM root (cnt + 1) ⟨ws, wn⟩ M (ps.take k)) (cnt + 1) ⟨ws, wn⟩ p) HOK.out.2.2.2.2.1 HOK.out.2.2.2.1 (Nat.le_refl _) (fun b off' e => by have := HG.out.1 b off' e; have := HXB.out; omega) HOK.out.2.2.1 (by have := HOK.out.2.2.2.2.2; omega) (fun j hj h => by
      obtain ⟨cs, hxb⟩ := Q11.xblk
      have h1 := lt_of_block hxb
      have h2 := lt_of_block Q11.kB
      rcases h with h | h | h | h | h
      ·omega
      ·omega
      ·omega
      ·have := (Q11.rep.own.lt j h).2; omega
      ·have := (Q11.own.lt j h).2; omega) (.inl rfl) nE HOK.out.2.2.2.2.2.1.symm
     have HAP := Lib.hid hap
     clear hE0 hE1 TN HN' Q11 hhx hbs hap
     go_wp2_with fail
     refine HAP.out.mono ?_
     rintro e w12 ⟨rfl, ⟨ao5, c5, R5, L5, T5, H5⟩, K5⟩
     have hnod : nodesA root (runM root (cnt + 1) ⟨ws, wn⟩ M (ps.take k)) (opXs root (runM root (cnt + 1) ⟨ws, wn⟩ M (ps.take k)) (cnt + 1) ⟨ws, wn⟩ p) = opM root (runM root (cnt + 1) ⟨ws, wn⟩ M (ps.take k)) (cnt + 1) ⟨ws, wn⟩ p := by unfold nodesA; rw [HOK.out.2.1]; rfl
     have hat : atA root cx (runM root (cnt + 1) ⟨ws, wn⟩ M (ps.take k)) (opXs root (runM root (cnt + 1) ⟨ws, wn⟩ M (ps.take k)) (cnt + 1) ⟨ws, wn⟩ p) = cx + 1 := by unfold atA; rw [HOK.out.2.1]; rfl
     rw [hnod] at H5
     rw [hat] at T5
     have Q12 := H11.out.1.applied (cx' := cx + 1) (Mx' := opM root (runM root (cnt + 1) ⟨ws, wn⟩ M (ps.take k)) (cnt + 1) ⟨ws, wn⟩ p) ⟨_, _, _, _, T5, H5⟩ K5
     have gE12 : EffsAt w12 w12.heap.size la Ln := fun i r hr => by
      obtain ⟨b, off', e1, e2, e3⟩ := HOK.out.2.2.2.1 i r hr
      have h1 := HG.out.1 b off' e1
      have h2 := HXB.out
      exact ⟨b, off', e1, Nat.lt_of_lt_of_le e2 K5.size, fun j u hu => (K5.cell (p := ⟨b, off' + i * 11 + j, none⟩) e2 (fun e => by have e : b = xb := e; omega)).trans (e3 j u hu)⟩
     have gL12 := HOK.out.2.2.2.2.1.keptS K5 (fun j hj e => hj (.inl e))
     have HQ12 := Lib.hid (And.intro Q12 (And.intro gE12 gL12))
     have hcx : 0 ≤ cx + 1 ∧ cx + 1 ≤ cnt + (k : Int) + 1 := by have := HQ0.out.2.2; omega
     have HCX := Lib.hid hcx
     clear hnod hat H5 T5 Q12 gE12 gL12 K5 hcx
     go_upto_region 19 with fail
     clear y0 tx tn tn2
     have own12 := HQ12.out.1.own
     have hnews : ∀ ad, la = some ad → ∀ j u, (Ln.flatMap RawE.cells)[j]? = some u → w12.cell? (ad.add j) = some u := fun ad hla j u hu => q_flat HQ12.out.2.1 hla j u hu
     have hfl : (Ln.flatMap RawE.cells).length = nE * 11 := by rw [flatE_len, HOK.out.2.2.2.2.2.1]
     have hno : la = none → nE = 0 ∧ lc = 0 := fun e => by
      obtain ⟨h1, h2⟩ := HG.out.2.1 e
      refine ⟨?_, h2⟩
      rw [HX.out.2.1, h1]
      rfl
     have hbb := HQ12.out.1.bl.size
     have HB12 := Lib.hid (And.intro own12 (And.intro hnews (And.intro hfl (And.intro hno hbb))))
     have hle := HOK.out.2.2.2.2.2.2.2
     have hm3 : LE.length + nE ≤ maxLen := by unfold maxLen; omega
     have hm4 : (LE.length + nE) * 104 ≤ 140737488355328 := by omega
     clear own12 hnews hfl hno hbb hle
     go_wp2_with (at_builtin; refine wpList_append_any rfl (.tmp 81) (.tmp 82) 35 rfl w1.heap.size 88 j0 (.agg #[.string ⟨#[]⟩, .bool false, .slice none 0 0, .int .u32 0, .int .u32 0, .int .u32 0, .int .i64 0, .int .u32 0, .int .u64 0, .int .u64 0, .int .u64 0]) 11 104 Tryz.underlying35 HJ.out.1 HJ.out.2.1 HJ.out.2.2.1 HJ.out.2.2.2 rfl (by decide) v LE.length (LE.flatMap RawE.cells) rfl HB12.out.1 la nE lc (Ln.flatMap RawE.cells) rfl HB12.out.2.2.2.1 HB12.out.2.2.1 HB12.out.2.1 (rawE_plain Ln) hm3 hm4 HB12.out.2.2.2.2 ?_; intro v13 w13 own13 grow13 wh13; have H13 := Lib.hid (And.intro own13 (And.intro grow13 wh13)); clear own13 grow13 wh13)
     go_roundw
     case rel =>
      have Q13 := HQ12.out.1.effs HQ12.out.2.2 (by rw [List.length_append, List.flatMap_append, HOK.out.2.2.2.2.2.1]; exact H13.out.1) H13.out.2.1 H13.out.2.2
      have ht : ps.take (k + 1) = ps.take k ++ [p] := by rw [List.take_add_one, HLF.out.1]; rfl
      obtain ⟨e1, e2, e3, e4⟩ := run_snoc (root := root) (at_ := cnt + 1) (who := ⟨ws, wn⟩) p (ps.take k) M HQ0.out.1
      refine ⟨v13, k + 1, rfl, by omega, by go_num, Lib.hid ⟨by rw [ht, e1]; exact HOK.out.1, ra', rc', LE ++ Ln, LR ++ [⟨ex, px, ⟨ra0, rn, rc0, ⟨r1, r2, r3, r4, r5, r6, r7, r8⟩⟩, ka, kn, kc⟩], cx + 1, ?_, HCX.out.1, by have := HCX.out.2; omega⟩⟩
      rw [ht, e2, e3, e4, ← q_eta]
      exact Q13
     case measure => simp [intOf]; omega
   ·have tx : (ex != 0) = true := by simpa using hx0
    have HX0 := Lib.hid hx0
    have q0 : w11.cell? ⟨w3.heap.size, 0, none⟩ = some (.int .i64 0) := cell_of_row _ _ 0 _ 43 (0, 0) kB11
    have f0 : w11.frozen? ⟨w3.heap.size, 0, none⟩ = false := frozen0 kB11 0
    obtain ⟨w12, hw12⟩ : ∃ w12, w12 = w11.setCell ⟨w3.heap.size, 0, none⟩ (.int .i64 ex) := ⟨_, rfl⟩
    have K12 : Kept (· = w3.heap.size) w11 w12 := by rw [hw12]; exact Kept.setCell (S := (· = w3.heap.size)) (p := ⟨w3.heap.size, 0, none⟩) (Kept.refl _ w11) rfl _
    have kB12 : w12.heap[w3.heap.size]? = some (.cells (boxQ ex ra' (k + 1) rc') 43 (0, 0)) := by
     unfold boxQ at kB11 ⊢
     rw [hw12]
     simp [World.setCell, Array.getElem?_modify, kB11]
    have kB12 : w12.heap[w3.heap.size]? = some (.cells #[.int .i64 ex, .string ⟨#[]⟩, .slice none 0 0, .int .u32 0, .int .u32 0, .int .u32 0, .int .i64 0, .int .u32 0, .int .u64 0, .int .u64 0, .int .u64 0, .slice none 0 0, .slice ra' (k + 1) rc'] 43 (0, 0)) := kB12
    have b12 : Below w1.heap.size w1 w12 := Q11.bl.trans (K12.below Q11.bl.size (fun j e => by have e : j = w3.heap.size := e; have := Q11.hx; omega))
    have kr12 := (b12.block (w.heap.size + 2) (by have := H1.out.2.1; omega)).trans H1.out.2.2.2.2.1
    have ht12 : w12.there (w.heap.size + 2) 0 13 := there_of kr12 (by simp)
    have RR12 := Q11.rep.keptS K12 (fun j hj _ e => hj.2.1 e) (fun j hj e => Q11.rB j hj e)
    have HT12 := Lib.hid (And.intro ht12 (And.intro RR12 b12))
    have HKV := Lib.hid (range_blk (w := w12.drew) kB12)
    have HW12 := Lib.hid hw12
    have HON : Hid ((#[.int .i64 ex, .string ⟨#[]⟩, .slice none 0 0, .int .u32 0, .int .u32 0, .int .u32 0, .int .i64 0, .int .u32 0, .int .u64 0, .int .u64 0, .int .u64 0, .slice none 0 0, .slice ra' (k + 1) rc'] : Array Value).all (·.oneCell') = true) := Lib.hid (by simp [Value.oneCell'])
    clear hx0 kr12 ht12 RR12 b12 kB12 K12 hw12 kB11 K11 k11 hKc Q11 hw11 hrd
    go_upto_region 16 with fail
    rw [← HW12.out]
    clear y0 q0 f0
    refine wp_region_held_drew (S := fun w' => World.rangeAt w' w3.heap.size 0 [.int .i64 ex, .string ⟨#[]⟩, .slice none 0 0, .int .u32 0, .int .u32 0, .int .u32 0, .int .i64 0, .int .u32 0, .int .u64 0, .int .u64 0, .int .u64 0, .slice none 0 0, .slice ra' (k + 1) rc']) (by kernel_rfl) HKV.out (fun hS => ?_)
    refine tL 0 rfl hS 43 (.tmp 11) w3.heap.size 0 [.int .i64 ex, .string ⟨#[]⟩, .slice none 0 0, .int .u32 0, .int .u32 0, .int .u32 0, .int .i64 0, .int .u32 0, .int .u64 0, .int .u64 0, .int .u64 0, .slice none 0 0, .slice ra' (k + 1) rc'] (fun _ h => h) Tryz.underlying43 HSR.out ?_
    refine tI 1 rfl hS ?_
    simp only [putS]
    refine sI 2 rfl 43 (.tmp 7) (.tmp 74) (w.heap.size + 2) 0 #[.int .i64 ex, .string ⟨#[]⟩, .slice none 0 0, .int .u32 0, .int .u32 0, .int .u32 0, .int .i64 0, .int .u32 0, .int .u64 0, .int .u64 0, .int .u64 0, .slice none 0 0, .slice ra' (k + 1) rc'] HT12.out.1 HSR.out HON.out (range_set hS (by have := HQ0.out.2.1.hx; have := H1.out.2.1; omega)) ?_
    simp only [putS]
    refine wpAnyH_done (by kernel_rfl) ?_ _
    clear hS
    go_wp2_with fail
    refine bodyPost_ret (results_tmp_cell_mid rfl _ _ (w.heap.size + 2) 0 [.int .i64 ex, .string ⟨#[]⟩, .slice none 0 0, .int .u32 0, .int .u32 0, .int .u32 0, .int .i64 0, .int .u32 0, .int .u64 0, .int .u64 0, .int .u64 0, .slice none 0 0, .slice ra' (k + 1) rc'] _ rfl (World.rangeAt_setCells_same _ _ _ _ HT12.out.1) Tryz.underlying43 rfl HSR.out) rfl ?_
    obtain ⟨_, RR12, b12⟩ := HT12.out
    have hxx := HQ0.out.2.1.hx
    have K9 : Kept (· = w.heap.size + 2) w12.drew (w12.drew.setCells (w.heap.size + 2) 0 [.int .i64 ex, .string ⟨#[]⟩, .slice none 0 0, .int .u32 0, .int .u32 0, .int .u32 0, .int .i64 0, .int .u32 0, .int .u64 0, .int .u64 0, .int .u64 0, .slice none 0 0, .slice ra' (k + 1) rc']) := Kept.setCells (S := (· = w.heap.size + 2)) (p := w.heap.size + 2) rfl _ 0 (Kept.refl _ w12.drew)
    have bw := H1.out.1.trans (b12.mono H1.out.1.size)
    have B09 : Below w.heap.size w (w12.drew.setCells (w.heap.size + 2) 0 [.int .i64 ex, .string ⟨#[]⟩, .slice none 0 0, .int .u32 0, .int .u32 0, .int .u32 0, .int .i64 0, .int .u32 0, .int .u64 0, .int .u64 0, .int .u64 0, .slice none 0 0, .slice ra' (k + 1) rc']) := bw.drew.trans (K9.below bw.size (fun j e => by have e : j = w.heap.size + 2 := e; omega))
    have hEx := HX.out.1
    obtain ⟨e1, e2, e3, e4⟩ := mul_bad (root := root) (at_ := cnt) (M := M) (who := ⟨ws, wn⟩) (l := lf) (ps := ps) HK.out.1 HLF.out.1 HQ0.out.1 (by rw [← hEx]; exact HX0.out)
    rw [← hEx] at e1
    have RR9 := (RR12.keptS (Kept.ofBelow (S := fun _ => False) (Below.refl _ w12).drew) (fun _ _ _ h => h) (fun _ _ h => h)).keptS K9 (fun j hj _ e => hj.2.2.1 (by have e : j = w.heap.size + 2 := e; have := HTB.out.2.size; have := H1.out.2.1; omega)) (fun j hj e => by have e : j = w.heap.size + 2 := e; have := (RR12.own.lt j hj).1; omega)
    obtain ⟨pa, pc, hv, hra⟩ := RR9.lies (lo' := fun j => j < wb.heap.size ∨ w.heap.size ≤ j) (fun j hj _ => by have h := hj.2.2.1; have := H1.out.2.1; omega) (fun j hj => by have := H1.out.2.1; omega)
    refine ⟨_, _, rfl, ?_, ?_, B09⟩
    ·rw [e2]
     exact EffsB.nil _ _ _
    ·rw [e1, e3, e4, ← q_eta]
     refine ⟨zRaw, none, 0, pa, pc, ?_, zReads _ _, StrLo.nil _ _ _, hra⟩
     rw [hv]
     rfl
  ·obtain rfl : pn = k := by omega
   have hfull : ps.take pn = ps := List.take_of_length_le (by rw [HK.out.2.1]; exact Nat.le_refl _)
   have tlt : decide ((pn : Int) < (pn : Int)) = false := by simp
   have tll : decide (pn < pn) = false := by simp
   have Q := HQ0.out.2.1
   have bw1 : Below w.heap.size w wr := H1.out.1.trans (Q.bl.mono H1.out.1.size)
   have z6 := HY0.out.2 wr Q.bl
   have kr := (Q.bl.block (w.heap.size + 2) (by have := H1.out.2.1; omega)).trans H1.out.2.2.2.2.1
   have ht : wr.there (w.heap.size + 2) 0 13 := there_of kr (by simp)
   have kB : wr.heap[w3.heap.size]? = some (.cells #[.int .i64 0, .string ⟨#[]⟩, .slice none 0 0, .int .u32 0, .int .u32 0, .int .u32 0, .int .i64 0, .int .u32 0, .int .u64 0, .int .u64 0, .int .u64 0, .slice none 0 0, .slice ra pn rc] 43 (0, 0)) := Q.kB
   have HKV := Lib.hid (range_blk (w := wr.drew) kB)
   have HT := Lib.hid (And.intro ht (And.intro hfull bw1))
   have HON : Hid ((#[.int .i64 0, .string ⟨#[]⟩, .slice none 0 0, .int .u32 0, .int .u32 0, .int .u32 0, .int .i64 0, .int .u32 0, .int .u64 0, .int .u64 0, .int .u64 0, .slice none 0 0, .slice ra pn rc] : Array Value).all (·.oneCell') = true) := Lib.hid (by simp [Value.oneCell'])
   clear hfull Q bw1 kr ht kB hlt hk HS hrun hcx0 hcx1
   go_upto_region 20 with fail
   clear z6
   refine wp_region_held_drew (S := fun w' => World.rangeAt w' w3.heap.size 0 [.int .i64 0, .string ⟨#[]⟩, .slice none 0 0, .int .u32 0, .int .u32 0, .int .u32 0, .int .i64 0, .int .u32 0, .int .u64 0, .int .u64 0, .int .u64 0, .slice none 0 0, .slice ra pn rc]) (by kernel_rfl) HKV.out (fun hS => ?_)
   refine tI 0 rfl hS ?_
   refine tL 1 rfl hS 43 (.tmp 11) w3.heap.size 0 [.int .i64 0, .string ⟨#[]⟩, .slice none 0 0, .int .u32 0, .int .u32 0, .int .u32 0, .int .i64 0, .int .u32 0, .int .u64 0, .int .u64 0, .int .u64 0, .slice none 0 0, .slice ra pn rc] (fun _ h => h) Tryz.underlying43 HSR.out ?_
   refine tI 2 rfl hS ?_
   simp only [putS]
   refine sI 3 rfl 43 (.tmp 7) (.tmp 85) (w.heap.size + 2) 0 #[.int .i64 0, .string ⟨#[]⟩, .slice none 0 0, .int .u32 0, .int .u32 0, .int .u32 0, .int .i64 0, .int .u32 0, .int .u64 0, .int .u64 0, .int .u64 0, .slice none 0 0, .slice ra pn rc] HT.out.1 HSR.out HON.out (range_set hS (by have := HQ0.out.2.1.hx; have := H1.out.2.1; omega)) ?_
   simp only [putS]
   refine wpAnyH_done (by kernel_rfl) ?_ _
   clear hS
   go_wp2_with fail
   refine bodyPost_ret (results_tmp_cell_mid rfl _ _ (w.heap.size + 2) 0 [.int .i64 0, .string ⟨#[]⟩, .slice none 0 0, .int .u32 0, .int .u32 0, .int .u32 0, .int .i64 0, .int .u32 0, .int .u64 0, .int .u64 0, .int .u64 0, .slice none 0 0, .slice ra pn rc] _ rfl (World.rangeAt_setCells_same _ _ _ _ HT.out.1) Tryz.underlying43 rfl HSR.out) rfl ?_
   obtain ⟨_, hfull, bw⟩ := HT.out
   obtain ⟨hrun, Q, _, _⟩ := HQ0.out
   rw [hfull] at hrun Q
   have hxx := Q.hx
   have K9 : Kept (· = w.heap.size + 2) wr.drew (wr.drew.setCells (w.heap.size + 2) 0 [.int .i64 0, .string ⟨#[]⟩, .slice none 0 0, .int .u32 0, .int .u32 0, .int .u32 0, .int .i64 0, .int .u32 0, .int .u64 0, .int .u64 0, .int .u64 0, .slice none 0 0, .slice ra pn rc]) := Kept.setCells (S := (· = w.heap.size + 2)) (p := w.heap.size + 2) rfl _ 0 (Kept.refl _ wr.drew)
   have B09 : Below w.heap.size w (wr.drew.setCells (w.heap.size + 2) 0 [.int .i64 0, .string ⟨#[]⟩, .slice none 0 0, .int .u32 0, .int .u32 0, .int .u32 0, .int .i64 0, .int .u32 0, .int .u64 0, .int .u64 0, .int .u64 0, .slice none 0 0, .slice ra pn rc]) := bw.drew.trans (K9.below bw.size (fun j e => by have e : j = w.heap.size + 2 := e; omega))
   obtain ⟨e1, e2, e3, e4⟩ := mul_ok (root := root) (at_ := cnt) (M := M) (who := ⟨ws, wn⟩) (l := lf) (ps := ps) HK.out.1 hrun
   have RR9 := (Q.rep.keptS (Kept.ofBelow (S := fun _ => False) (Below.refl _ wr).drew) (fun _ _ _ h => h) (fun _ _ h => h)).keptS K9 (fun j hj _ e => hj.2.2.1 (by have e : j = w.heap.size + 2 := e; have := HTB.out.2.size; have := H1.out.2.1; omega)) (fun j hj e => by have e : j = w.heap.size + 2 := e; have := (Q.rep.own.lt j hj).1; omega)
   obtain ⟨pa, pc', hv, hra⟩ := RR9.lies (lo' := fun j => j < wb.heap.size ∨ w.heap.size ≤ j) (fun j hj _ => by have h := hj.2.2.1; have := H1.out.2.1; omega) (fun j hj => by have := H1.out.2.1; omega)
   have hown9 : (wr.drew.setCells (w.heap.size + 2) 0 [.int .i64 0, .string ⟨#[]⟩, .slice none 0 0, .int .u32 0, .int .u32 0, .int .u32 0, .int .i64 0, .int .u32 0, .int .u64 0, .int .u64 0, .int .u64 0, .slice none 0 0, .slice ra pn rc]).ownsRow w1.heap.size 88 11 v LE.length (LE.flatMap RawE.cells) := own_kept (own_below Q.own (Below.refl _ wr).drew) K9 (fun j hj e => by have e : j = w.heap.size + 2 := e; have := (Q.own.lt j hj).1; omega)
   have hlk9 : LikeE (wr.drew.setCells (w.heap.size + 2) 0 [.int .i64 0, .string ⟨#[]⟩, .slice none 0 0, .int .u32 0, .int .u32 0, .int .u32 0, .int .i64 0, .int .u32 0, .int .u64 0, .int .u64 0, .int .u64 0, .slice none 0 0, .slice ra pn rc]) _ LE _ := (Q.like.below (Below.refl _ wr).drew).keptS K9 (fun j hj e => hj (.inr (.inr (.inl (by have e : j = w.heap.size + 2 := e; have := HTB.out.2.size; have := H1.out.2.1; omega)))))
   refine ⟨_, _, rfl, ?_, ?_, B09⟩
   ·rw [e2]
    exact q_rowB hown9 (by have := H1.out.2.1; omega) (hlk9.both (fun j hj _ => by
     have h : ¬ (wb.heap.size ≤ j ∧ j < w1.heap.size) := fun h => hj (.inr (.inr (.inl h)))
     have := H1.out.2.1
     omega))
   ·rw [e1, e3, e4]
    refine ⟨zRaw, none, 0, pa, pc', ?_, zReads _ _, StrLo.nil _ _ _, hra⟩
    rw [hv]
    rfl
end
end Go.Proofs.YtnclkfhdpkkakaaGreatDoor
namespace Go.Proofs.YtnclkfhdpkkakaaGreatDoor
set_option linter.unusedVariables false
set_option linter.unusedSimpArgs false
open Go Go.RowKit Go.Shelf Go.MapKept Go.ChangeMaps Go.Maps Go.Sort
theorem RefAt.q5do {wb w : World} {Z : Nat → Prop} {rb : Nat} {root : Bytes} {cnt : Int} {ao : Option Addr} {c0 : Nat} {R : List RawA} {M L : List (Bytes × Nd)} (T : RefAt wb Z rb root cnt ao c0 R L) (hbb : Below wb.heap.size wb w) (H : Rel M L) (I : Inv root M) (F : Fit M) (NX : Nice M) (hrl : root.length ≤ 1000) (h0 : 0 ≤ cnt) (h1 : cnt ≤ 1000000) {r : RawO} {o : OpV} {ce : Int} (h : OpIn wb r o ce) (who : Sess) (HC : ∀ w', Below w.heap.size w w' → Calls Tryz.prog 32 #[r.val] w' (CheckIs w' ce)) :
  Calls Tryz.prog 30 #[.pointer (some ⟨rb, 0, none⟩), r.val, whoV who] w (DoEndQ wb w root M cnt who ce o) := by
 by_cases hce : ce = 0
 ·rcases h.good hce with ⟨hk, _, hl⟩ | ⟨hk, hpn, h6, hpt⟩
  ·exact T.q5do_one hbb H I F NX hrl h0 h1 r o who ce h.leaf HC hce hk hl
  ·exact T.q5do_mul hbb H I F NX hrl h0 h1 r o who ce h.leaf HC hce hk hpn h6 hpt
 ·exact T.q5do_bad hbb H I F NX hrl h0 h1 r o who ce h.leaf HC hce
set_option maxRecDepth 100000 in
set_option maxHeartbeats 16000000 in
theorem q5effs_same {w : World} {u1 u2 : Value} {E : List Eff} (h1 : EffsOut w u1 E) (h2 : EffsOut w u2 E) (hE : E.length ≤ 1000) :
  Calls Tryz.prog 33 #[u1, u2] w fun e w' => e = .returned (.bool true) ∧ Below w.heap.size w w' := by
 obtain ⟨a1, c1, L1, rfl, A1, K1⟩ := h1
 obtain ⟨a2, c2, L2, rfl, A2, K2⟩ := h2
 obtain ⟨n, hn⟩ : ∃ n, n = E.length := ⟨_, rfl⟩
 rw [← hn] at hE ⊢
 have HN := Lib.hid hn
 have HA := Lib.hid (And.intro A1 (And.intro K1 (And.intro A2 K2)))
 have HSZ : Hid ((Tryz.prog.info? 39).map (·.size) = some 9) := Lib.hid (by kernel_rfl)
 have tnn : ((n : Int) != (n : Int)) = false := by simp
 clear A1 K1 A2 K2 hn
 go_enter Tryz.func33, Tryz.ntmps33
 go_wp2_with fail
 go_loopw [5] (fun iv wr => ∃ k : Nat, k ≤ n ∧ iv = .int .i64 (k : Int) ∧ Hid (Below w.heap.size w wr)) (fun iv _ => n - (intOf iv).toNat)
 case atStart => exact ⟨0, Nat.zero_le _, rfl, Lib.hid (Below.refl _ w)⟩
 case round =>
  obtain ⟨k, hk, rfl, HB⟩ := hrel
  by_cases hlt : k < n
  ·have tlt : decide ((k : Int) < (n : Int)) = true := by simp; omega
   obtain ⟨e, he⟩ : ∃ e, E[k]? = some e := ⟨_, List.getElem?_eq_getElem (by rw [← HN.out]; exact hlt)⟩
   obtain ⟨x1, hx1⟩ : ∃ r, L1[k]? = some r := ⟨_, List.getElem?_eq_getElem (by rw [HA.out.2.1.1, ← HN.out]; exact hlt)⟩
   obtain ⟨x2, hx2⟩ : ∃ r, L2[k]? = some r := ⟨_, List.getElem?_eq_getElem (by rw [HA.out.2.2.2.1, ← HN.out]; exact hlt)⟩
   have r1 := HA.out.2.1.2 k x1 e hx1 he
   have r2 := HA.out.2.2.2.2 k x2 e hx2 he
   obtain ⟨b1, o1, rfl, l1, g1⟩ := HA.out.1 k x1 hx1
   obtain ⟨b2, o2, rfl, l2, g2⟩ := HA.out.2.2.1 k x2 hx2
   obtain ⟨p1, d1, ⟨sa, sn, sc, u1⟩⟩ := x1
   obtain ⟨p2, d2, ⟨ta, tn, tc, u2⟩⟩ := x2
   have e1 : u1 = e.node.num := r1.node.num
   have e2 : u2 = e.node.num := r2.node.num
   have e3 : p1 = e.path := r1.path
   have e4 : p2 = e.path := r2.path
   have e5 : d1 = e.gone := r1.gone
   have e6 : d2 = e.gone := r2.gone
   have R1 := r1.node
   have R2 := r2.node
   obtain ⟨pe, gg, ⟨dd, ⟨v1, v2, v3, v4, v5, v6, v7, v8⟩⟩⟩ := e
   dsimp only at e1 e2 e3 e4 e5 e6
   subst e1 e2 e3 e4 e5 e6
   have hc1 : ∀ w', Below wr.heap.size wr w' → ∀ j u, ([.string (bs p2), .bool d2, .slice sa sn sc, .int .u32 v1, .int .u32 v2, .int .u32 v3, .int .i64 v4, .int .u32 v5, .int .u64 v6, .int .u64 v7, .int .u64 v8] : List Value)[j]? = some u → w'.cell? ⟨b1, o1 + k * 11 + j, none⟩ = some u := fun w' hb j u hu => range_kept g1 (HB.out.trans (hb.mono HB.out.size)) l1 j u hu
   have hc2 : ∀ w', Below wr.heap.size wr w' → ∀ j u, ([.string (bs p2), .bool d2, .slice ta tn tc, .int .u32 v1, .int .u32 v2, .int .u32 v3, .int .i64 v4, .int .u32 v5, .int .u64 v6, .int .u64 v7, .int .u64 v8] : List Value)[j]? = some u → w'.cell? ⟨b2, o2 + k * 11 + j, none⟩ = some u := fun w' hb j u hu => range_kept g2 (HB.out.trans (hb.mono HB.out.size)) l2 j u hu
   have f1 : ∀ w', Below wr.heap.size wr w' → w'.cell? ⟨b1, o1 + k * 11, none⟩ = some (.string (bs p2)) := fun w' hb => hc1 w' hb 0 _ rfl
   have f2 : ∀ w', Below wr.heap.size wr w' → w'.cell? ⟨b2, o2 + k * 11, none⟩ = some (.string (bs p2)) := fun w' hb => hc2 w' hb 0 _ rfl
   have f3 : ∀ w', Below wr.heap.size wr w' → w'.cell? ⟨b1, o1 + k * 11 + 1, none⟩ = some (.bool d2) := fun w' hb => hc1 w' hb 1 _ rfl
   have f4 : ∀ w', Below wr.heap.size wr w' → w'.cell? ⟨b2, o2 + k * 11 + 1, none⟩ = some (.bool d2) := fun w' hb => hc2 w' hb 1 _ rfl
   have N1 : ∀ w', Below wr.heap.size wr w' → w'.rangeAt b1 (o1 + k * 11 + 2) [.slice sa sn sc, .int .u32 v1, .int .u32 v2, .int .u32 v3, .int .i64 v4, .int .u32 v5, .int .u64 v6, .int .u64 v7, .int .u64 v8] := fun w' hb j u hu => by
    have h := hc1 w' hb (j + 2) u hu
    rw [show o1 + k * 11 + 2 + j = o1 + k * 11 + (j + 2) by omega]
    exact h
   have N2 : ∀ w', Below wr.heap.size wr w' → w'.rangeAt b2 (o2 + k * 11 + 2) [.slice ta tn tc, .int .u32 v1, .int .u32 v2, .int .u32 v3, .int .i64 v4, .int .u32 v5, .int .u64 v6, .int .u64 v7, .int .u64 v8] := fun w' hb j u hu => by
    have h := hc2 w' hb (j + 2) u hu
    rw [show o2 + k * 11 + 2 + j = o2 + k * 11 + (j + 2) by omega]
    exact h
   have KND : Hid (∀ w', Below wr.heap.size wr w' → Calls Tryz.prog 20 #[.agg #[.slice sa sn sc, .int .u32 v1, .int .u32 v2, .int .u32 v3, .int .i64 v4, .int .u32 v5, .int .u64 v6, .int .u64 v7, .int .u64 v8], .agg #[.slice ta tn tc, .int .u32 v1, .int .u32 v2, .int .u32 v3, .int .i64 v4, .int .u32 v5, .int .u64 v6, .int .u64 v7, .int .u64 v8]] w' fun e w'' => e = .returned (.bool true) ∧ Below w'.heap.size w' w'') := Lib.hid fun w' h =>
    rfNode_same (r := ⟨sa, sn, sc, ⟨v1, v2, v3, v4, v5, v6, v7, v8⟩⟩) (r' := ⟨ta, tn, tc, ⟨v1, v2, v3, v4, v5, v6, v7, v8⟩⟩) (d := ⟨dd, ⟨v1, v2, v3, v4, v5, v6, v7, v8⟩⟩) ((R1.below HB.out).below h) ((R2.below HB.out).below h)
   have ti : ∀ w', Below wr.heap.size wr w' → (k : Int) < (n : Int) := fun _ _ => by omega
   have te : ∀ w', Below wr.heap.size wr w' → ((bs p2).toList != (bs p2).toList) = false := fun _ _ => by simp
   have tg : ∀ w', Below wr.heap.size wr w' → (d2 != d2) = false := fun _ _ => by simp
   clear r1 r2 R1 R2 g1 g2 l1 l2 hc1 hc2 hx1 hx2 he
   go_wp2_with fail
   refine wp_region_held_drew (S := fun w' => Below wr.heap.size wr w') (by kernel_rfl) (Below.refl _ wr).drew (fun hS => ?_)
   refine tI 0 rfl hS ?_
   refine tI 1 rfl hS ?_
   refine tJ 2 rfl hS ti ?_
   refine tI 3 rfl hS ?_
   simp only [putS]
   refine tJ 4 rfl hS f1 ?_
   refine tI 5 rfl hS ?_
   refine tI 6 rfl hS ?_
   refine tJ 7 rfl hS ti ?_
   simp only [putS]
   refine tI 8 rfl hS ?_
   refine tJ 9 rfl hS f2 ?_
   refine tJ 10 rfl hS te ?_
   refine tI 11 rfl hS ?_
   simp only [putS]
   refine tI 12 rfl hS ?_
   refine tI 13 rfl hS ?_
   refine tJ 14 rfl hS ti ?_
   refine tI 15 rfl hS ?_
   simp only [putS]
   refine tJ 16 rfl hS f3 ?_
   refine tI 17 rfl hS ?_
   refine tI 18 rfl hS ?_
   refine tJ 19 rfl hS ti ?_
   simp only [putS]
   refine tI 20 rfl hS ?_
   refine tJ 21 rfl hS f4 ?_
   refine tJ 22 rfl hS tg ?_
   refine tI 23 rfl hS ?_
   simp only [putS]
   refine tI 24 rfl hS ?_
   refine tI 25 rfl hS ?_
   refine tI 26 rfl hS ?_
   refine tJ 27 rfl hS ti ?_
   simp only [putS]
   refine tI 28 rfl hS ?_
   refine tL 29 rfl hS 39 (.tmp 45) b1 (o1 + k * 11 + 2) [.slice sa sn sc, .int .u32 v1, .int .u32 v2, .int .u32 v3, .int .i64 v4, .int .u32 v5, .int .u64 v6, .int .u64 v7, .int .u64 v8] N1 Tryz.underlying39 HSZ.out ?_
   refine tI 30 rfl hS ?_
   refine tI 31 rfl hS ?_
   simp only [putS]
   refine tJ 32 rfl hS ti ?_
   refine tI 33 rfl hS ?_
   refine tL 34 rfl hS 39 (.tmp 50) b2 (o2 + k * 11 + 2) [.slice ta tn tc, .int .u32 v1, .int .u32 v2, .int .u32 v3, .int .i64 v4, .int .u32 v5, .int .u64 v6, .int .u64 v7, .int .u64 v8] N2 Tryz.underlying39 HSZ.out ?_
   simp only [putS]
   refine cI 35 rfl ?_
   refine (KND.out _ hS).mono ?_
   rintro e w2 ⟨rfl, B2⟩
   have bz := hS.trans (B2.mono hS.size)
   refine ⟨bz, ?_⟩
   try dsimp only
   simp only [putS]
   refine tI 36 rfl bz ?_
   refine tI 37 rfl bz ?_
   simp only [putS]
   refine wpAnyH_done (by kernel_rfl) ?_ _
   have HB2 := Lib.hid (HB.out.trans (bz.mono HB.out.size))
   clear f1 f2 f3 f4 N1 N2 ti te tg hS B2 bz
   go_wp2_with fail
   go_roundw
   case rel => exact ⟨k + 1, hlt, by go_num, HB2⟩
   case measure => simp [intOf]; omega
  ·obtain rfl : n = k := by omega
   have tl1 : decide ((n : Int) < (n : Int)) = false := by simp
   have tl2 : decide (n < n) = false := by simp
   clear hlt hk
   go_wp2
   go_ret
   exact ⟨rfl, HB.out⟩
end Go.Proofs.YtnclkfhdpkkakaaGreatDoor
