/-
  The doer's create, walked. One operation by the doer, whatever its kind.
-/
import Derived.Test.YtnclkfhdpkkakaaGreatDoorQ30
namespace Go.Proofs.YtnclkfhdpkkakaaGreatDoor
set_option linter.unusedVariables false
set_option linter.unusedSimpArgs false
open Go Go.RowKit Go.Shelf Go.MapKept Go.ChangeMaps Go.Maps Go.Sort
section
variable {X : Nat → Prop} {w0 w : World} {d b : Nat} {root : Bytes} {at_ cnt : Int} {M : List (Bytes × Nd)} {who : Sess} {v : Value} {L : List RawE} {E : List Eff}
set_option maxRecDepth 100000 in
set_option maxHeartbeats 64000000 in
theorem DoerAt.create_any (D : DoerAt X w0 w d b root at_ cnt M who v L E) (h0 : 0 ≤ cnt) (h1 : cnt ≤ 100000) (hsz : E.length ≤ 900) (NX : Nice M) (PT : PowTab w) (r : RawO) (o : Opl) {lo : Nat → Prop} (hr : LeafO w lo r o) (hlo : ∀ k, lo k → v.ownBlock ≠ some k ∧ ¬ X k) (hp : o.path.length ≤ 900) (hdl : o.data.length ≤ 1000000) (hu : underB o.path root = true) {x : Int} (hx : createE root M who o = x) :
  Calls Tryz.prog 85 #[.pointer (some ⟨d, 0, none⟩), r.val] w fun e w' => (x = 0 ∧ OpDone X w0 w d b root at_ (cnt + 1) M (createM M at_ who o) who v (E ++ createX M at_ who o) ⟨newPath M o, newN o.data at_ who o.eph, []⟩ e w') ∨ (x ≠ 0 ∧ OpFail w x e w') := by
 obtain ⟨ok, op, oa, on, oc, ov, os, oe, pa, pn, pc⟩ := r
 obtain ⟨okd, opp, odata, over, oseq, oeph⟩ := o
 obtain ⟨ws, wn⟩ := who
 obtain ⟨q1, q2, q3, q4, q5, q6, q7, q8⟩ := hr
 dsimp only at q1 q2 q3 q4 q5 q6 q7 q8 hp hdl hu
 subst q1 q2 q3 q4 q5
 unfold RawO.val RawO.cells
 dsimp only
 obtain ⟨w1, hw1, hb1, hs1, k0, k1, ho1⟩ := op_boxes w ok op oa on oc ov os oe pa pn pc
 have HSO : Hid ((Tryz.prog.info? 26).map (·.size) = some 7) := Lib.hid (by kernel_rfl)
 have HSR : Hid ((Tryz.prog.info? 43).map (·.size) = some 13) := Lib.hid infoReply13
 have D1 := D.below hb1
 have y1 : ∀ w', Below w1.heap.size w1 w' → w'.cell? ⟨w.heap.size, 1, none⟩ = some (.string (bs op)) := fun w' hb => (hb.cell (p := ⟨w.heap.size, 1, none⟩) (by show w.heap.size < w1.heap.size; omega)).trans (ho1 1 _ rfl)
 have y4 : ∀ w', Below w1.heap.size w1 w' → w'.cell? ⟨w.heap.size, 4, none⟩ = some (.bool os) := fun w' hb => (hb.cell (p := ⟨w.heap.size, 4, none⟩) (by show w.heap.size < w1.heap.size; omega)).trans (ho1 4 _ rfl)
 have y5 : ∀ w', Below w1.heap.size w1 w' → w'.cell? ⟨w.heap.size, 5, none⟩ = some (.bool oe) := fun w' hb => (hb.cell (p := ⟨w.heap.size, 5, none⟩) (by show w.heap.size < w1.heap.size; omega)).trans (ho1 5 _ rfl)
 have y2 : ∀ w', Below w1.heap.size w1 w' → w'.cell? ⟨w.heap.size, 2, none⟩ = some (.slice oa on oc) := fun w' hb => (hb.cell (p := ⟨w.heap.size, 2, none⟩) (by show w.heap.size < w1.heap.size; omega)).trans (ho1 2 _ rfl)
 have y0 : ∀ w', Below w1.heap.size w1 w' → w'.cell? ⟨d, 0, none⟩ = some (.pointer (some ⟨b, 0, none⟩)) := fun w' hb => (hb.cell (p := ⟨d, 0, none⟩) D1.lt).trans D1.c0
 have ya : ∀ w', Below w1.heap.size w1 w' → w'.cell? ⟨d, 1, none⟩ = some (.int .u64 at_) := fun w' hb => (hb.cell (p := ⟨d, 1, none⟩) D1.lt).trans D1.c1
 have yw2 : ∀ w', Below w1.heap.size w1 w' → w'.cell? ⟨d, 2, none⟩ = some (.int .i64 ws) := fun w' hb => (hb.cell (p := ⟨d, 2, none⟩) D1.lt).trans (cell_of_row _ _ 2 _ 82 (0, 0) D1.blk)
 have yw3 : ∀ w', Below w1.heap.size w1 w' → w'.cell? ⟨d, 3, none⟩ = some (.int .u32 wn) := fun w' hb => (hb.cell (p := ⟨d, 3, none⟩) D1.lt).trans (cell_of_row _ _ 3 _ 82 (0, 0) D1.blk)
 have HRT : Hid (∀ w', Below w1.heap.size w1 w' → Calls Tryz.prog 59 #[.pointer (some ⟨b, 0, none⟩)] w' fun e w'' => e = .returned (.string (bs root)) ∧ w' = w'') := Lib.hid fun w' hb => by
  obtain ⟨lo, mb, T⟩ := (D1.below hb).tree.tree
  exact T.root_any.mono fun e w'' ⟨h1, h2⟩ => ⟨h1, h2.symm⟩
 have HX := Lib.hid hx
 obtain ⟨t1, ht1⟩ : ∃ t1, t1 = decide (op = root) := ⟨_, rfl⟩
 have te := (neq_of ht1.symm).1
 have HT1 := Lib.hid ht1
 have HD := Lib.hid (And.intro D (And.intro D1 (And.intro h0 (And.intro h1 (And.intro hsz (And.intro NX (And.intro PT (And.intro hlo (And.intro hdl hu)))))))))
 have HO := Lib.hid (And.intro q6 (And.intro q7 q8))
 have hdl := D.lt
 have HDL := Lib.hid hdl
 have HP := Lib.hid hp
 have H1 := Lib.hid (And.intro hb1 (And.intro hs1 (And.intro k0 (And.intro k1 hw1))))
 clear D D1 hx ht1 h0 h1 hsz NX PT hlo hdl hu q6 q7 q8 hb1 hs1 k0 k1 hw1 ho1
 go_enter Tryz.func85, Tryz.ntmps85
 go_wp2_with fail
 rw [← H1.out.2.2.2.2]
 go_cut [] (fun wc => Hid (Below w1.heap.size w1 wc ∧ (os = false → op ≠ root)))
 case first =>
  cases os
  ·refine wp_region_held_drew (S := fun w' => Below w1.heap.size w1 w') (by kernel_rfl) (Below.refl _ w1).drew (fun hS => ?_)
   generalize w1.drew = wd at hS ⊢
   refine tI 0 rfl hS ?_
   refine tJ 1 rfl hS y4 ?_
   refine tI 2 rfl hS ?_
   refine tI 3 rfl hS ?_
   simp only [putS]
   refine tJ 4 rfl hS y1 ?_
   refine tI 5 rfl hS ?_
   refine tI 6 rfl hS ?_
   refine tI 7 rfl hS ?_
   simp only [putS]
   refine tJ 8 rfl hS y0 ?_
   simp only [putS]
   refine cI 9 rfl ?_
   refine (HRT.out _ hS).mono ?_
   rintro e w2 ⟨rfl, rfl⟩
   refine ⟨hS, ?_⟩
   try dsimp only
   simp only [putS]
   refine tI 10 rfl hS ?_
   refine tI 11 rfl hS ?_
   simp only [putS]
   refine cI 12 rfl ?_
   refine (must_any _ _ _).mono ?_
   rintro e w2 ⟨rfl, (⟨ht, rfl⟩ | ⟨ht, rfl⟩)⟩
   rotate_left
   ·have HF := Lib.hid (And.intro ht hS)
    clear ht
    unfold panicV
    try dsimp only
    go_wp2_with fail
    have e3 : x = 32 := by
     rw [← HX.out]
     have e1 : t1 = true := by simpa using HF.out.1
     have e2 : op = root := by have := HT1.out; rw [e1] at this; simpa using this.symm
     unfold createE
     rw [if_pos e2]
     rfl
    subst e3
    exact ⟨rfl, .inr ⟨by decide, rfl, H1.out.1.trans (HF.out.2.mono H1.out.1.size)⟩⟩
   have hne : op ≠ root := by
    have ht1 : t1 = false := by simpa using ht
    have := HT1.out
    rw [ht1] at this
    simpa using this.symm
   refine ⟨hS, ?_⟩
   try dsimp only
   simp only [putS]
   refine wpAnyH_done (by kernel_rfl) ?_ _
   have HSH := Lib.hid (And.intro hS hne)
   clear hS hne ht
   go_wp2_with fail
   go_meet
   case rel => exact Lib.hid ⟨HSH.out.1, fun _ => HSH.out.2⟩
  ·refine wp_region_held_drew (S := fun w' => Below w1.heap.size w1 w') (by kernel_rfl) (Below.refl _ w1).drew (fun hS => ?_)
   generalize w1.drew = wd at hS ⊢
   refine tI 0 rfl hS ?_
   refine tJ 1 rfl hS y4 ?_
   refine tI 2 rfl hS ?_
   refine tN 3 rfl hS ?_
   simp only [putS]
   refine tN 4 rfl hS ?_
   refine tN 5 rfl hS ?_
   refine tN 6 rfl hS ?_
   refine tN 7 rfl hS ?_
   simp only [putS]
   refine tN 8 rfl hS ?_
   refine tN 9 rfl hS ?_
   refine tN 10 rfl hS ?_
   refine tI 11 rfl hS ?_
   simp only [putS]
   refine cI 12 rfl ?_
   refine (must_any _ _ _).mono ?_
   rintro e w2 ⟨rfl, (⟨ht, rfl⟩ | ⟨ht, rfl⟩)⟩
   rotate_left
   ·exact absurd ht (by decide)
   clear ht
   refine ⟨hS, ?_⟩
   try dsimp only
   simp only [putS]
   refine wpAnyH_done (by kernel_rfl) ?_ _
   have HSH := Lib.hid hS
   clear hS
   go_wp2_with fail
   go_meet
   case rel => exact Lib.hid ⟨HSH.out, fun h => by cases h⟩
 case rest =>
 obtain ⟨hS2, hnr⟩ := hcut.out
 have HNR := Lib.hid hnr
 clear hcut hnr
 go_wp2_with fail
 refine wp_region_held_drew (S := fun w' => Below w1.heap.size w1 w') (by kernel_rfl) hS2.drew (fun hS => ?_)
 generalize wc.drew = wk at hS ⊢
 clear hS2
 refine tI 0 rfl hS ?_
 refine tJ 1 rfl hS y1 ?_
 refine tI 2 rfl hS ?_
 refine tI 3 rfl hS ?_
 simp only [putS]
 refine tI 4 rfl hS ?_
 refine tJ 5 rfl hS y0 ?_
 simp only [putS]
 refine cI 6 rfl ?_
 refine (HRT.out _ hS).mono ?_
 rintro e w2 ⟨rfl, rfl⟩
 refine ⟨hS, ?_⟩
 try dsimp only
 simp only [putS]
 refine tI 7 rfl hS ?_
 simp only [putS]
 refine cI 8 rfl ?_
 refine (must_any _ _ _).mono ?_
 rintro e w2 ⟨rfl, (⟨ht, rfl⟩ | ⟨ht, rfl⟩)⟩
 rotate_left
 ·have HF := Lib.hid (And.intro ht hS)
  clear ht
  unfold panicV
  try dsimp only
  go_wp2_with fail
  have e3 : x = 30 := by
   rw [← HX.out]
   have e1 : t1 = true := by simpa using HF.out.1
   have e2 : op = root := by have := HT1.out; rw [e1] at this; simpa using this.symm
   have e3 : os = true := by
    cases h : os with
    | true => rfl
    | false => exact absurd e2 (HNR.out h)
   unfold createE
   rw [if_pos e2]
   dsimp only
   rw [e3]
   rfl
  subst e3
  exact ⟨rfl, .inr ⟨by decide, rfl, H1.out.1.trans (HF.out.2.mono H1.out.1.size)⟩⟩
 have ht1 : t1 = false := by simpa using ht
 subst ht1
 have hne : Hid (op ≠ root) := Lib.hid (by have := HT1.out; simpa using this.symm)
 refine ⟨hS, ?_⟩
 try dsimp only
 simp only [putS]
 refine wpAnyH_done (by kernel_rfl) ?_ _
 clear ht te HT1
 have z1 := y1 _ hS
 have z4 := y4 _ hS
 have HS := Lib.hid hS
 clear hS
 obtain ⟨un, hun⟩ : ∃ un : Nat, (un : Int) = ((getA (parentL op) M).getD zNd).num.next ∧ un < 4294967296 := next_nat HD.out.2.2.2.2.2.1 _
 have HUN0 := Lib.hid hun
 clear hun
 obtain ⟨P, hP⟩ : ∃ P, P = newPath M ⟨ok, op, odata, ov, os, oe⟩ := ⟨_, rfl⟩
 have HPP : Hid (newPath M ⟨ok, op, odata, ov, os, oe⟩ = P) := Lib.hid hP.symm
 have HPL : Hid (P.length ≤ 1000) := Lib.hid (by
  rw [hP]
  unfold newPath
  have := HP.out
  split
  ·unfold digs
   dsimp only
   rw [← HUN0.out.1, Int.toNat_natCast]
   simp
   have := digits_ten HUN0.out.2
   omega
  ·dsimp only
   omega)
 clear hP
 go_upto_if 38 with fail
 go_cut [5] (fun v wc => v = .string (bs P) ∧ Hid (Below w1.heap.size w1 wc))
 case first =>
  cases os
  ·go_wp2_with fail
   go_meet
   case rel => exact ⟨by rw [← HPP.out]; unfold newPath; rw [if_neg (by simp)], HS⟩
  ·skip
   have HPA : Hid (∀ w', Below w1.heap.size w1 w' → Calls Tryz.prog 47 #[.string (bs op)] w' fun e w'' => e = .returned (.string (bs (parentL op))) ∧ Below w'.heap.size w' w'') := Lib.hid fun w' hb => later_parent w' (HD.out.2.1.below hb).tree.max op (by have := HP.out; omega) w' (Below.refl _ _)
   have HGP : Hid (∀ w', Below w1.heap.size w1 w' → Calls Tryz.prog 19 #[.pointer (some ⟨b, 0, none⟩), .string (bs (parentL op))] w' fun e w'' => ∃ (r : Raw) (t : Bool), e = .returned (.tuple #[r.val, .bool t]) ∧ r.num.next = (un : Int) ∧ Below w'.heap.size w' w'') := Lib.hid fun w' hb => ((HD.out.2.1.below hb).tree.get (parentL op) (parent_short (by have := HP.out; omega))).mono fun e w'' ⟨r, h1, h2, h3, _⟩ => ⟨r, _, h1, by rw [h2.num, HUN0.out.1], h3⟩
   have HSZ0 : Hid ((Tryz.prog.info? 39).map (·.size) = some 9) := Lib.hid (by kernel_rfl)
   go_wp2_with fail
   go_cut [6] (fun v wc => NextBox w1 un v wc)
   case first =>
    refine wp_region_held_drew (S := fun w' => Below w1.heap.size w1 w') (by kernel_rfl) HS.out.drew (fun hS => ?_)
    generalize wk.drew = wr at hS ⊢
    refine tI 0 rfl hS ?_
    refine tI 1 rfl hS ?_
    refine tI 2 rfl hS ?_
    refine tJ 3 rfl hS y0 ?_
    simp only [putS]
    refine tI 4 rfl hS ?_
    refine tJ 5 rfl hS y1 ?_
    simp only [putS]
    refine call_or 6 11 rfl rfl (by kernel_rfl) (by rfl) (by rfl) _ _ (by go_simp <;> first | rfl | exact ⟨rfl, rfl⟩) (.pointer (some ⟨wr.heap.size, 0, none⟩)) (wr.alloc (.cells #[.slice none 0 0, .int .u32 0, .int .u32 0, .int .u32 0, .int .i64 0, .int .u32 0, .int .u64 0, .int .u64 0, .int .u64 0] 39)) (by go_simp <;> first | rfl | exact ⟨rfl, rfl⟩) ?_ (hS.alloc hS.size _) ?_
    ·refine (HPA.out _ hS).mono ?_
     rintro e w2 ⟨rfl, B2'⟩
     have B2 := hS.trans (B2'.mono hS.size)
     refine ⟨B2, ?_⟩
     try dsimp only
     simp only [putS]
     refine call_or 7 11 rfl rfl (by kernel_rfl) (by rfl) (by rfl) _ _ (by go_simp <;> first | rfl | exact ⟨rfl, rfl⟩) (.pointer (some ⟨w2.heap.size, 0, none⟩)) (w2.alloc (.cells #[.slice none 0 0, .int .u32 0, .int .u32 0, .int .u32 0, .int .i64 0, .int .u32 0, .int .u64 0, .int .u64 0, .int .u64 0] 39)) (by go_simp <;> first | rfl | exact ⟨rfl, rfl⟩) ?_ (B2.alloc B2.size _) ?_
     ·refine (HGP.out _ B2).mono ?_
      rintro e w3 ⟨⟨sa, sn, sc, ⟨s1, s2, s3, s4, s5, s6, s7, s8⟩⟩, tb, rfl, hs3, B3'⟩
      have hs3 : s3 = (un : Int) := hs3
      subst hs3
      unfold Raw.val Raw.cells Nums.cells
      try dsimp only
      have B3 := B2.trans (B3'.mono B2.size)
      refine ⟨B3, ?_⟩
      try dsimp only
      simp only [putS]
      refine tI 8 rfl B3 ?_
      refine tI 9 rfl B3 ?_
      refine tI 10 rfl B3 ?_
      simp only [putS]
      have B4 := B3.alloc B3.size (.cells #[.slice none 0 0, .int .u32 0, .int .u32 0, .int .u32 0, .int .i64 0, .int .u32 0, .int .u64 0, .int .u64 0, .int .u64 0] 39)
      refine gI 11 rfl (.pointer (some ⟨w3.heap.size, 0, none⟩)) (w3.alloc (.cells #[.slice none 0 0, .int .u32 0, .int .u32 0, .int .u32 0, .int .i64 0, .int .u32 0, .int .u64 0, .int .u64 0, .int .u64 0] 39)) B4 ?_
      simp only [putS]
      have ht := (there_of (heap_alloc_new w3 _) (by simp) : (w3.alloc (.cells #[.slice none 0 0, .int .u32 0, .int .u32 0, .int .u32 0, .int .i64 0, .int .u32 0, .int .u64 0, .int .u64 0, .int .u64 0] 39)).there w3.heap.size 0 9)
      have HONR : Hid ((#[.slice sa sn sc, .int .u32 s1, .int .u32 s2, .int .u32 (un : Int), .int .i64 s4, .int .u32 s5, .int .u64 s6, .int .u64 s7, .int .u64 s8] : Array Value).all (·.oneCell') = true) := Lib.hid (by simp [Value.oneCell'])
      have hS9 := (nextBox (sa := sa) (sn := sn) (sc := sc) (s1 := s1) (s2 := s2) (s4 := s4) (s5 := s5) (s6 := s6) (s7 := s7) (s8 := s8) (un := un) ht B4 B3.size)
      obtain ⟨w9, hw9⟩ : ∃ w9, w9 = (w3.alloc (.cells #[.slice none 0 0, .int .u32 0, .int .u32 0, .int .u32 0, .int .i64 0, .int .u32 0, .int .u64 0, .int .u64 0, .int .u64 0] 39)).setCells w3.heap.size 0 [.slice sa sn sc, .int .u32 s1, .int .u32 s2, .int .u32 (un : Int), .int .i64 s4, .int .u32 s5, .int .u64 s6, .int .u64 s7, .int .u64 s8] := ⟨_, rfl⟩
      have hS8 : Below w1.heap.size w1 w9 := by rw [hw9]; exact hS9.choose_spec.2.2
      rw [← hw9] at hS9
      refine sI 12 rfl 39 (.tmp 6) (.tmp 48) w3.heap.size 0 #[.slice sa sn sc, .int .u32 s1, .int .u32 s2, .int .u32 (un : Int), .int .i64 s4, .int .u32 s5, .int .u64 s6, .int .u64 s7, .int .u64 s8] ht HSZ0.out HONR.out (by rw [← hw9]; exact hS8) ?_
      simp only [putS]
      rw [← hw9]
      clear hw9
      refine tI 13 rfl hS8 ?_
      simp only [putS]
      refine wpAnyH_done (by kernel_rfl) ?_ _
      go_wp2_with fail
      go_meet
      case rel => exact hS9
     ·skip
      simp only [putS]
      refine cI 7 rfl ?_
      have B3 := B2.alloc B2.size (.cells #[.slice none 0 0, .int .u32 0, .int .u32 0, .int .u32 0, .int .i64 0, .int .u32 0, .int .u64 0, .int .u64 0, .int .u64 0] 39)
      refine (HGP.out _ B3).mono ?_
      rintro e w4 ⟨⟨sa, sn, sc, ⟨s1, s2, s3, s4, s5, s6, s7, s8⟩⟩, tb, rfl, hs3, B4'⟩
      have hs3 : s3 = (un : Int) := hs3
      subst hs3
      unfold Raw.val Raw.cells Nums.cells
      try dsimp only
      have B4 := B3.trans (B4'.mono B3.size)
      refine ⟨B4, ?_⟩
      try dsimp only
      simp only [putS]
      refine tI 8 rfl B4 ?_
      refine tI 9 rfl B4 ?_
      refine tI 10 rfl B4 ?_
      simp only [putS]
      have ht := (there_of ((B4'.block _ (by simp)).trans (heap_alloc_new w2 _)) (by simp) : w4.there w2.heap.size 0 9)
      have HONR : Hid ((#[.slice sa sn sc, .int .u32 s1, .int .u32 s2, .int .u32 (un : Int), .int .i64 s4, .int .u32 s5, .int .u64 s6, .int .u64 s7, .int .u64 s8] : Array Value).all (·.oneCell') = true) := Lib.hid (by simp [Value.oneCell'])
      have hS9 := (nextBox (sa := sa) (sn := sn) (sc := sc) (s1 := s1) (s2 := s2) (s4 := s4) (s5 := s5) (s6 := s6) (s7 := s7) (s8 := s8) (un := un) ht B4 B2.size)
      obtain ⟨w9, hw9⟩ : ∃ w9, w9 = w4.setCells w2.heap.size 0 [.slice sa sn sc, .int .u32 s1, .int .u32 s2, .int .u32 (un : Int), .int .i64 s4, .int .u32 s5, .int .u64 s6, .int .u64 s7, .int .u64 s8] := ⟨_, rfl⟩
      have hS8 : Below w1.heap.size w1 w9 := by rw [hw9]; exact hS9.choose_spec.2.2
      rw [← hw9] at hS9
      refine sI 12 rfl 39 (.tmp 6) (.tmp 48) w2.heap.size 0 #[.slice sa sn sc, .int .u32 s1, .int .u32 s2, .int .u32 (un : Int), .int .i64 s4, .int .u32 s5, .int .u64 s6, .int .u64 s7, .int .u64 s8] ht HSZ0.out HONR.out (by rw [← hw9]; exact hS8) ?_
      simp only [putS]
      rw [← hw9]
      clear hw9
      refine tI 13 rfl hS8 ?_
      simp only [putS]
      refine wpAnyH_done (by kernel_rfl) ?_ _
      go_wp2_with fail
      go_meet
      case rel => exact hS9
    ·skip
     simp only [putS]
     refine cI 6 rfl ?_
     have B2 := hS.alloc hS.size (.cells #[.slice none 0 0, .int .u32 0, .int .u32 0, .int .u32 0, .int .i64 0, .int .u32 0, .int .u64 0, .int .u64 0, .int .u64 0] 39)
     refine (HPA.out _ B2).mono ?_
     rintro e w3 ⟨rfl, B3'⟩
     have B3 := B2.trans (B3'.mono B2.size)
     refine ⟨B3, ?_⟩
     try dsimp only
     simp only [putS]
     refine cI 7 rfl ?_
     refine (HGP.out _ B3).mono ?_
     rintro e w4 ⟨⟨sa, sn, sc, ⟨s1, s2, s3, s4, s5, s6, s7, s8⟩⟩, tb, rfl, hs3, B4'⟩
     have hs3 : s3 = (un : Int) := hs3
     subst hs3
     unfold Raw.val Raw.cells Nums.cells
     try dsimp only
     have B4 := B3.trans (B4'.mono B3.size)
     refine ⟨B4, ?_⟩
     try dsimp only
     simp only [putS]
     refine tI 8 rfl B4 ?_
     refine tI 9 rfl B4 ?_
     refine tI 10 rfl B4 ?_
     simp only [putS]
     have ht := (there_of ((B4'.block _ (by have := B3'.size; simp at this; omega)).trans ((B3'.block _ (by simp)).trans (heap_alloc_new wr _))) (by simp) : w4.there wr.heap.size 0 9)
     have HONR : Hid ((#[.slice sa sn sc, .int .u32 s1, .int .u32 s2, .int .u32 (un : Int), .int .i64 s4, .int .u32 s5, .int .u64 s6, .int .u64 s7, .int .u64 s8] : Array Value).all (·.oneCell') = true) := Lib.hid (by simp [Value.oneCell'])
     have hS9 := (nextBox (sa := sa) (sn := sn) (sc := sc) (s1 := s1) (s2 := s2) (s4 := s4) (s5 := s5) (s6 := s6) (s7 := s7) (s8 := s8) (un := un) ht B4 hS.size)
     obtain ⟨w9, hw9⟩ : ∃ w9, w9 = w4.setCells wr.heap.size 0 [.slice sa sn sc, .int .u32 s1, .int .u32 s2, .int .u32 (un : Int), .int .i64 s4, .int .u32 s5, .int .u64 s6, .int .u64 s7, .int .u64 s8] := ⟨_, rfl⟩
     have hS8 : Below w1.heap.size w1 w9 := by rw [hw9]; exact hS9.choose_spec.2.2
     rw [← hw9] at hS9
     refine sI 12 rfl 39 (.tmp 6) (.tmp 48) wr.heap.size 0 #[.slice sa sn sc, .int .u32 s1, .int .u32 s2, .int .u32 (un : Int), .int .i64 s4, .int .u32 s5, .int .u64 s6, .int .u64 s7, .int .u64 s8] ht HSZ0.out HONR.out (by rw [← hw9]; exact hS8) ?_
     simp only [putS]
     rw [← hw9]
     clear hw9
     refine tI 13 rfl hS8 ?_
     simp only [putS]
     refine wpAnyH_done (by kernel_rfl) ?_ _
     go_wp2_with fail
     go_meet
     case rel => exact hS9
   case rest =>
   obtain ⟨nb, rfl, hnb, hbc⟩ := hcut
   have tu : ∀ _ : True, IntKind.u64.wrap (un : Int) = (un : Int) := fun _ => by rw [IntKind.wrap_u64]; have := HUN0.out.2; omega
   have HFM := Lib.hid (fmt_any un (by have := HUN0.out.2; omega) wc (fun _ => tab_below HD.out.2.2.2.2.2.2.1 (H1.out.1.trans (hbc.mono H1.out.1.size))))
   have HBC := Lib.hid hbc
   clear hbc z1 z4
   go_wp2_with fail
   refine HFM.out.mono ?_
   rintro e wd ⟨rfl, Bd'⟩
   have Bd := HBC.out.trans (Bd'.mono HBC.out.size)
   obtain ⟨dg, hdg⟩ : ∃ dg, dg = Lib.decDigits un := ⟨_, rfl⟩
   rw [← hdg]
   have hdl10 : dg.length ≤ 10 := by rw [hdg]; exact digits_ten HUN0.out.2
   have t10 : ∀ _ : True, IntKind.i64.wrap (10 - ((bs dg).size : Int)) = ((10 - dg.length : Nat) : Int) := fun _ => by rw [size_bs, IntWalk.i64_in _ (by omega)]; omega
   have HRP0 := Lib.hid (repeat_zero (10 - dg.length) (by omega) wd)
   have HBD := Lib.hid Bd
   have HDG := Lib.hid (And.intro hdg hdl10)
   clear Bd' Bd hnb tu hdg hdl10
   go_wp2_with fail
   refine HRP0.out.mono ?_
   rintro e we ⟨rfl, Be'⟩
   have Be := HBD.out.trans (Be'.mono HBD.out.size)
   have hP : P = op ++ (List.replicate (10 - dg.length) 48 ++ dg) := by
    rw [← HPP.out]
    unfold newPath digs
    rw [if_pos rfl]
    dsimp only
    rw [← HUN0.out.1, Int.toNat_natCast, ← HDG.out.1]
   have hPl := HPL.out
   have ha1 := add_bsC (bs (List.replicate (10 - dg.length) 48)) (bs dg) (List.replicate (10 - dg.length) 48 ++ dg) (cat_bs _ _) (by simp; have := HDG.out.2; omega)
   have ha2 := add_bsC (bs op) (bs (List.replicate (10 - dg.length) 48 ++ dg)) P (by rw [cat_bs, hP]) (by omega)
   have HS2 := Lib.hid Be
   clear Be' Be hP t10 hPl
   go_wp2_with fail
   go_meet
   case rel => exact ⟨rfl, HS2⟩
 case rest =>
 obtain ⟨rfl, hS2⟩ := hcut
 obtain ⟨w2b, hw2b⟩ : ∃ w, w = wc := ⟨_, rfl⟩
 subst hw2b
 have hPl := HPL.out
 have HCK := Lib.hid (later_check w1 HD.out.2.1.tree.max P hPl)
 clear z1 z4
 go_wp2_with fail
 refine (HCK.out _ hS2.out).mono ?_
 rintro e w2 ⟨rfl, B2⟩
 obtain ⟨t3, ht3⟩ : ∃ t3, t3 = (partsL P).isSome := ⟨_, rfl⟩
 have tc : (checkV P == 0) = t3 := by unfold checkV; rw [ht3]; cases (partsL P).isSome <;> rfl
 have HT3 := Lib.hid (And.intro ht3 B2)
 clear ht3 B2 hS2
 go_wp2_with fail
 refine (must_any _ _ _).mono ?_
 rintro e w2' ⟨rfl, (⟨ht, rfl⟩ | ⟨ht, rfl⟩)⟩
 rotate_left
 ·have HF := Lib.hid (And.intro ht HT3.out.2)
  clear ht
  unfold panicV
  try dsimp only
  go_wp2_with fail
  have e3 : x = 30 := by
   rw [← HX.out]
   unfold createE
   rw [if_neg hne.out, HPP.out, if_pos (by rw [← HT3.out.1]; exact HF.out.1)]
  subst e3
  exact ⟨rfl, .inr ⟨by decide, rfl, H1.out.1.trans (HF.out.2.mono H1.out.1.size)⟩⟩
 have HOK : Hid ((partsL P).isSome = true) := Lib.hid (HT3.out.1.symm.trans ht)
 have HP1 := Lib.hid (newPath_ok (M := M) (o := ⟨ok, op, odata, ov, os, oe⟩) HD.out.2.2.2.2.2.2.2.2.2 hne.out (by rw [HPP.out]; exact HOK.out))
 subst ht
 clear tc
 have HTO := Lib.hid ((HD.out.2.1.below HT3.out.2).touched_any (HD.out.2.1.below HT3.out.2).tree.max P hPl)
 go_wp2_with fail
 refine HTO.out.mono ?_
 rintro e w3 (⟨u, ⟨ra, rn, rc, ⟨r1, r2, r3, r4, r5, r6, r7, r8⟩⟩, hu, rfl, hrd, B3'⟩ | ⟨ht, rfl, B3'⟩)
 rotate_left
 ·have B3 := HT3.out.2.trans (B3'.mono HT3.out.2.size)
  clear B3'
  have HF := Lib.hid (And.intro ht B3)
  clear ht
  unfold panicV
  try dsimp only
  go_wp2_with fail
  have e3 : x = 31 := by
   rw [← HX.out]
   unfold createE
   rw [if_neg hne.out, HPP.out, if_neg (by rw [HOK.out]; simp), HF.out.1]
  subst e3
  exact ⟨rfl, .inr ⟨by decide, rfl, H1.out.1.trans (HF.out.2.mono H1.out.1.size)⟩⟩
 have B3 := HT3.out.2.trans (B3'.mono HT3.out.2.size)
 unfold RawE.val RawE.cells Raw.cells Nums.cells
 dsimp only [List.cons_append, List.nil_append]
 obtain ⟨w4, hw4⟩ : ∃ w4, w4 = w3.alloc (.cells #[.string (bs (parentL P)), .bool false, .slice ra rn rc, .int .u32 r1, .int .u32 r2, .int .u32 r3, .int .i64 r4, .int .u32 r5, .int .u64 r6, .int .u64 r7, .int .u64 r8] 88) := ⟨_, rfl⟩
 have B4' : Below w3.heap.size w3 w4 := by rw [hw4]; exact belowA (Below.refl _ w3) _
 have k4 : w4.heap[w3.heap.size]? = some (.cells #[.string (bs (parentL P)), .bool false, .slice ra rn rc, .int .u32 r1, .int .u32 r2, .int .u32 r3, .int .i64 r4, .int .u32 r5, .int .u64 r6, .int .u64 r7, .int .u64 r8] 88 (0, 0)) := by rw [hw4]; exact heap_alloc_new w3 _
 have hs4 : w4.heap.size = w3.heap.size + 1 := by rw [hw4]; simp
 have B4 := B3.trans (B4'.mono B3.size)
 have x6 : w4.cell? ⟨w3.heap.size, 6, none⟩ = some (.int .i64 r4) := cell_of_row _ _ 6 _ 88 (0, 0) k4
 have x7 : w4.cell? ⟨w3.heap.size, 7, none⟩ = some (.int .u32 r5) := cell_of_row _ _ 7 _ 88 (0, 0) k4
 have HU := Lib.hid (And.intro hu (And.intro hrd (And.intro B3' B3)))
 have H4 := Lib.hid (And.intro hw4 (And.intro B4' (And.intro k4 (And.intro hs4 B4))))
 clear hu hrd B3' B3 B4' k4 hs4 B4 hw4
 obtain ⟨t4, ht4⟩ : ∃ t4, t4 = noSess r4 r5 := ⟨_, rfl⟩
 have q4 := fun W : World => sess_eq r4 r5 W
 rw [← ht4] at q4
 have HT4 := Lib.hid ht4
 clear ht4
 go_wp2_with fail
 rw [← H4.out.1]
 have HUN : Hid (t4 = noSess u.num.os u.num.on) := Lib.hid (by
  have h4 := congrArg Nums.os HU.out.2.1.num
  have h5 := congrArg Nums.on HU.out.2.1.num
  have h4 : r4 = u.num.os := h4
  have h5 : r5 = u.num.on := h5
  rw [HT4.out, h4, h5])
 refine (must_any _ _ _).mono ?_
 rintro e w5 ⟨rfl, (⟨ht, rfl⟩ | ⟨ht, rfl⟩)⟩
 rotate_left
 ·have HF := Lib.hid (And.intro ht H4.out.2.2.2.2)
  clear ht
  unfold panicV
  try dsimp only
  go_wp2_with fail
  have e3 : x = 34 := by
   rw [← HX.out]
   unfold createE
   rw [if_neg hne.out, HPP.out, if_neg (by rw [HOK.out]; simp), HU.out.1]
   dsimp only
   rw [if_pos (by rw [← HUN.out]; exact HF.out.1)]
  subst e3
  exact ⟨rfl, .inr ⟨by decide, rfl, H1.out.1.trans (HF.out.2.mono H1.out.1.size)⟩⟩
 have HNS : Hid (noSess u.num.os u.num.on = true) := Lib.hid (HUN.out.symm.trans ht)
 subst ht
 clear q4
 have z5 := y5 _ H4.out.2.2.2.2
 go_upto_region 11 with fail
 go_cut [] (fun wc => w4 = wc ∧ Hid (oe = true → noSess ws wn = false))
 case first =>
  cases oe
  ·go_wp2_with fail
   refine (must_any _ _ _).mono ?_
   rintro e w5 ⟨rfl, (⟨ht, rfl⟩ | ⟨ht, rfl⟩)⟩
   rotate_left
   ·exact absurd ht (by decide)
   clear z5 ht
   go_wp2_with fail
   go_meet
   case rel => exact ⟨rfl, Lib.hid (fun h => by cases h)⟩
  ·obtain ⟨t5, ht5⟩ : ∃ t5, t5 = !noSess ws wn := ⟨_, rfl⟩
   have q5 := fun W : World => sess_ne ws wn W
   rw [← ht5] at q5
   have z0 := y0 _ H4.out.2.2.2.2
   have z2 := yw2 _ H4.out.2.2.2.2
   have z3 := yw3 _ H4.out.2.2.2.2
   have HT5 := Lib.hid ht5
   clear ht5
   go_wp2_with fail
   refine (must_any _ _ _).mono ?_
   rintro e w5 ⟨rfl, (⟨ht, rfl⟩ | ⟨ht, rfl⟩)⟩
   rotate_left
   ·have HF := Lib.hid (And.intro ht H4.out.2.2.2.2)
    clear ht
    unfold panicV
    try dsimp only
    go_wp2_with fail
    have e3 : x = 63 := by
     rw [← HX.out]
     unfold createE
     rw [if_neg hne.out, HPP.out, if_neg (by rw [HOK.out]; simp), HU.out.1]
     dsimp only
     rw [if_neg (by rw [HNS.out]; simp), if_pos ⟨rfl, by have := HT5.out; rw [HF.out.1] at this; simpa using this.symm⟩]
    subst e3
    exact ⟨rfl, .inr ⟨by decide, rfl, H1.out.1.trans (HF.out.2.mono H1.out.1.size)⟩⟩
   have HEP : Hid (noSess ws wn = false) := Lib.hid (by have := HT5.out; rw [ht] at this; simpa using this.symm)
   clear q5 z2 z3 z0 z5
   subst ht
   go_wp2_with fail
   go_meet
   case rel => exact ⟨rfl, Lib.hid (fun _ => HEP.out)⟩
 case rest =>
 obtain ⟨rfl, HEP⟩ := hcut
 clear z5
 have z0 := y0 _ H4.out.2.2.2.2
 have HGT := Lib.hid ((HD.out.2.1.below H4.out.2.2.2.2).tree.get P (by unfold maxLen; omega))
 go_wp2_with fail
 refine HGT.out.mono ?_
 rintro e w5 ⟨⟨sa, sn, sc, ⟨s1, s2, s3, s4, s5, s6, s7, s8⟩⟩, rfl, _, B5', _⟩
 obtain ⟨t6, ht6⟩ : ∃ t6, t6 = (getA P M).isSome := ⟨_, rfl⟩
 rw [← ht6]
 have HT6 := Lib.hid ht6
 clear ht6 z0
 unfold Raw.val Raw.cells Nums.cells
 dsimp only
 obtain ⟨w6, hw6⟩ : ∃ w6, w6 = w5.alloc (.cells #[.slice sa sn sc, .int .u32 s1, .int .u32 s2, .int .u32 s3, .int .i64 s4, .int .u32 s5, .int .u64 s6, .int .u64 s7, .int .u64 s8] 39) := ⟨_, rfl⟩
 have B46 : Below w4.heap.size w4 w6 := by rw [hw6]; exact belowA B5' _
 have B6 := H4.out.2.2.2.2.trans (B46.mono H4.out.2.2.2.2.size)
 have H6 := Lib.hid (And.intro hw6 (And.intro B46 B6))
 clear hw6 B46 B6 B5'
 go_wp2_with fail
 rw [← H6.out.1]
 refine (must_any _ _ _).mono ?_
 rintro e w7 ⟨rfl, (⟨ht, rfl⟩ | ⟨ht, rfl⟩)⟩
 rotate_left
 ·have HF := Lib.hid (And.intro ht H6.out.2.2)
  clear ht
  unfold panicV
  try dsimp only
  go_wp2_with fail
  have e3 : x = 32 := by
   rw [← HX.out]
   unfold createE
   rw [if_neg hne.out, HPP.out, if_neg (by rw [HOK.out]; simp), HU.out.1]
   dsimp only
   rw [if_neg (by rw [HNS.out]; simp), if_neg (fun h => absurd h.2 (by rw [HEP.out h.1]; simp)), if_pos (by rw [← HT6.out]; simpa using HF.out.1)]
  subst e3
  exact ⟨rfl, .inr ⟨by decide, rfl, H1.out.1.trans (HF.out.2.mono H1.out.1.size)⟩⟩
 have HNI : Hid ((getA P M).isSome = false) := Lib.hid (by
  have h2 : t6 = false := by simpa using ht
  rw [← HT6.out]
  exact h2)
 clear ht
 have z0 := y0 _ H6.out.2.2
 have HPT := Lib.hid ((HD.out.2.1.below H6.out.2.2).tree.paths)
 obtain ⟨ml, hml⟩ : ∃ ml, ml = M.length := ⟨_, rfl⟩
 rw [← hml] at HPT
 obtain ⟨t7, ht7⟩ : ∃ t7, t7 = decide (ml < 48) := ⟨_, rfl⟩
 have tm : decide ((ml : Int) < 48) = t7 := by rw [ht7]; by_cases h : ml < 48 <;> simp [h] <;> omega
 have tm2 : decide (ml < 48) = t7 := ht7.symm
 have HT7 := Lib.hid (And.intro ht7 hml)
 clear ht7 hml
 go_wp2_with fail
 refine HPT.out.mono ?_
 rintro e w7p ⟨ka, kc, rfl, _, B7'⟩
 have B7 := H6.out.2.2.trans (B7'.mono H6.out.2.2.size)
 have B47 := H6.out.2.1.trans (B7'.mono H6.out.2.1.size)
 have H7p := Lib.hid (And.intro B47 B7)
 clear B7' B47 B7 z0
 go_wp2_with fail
 refine (must_any _ _ _).mono ?_
 rintro e w8 ⟨rfl, (⟨ht, rfl⟩ | ⟨ht, rfl⟩)⟩
 rotate_left
 ·have HF := Lib.hid (And.intro ht H7p.out.2)
  clear ht
  unfold panicV
  try dsimp only
  go_wp2_with fail
  have e3 : x = 36 := by
   rw [← HX.out]
   unfold createE
   rw [if_neg hne.out, HPP.out, if_neg (by rw [HOK.out]; simp), HU.out.1]
   dsimp only
   have h1 := HT7.out.1
   rw [HF.out.1] at h1
   have h2 : ¬ ml < 48 := by simpa using h1.symm
   have h3 := HT7.out.2
   rw [if_neg (by rw [HNS.out]; simp), if_neg (fun h => absurd h.2 (by rw [HEP.out h.1]; simp)), if_neg (by rw [HNI.out]; simp), if_pos (by omega)]
  subst e3
  exact ⟨rfl, .inr ⟨by decide, rfl, H1.out.1.trans (HF.out.2.mono H1.out.1.size)⟩⟩
 have hx0 : Hid (x = 0 ∧ createE root M ⟨ws, wn⟩ ⟨ok, op, odata, ov, os, oe⟩ = 0) := Lib.hid (by
  have e3 : createE root M ⟨ws, wn⟩ ⟨ok, op, odata, ov, os, oe⟩ = 0 := by
   unfold createE
   rw [if_neg hne.out, HPP.out, if_neg (by rw [HOK.out]; simp), HU.out.1]
   dsimp only
   have h1 := HT7.out.1
   rw [ht] at h1
   have h2 : ml < 48 := by simpa using h1.symm
   have h3 := HT7.out.2
   rw [if_neg (by rw [HNS.out]; simp), if_neg (fun h => absurd h.2 (by rw [HEP.out h.1]; simp)), if_neg (by rw [HNI.out]; simp), if_neg (by omega)]
  exact ⟨by rw [← HX.out]; exact e3, e3⟩)
 clear ht tm tm2
 have z4 := y4 _ H7p.out.2
 have k7p := (H7p.out.1.block w3.heap.size (by have := H4.out.2.2.2.1; omega)).trans H4.out.2.2.1
 have B37p : Below w3.heap.size w3 w7p := H4.out.2.1.trans (H7p.out.1.mono H4.out.2.1.size)
 have HK7 := Lib.hid (And.intro k7p B37p)
 clear k7p B37p
 go_upto_if 108 with fail
 go_cut [] (fun wc => Hid (∃ kv : Int, (os = true → kv = IntKind.u32.wrap (r3 + 1)) ∧ (os = false → kv = r3) ∧ wc.heap[w3.heap.size]? = some (.cells #[.string (bs (parentL P)), .bool false, .slice ra rn rc, .int .u32 r1, .int .u32 r2, .int .u32 kv, .int .i64 r4, .int .u32 r5, .int .u64 r6, .int .u64 r7, .int .u64 r8] 88 (0, 0)) ∧ Below w3.heap.size w3 wc ∧ Below w1.heap.size w1 wc ∧ w4.heap.size ≤ wc.heap.size))
 case first =>
  cases os
  ·go_wp2_with fail
   go_meet
   case rel => exact Lib.hid ⟨r3, fun h => (by cases h), fun _ => rfl, HK7.out.1, HK7.out.2, H7p.out.2, H7p.out.1.size⟩
  ·have k7p := HK7.out.1
   have x5 : w7p.cell? ⟨w3.heap.size, 5, none⟩ = some (.int .u32 r3) := cell_of_row _ _ 5 _ 88 (0, 0) k7p
   have f5 : w7p.frozen? ⟨w3.heap.size, 5, none⟩ = false := by simp [World.frozen?, k7p]
   obtain ⟨kv, hkv⟩ : ∃ kv, kv = IntKind.u32.wrap (r3 + 1) := ⟨_, rfl⟩
   have tk : ∀ _ : True, IntKind.u32.wrap (r3 + 1) = kv := fun _ => hkv.symm
   have HKV := Lib.hid hkv
   obtain ⟨w7, hw7⟩ : ∃ w7, w7 = w7p.setCell ⟨w3.heap.size, 5, none⟩ (.int .u32 kv) := ⟨_, rfl⟩
   have k7 : w7.heap[w3.heap.size]? = some (.cells #[.string (bs (parentL P)), .bool false, .slice ra rn rc, .int .u32 r1, .int .u32 r2, .int .u32 kv, .int .i64 r4, .int .u32 r5, .int .u64 r6, .int .u64 r7, .int .u64 r8] 88 (0, 0)) := by
    rw [hw7]
    simp [World.setCell, Array.getElem?_modify, k7p]
   have K7 : Kept (· = w3.heap.size) w7p w7 := by rw [hw7]; exact Kept.setCell (S := (· = w3.heap.size)) (p := ⟨w3.heap.size, 5, none⟩) (Kept.refl _ w7p) rfl _
   have H7 := Lib.hid (And.intro k7 K7)
   have HW7 := Lib.hid hw7
   clear hkv hw7 k7p K7 k7
   go_wp2_with fail
   rw [← HW7.out]
   go_meet
   case rel => exact Lib.hid ⟨kv, fun _ => HKV.out, fun h => (by cases h), H7.out.1, HK7.out.2.trans (H7.out.2.below HK7.out.2.size (fun k e => by have e : k = w3.heap.size := e; omega)), H7p.out.2.trans (H7.out.2.below H7p.out.2.size (fun k e => by have e : k = w3.heap.size := e; have := HU.out.2.2.2.size; omega)), Nat.le_trans H7p.out.1.size H7.out.2.size⟩
 case rest =>
 obtain ⟨kv, hkv1, hkv0, k7, q37, q17, q47⟩ := hcut.out
 obtain ⟨w7, hw7⟩ : ∃ w, w = wc := ⟨_, rfl⟩
 subst hw7
 have HKV := Lib.hid (And.intro hkv1 hkv0)
 have H7 := Lib.hid (And.intro q37 (And.intro q17 q47))
 clear hkv1 hkv0 q37 q17 q47 z4
 go_wp2_with fail
 have z5 := y5 _ H7.out.2.1
 refine wp_region_held_drew (S := Below w1.heap.size w1) (by kernel_rfl) H7.out.2.1.drew (fun hS => ?_)
 refine tI 0 rfl hS ?_
 refine tJ 1 rfl hS y2 ?_
 refine tI 2 rfl hS ?_
 refine tI 3 rfl hS ?_
 simp only [putS]
 refine tI 4 rfl hS ?_
 refine tJ 5 rfl hS ya ?_
 refine tI 6 rfl hS ?_
 refine tI 7 rfl hS ?_
 simp only [putS]
 refine tI 8 rfl hS ?_
 refine tJ 9 rfl hS ya ?_
 refine tI 10 rfl hS ?_
 refine tI 11 rfl hS ?_
 simp only [putS]
 refine tI 12 rfl hS ?_
 refine tJ 13 rfl hS ya ?_
 refine tI 14 rfl hS ?_
 simp only [putS]
 obtain ⟨w8, hw8⟩ : ∃ w8, w8 = (w7.alloc (.cells #[.slice none 0 0, .int .u32 0, .int .u32 0, .int .u32 0, .int .i64 0, .int .u32 0, .int .u64 0, .int .u64 0, .int .u64 0] 39)).drew := ⟨_, rfl⟩
 have B8' : Below w7.heap.size w7 w8 := by rw [hw8]; exact (belowA (Below.refl _ w7) _).drew
 have B8 : Below w1.heap.size w1 w8 := H7.out.2.1.trans (B8'.mono H7.out.2.1.size)
 have k8 : w8.heap[w7.heap.size]? = some (.cells #[.slice none 0 0, .int .u32 0, .int .u32 0, .int .u32 0, .int .i64 0, .int .u32 0, .int .u64 0, .int .u64 0, .int .u64 0] 39 (0, 0)) := by rw [hw8]; exact heap_alloc_new w7 _
 have hs8 : w8.heap.size = w7.heap.size + 1 := by rw [hw8]; simp
 have HW8 := Lib.hid hw8
 refine give_in 15 rfl (by kernel_rfl) (by rfl) (.pointer (some ⟨w7.heap.size, 0, none⟩)) w8 (by rw [HW8.out]; go_simp <;> first | rfl | exact ⟨rfl, rfl⟩) B8 ?_
 clear hw8
 simp only [putS]
 have hs17 := H7.out.2.1.size
 obtain ⟨w9, hw9⟩ : ∃ w9, w9 = w8.setCells w7.heap.size 0 [.slice oa on oc, .int .u32 0, .int .u32 0, .int .u32 0, .int .i64 0, .int .u32 0, .int .u64 at_, .int .u64 at_, .int .u64 at_] := ⟨_, rfl⟩
 have K9 : Kept (· = w7.heap.size) w8 w9 := by rw [hw9]; exact Kept.setCells (S := (· = w7.heap.size)) (p := w7.heap.size) rfl _ 0 (Kept.refl _ w8)
 have k9 : w9.heap[w7.heap.size]? = some (.cells #[.slice oa on oc, .int .u32 0, .int .u32 0, .int .u32 0, .int .i64 0, .int .u32 0, .int .u64 at_, .int .u64 at_, .int .u64 at_] 39 (0, 0)) := by rw [hw9]; exact cells_set k8 rfl
 have B9 : Below w1.heap.size w1 w9 := B8.trans (K9.below B8.size (fun k e => by have e : k = w7.heap.size := e; omega))
 have HSZ : Hid ((Tryz.prog.info? 39).map (·.size) = some 9) := Lib.hid (by kernel_rfl)
 have ht8 : w8.there w7.heap.size 0 9 := there_of k8 (by simp)
 have HON9 : Hid ((#[.slice oa on oc, .int .u32 0, .int .u32 0, .int .u32 0, .int .i64 0, .int .u32 0, .int .u64 at_, .int .u64 at_, .int .u64 at_] : Array Value).all (·.oneCell') = true) := Lib.hid (by simp [Value.oneCell'])
 refine sI 16 rfl 39 (.tmp 12) (.tmp 129) w7.heap.size 0 #[.slice oa on oc, .int .u32 0, .int .u32 0, .int .u32 0, .int .i64 0, .int .u32 0, .int .u64 at_, .int .u64 at_, .int .u64 at_] ht8 HSZ.out HON9.out (by rw [← hw9]; exact B9) ?_
 simp only [putS]
 rw [← hw9]
 refine wpAnyH_done (by kernel_rfl) ?_ _
 have kp9 : w9.heap[w3.heap.size]? = some (.cells #[.string (bs (parentL P)), .bool false, .slice ra rn rc, .int .u32 r1, .int .u32 r2, .int .u32 kv, .int .i64 r4, .int .u32 r5, .int .u64 r6, .int .u64 r7, .int .u64 r8] 88 (0, 0)) := (K9.block w3.heap.size (by have := B8'.size; have := lt_of_block k7; omega) (fun e => by have e : w3.heap.size = w7.heap.size := e; have := lt_of_block k7; omega)).trans ((B8'.block w3.heap.size (lt_of_block k7)).trans k7)
 have H9 := Lib.hid (And.intro B9 (And.intro kp9 (And.intro B8' (And.intro hs8 K9))))
 have z5 := y5 _ B9
 clear hw9 K9 ht8 B8 B8' k8 hs8 hS kp9 hs17 k7
 have HB9 := Lib.hid (And.intro B9 k9)
 clear B9 k9
 go_upto_if 131 with fail
 go_cut [] (fun wc => Hid (∃ es en : Int, (oe = true → es = ws ∧ en = wn) ∧ (oe = false → es = 0 ∧ en = 0) ∧ Below w1.heap.size w1 wc ∧ wc.heap[w3.heap.size]? = some (.cells #[.string (bs (parentL P)), .bool false, .slice ra rn rc, .int .u32 r1, .int .u32 r2, .int .u32 kv, .int .i64 r4, .int .u32 r5, .int .u64 r6, .int .u64 r7, .int .u64 r8] 88 (0, 0)) ∧ wc.heap[w7.heap.size]? = some (.cells #[.slice oa on oc, .int .u32 0, .int .u32 0, .int .u32 0, .int .i64 es, .int .u32 en, .int .u64 at_, .int .u64 at_, .int .u64 at_] 39 (0, 0)) ∧ Kept (· = w7.heap.size) w9 wc))
 case first =>
  cases oe
  ·go_wp2_with fail
   go_meet
   case rel => exact Lib.hid ⟨0, 0, fun h => (by cases h), fun _ => ⟨rfl, rfl⟩, HB9.out.1, H9.out.2.1, HB9.out.2, Kept.refl _ _⟩
  ·have B9 := HB9.out.1
   have k9 := HB9.out.2
   have z0 := yw2 _ B9
   have z1 := yw3 _ B9
   have c4 : w9.cell? ⟨w7.heap.size, 4, none⟩ = some (.int .i64 0) := cell_of_row _ _ 4 _ 39 (0, 0) k9
   have c5 : w9.cell? ⟨w7.heap.size, 5, none⟩ = some (.int .u32 0) := cell_of_row _ _ 5 _ 39 (0, 0) k9
   have f4 : w9.frozen? ⟨w7.heap.size, 4, none⟩ = false := by simp [World.frozen?, k9]
   have f5 : w9.frozen? ⟨w7.heap.size, 5, none⟩ = false := by simp [World.frozen?, k9]
   obtain ⟨w10, hw10⟩ : ∃ w10, w10 = (w9.setCell ⟨w7.heap.size, 4, none⟩ (.int .i64 ws)).setCell ⟨w7.heap.size, 5, none⟩ (.int .u32 wn) := ⟨_, rfl⟩
   have k10 : w10.heap[w7.heap.size]? = some (.cells #[.slice oa on oc, .int .u32 0, .int .u32 0, .int .u32 0, .int .i64 ws, .int .u32 wn, .int .u64 at_, .int .u64 at_, .int .u64 at_] 39 (0, 0)) := by rw [hw10]; simp [World.setCell, Array.getElem?_modify, k9]
   have K10 : Kept (· = w7.heap.size) w9 w10 := by rw [hw10]; exact Kept.setCell (S := (· = w7.heap.size)) (p := ⟨w7.heap.size, 5, none⟩) (Kept.setCell (S := (· = w7.heap.size)) (p := ⟨w7.heap.size, 4, none⟩) (Kept.refl _ w9) rfl _) rfl _
   have B10 : Below w1.heap.size w1 w10 := B9.trans (K10.below B9.size (fun k e => by have e : k = w7.heap.size := e; have := H7.out.2.1.size; omega))
   have kp10 : w10.heap[w3.heap.size]? = some (.cells #[.string (bs (parentL P)), .bool false, .slice ra rn rc, .int .u32 r1, .int .u32 r2, .int .u32 kv, .int .i64 r4, .int .u32 r5, .int .u64 r6, .int .u64 r7, .int .u64 r8] 88 (0, 0)) := (K10.block w3.heap.size (lt_of_block H9.out.2.1) (fun e => by have e : w3.heap.size = w7.heap.size := e; have := H7.out.2.2; have := H4.out.2.2.2.1; omega)).trans H9.out.2.1
   have HW10 := Lib.hid hw10
   have H10 := Lib.hid (And.intro B10 (And.intro kp10 (And.intro k10 K10)))
   clear B9 k9 hw10 k10 K10 B10 kp10
   go_wp2_with fail
   rw [← HW10.out]
   go_meet
   case rel => exact Lib.hid ⟨ws, wn, fun _ => ⟨rfl, rfl⟩, fun h => (by cases h), H10.out⟩
 case rest =>
 obtain ⟨es, en, he1, he0, q10⟩ := hcut.out
 obtain ⟨w10, hw10⟩ : ∃ w, w = wc := ⟨_, rfl⟩
 subst hw10
 have HES := Lib.hid (And.intro he1 he0)
 have H10 := Lib.hid q10
 clear he1 he0 q10 z5
 have HRP := Lib.hid (range_blk H10.out.2.1)
 have HRN := Lib.hid (range_blk H10.out.2.2.1)
 have HSE : Hid ((Tryz.prog.info? 88).map (·.size) = some 11) := Lib.hid (by kernel_rfl)
 obtain ⟨w11, hw11⟩ : ∃ w11, w11 = w10.alloc (.cells #[.string (bs (parentL P)), .bool false, .slice ra rn rc, .int .u32 r1, .int .u32 r2, .int .u32 kv, .int .i64 r4, .int .u32 r5, .int .u64 r6, .int .u64 r7, .int .u64 r8, .string (bs P), .bool false, .slice oa on oc, .int .u32 0, .int .u32 0, .int .u32 0, .int .i64 es, .int .u32 en, .int .u64 at_, .int .u64 at_, .int .u64 at_] 88) := ⟨_, rfl⟩
 have HW11 := Lib.hid hw11
 clear hw11
 go_wp2_with (first
  | (refine wpList_load_mid rfl 88 (.tmp 9) rfl w3.heap.size 0 rfl [.string (bs (parentL P)), .bool false, .slice ra rn rc, .int .u32 r1, .int .u32 r2, .int .u32 kv, .int .i64 r4, .int .u32 r5, .int .u64 r6, .int .u64 r7, .int .u64 r8] _ HRP.out Tryz.underlying88 rfl HSE.out ?_)
  | (refine wpList_load_mid rfl 39 (.tmp 12) rfl w7.heap.size 0 rfl [.slice oa on oc, .int .u32 0, .int .u32 0, .int .u32 0, .int .i64 es, .int .u32 en, .int .u64 at_, .int .u64 at_, .int .u64 at_] _ HRN.out Tryz.underlying39 rfl HSZ.out ?_))
 rw [← HW11.out]
 have hb11 : Below w10.heap.size w10 w11 := by rw [HW11.out]; exact belowA (Below.refl _ w10) _
 have B11 : Below w1.heap.size w1 w11 := H10.out.1.trans (hb11.mono H10.out.1.size)
 have hs1 := H1.out.2.1
 have s12 := HT3.out.2.size
 have s34 := H4.out.2.2.2.1
 have s47 := H7.out.2.2
 have s23 := HU.out.2.2.1.size
 have B37 : Below w3.heap.size w3 w7 := H7.out.1
 have hrd7 : Reads w7 (fun k => w2.heap.size ≤ k ∧ k < w3.heap.size) ⟨ra, rn, rc, ⟨r1, r2, r3, r4, r5, r6, r7, r8⟩⟩ (upN u at_) := (HU.out.2.1.monoB (fun k h1 h2 => ⟨h1, h2⟩)).keptS (Kept.ofBelow (S := fun _ => False) (B37.mono (Nat.le_refl _))) (fun _ _ _ h => h)
 have K710 : Kept (fun k => k = w7.heap.size) w8 w10 := H9.out.2.2.2.2.trans H10.out.2.2.2
 have hrd10 : Reads w10 (fun k => w2.heap.size ≤ k ∧ k < w3.heap.size) ⟨ra, rn, rc, ⟨r1, r2, r3, r4, r5, r6, r7, r8⟩⟩ (upN u at_) := (hrd7.below H9.out.2.2.1).keptS K710 (fun k h1 _ e => by have e : k = w7.heap.size := e; omega)
 obtain ⟨ND, hND⟩ : ∃ ND, ND = if os = true then nextN (upN u at_) else upN u at_ := ⟨_, rfl⟩
 have hupd : Reads w11 (fun k => v.ownBlock ≠ some k ∧ ¬ X k) ⟨ra, rn, rc, ⟨r1, r2, kv, r4, r5, r6, r7, r8⟩⟩ ND := by
  have h1 := (hrd10.below hb11).mono (lo' := fun k => v.ownBlock ≠ some k ∧ ¬ X k) (fun k hk => ⟨fun e => by have := (HD.out.1.row.own.lt k e).2; omega, fun e => by have := HD.out.1.old k e; omega⟩)
  rw [hND]
  cases hos : os with
  | true => exact ⟨by rw [if_pos rfl, show (nextN (upN u at_)).num = { (upN u at_).num with next := inc32 (upN u at_).num.next } from rfl, ← h1.num, HKV.out.1 hos]; rfl, h1.len, h1.data, h1.nil⟩
  | false => rw [if_neg (by decide), HKV.out.2 hos]; exact h1
 have hB011 : Below w.heap.size w w11 := H1.out.1.trans (B11.mono H1.out.1.size)
 have hnew : Reads w11 (fun k => v.ownBlock ≠ some k ∧ ¬ X k) ⟨oa, on, oc, ⟨0, 0, 0, es, en, at_, at_, at_⟩⟩ (newN odata at_ ⟨ws, wn⟩ oe) := ⟨by unfold newN; cases hoe : oe with | true => (obtain ⟨h1, h2⟩ := HES.out.1 hoe; rw [h1, h2]; rfl) | false => (obtain ⟨h1, h2⟩ := HES.out.2 hoe; rw [h1, h2]; rfl), HO.out.1, ((HO.out.2.1.mono (HD.out.2.2.2.2.2.2.2.1) (Nat.le_refl _)).below hB011).mono (fun _ h => h) hB011.size, HO.out.2.2⟩
 have hEA : EffsAt w11 w11.heap.size (some ⟨w10.heap.size, 0, none⟩) [⟨parentL P, false, ⟨ra, rn, rc, ⟨r1, r2, kv, r4, r5, r6, r7, r8⟩⟩⟩, ⟨P, false, ⟨oa, on, oc, ⟨0, 0, 0, es, en, at_, at_, at_⟩⟩⟩] := by rw [HW11.out]; exact effs_two w10 ⟨parentL P, false, ⟨ra, rn, rc, ⟨r1, r2, kv, r4, r5, r6, r7, r8⟩⟩⟩ ⟨P, false, ⟨oa, on, oc, ⟨0, 0, 0, es, en, at_, at_, at_⟩⟩⟩
 have hcx : createX M at_ ⟨ws, wn⟩ ⟨ok, op, odata, ov, os, oe⟩ = [⟨parentL P, false, ND⟩, ⟨P, false, newN odata at_ ⟨ws, wn⟩ oe⟩] := by
  unfold createX createU
  rw [HPP.out, HU.out.1, hND]
  rfl
 have hEL : LikeE w11 (fun k => v.ownBlock ≠ some k ∧ ¬ X k) [⟨parentL P, false, ⟨ra, rn, rc, ⟨r1, r2, kv, r4, r5, r6, r7, r8⟩⟩⟩, ⟨P, false, ⟨oa, on, oc, ⟨0, 0, 0, es, en, at_, at_, at_⟩⟩⟩] (createX M at_ ⟨ws, wn⟩ ⟨ok, op, odata, ov, os, oe⟩) := by
  rw [hcx]
  exact like_two ⟨rfl, rfl, hupd⟩ ⟨rfl, rfl, hnew⟩
 have hfx := create_fits (at_ := at_) HD.out.1.inv HD.out.2.2.2.2.2.2.2.2.2 hx0.out.2
 have D11 := HD.out.2.1.below B11
 obtain ⟨LP, hLP⟩ := Option.isSome_iff_exists.1 HOK.out
 have h64 := parts_len64 hLP
 have hef := D11.effects HD.out.2.2.1 HD.out.2.2.2.1 (gb := w10.heap.size) (go_ := 0) (n := 2) (c := 2) (Lx := [⟨parentL P, false, ⟨ra, rn, rc, ⟨r1, r2, kv, r4, r5, r6, r7, r8⟩⟩⟩, ⟨P, false, ⟨oa, on, oc, ⟨0, 0, 0, es, en, at_, at_, at_⟩⟩⟩]) (Ex := createX M at_ ⟨ws, wn⟩ ⟨ok, op, odata, ov, os, oe⟩) rfl hEA (by have h2 := HD.out.1.tree.lt; have h3 := H10.out.1.size; omega) hEL (fun k h => h)
  (by
   intro y hy
   rw [hcx] at hy
   simp at hy
   rcases hy with rfl | rfl
   ·exact ⟨HD.out.1.tree.fit.key HU.out.1, by show ND.data.length ≤ 1000000; rw [show ND.data = u.data by rw [hND]; split <;> rfl]; exact HD.out.1.tree.fit.node HU.out.1⟩
   ·exact ⟨by show P.length ≤ 1000; omega, HD.out.2.2.2.2.2.2.2.2.1⟩) hfx (by have := HD.out.1.len; have := HD.out.2.2.2.2.1; omega)
 have HEF := Lib.hid hef
 have H11 := Lib.hid (And.intro B11 hB011)
 clear hb11 B37 hrd7 K710 hrd10 hupd hB011 hnew hEA hcx hEL hfx D11 hef B11 hLP h64 s12 s34 s47 s23 hs1
 refine HEF.out.mono ?_
 rintro e w12 ⟨rfl, ⟨v12, D12, G12⟩, K12⟩
 have hbb : b < w.heap.size := HD.out.1.tree.lt
 have hvl : ∀ k, v.ownBlock = some k → k < w.heap.size := fun k h => (HD.out.1.row.own.lt k h).2
 have hnk : ∀ k, w.heap.size ≤ k → ¬ (k = b ∨ k = d ∨ v.ownBlock = some k) := fun k hk h => by
  rcases h with h | h | h
  ·omega
  ·have := HDL.out; omega
  ·have := hvl k h; omega
 have hs1 := H1.out.2.1
 have hs111 := H11.out.1.size
 have k12 := (K12.block (w.heap.size + 1) (by omega) (hnk _ (Nat.le_succ _))).trans ((H11.out.1.block (w.heap.size + 1) (by omega)).trans H1.out.2.2.2.1)
 have hPl2 : P.length ≤ 1000 := hPl
 have htl := D12.told_some P hPl2 (nd := newN odata at_ ⟨ws, wn⟩ oe) (by unfold createM; rw [HPP.out]; exact getA_putA_same _ _ _)
 have HTL := Lib.hid htl
 have hs1112 := K12.size
 have H12 := Lib.hid (And.intro D12 (And.intro K12 (And.intro k12 (And.intro hnk G12))))
 clear htl D12 K12 k12 hnk G12 hbb hvl
 go_wp2_with fail
 refine HTL.out.mono ?_
 rintro e w13 ⟨⟨sa, sn, sc, ⟨s1, s2, s3, s4, s5, s6, s7, s8⟩⟩, rfl, hrd9, B13, hfree9⟩
 unfold repCells Raw.cells Nums.cells
 dsimp only [List.cons_append, List.nil_append]
 have ht13 : w13.there (w.heap.size + 1) 0 13 := there_of ((B13.block _ (by omega)).trans H12.out.2.2.1) (by simp)
 have H13 := Lib.hid (And.intro ht13 (And.intro hrd9 B13))
 clear ht13 hrd9 B13 hfree9
 have HON : Hid ((#[.int .i64 0, .string (bs P), .slice sa sn sc, .int .u32 s1, .int .u32 s2, .int .u32 s3, .int .i64 s4, .int .u32 s5, .int .u64 s6, .int .u64 s7, .int .u64 s8, .slice none 0 0, .slice none 0 0] : Array Value).all (·.oneCell') = true) := Lib.hid (by simp [Value.oneCell'])
 go_wp2_with (refine wpList_store_mid rfl 43 (.tmp 4) (.tmp 146) rfl (w.heap.size + 1) 0 #[.int .i64 0, .string (bs P), .slice sa sn sc, .int .u32 s1, .int .u32 s2, .int .u32 s3, .int .i64 s4, .int .u32 s5, .int .u64 s6, .int .u64 s7, .int .u64 s8, .slice none 0 0, .slice none 0 0] rfl rfl H13.out.1 HSR.out HON.out ?_)
 refine bodyPost_ret (results_cell_mid rfl _ _ (w.heap.size + 1) 0 [.int .i64 0, .string (bs P), .slice sa sn sc, .int .u32 s1, .int .u32 s2, .int .u32 s3, .int .i64 s4, .int .u32 s5, .int .u64 s6, .int .u64 s7, .int .u64 s8, .slice none 0 0, .slice none 0 0] _ rfl (World.rangeAt_setCells_same _ _ _ _ H13.out.1) Tryz.underlying43 rfl HSR.out) rfl ?_
 obtain ⟨_, g2, g3⟩ := H13.out
 have K9 : Kept (· = w.heap.size + 1) w13 (w13.setCells (w.heap.size + 1) 0 [.int .i64 0, .string (bs P), .slice sa sn sc, .int .u32 s1, .int .u32 s2, .int .u32 s3, .int .i64 s4, .int .u32 s5, .int .u64 s6, .int .u64 s7, .int .u64 s8, .slice none 0 0, .slice none 0 0]) := Kept.setCells (S := (· = w.heap.size + 1)) (p := w.heap.size + 1) rfl _ 0 (Kept.refl _ w13)
 have hk9 := (g3.block (w.heap.size + 1) (by omega)).trans H12.out.2.2.1
 have D9 := (H12.out.1.below g3).turn hk9 zr_free (by decide) (by decide) (by decide) (by have := HD.out.1.tree.bl.size; omega) K9
 have q8 : Kept (fun k => k = b ∨ k = d ∨ v.ownBlock = some k) w w12 := (Kept.ofBelow H11.out.2).trans H12.out.2.1
 have hsw11 := H11.out.2.size
 rw [HPP.out]
 refine .inl ⟨hx0.out.1, ⟨v12, _, ⟨sa, sn, sc, ⟨s1, s2, s3, s4, s5, s6, s7, s8⟩⟩, none, 0, rfl, D9, ?_, ?_, StrLo.nil _ _ _⟩, ?_⟩
 ·intro k hk
  rcases H12.out.2.2.2.2 k hk with h | h
  ·exact .inl h
  ·exact .inr (by omega)
 ·refine (g2.cells (fun k hk e => by have hk : w12.heap.size ≤ k := hk; omega) _).mono (fun k hk => ?_)
  have hk : w12.heap.size ≤ k := hk
  refine ⟨by omega, fun e => ?_⟩
  have := (H12.out.1.row.own.lt k e).2
  omega
 ·exact (q8.trans (Kept.ofBelow g3)).newK K9 (by omega)
end
end Go.Proofs.YtnclkfhdpkkakaaGreatDoor
namespace Go.Proofs.YtnclkfhdpkkakaaGreatDoor
set_option linter.unusedVariables false
set_option linter.unusedSimpArgs false
open Go Go.RowKit Go.Shelf Go.MapKept Go.ChangeMaps Go.Maps Go.Sort
section
variable {X : Nat → Prop} {w0 w : World} {d b : Nat} {root : Bytes} {at_ cnt : Int} {M : List (Bytes × Nd)} {who : Sess} {v : Value} {L : List RawE} {E : List Eff}
theorem DoerAt.meth_create (D : DoerAt X w0 w d b root at_ cnt M who v L E) (h0 : 0 ≤ cnt) (h1 : cnt ≤ 100000) (hsz : E.length ≤ 900) (NX : Nice M) (PT : PowTab w) (r : RawO) (o : Opl) {lo : Nat → Prop} (hr : LeafO w lo r o) (hlo : ∀ k, lo k → v.ownBlock ≠ some k ∧ ¬ X k) (hp : o.path.length ≤ 900) (hdl : o.data.length ≤ 1000000) (hu : underB o.path root = true) (hk : o.kind = 1) :
  Calls Tryz.prog 85 #[.pointer (some ⟨d, 0, none⟩), r.val] w (MethEnd X w0 w d b root at_ cnt M who v E o) := by
 have hE := opE_is (M := M) (who := who) hu
 rw [if_pos hk] at hE
 have main : ∀ e w', ((createE root M who o = 0 ∧ OpDone X w0 w d b root at_ (cnt + 1) M (createM M at_ who o) who v (E ++ createX M at_ who o) ⟨newPath M o, newN o.data at_ who o.eph, []⟩ e w') ∨ (createE root M who o ≠ 0 ∧ OpFail w (createE root M who o) e w')) → MethEnd X w0 w d b root at_ cnt M who v E o e w' := by
  intro e w' h
  rcases h with ⟨hx, h⟩ | ⟨hx, h⟩
  ·have h0' : opE root M who o = 0 := by rw [hE, hx]
   have e1 : opM root M at_ who o = createM M at_ who o := by
    unfold opM
    rw [if_neg (by simpa using h0'), if_pos hk]
   have e2 : opXs root M at_ who o = createX M at_ who o := by
    unfold opXs opX
    rw [if_neg (by simpa using h0'), if_pos hk]
   have e3 : opA root M at_ who o = ⟨newPath M o, newN o.data at_ who o.eph, []⟩ := by
    unfold opA
    rw [if_pos hk]
   refine .inl ⟨h0', cnt + 1, by omega, by omega, ?_⟩
   rw [e1, e2, e3]
   exact h
  ·exact meth_err hE hx h
 exact (D.create_any h0 h1 hsz NX PT r o hr hlo hp hdl hu rfl).mono main
set_option maxRecDepth 100000 in
theorem call6 {f : Nat} (h : f ∈ [85, 86, 87, 88, 89, 90]) : ∀ args w, (callFunc f args).run Tryz.prog w = .ok (.enter f args) w := by
 simp at h
 rcases h with rfl | rfl | rfl | rfl | rfl | rfl <;> (intro args w; simp [go_sem])
theorem DoerAt.one_leaf (D : DoerAt X w0 w d b root at_ cnt M who v L E) (h0 : 0 ≤ cnt) (h1 : cnt ≤ 100000) (hsz : E.length ≤ 900) (NX : Nice M) (PT : PowTab w) (r : RawO) (o : Opl) {lo : Nat → Prop} (hr : LeafO w lo r o) (hlo : ∀ k, lo k → v.ownBlock ≠ some k ∧ ¬ X k) (hl : Leafy o) :
  Calls Tryz.prog 35 #[.pointer (some ⟨d, 0, none⟩), r.val] w (OneEnd X w0 w d b root at_ cnt M who v E o) := by
 obtain ⟨k1, k6, hp, hdl⟩ := hl
 have hrk := hr.kind
 have hcases : o.kind = 1 ∨ o.kind = 2 ∨ o.kind = 3 ∨ o.kind = 4 ∨ o.kind = 5 ∨ o.kind = 6 := by omega
 rcases hcases with hk | hk | hk | hk | hk | hk
 ·exact D.one_any r o hr (by omega) 85 (by rw [hrk, hk]; decide) (by omega) (call6 (by simp)) (fun hu w' hb => (D.below hb).meth_create h0 h1 hsz NX (tab_below PT hb) r o (hr.below hb) hlo hp hdl hu hk)
 ·exact D.one_any r o hr (by omega) 86 (by rw [hrk, hk]; decide) (by omega) (call6 (by simp)) (fun hu w' hb => (D.below hb).meth_remove h0 h1 hsz r o (hr.below hb) (by omega) hu hk)
 ·exact D.one_any r o hr (by omega) 87 (by rw [hrk, hk]; decide) (by omega) (call6 (by simp)) (fun hu w' hb => (D.below hb).meth_set h0 h1 hsz r o (hr.below hb) hlo (by omega) hdl hu hk)
 ·exact D.one_any r o hr (by omega) 88 (by rw [hrk, hk]; decide) (by omega) (call6 (by simp)) (fun hu w' hb => (D.below hb).meth_check r o (hr.below hb) (by omega) hu hk)
 ·exact D.one_any r o hr (by omega) 89 (by rw [hrk, hk]; decide) (by omega) (call6 (by simp)) (fun hu w' hb => (D.below hb).meth_get r o (hr.below hb) (by omega) hu hk)
 ·exact D.one_any r o hr (by omega) 90 (by rw [hrk, hk]; decide) (by omega) (call6 (by simp)) (fun hu w' hb => (D.below hb).meth_kids r o (hr.below hb) (by omega) hu hk)
end
end Go.Proofs.YtnclkfhdpkkakaaGreatDoor
