/-
  WatchPlays, walked.
-/
import Derived.Test.YtfbimhbdifmeoaaDoorWtI
import Derived.Deep.RegionHeld3
namespace Go.Proofs.YtfbimhbdifmeoaaDoor
set_option linter.unusedVariables false
set_option linter.unusedSimpArgs false
open Go Go.RowKit Go.Shelf

theorem neqSess (s n s' n' : Int) (w : World) : (_root_.Go.binOp BinOp.neq 32 (.agg #[.int .i64 s, .int .u32 n]) (.agg #[.int .i64 s', .int .u32 n']) : Sem Value).run Tryd.prog w = Result.ok (Value.bool (!(decide (s = s' ∧ n = n')))) w := by
  rw [run_neq_struct, run_equalIn_agg _ _ _ _ _ (by kernel_rfl) (by kernel_rfl), fields32]
  have e3 := fun w : World => run_equalIn_int (P := Tryd.prog) w 9998 3 .i64 .i64 s s' Tryd.underlying3
  have e4 := fun w : World => run_equalIn_int (P := Tryd.prog) w 9998 30 .u32 .u32 n n' Tryd.underlying30
  simp [Op.eqFields, Sem.run_bind, part, e3, e4]
  by_cases h1 : s = s' <;> by_cases h2 : n = n' <;> simp [h1, h2]
def LawEnd (w : World) (e : Ending) (w' : World) : Prop := e = .returned (.bool true) ∧ Below w.heap.size w w'
theorem lawGreat (f : Nat) (w : World) : True := trivial

set_option maxRecDepth 100000 in
set_option maxHeartbeats 2000000 in
theorem plays_great (ao : Option Addr) (c : Nat) (A : List ActD) (w : World) (hbig : A.length ≤ maxLen) (hA : ActsAt w w.heap.size ao A) (hg : greatB A = true) :
    Calls Tryd.prog 3 #[.slice ao A.length c] w (LawEnd w) := by
  have hc := great_any ao c A w hbig hA
  rw [hg] at hc
  clear hg hA hbig
  generalize A.length = N at *
  go_enter Tryd.func3, Tryd.ntmps3
  go_wp2_with fail
  refine hc.mono ?_
  rintro e w1 ⟨rfl, rfl⟩
  go_wp2
  go_ret
  exact ⟨rfl, Below.refl _ _⟩

set_option maxRecDepth 100000 in
set_option maxHeartbeats 8000000 in
theorem plays_small (ao : Option Addr) (c : Nat) (A : List ActD) (w : World) (hm : MaxInt w) (hbig : A.length ≤ maxLen) (hA : ActsAt w w.heap.size ao A) (hg : greatB A = false) :
    Calls Tryd.prog 3 #[.slice ao A.length c] w (LawEnd w) := by
  have hc := great_any ao c A w hbig hA
  rw [hg] at hc
  obtain ⟨h60, hsm⟩ := greatB_no hg
  have HC := Lib.hid hc
  have HM := Lib.hid hm
  have HA := Lib.hid hA
  have HSM := Lib.hid hsm
  obtain ⟨N, hN⟩ : ∃ N, N = A.length := ⟨_, rfl⟩
  have HN := Lib.hid hN
  rw [← hN] at h60 HC ⊢
  clear hg hA hbig hc hm hsm hN
  go_enter Tryd.func3, Tryd.ntmps3
  go_wp2_with fail
  refine HC.out.mono ?_
  rintro e w0 ⟨rfl, rfl⟩
  go_wp2_with fail
  refine (new_any w).mono ?_
  rintro e w1 ⟨rfl, hw1⟩
  have hT1 : TabAt 58 44 w.heap.size w1 w.heap.size none [] := ⟨Nat.le_refl _, .slice none 0 0, by rw [hw1]; exact heap_alloc_new w _, World.ownsRow_nil _ _ _ _, rfl⟩
  have hs1 : w1.heap.size = w.heap.size + 1 := by rw [hw1]; simp
  have hb1 : Below w.heap.size w w1 := by rw [hw1]; exact belowA (Below.refl _ w) _
  obtain ⟨w2, hw2⟩ : ∃ w2, w2 = w1.alloc (.cells #[.slice none 0 0] 29) := ⟨_, rfl⟩
  have S0 : Two ZNo 58 44 29 34 w w2 w2 w.heap.size w1.heap.size [] [] := by
    have hb2 : Below w1.heap.size w1 w2 := by rw [hw2]; exact belowA (Below.refl _ w1) _
    have hT2 : TabAt 29 34 w.heap.size w2 w1.heap.size none [] := ⟨by omega, .slice none 0 0, by rw [hw2]; exact heap_alloc_new w1 _, World.ownsRow_nil _ _ _ _, rfl⟩
    refine ⟨⟨none, none, hT1.below hb2, hT2, fun g hg => (by cases hg), fun g hg => (by cases hg), fun g hg => (by cases hg)⟩, by omega, fun e => e, fun e => e, fun _ e => e.elim, by rw [hw2]; simp; omega, by rw [hw2]; simp, Nat.le_refl _, by omega, Kept.refl _ _, hb1.trans (hb2.mono (by omega))⟩
  have HS0 := Lib.hid S0
  have HS1 := Lib.hid hs1
  clear hT1 hb1 hw1 hs1 S0
  go_wp2_with fail
  rw [← hw2]
  clear hw2
  obtain ⟨rb, hrb⟩ : ∃ rb, rb = w1.heap.size := ⟨_, rfl⟩
  rw [← hrb] at HS0 ⊢
  clear hrb HS1
  go_loopw [5] (fun i wr => ∃ k : Nat, k ≤ N ∧ i = .int .i64 k ∧ ∃ L, Hid (Two ZNo 58 44 29 34 w w2 wr w.heap.size rb L L ∧ Fine L)) (fun i _ => N - (intOf i).toNat)
  case atStart => exact ⟨0, by omega, rfl, [], Lib.hid ⟨HS0.out, Fine.nil⟩⟩
  case round =>
    obtain ⟨k, hk, rfl, L, HS⟩ := hrel
    by_cases hlt : k < N
    · obtain ⟨a, ha⟩ : ∃ a, A[k]? = some a := ⟨_, List.getElem?_eq_getElem (by rw [← HN.out]; exact hlt)⟩
      obtain ⟨hok, b, off, rfl, hb, hrg0⟩ := HA.out k a ha
      have hsm := HSM.out a (List.mem_of_getElem? ha)
      obtain ⟨d, x, pa, P, pc⟩ := a
      have hrg := range_kept hrg0 HS.out.1.below hb
      have c0 : wr.cell? ⟨b, off + k * 6, none⟩ = some (.int .u8 d) := hrg 0 _ rfl
      have c1 : wr.cell? ⟨b, off + k * 6 + 1, none⟩ = some (.int .i64 x.site) := hrg 1 _ rfl
      have c2 : wr.cell? ⟨b, off + k * 6 + 1 + 1, none⟩ = some (.int .u32 x.num) := hrg 2 _ rfl
      have c3 : wr.cell? ⟨b, off + k * 6 + 1 + 2, none⟩ = some (.string (bs x.path)) := hrg 3 _ rfl
      have c4 : wr.cell? ⟨b, off + k * 6 + 1 + 3, none⟩ = some (.bool x.kids) := hrg 4 _ rfl
      have c5 : wr.cell? ⟨b, off + k * 6 + 5, none⟩ = some (.slice pa P.length pc) := hrg 5 _ rfl
      have hbw : b < wr.heap.size := Nat.lt_of_lt_of_le hb HS.out.1.below.size
      have HRG := Lib.hid hrg0
      have HEF := Lib.hid (hok.effs.kept HS.out.1.below)
      have HEW := Lib.hid hok.effs
      have hd0 : 0 ≤ d := hok.d.1
      have hxp : x.path.length ≤ 1000 := by have := hsm.path; dsimp only at this; omega
      have HPL := Lib.hid hsm.len
      have HPS := Lib.hid hsm.paths
      dsimp only at HPL HPS HEF HEW
      clear hrg hrg0 ha hok hsm
      by_cases hd : d % 3 < 2
      · have hd' : decide (d % 3 < 2) = true := by simpa using hd
        clear hd
        have hbox : ∀ (W W' : World), (W.cell? ⟨wr.heap.size, 0, none⟩ = some (.int .i64 x.site) ∧ W.cell? ⟨wr.heap.size, 1, none⟩ = some (.int .u32 x.num) ∧ W.cell? ⟨wr.heap.size, 2, none⟩ = some (.string (bs x.path)) ∧ W.cell? ⟨wr.heap.size, 3, none⟩ = some (.bool x.kids)) → Kept (fun k => ¬ k = wr.heap.size) W W' →
            (W'.cell? ⟨wr.heap.size, 0, none⟩ = some (.int .i64 x.site) ∧ W'.cell? ⟨wr.heap.size, 1, none⟩ = some (.int .u32 x.num) ∧ W'.cell? ⟨wr.heap.size, 2, none⟩ = some (.string (bs x.path)) ∧ W'.cell? ⟨wr.heap.size, 3, none⟩ = some (.bool x.kids)) := fun W W' ⟨h0, h1, h2, h3⟩ hk => by
          have hlt := World.block_lt_of_cell? _ _ h0
          exact ⟨(hk.cell (p := ⟨wr.heap.size, 0, none⟩) hlt (fun e => e rfl)).trans h0, (hk.cell (p := ⟨wr.heap.size, 1, none⟩) hlt (fun e => e rfl)).trans h1, (hk.cell (p := ⟨wr.heap.size, 2, none⟩) hlt (fun e => e rfl)).trans h2, (hk.cell (p := ⟨wr.heap.size, 3, none⟩) hlt (fun e => e rfl)).trans h3⟩
        have HB := Lib.hid hbox
        have b0 : (wr.alloc (.cells #[.int .i64 x.site, .int .u32 x.num, .string (bs x.path), .bool x.kids] 34)).drew.cell? ⟨wr.heap.size, 0, none⟩ = some (.int .i64 x.site) ∧ (wr.alloc (.cells #[.int .i64 x.site, .int .u32 x.num, .string (bs x.path), .bool x.kids] 34)).drew.cell? ⟨wr.heap.size, 1, none⟩ = some (.int .u32 x.num) ∧
            (wr.alloc (.cells #[.int .i64 x.site, .int .u32 x.num, .string (bs x.path), .bool x.kids] 34)).drew.cell? ⟨wr.heap.size, 2, none⟩ = some (.string (bs x.path)) ∧ (wr.alloc (.cells #[.int .i64 x.site, .int .u32 x.num, .string (bs x.path), .bool x.kids] 34)).drew.cell? ⟨wr.heap.size, 3, none⟩ = some (.bool x.kids) :=
          ⟨(new_cell (Below.refl _ (wr.alloc (.cells #[.int .i64 x.site, .int .u32 x.num, .string (bs x.path), .bool x.kids] 34))) 0 _ rfl).1, (new_cell (Below.refl _ (wr.alloc (.cells #[.int .i64 x.site, .int .u32 x.num, .string (bs x.path), .bool x.kids] 34))) 1 _ rfl).1, (new_cell (Below.refl _ (wr.alloc (.cells #[.int .i64 x.site, .int .u32 x.num, .string (bs x.path), .bool x.kids] 34))) 2 _ rfl).1, (new_cell (Below.refl _ (wr.alloc (.cells #[.int .i64 x.site, .int .u32 x.num, .string (bs x.path), .bool x.kids] 34))) 3 _ rfl).1⟩
        have Hb := Lib.hid b0
        have RR := Lib.hid (HS.out.1.protect (belowA (Below.refl _ wr) (.cells #[.int .i64 x.site, .int .u32 x.num, .string (bs x.path), .bool x.kids] 34)) (· = wr.heap.size) (fun k hk => by subst hk; simp)).drew
        obtain ⟨ce, hce⟩ : ∃ ce, addE L x = ce := ⟨_, rfl⟩
        have HCE := Lib.hid hce
        have HL := Lib.hid HS.out.2.len
        have HF3 := Lib.hid (HS.out.2.add x)
        have e1 : (ce != ce) = false := by simp
        clear hbox b0 hce
        go_wp2
        go_region_held3 (fun w' => w'.cell? ⟨wr.heap.size, 0, none⟩ = some (.int .i64 x.site) ∧ w'.cell? ⟨wr.heap.size, 1, none⟩ = some (.int .u32 x.num) ∧ w'.cell? ⟨wr.heap.size, 2, none⟩ = some (.string (bs x.path)) ∧ w'.cell? ⟨wr.heap.size, 3, none⟩ = some (.bool x.kids)) (first | assumption | go_keep) (first | (go_at_call 10; refine (RR.out.add HM.out HL.out hxp HCE.out).mono ?_; rintro e w5 ⟨rfl, RT, KT⟩; have ct := HB.out _ _ Hb.out KT) | (go_at_call 11; refine (RT.radd HL.out hxp HCE.out).mono ?_; rintro e w6 ⟨rfl, R2, KS⟩; have cs := HB.out _ _ ct KS))
        have R3 : Two ZNo 58 44 29 34 w w2 w6 w.heap.size rb (addL L x) (addL L x) := R2.unprotect
        clear RT ct KT R2 KS cs RR Hb HB c0 c1 c2 c3 c4 c5
        generalize addL L x = L3 at *
        obtain ⟨ra, rc, hrc⟩ := R3.cell2
        have hrb : rb < w6.heap.size := World.block_lt_of_cell? _ _ hrc
        have f0 : ∀ o, (Wext w6 o).cell? ⟨rb, 0, none⟩ = some (.slice ra L3.length rc) := fun o => ((Wext.below w6 o).cell (p := ⟨rb, 0, none⟩) hrb).trans hrc
        have KL : Hid (∀ o, Calls Tryd.prog 14 #[.pointer (some ⟨w.heap.size, 0, none⟩)] (Wext w6 o) fun e w' => e = .returned (.int .i64 L3.length) ∧ ∃ o', w' = Wext w6 o') := Lib.hid (fun o => ((R3.other (Wext.below w6 o)).len).mono fun e w' ⟨he, hw⟩ => ⟨he, o, hw⟩)
        have HR3 := Lib.hid R3
        clear hrc R3
        go_wp2_with fail
        refine wp_region_ext (by kernel_rfl) (by kernel_rfl) ?_
        repeat (go_big_quiet_step (first | (go_at_call 14; exact KL.out _)))
        refine wpQuiet_nil ?_
        intro w' hw'
        obtain ⟨oq, hw''⟩ := hw'
        subst hw''
        go_wp2
        go_roundw
        case rel => exact ⟨k + 1, by omega, by go_num, L3, Lib.hid ⟨HR3.out.other (Wext.below w6 oq), HF3.out⟩⟩
        case measure => simp [intOf]; omega
      · have hd' : decide (d % 3 < 2) = false := by simpa using hd
        clear hd
        have HF3 := Lib.hid (HS.out.2.left P)
        have HFL := Lib.hid HS.out.2
        obtain ⟨M, hM⟩ : ∃ M, M = P.length := ⟨_, rfl⟩
        have HM2 := Lib.hid hM
        have hbx := Lib.hid (belowA (Below.refl _ wr) (.cells #[.int .i64 x.site, .int .u32 x.num, .string (bs x.path), .bool x.kids] 34))
        have T1 := Lib.hid (HS.out.1.other hbx.out)
        have hT1 := T1.out.touch HM.out HFL.out.len (P := P) (ao := pa) (c := pc) (by have := HPL.out; omega) (fun p hp => Nat.le_trans (HPS.out p hp) (by omega)) ((HEF.out.kept (hbx.out.mono HS.out.1.below.size)).mono (Nat.le_trans HS.out.1.below.size hbx.out.size))
        rw [← hM] at c5 hT1
        have HT1 := Lib.hid hT1
        clear hT1 hM
        go_wp2_with fail
        refine HT1.out.mono ?_
        rintro e w5 ⟨a1, k1, rfl, O1, S1, K1⟩
        have hT2 := S1.rtouch HFL.out (P := P) (ao := pa) (c := pc) (by have := HPL.out; omega) (fun p hp => Nat.le_trans (HPS.out p hp) (by omega)) ((HEW.out.kept S1.below).mono S1.below.size)
        have c5' : w5.cell? ⟨b, off + k * 6 + 5, none⟩ = some (.slice pa M pc) := by rw [HM2.out]; exact range_kept HRG.out S1.below hb 5 _ rfl
        rw [← HM2.out] at hT2
        have HT2 := Lib.hid hT2
        have HO1 := Lib.hid O1
        have HS1 := Lib.hid S1
        clear hT2 O1 S1 K1 c0 c1 c2 c3 c4 c5
        go_wp2_with fail
        refine HT2.out.mono ?_
        rintro e w6 ⟨a2, k2, rfl, O2, R3, K2⟩
        have HO2 := Lib.hid O2
        have hbrb : rb < wr.heap.size := by have := HS.out.1.lt2; have := HS.out.1.kept.size; omega
        have HO1' := Lib.hid (HO1.out.kept K2 (by have := hbx.out.size; simp; omega))
        have HR3 := Lib.hid R3
        clear O2 K2 R3 HT2 HT1 c5'
        have hol : (outL P L).length ≤ 16 := Nat.le_trans (List.length_filter_le _ _) HFL.out.len
        obtain ⟨NO, hNO⟩ : ∃ NO, NO = (outL P L).length := ⟨_, rfl⟩
        have HNO := Lib.hid hNO
        rw [← hNO] at hol ⊢
        have e2 : ((NO : Int) != (NO : Int)) = false := by simp
        clear hNO
        go_wp2
        clear e2
        obtain ⟨w7, rfl⟩ : ∃ w7, w7 = w6 := ⟨_, rfl⟩
        go_loopw [9] (fun i wq => ∃ j : Nat, j ≤ NO ∧ i = .int .i64 j ∧ Hid (Below w7.heap.size w7 wq)) (fun i _ => NO - (intOf i).toNat)
        case atStart => exact ⟨0, by omega, rfl, Lib.hid (Below.refl _ _)⟩
        case round =>
          obtain ⟨j, hj, rfl, HQ⟩ := hrel
          by_cases hlt3 : j < NO
          · obtain ⟨z, hz⟩ : ∃ z, (outL P L)[j]? = some z := ⟨_, List.getElem?_eq_getElem (by rw [← HNO.out]; exact hlt3)⟩
            obtain ⟨ga, rfl, _, hga, hra⟩ := HO1'.out j z hz
            obtain ⟨gb, rfl, _, hgb, hrb⟩ := HO2.out j z hz
            have hra := range_kept (by rw [Nat.zero_add]; exact hra : w7.rangeAt ga (0 + j * 4) z.cells) HQ.out hga
            have hrb := range_kept (by rw [Nat.zero_add]; exact hrb : w7.rangeAt gb (0 + j * 4) z.cells) HQ.out hgb
            rw [Nat.zero_add] at hra hrb
            have x0 : wr.cell? ⟨ga, j * 4, none⟩ = some (.int .i64 z.site) := hra 0 _ rfl
            have x1 : wr.cell? ⟨ga, j * 4 + 1, none⟩ = some (.int .u32 z.num) := hra 1 _ rfl
            have x2 : wr.cell? ⟨ga, j * 4 + 2, none⟩ = some (.string (bs z.path)) := hra 2 _ rfl
            have x3 : wr.cell? ⟨ga, j * 4 + 3, none⟩ = some (.bool z.kids) := hra 3 _ rfl
            have y0 : wr.cell? ⟨gb, j * 4, none⟩ = some (.int .i64 z.site) := hrb 0 _ rfl
            have y1 : wr.cell? ⟨gb, j * 4 + 1, none⟩ = some (.int .u32 z.num) := hrb 1 _ rfl
            have y2 : wr.cell? ⟨gb, j * 4 + 2, none⟩ = some (.string (bs z.path)) := hrb 2 _ rfl
            have y3 : wr.cell? ⟨gb, j * 4 + 3, none⟩ = some (.bool z.kids) := hrb 3 _ rfl
            have hn := fun (W : World) => neqSess z.site z.num z.site z.num W
            rw [show (!(decide (z.site = z.site ∧ z.num = z.num))) = false from by simp] at hn
            have hpz : (!((bs z.path).toList == (bs z.path).toList)) = false := by simp
            have hkz : (z.kids != z.kids) = false := by simp
            clear hra hrb hz
            go_wp2_with fail
            go_quiet (fail)
            go_wp2
            go_roundw
            case rel => exact ⟨j + 1, by omega, by go_num, Lib.hid (below_drewN HQ.out _)⟩
            case measure => simp [intOf]; omega
          · obtain rfl : j = NO := by omega
            have R3 := HR3.out.other HQ.out
            obtain ⟨ra, rc, hrc⟩ := R3.cell2
            have hrb : rb < wr.heap.size := World.block_lt_of_cell? _ _ hrc
            have f0 : ∀ o, (Wext wr o).cell? ⟨rb, 0, none⟩ = some (.slice ra (leftL P L).length rc) := fun o => ((Wext.below wr o).cell (p := ⟨rb, 0, none⟩) hrb).trans hrc
            have KL : Hid (∀ o, Calls Tryd.prog 14 #[.pointer (some ⟨w.heap.size, 0, none⟩)] (Wext wr o) fun e w' => e = .returned (.int .i64 (leftL P L).length) ∧ ∃ o', w' = Wext wr o') := Lib.hid (fun o => ((R3.other (Wext.below wr o)).len).mono fun e w' ⟨he, hw⟩ => ⟨he, o, hw⟩)
            have HR3 := Lib.hid R3
            clear hrc R3
            go_wp2_with fail
            refine wp_region_ext (by kernel_rfl) (by kernel_rfl) ?_
            repeat (go_big_quiet_step (first | (go_at_call 14; exact KL.out _)))
            refine wpQuiet_nil ?_
            intro w' hw'
            obtain ⟨oq, hw''⟩ := hw'
            subst hw''
            go_wp2
            go_roundw
            case rel => exact ⟨k + 1, by omega, by go_num, _, Lib.hid ⟨HR3.out.other (Wext.below wr oq), HF3.out⟩⟩
            case measure => simp [intOf]; omega
    · obtain rfl : k = N := by omega
      go_wp2_with fail
      refine (goes_true wr (HM.out.kept HS.out.1.below)).mono ?_
      rintro e wz ⟨rfl, Bz⟩
      go_wp2
      go_ret
      exact ⟨rfl, HS.out.1.below.trans (Bz.mono HS.out.1.below.size)⟩
end Go.Proofs.YtfbimhbdifmeoaaDoor
