/-
  What a number's kind says of it.
  OpNested, walked.
  OpNested: over whatever arguments can be read.
-/
import Derived.Test.YtnclkfhdpkkakaaGreatDoorChecked
import Derived.ProofKit
import Derived.Test.YtnclkfhdpkkakaaGreatDoorJOpSl
import Derived.Test.YtnclkfhdpkkakaaGreatDoorShaped
namespace Go.Proofs.YtnclkfhdpkkakaaGreatDoor
set_option linter.unusedVariables false
set_option linter.unusedSimpArgs false
open Go.RowKit Go.ChangeShapes Go.WideShapes
theorem bd_i64 {n : Int} (h : (Lit.int .i64 n).wf = true) : -9223372036854775808 ≤ n ∧ n ≤ 9223372036854775807 := by
  simp [Lit.wf, IntKind.min, IntKind.max, IntKind.signed, IntKind.bits] at h
  exact ⟨by omega, by omega⟩
theorem bd_u8 {n : Int} (h : (Lit.int .u8 n).wf = true) : 0 ≤ n ∧ n ≤ 255 := by
  simp [Lit.wf, IntKind.min, IntKind.max, IntKind.signed, IntKind.bits] at h
  exact ⟨by omega, by omega⟩
end Go.Proofs.YtnclkfhdpkkakaaGreatDoor

namespace Go.Proofs.YtnclkfhdpkkakaaGreatDoor
set_option linter.unusedVariables false
set_option linter.unusedSimpArgs false
open Go Go.RowKit Go.Shelf Go.MapKept Go.ChangeMaps Go.Maps Go.Sort
theorem infoOp : (Tryz.prog.info? 26).map (fun i => (i.zero, i.size, i.bytes)) = some (some (.agg #[.int .u8 0, .string ⟨#[]⟩, .slice none 0 0, .int .i64 0, .bool false, .bool false, .slice none 0 0]), 7, 88) := by kernel_rfl
/-- Rows of operations that are told of: where each lies, and its own. -/
def PartsOf (w : World) (pa : Option Addr) (Q : List RawO) : Prop := ∀ (k : Nat) q, Q[k]? = some q → ∃ p : Opl, True ∧ OpOk w q p ∧ ∃ b off, pa = some ⟨b, off, none⟩ ∧ b < w.heap.size ∧ w.rangeAt b (off + k * 7) q.cells
theorem OpsAt.parts {w : World} {n : Nat} {pa : Option Addr} {Q : List RawO} (h : OpsAt w n pa Q) : PartsOf w pa Q := fun k q hq => by
  obtain ⟨_, _, hat⟩ := h.plain
  obtain ⟨p, _, h1, h2⟩ := hat k q hq
  exact ⟨p, trivial, h1, h2⟩
theorem flatO_plain (Q : List RawO) : ∀ u ∈ flatO Q, u.oneCell' = true := by
  intro u hu
  obtain ⟨q, _, h⟩ := List.mem_flatMap.1 hu
  unfold RawO.cells at h
  simp only [List.mem_cons, List.not_mem_nil, or_false] at h
  rcases h with rfl | rfl | rfl | rfl | rfl | rfl | rfl <;> rfl
theorem own_empty (W : World) : (W.alloc (.cells #[] 26)).ownsRow W.heap.size 26 7 (.slice (some ⟨W.heap.size, 0, none⟩) 0 0) 0 [] :=
  ⟨rfl, .inr ⟨W.heap.size, 0, #[], rfl, Nat.le_refl _, heap_alloc_new W _, Nat.le_refl _, Nat.zero_le _, rfl, rfl⟩⟩
theorem own_empty' {base : Nat} (W : World) (hb : base ≤ W.heap.size) : (W.alloc (.cells #[] 26)).ownsRow base 26 7 (.slice (some ⟨W.heap.size, 0, none⟩) 0 0) 0 [] :=
  ⟨rfl, .inr ⟨W.heap.size, 0, #[], rfl, hb, heap_alloc_new W _, Nat.le_refl _, Nat.zero_le _, rfl, rfl⟩⟩
theorem cells_newO (W : World) (cs : List Value) (j : Nat) (u : Value) (hu : cs[j]? = some u) : (W.alloc (.cells cs.toArray 26)).cell? ((⟨W.heap.size, 0, none⟩ : Addr).add j) = some u := by
  rw [Addr.add_lit, Nat.zero_add]
  have := range_blk (heap_alloc_new W (.cells cs.toArray 26)) j u hu
  rw [Nat.zero_add] at this
  exact this
set_option maxRecDepth 100000 in
set_option maxHeartbeats 32000000 in
theorem opNest_core (w : World) (hm : MaxInt w) (PT : PowTab w) (ro : RawO) (Qo : List RawO) (n1 : Nat) (hon : ro.pn = Qo.length) (hoq : OpsAt w n1 ro.pa Qo) (hol : ro.pn ≤ maxLen) (hod : ro.dn ≤ maxLen)
    (ri : RawO) (Qi : List RawO) (n2 : Nat) (hin : ri.pn = Qi.length) (hiq : OpsAt w n2 ri.pa Qi) (hil : ri.pn ≤ maxLen) (hid : ri.dn ≤ maxLen) (x : Int) (hx0 : 0 ≤ x) (hx1 : x ≤ 255) :
    Calls Tryz.prog 10 #[ro.val, ri.val, .int .u8 x] w fun e w' => e = .returned (.bool true) ∧ Below w.heap.size w w' := by
  obtain ⟨ok, op, oa, on, oc, ov, os, oe, qa, qn, qc⟩ := ro
  obtain ⟨ik, ip, ia, il, ic, iv, is_, ie, pa, pn, pc⟩ := ri
  unfold RawO.val RawO.cells
  dsimp only at hon hoq hol hod hin hiq hil hid ⊢
  have hodl := hod
  have hidl := hid
  unfold maxLen at hol hod hil hid
  obtain ⟨w2, hw2⟩ : ∃ w2, w2 = (w.alloc (.cells #[.int .u8 ok, .string (bs op), .slice oa on oc, .int .i64 ov, .bool os, .bool oe, .slice qa qn qc] 26)).alloc (.cells #[.int .u8 ik, .string (bs ip), .slice ia il ic, .int .i64 iv, .bool is_, .bool ie, .slice pa pn pc] 26) := ⟨_, rfl⟩
  have B2 : Below w.heap.size w w2 := by rw [hw2]; exact belowA (belowA (Below.refl _ w) _) _
  have hs2 : w2.heap.size = w.heap.size + 2 := by rw [hw2]; simp
  have k0 : w2.heap[w.heap.size]? = some (.cells #[.int .u8 ok, .string (bs op), .slice oa on oc, .int .i64 ov, .bool os, .bool oe, .slice qa qn qc] 26 (0, 0)) := by rw [hw2]; exact (heap_alloc_old _ _ (by simp)).trans (heap_alloc_new w _)
  have k1 : w2.heap[w.heap.size + 1]? = some (.cells #[.int .u8 ik, .string (bs ip), .slice ia il ic, .int .i64 iv, .bool is_, .bool ie, .slice pa pn pc] 26 (0, 0)) := by
    have := heap_alloc_new (w.alloc (.cells #[.int .u8 ok, .string (bs op), .slice oa on oc, .int .i64 ov, .bool os, .bool oe, .slice qa qn qc] 26)) (.cells #[.int .u8 ik, .string (bs ip), .slice ia il ic, .int .i64 iv, .bool is_, .bool ie, .slice pa pn pc] 26)
    rw [World.size_alloc] at this
    rw [hw2]
    exact this
  have a2 : w2.cell? ⟨w.heap.size, 2, none⟩ = some (.slice oa on oc) := cell_of_row _ _ 2 _ 26 (0, 0) k0
  have a6 : w2.cell? ⟨w.heap.size, 6, none⟩ = some (.slice qa qn qc) := cell_of_row _ _ 6 _ 26 (0, 0) k0
  have b2 : w2.cell? ⟨w.heap.size + 1, 2, none⟩ = some (.slice ia il ic) := cell_of_row _ _ 2 _ 26 (0, 0) k1
  have b6 : w2.cell? ⟨w.heap.size + 1, 6, none⟩ = some (.slice pa pn pc) := cell_of_row _ _ 6 _ 26 (0, 0) k1
  have b0 : w2.cell? ⟨w.heap.size + 1, 0, none⟩ = some (.int .u8 ik) := cell_of_row _ _ 0 _ 26 (0, 0) k1
  have fb0 : w2.frozen? ⟨w.heap.size + 1, 0, none⟩ = false := by simp [World.frozen?, k1]
  have HM := Lib.hid (And.intro hm PT)
  have HO := Lib.hid (And.intro hoq.parts hon)
  have HI := Lib.hid (And.intro hiq.parts hin)
  have HOQ := Lib.hid (And.intro hoq hiq)
  have H2 := Lib.hid (And.intro B2 (And.intro hs2 (And.intro k0 (And.intro k1 hw2))))
  have HBW := Lib.hid B2
  have HSO : Hid ((Tryz.prog.info? 26).map (·.size) = some 7) := Lib.hid (by kernel_rfl)
  clear hm PT hoq hon hiq hin B2 hs2 k0 k1 hw2
  go_enter Tryz.func10, Tryz.ntmps10
  go_upto_region 1 with fail
  rw [← H2.out.2.2.2.2]
  by_cases c1 : 20 < qn
  · have t1 : decide ((20 : Int) < (qn : Int)) = true := by simp; omega
    clear c1
    go_wp2_with fail
    refine (works_any w2 (HM.out.1.kept HBW.out) (tab_below HM.out.2 HBW.out)).mono ?_
    rintro e wz ⟨rfl, BZ⟩
    have HZ := Lib.hid ((HBW.out : Below w.heap.size w w2).trans (BZ.mono (HBW.out : Below w.heap.size w w2).size))
    clear BZ
    go_wp2
    go_ret
    exact ⟨rfl, HZ.out⟩
  have t1 : decide ((20 : Int) < (qn : Int)) = false := by simp; omega
  by_cases c2 : 20 < pn
  · have t2 : decide ((20 : Int) < (pn : Int)) = true := by simp; omega
    clear c1 c2
    go_wp2_with fail
    refine (works_any w2 (HM.out.1.kept HBW.out) (tab_below HM.out.2 HBW.out)).mono ?_
    rintro e wz ⟨rfl, BZ⟩
    have HZ := Lib.hid ((HBW.out : Below w.heap.size w w2).trans (BZ.mono (HBW.out : Below w.heap.size w w2).size))
    clear BZ
    go_wp2
    go_ret
    exact ⟨rfl, HZ.out⟩
  have t2 : decide ((20 : Int) < (pn : Int)) = false := by simp; omega
  by_cases c3 : 200 < on
  · have t3 : decide ((200 : Int) < (on : Int)) = true := by simp; omega
    clear c1 c2 c3
    go_wp2_with fail
    refine (works_any w2 (HM.out.1.kept HBW.out) (tab_below HM.out.2 HBW.out)).mono ?_
    rintro e wz ⟨rfl, BZ⟩
    have HZ := Lib.hid ((HBW.out : Below w.heap.size w w2).trans (BZ.mono (HBW.out : Below w.heap.size w w2).size))
    clear BZ
    go_wp2
    go_ret
    exact ⟨rfl, HZ.out⟩
  have t3 : decide ((200 : Int) < (on : Int)) = false := by simp; omega
  by_cases c4 : 200 < il
  · have t4 : decide ((200 : Int) < (il : Int)) = true := by simp; omega
    clear c1 c2 c3 c4
    go_wp2_with fail
    refine (works_any w2 (HM.out.1.kept HBW.out) (tab_below HM.out.2 HBW.out)).mono ?_
    rintro e wz ⟨rfl, BZ⟩
    have HZ := Lib.hid ((HBW.out : Below w.heap.size w w2).trans (BZ.mono (HBW.out : Below w.heap.size w w2).size))
    clear BZ
    go_wp2
    go_ret
    exact ⟨rfl, HZ.out⟩
  have t4 : decide ((200 : Int) < (il : Int)) = false := by simp; omega
  have hq20 : qn ≤ 20 := by omega
  have hp20 : pn ≤ 20 := by omega
  clear c1 c2 c3 c4 hol hod hil hid
  go_wp2_with fail
  go_loopw [7] (fun iv wr => ∃ k : Nat, k ≤ pn ∧ iv = .int .i64 k ∧ w2 = wr) (fun iv _ => pn - (intOf iv).toNat)
  case atStart => exact ⟨0, by omega, rfl, rfl⟩
  case round =>
    obtain ⟨k, hk, rfl, rfl⟩ := hrel
    by_cases hlt : k < pn
    · have tlt : decide ((k : Int) < (pn : Int)) = true := by simp; omega
      have tltn : decide (k < pn) = true := by simp; omega
      obtain ⟨q, hq⟩ : ∃ q, Qi[k]? = some q := ⟨_, List.getElem?_eq_getElem (by rw [← HI.out.2]; exact hlt)⟩
      obtain ⟨p, _, _, g, off, hqa, hgl, hrg⟩ := HI.out.1 k q hq
      subst hqa
      have hrw := range_kept hrg HBW.out hgl
      obtain ⟨rk, rp, ra, rn, rc, rv, rs, re, fa, fn, fc⟩ := q
      unfold RawO.cells at hrw
      dsimp only at hrw
      have y2 : w2.cell? ⟨g, off + k * 7 + 2, none⟩ = some (.slice ra rn rc) := hrw 2 _ rfl
      have y6 : w2.cell? ⟨g, off + k * 7 + 6, none⟩ = some (.slice fa fn fc) := hrw 6 _ rfl
      have HRG := Lib.hid hrw
      have HQ := Lib.hid hq
      have HLT := Lib.hid hlt
      clear hq hgl hrg hrw
      by_cases e1 : 0 < fn
      · have u1 : decide ((0 : Int) < (fn : Int)) = true := by simp; omega
        have u1' : decide (0 < fn) = true := by simp; omega
        clear e1 hlt
        go_wp2_with fail
        refine (works_any w2 (HM.out.1.kept HBW.out) (tab_below HM.out.2 HBW.out)).mono ?_
        rintro e wz ⟨rfl, BZ⟩
        have HZ := Lib.hid ((HBW.out : Below w.heap.size w w2).trans (BZ.mono (HBW.out : Below w.heap.size w w2).size))
        clear BZ
        go_wp2
        go_ret
        exact ⟨rfl, HZ.out⟩
      have u1 : decide ((0 : Int) < (fn : Int)) = false := by simp; omega
      have u1' : decide (0 < fn) = false := by simp; omega
      by_cases e2 : 200 < rn
      · have u2 : decide ((200 : Int) < (rn : Int)) = true := by simp; omega
        clear e1 e2 hlt
        go_wp2_with fail
        refine (works_any w2 (HM.out.1.kept HBW.out) (tab_below HM.out.2 HBW.out)).mono ?_
        rintro e wz ⟨rfl, BZ⟩
        have HZ := Lib.hid ((HBW.out : Below w.heap.size w w2).trans (BZ.mono (HBW.out : Below w.heap.size w w2).size))
        clear BZ
        go_wp2
        go_ret
        exact ⟨rfl, HZ.out⟩
      have u2 : decide ((200 : Int) < (rn : Int)) = false := by simp; omega
      clear e1 e2
      go_wp2_with fail
      go_roundw
      case rel => exact ⟨k + 1, by omega, by go_num, trivial⟩
      case measure => simp [intOf]; omega
    · obtain rfl : pn = k := by omega
      have tlt : decide ((pn : Int) < (pn : Int)) = false := by simp
      have tltn : decide (pn < pn) = false := by simp
      clear hlt hk
      -- both are multis
      obtain ⟨w3, hw3⟩ : ∃ w3, w3 = w2.setCell ⟨w.heap.size + 1, 0, none⟩ (.int .u8 7) := ⟨_, rfl⟩
      have K3 : Kept (· = w.heap.size + 1) w2 w3 := by rw [hw3]; exact Kept.setCell (S := (· = w.heap.size + 1)) (p := ⟨w.heap.size + 1, 0, none⟩) (Kept.refl _ w2) rfl _
      have k31 : w3.heap[w.heap.size + 1]? = some (.cells #[.int .u8 7, .string (bs ip), .slice ia il ic, .int .i64 iv, .bool is_, .bool ie, .slice pa pn pc] 26 (0, 0)) := by rw [hw3]; simp [World.setCell, Array.getElem?_modify, H2.out.2.2.2.1]
      have k30 := (K3.block w.heap.size (by have := H2.out.2.1; omega) (fun e => by have e : w.heap.size = w.heap.size + 1 := e; omega)).trans H2.out.2.2.1
      have c0 : w3.cell? ⟨w.heap.size, 0, none⟩ = some (.int .u8 ok) := cell_of_row _ _ 0 _ 26 (0, 0) k30
      have fc0 : w3.frozen? ⟨w.heap.size, 0, none⟩ = false := by simp [World.frozen?, k30]
      obtain ⟨w4, hw4⟩ : ∃ w4, w4 = w3.setCell ⟨w.heap.size, 0, none⟩ (.int .u8 7) := ⟨_, rfl⟩
      have K4 : Kept (· = w.heap.size) w3 w4 := by rw [hw4]; exact Kept.setCell (S := (· = w.heap.size)) (p := ⟨w.heap.size, 0, none⟩) (Kept.refl _ w3) rfl _
      have k40 : w4.heap[w.heap.size]? = some (.cells #[.int .u8 7, .string (bs op), .slice oa on oc, .int .i64 ov, .bool os, .bool oe, .slice qa qn qc] 26 (0, 0)) := by rw [hw4]; simp [World.setCell, Array.getElem?_modify, k30]
      have k41 := (K4.block (w.heap.size + 1) (lt_of_block k31) (fun e => by have e : w.heap.size + 1 = w.heap.size := e; omega)).trans k31
      have B4 : Below w.heap.size w w4 := (HBW.out.trans (K3.below HBW.out.size (fun j e => by have e : j = w.heap.size + 1 := e; omega))).trans (K4.below (Nat.le_trans HBW.out.size K3.size) (fun j e => by have e : j = w.heap.size := e; omega))
      have HW3 := Lib.hid hw3
      have HW4 := Lib.hid hw4
      have H4 := Lib.hid (And.intro k40 (And.intro k41 (And.intro B4 (by have := lt_of_block k41; omega : w.heap.size + 2 ≤ w4.heap.size))))
      have HR0 : Hid (w4.ownsRow w4.heap.size 26 7 (.slice none 0 0) 0 (flatO (Qo.take 0)) ∧ Below w4.heap.size w4 w4) := Lib.hid ⟨World.ownsRow_nil w4 w4.heap.size 26 7, Below.refl _ _⟩
      clear K3 k31 k30 K4 k40 k41 B4 hw3 hw4
      go_upto_region 9 with fail
      rw [← HW3.out]
      go_upto_region 10 with fail
      rw [← HW4.out]
      clear a2 a6 b2 b6 b0 fb0 c0 fc0
      go_wp2_with fail
      go_loopw [8, 9] (fun vv iv wr => ∃ k : Nat, k ≤ qn ∧ iv = .int .i64 k ∧ (k = 0 → vv = .slice none 0 0) ∧ Hid (wr.ownsRow w4.heap.size 26 7 vv k (flatO (Qo.take k)) ∧ Below w4.heap.size w4 wr)) (fun _ iv _ => qn - (intOf iv).toNat)
      case atStart => exact ⟨0, by omega, rfl, fun _ => rfl, HR0⟩
      case round =>
        obtain ⟨k, hk, rfl, hv0, HS⟩ := hrel
        have HBW := Lib.hid (H4.out.2.2.1.trans (HS.out.2.mono H4.out.2.2.1.size))
        have kB0 := (HS.out.2.block w.heap.size (by have := H4.out.2.2.2; omega)).trans H4.out.1
        have a6 : wr.cell? ⟨w.heap.size, 6, none⟩ = some (.slice qa qn qc) := cell_of_row _ _ 6 _ 26 (0, 0) kB0
        have HK0 := Lib.hid kB0
        clear kB0
        by_cases hlt : k < qn
        · have tlt : decide ((k : Int) < (qn : Int)) = true := by simp; omega
          have tltn : decide (k < qn) = true := by simp; omega
          obtain ⟨q, hq⟩ : ∃ q, Qo[k]? = some q := ⟨_, List.getElem?_eq_getElem (by rw [← HO.out.2]; exact hlt)⟩
          obtain ⟨p, _, _, g, off, hqa, hgl, hrg⟩ := HO.out.1 k q hq
          subst hqa
          have hrw := range_kept hrg HBW.out hgl
          obtain ⟨rk, rp, ra, rn, rc, rv, rs, re, fa, fn, fc⟩ := q
          unfold RawO.cells at hrw
          dsimp only at hrw
          have y2 : wr.cell? ⟨g, off + k * 7 + 2, none⟩ = some (.slice ra rn rc) := hrw 2 _ rfl
          have y6 : wr.cell? ⟨g, off + k * 7 + 6, none⟩ = some (.slice fa fn fc) := hrw 6 _ rfl
          have HRG := Lib.hid hrw
          have HQ := Lib.hid hq
          have HLT := Lib.hid hlt
          clear hq hgl hrg hrw
          by_cases e1 : 0 < fn
          · have u1 : decide ((0 : Int) < (fn : Int)) = true := by simp; omega
            have u1' : decide (0 < fn) = true := by simp; omega
            clear e1 hlt
            go_wp2_with fail
            refine (works_any wr (HM.out.1.kept HBW.out) (tab_below HM.out.2 HBW.out)).mono ?_
            rintro e wz ⟨rfl, BZ⟩
            have HZ := Lib.hid ((HBW.out : Below w.heap.size w wr).trans (BZ.mono (HBW.out : Below w.heap.size w wr).size))
            clear BZ
            go_wp2
            go_ret
            exact ⟨rfl, HZ.out⟩
          have u1 : decide ((0 : Int) < (fn : Int)) = false := by simp; omega
          have u1' : decide (0 < fn) = false := by simp; omega
          by_cases e2 : 200 < rn
          · have u2 : decide ((200 : Int) < (rn : Int)) = true := by simp; omega
            clear e1 e2 hlt
            go_wp2_with fail
            refine (works_any wr (HM.out.1.kept HBW.out) (tab_below HM.out.2 HBW.out)).mono ?_
            rintro e wz ⟨rfl, BZ⟩
            have HZ := Lib.hid ((HBW.out : Below w.heap.size w wr).trans (BZ.mono (HBW.out : Below w.heap.size w wr).size))
            clear BZ
            go_wp2
            go_ret
            exact ⟨rfl, HZ.out⟩
          have u2 : decide ((200 : Int) < (rn : Int)) = false := by simp; omega
          clear e1 e2
          obtain ⟨sa, sc, hsv⟩ := row_form HS.out.1
          subst hsv
          obtain ⟨i0, hi0, hz0, hz1, hz2⟩ := info_parts infoOp
          have hcn := fun (W : World) => cells_newO W [.int .u8 rk, .string (bs rp), .slice ra rn rc, .int .i64 rv, .bool rs, .bool re, .slice fa fn fc]
          have hpl : ∀ u ∈ ([.int .u8 rk, .string (bs rp), .slice ra rn rc, .int .i64 rv, .bool rs, .bool re, .slice fa fn fc] : List Value), u.oneCell' = true := by intro u hu; simp only [List.mem_cons, List.not_mem_nil, or_false] at hu; rcases hu with rfl | rfl | rfl | rfl | rfl | rfl | rfl <;> rfl
          have HPL := Lib.hid (And.intro hcn hpl)
          have hk21 : k + 1 ≤ maxLen := by unfold maxLen; omega
          have hk88 : (k + 1) * 88 ≤ 140737488355328 := by omega
          have hbs : w4.heap.size ≤ (wr.alloc (.cells #[.int .u8 rk, .string (bs rp), .slice ra rn rc, .int .i64 rv, .bool rs, .bool re, .slice fa fn fc] 26)).heap.size := by have := HS.out.2.size; simp; omega
          clear hcn hpl
          go_wp2_with (first
            | (refine wpList_load_mid rfl 26 (.tmp 92) rfl g (off + k * 7) rfl [.int .u8 rk, .string (bs rp), .slice ra rn rc, .int .i64 rv, .bool rs, .bool re, .slice fa fn fc] _ HRG.out Tryz.underlying26 rfl HSO.out ?_)
            | (at_builtin; refine wpList_append_new rfl (.tmp 88) (.tmp 94) 24 rfl w4.heap.size 26 i0 (.agg #[.int .u8 0, .string ⟨#[]⟩, .slice none 0 0, .int .i64 0, .bool false, .bool false, .slice none 0 0]) 7 88 Tryz.underlying24 hi0 hz0 hz1 hz2 rfl (by decide) (.slice sa k sc) k (flatO (Qo.take k)) rfl (HS.out.1.alloc _) ⟨wr.heap.size, 0, none⟩ 1 1 [.int .u8 rk, .string (bs rp), .slice ra rn rc, .int .i64 rv, .bool rs, .bool re, .slice fa fn fc] rfl rfl (HPL.out.1 wr) HPL.out.2 hk21 hk88 hbs ?_; intro v5 w5 hown5 hgrow5 _))
          have hb5 : Below w4.heap.size w4 w5 := (belowA HS.out.2 _).grown hgrow5 hbs (fun g' hg' => (HS.out.1.lt g' hg').1)
          have hfl : flatO (Qo.take k) ++ [.int .u8 rk, .string (bs rp), .slice ra rn rc, .int .i64 rv, .bool rs, .bool re, .slice fa fn fc] = flatO (Qo.take (k + 1)) := by
            unfold flatO
            rw [List.take_add_one, HQ.out, List.flatMap_append]
            rfl
          rw [hfl] at hown5
          have HN5 := Lib.hid (And.intro hown5 hb5)
          clear hown5 hgrow5 hb5 hfl hi0 hz0 hz1 hz2 hv0
          go_wp2_with fail
          go_roundw
          case rel => exact ⟨k + 1, by omega, by go_num, fun e => by omega, HN5⟩
          case measure => simp [intOf]; omega
        · obtain rfl : qn = k := by omega
          have tlt : decide ((qn : Int) < (qn : Int)) = false := by simp
          have tltn : decide (qn < qn) = false := by simp
          obtain ⟨w5, hw5⟩ : ∃ w5, w5 = wr := ⟨_, rfl⟩
          subst hw5
          have hown := HS.out.1
          rw [List.take_of_length_le (by rw [← HO.out.2]; exact Nat.le_refl _)] at hown
          obtain ⟨kk, hkk⟩ : ∃ kk : Nat, x.tmod ((qn : Int) + 1) = (kk : Int) := ⟨(x.tmod ((qn : Int) + 1)).toNat, by rw [Int.tmod_eq_emod_of_nonneg hx0]; have := Int.emod_nonneg x (show ((qn : Int) + 1) ≠ 0 by omega); omega⟩
          have hkk' : x % ((qn : Int) + 1) = (kk : Int) := by rw [← hkk, Int.tmod_eq_emod_of_nonneg hx0]
          have hkk2 : kk ≤ qn := by rw [Int.tmod_eq_emod_of_nonneg hx0] at hkk; have := Int.emod_lt_of_pos x (show (0 : Int) < (qn : Int) + 1 by omega); omega
          obtain ⟨x1, c1, x2, c2, l1, l2, l3, l4, l5, l6⟩ := row_slices hown HO.out.2 hv0 hkk2
          obtain ⟨sa, sc, hsv⟩ := row_form hown
          subst hsv
          have m1 : ∀ _ : True, IntKind.i64.wrap x = x := fun _ => IntWalk.i64_in _ (by omega)
          have m2 : ∀ _ : True, IntKind.i64.wrap ((qn : Int) + 1) = (qn : Int) + 1 := fun _ => IntWalk.i64_in _ (by omega)
          have m3 : ∀ _ : True, IntKind.i64.wrap (kk : Int) = (kk : Int) := fun _ => IntWalk.i64_in _ (by omega)
          have m4 : decide ((qn : Int) + 1 = 0) = false := by simp; omega
          have m5 : (((qn : Int) + 1) == 0) = false := by rw [beq_eq_false_iff_ne]; omega
          obtain ⟨i0, hi0, hz0, hz1, hz2⟩ := info_parts infoOp
          have HF := Lib.hid (And.intro hi0 (And.intro hz0 (And.intro hz1 hz2)))
          have hql := HO.out.2
          have HTL : Hid ((flatO (Qo.take kk)).length = kk * 7) := Lib.hid (by rw [flatO_len, List.length_take]; congr 1; omega)
          have HL := Lib.hid (And.intro l2 (And.intro l3 (And.intro l1 (And.intro l4 (And.intro l5 (And.intro l6 (show (flatO (Qo.drop kk)).length = (qn - kk) * 7 by rw [flatO_len, List.length_drop, ← hql])))))))
          have HPI : Hid (∀ u ∈ ([.int .u8 7, .string (bs ip), .slice ia il ic, .int .i64 iv, .bool is_, .bool ie, .slice pa pn pc] : List Value), u.oneCell' = true) := Lib.hid (by intro u hu; simp only [List.mem_cons, List.not_mem_nil, or_false] at hu; rcases hu with rfl | rfl | rfl | rfl | rfl | rfl | rfl <;> rfl)
          have kB1 := (HS.out.2.block (w.heap.size + 1) (by have := H4.out.2.2.2; omega)).trans H4.out.2.1
          have HSB : Hid (∀ W, Below w5.heap.size w5 W → World.rangeAt W (w.heap.size + 1) 0 [.int .u8 7, .string (bs ip), .slice ia il ic, .int .i64 iv, .bool is_, .bool ie, .slice pa pn pc]) := Lib.hid fun W hb => range_kept (range_blk kB1) hb (lt_of_block kB1)
          have HBL : Hid (w.heap.size + 2 ≤ w5.heap.size) := Lib.hid (by have := H4.out.2.2.2; have := HS.out.2.size; omega)
          have HAL : Hid (∀ r ∈ Qo, r.dn ≤ maxLen ∧ ∃ Q, r.pn = Q.length ∧ OpsAt w (n1 + n2) r.pa Q) := Lib.hid fun r hr => by
            obtain ⟨j, hj⟩ := List.mem_iff_getElem?.1 hr
            have h := HOQ.out.1
            cases n1 with
            | zero =>
              have h : Qo = [] := h
              rw [h] at hj
              simp at hj
            | succ m =>
              obtain ⟨_, _, o, Q, _, _, _, h4, h5, h6⟩ := h j r hj
              exact ⟨h4.dn, Q, h5, h6.mono (by omega)⟩
          have HIL : Hid (il ≤ maxLen) := Lib.hid hidl
          have HON : Hid (on ≤ maxLen) := Lib.hid hodl
          have HIQ := HI
          have sl1 : ∀ W, World.rangeAt W (w.heap.size + 1) 0 [.int .u8 7, .string (bs ip), .slice ia il ic, .int .i64 iv, .bool is_, .bool ie, .slice pa pn pc] → _ := fun W _ => HL.out.2.2.1 W
          have sl2 : ∀ W, World.rangeAt W (w.heap.size + 1) 0 [.int .u8 7, .string (bs ip), .slice ia il ic, .int .i64 iv, .bool is_, .bool ie, .slice pa pn pc] → _ := fun W _ => HL.out.2.2.2.1 W
          clear hql hown hv0 l1 l2 l3 l4 l5 l6 hi0 hz0 hz1 hz2 kB1 hlt hk
          have hkq := hkk2
          go_wp2_with fail
          refine wp_region_held_drew (S := fun w' => World.rangeAt w' (w.heap.size + 1) 0 [.int .u8 7, .string (bs ip), .slice ia il ic, .int .i64 iv, .bool is_, .bool ie, .slice pa pn pc]) (by kernel_rfl) (HSB.out _ (Below.refl _ w5).drew) (fun hS => ?_)
          refine took_in 1 rfl (by kernel_rfl) (by kernel_rfl) (by kernel_rfl) (by rfl) hS (fun w' hS' => by go_simp <;> rfl) (fun _ _ _ h => h) ?_
          simp only [Act.put, List.setIfInBounds_toArray, List.set_cons_zero, List.set_cons_succ]
          refine took_in 2 rfl (by kernel_rfl) (by kernel_rfl) (by kernel_rfl) (by rfl) hS (fun w' hS' => by go_simp <;> rfl) (fun _ _ _ h => h) ?_
          simp only [Act.put, List.setIfInBounds_toArray, List.set_cons_zero, List.set_cons_succ]
          refine took_in 3 rfl (by kernel_rfl) (by kernel_rfl) (by kernel_rfl) (by rfl) hS (fun w' hS' => by have := sl1 w' hS'; go_simp <;> rfl) (fun _ _ _ h => h) ?_
          simp only [Act.put, List.setIfInBounds_toArray, List.set_cons_zero, List.set_cons_succ]
          refine took_load 5 rfl (by kernel_rfl) (by kernel_rfl) (by kernel_rfl) (by rfl) hS 26 (.tmp 4) rfl (w.heap.size + 1) 0 rfl [.int .u8 7, .string (bs ip), .slice ia il ic, .int .i64 iv, .bool is_, .bool ie, .slice pa pn pc] _ (fun _ h => h) Tryz.underlying26 rfl HSO.out (fun _ _ _ h => h) ?_
          simp only [Act.put, List.setIfInBounds_toArray, List.set_cons_zero, List.set_cons_succ]
          refine took_in 8 rfl (by kernel_rfl) (by kernel_rfl) (by kernel_rfl) (by rfl) hS (fun w' hS' => by go_simp <;> rfl) (fun _ _ _ h => h) ?_
          simp only [Act.put, List.setIfInBounds_toArray, List.set_cons_zero, List.set_cons_succ]
          refine took_in 9 rfl (by kernel_rfl) (by kernel_rfl) (by kernel_rfl) (by rfl) hS (fun w' hS' => by go_simp <;> rfl) (fun _ _ _ h => h) ?_
          simp only [Act.put, List.setIfInBounds_toArray, List.set_cons_zero, List.set_cons_succ]
          refine took_in 10 rfl (by kernel_rfl) (by kernel_rfl) (by kernel_rfl) (by rfl) hS (fun w' hS' => by have := sl2 w' hS'; go_simp <;> rfl) (fun _ _ _ h => h) ?_
          simp only [Act.put, List.setIfInBounds_toArray, List.set_cons_zero, List.set_cons_succ]
          refine alt_in 0 6 rfl rfl (by kernel_rfl) (by rfl) (by rfl) ?_ ?_
          · -- the empty row first
            refine wp_gives (v := .slice (some ⟨w5.drew.heap.size, 0, none⟩) 0 0) (w' := w5.drew.alloc (.cells #[] 26)) (by go_simp <;> first | rfl | exact ⟨rfl, rfl⟩) ?_
            have u1 : Below w5.heap.size w5 (w5.drew.alloc (.cells #[] 26)) := belowA (Below.refl _ w5).drew _
            have o1 : (w5.drew.alloc (.cells #[] 26)).ownsRow w5.heap.size 26 7 (.slice (some ⟨w5.drew.heap.size, 0, none⟩) 0 0) 0 [] := own_empty w5.drew
            refine ⟨HSB.out _ u1, ?_⟩
            try dsimp only
            simp only [Act.put, List.setIfInBounds_toArray, List.set_cons_zero, List.set_cons_succ]
            refine alt_in 4 6 rfl rfl (by kernel_rfl) (by rfl) (by rfl) ?_ ?_
            · refine wp_append_any (.tmp 102) (.tmp 105) 24 rfl w5.heap.size 26 i0 (.agg #[.int .u8 0, .string ⟨#[]⟩, .slice none 0 0, .int .i64 0, .bool false, .bool false, .slice none 0 0]) 7 88 Tryz.underlying24 HF.out.1 HF.out.2.1 HF.out.2.2.1 HF.out.2.2.2 rfl (by decide) _ 0 [] rfl o1 x1 kk c1 (flatO (Qo.take kk)) rfl HL.out.1 HTL.out (fun ad h => HL.out.2.1 ad h _ u1) (flatO_plain _) (by unfold maxLen; omega) (by omega) u1.size ?_
              intro v6 w6 own6 grow6 wh6
              rw [Nat.zero_add, List.nil_append] at own6
              have hb6' : Below w5.heap.size w5 w6 := u1.grown grow6 u1.size (fun g' hg' => by cases hg'; exact Nat.le_refl _)
              refine ⟨HSB.out _ hb6', ?_⟩
              obtain ⟨a6, c6, hv6⟩ := row_form own6
              subst hv6
              try dsimp only
              simp only [Act.put, List.setIfInBounds_toArray, List.set_cons_zero, List.set_cons_succ]
              refine ran_in 6 rfl (by kernel_rfl) (by rfl) ?_
              refine wp_gives (v := .slice (some ⟨w6.heap.size, 0, none⟩) 1 1) (w' := w6.alloc (.cells #[.int .u8 7, .string (bs ip), .slice ia il ic, .int .i64 iv, .bool is_, .bool ie, .slice pa pn pc] 26)) (by go_simp <;> first | rfl | exact ⟨rfl, rfl⟩) ?_
              have hb6 : Below w5.heap.size w5 (w6.alloc (.cells #[.int .u8 7, .string (bs ip), .slice ia il ic, .int .i64 iv, .bool is_, .bool ie, .slice pa pn pc] 26)) := belowA hb6' _
              have hgi : (w6.alloc (.cells #[.int .u8 7, .string (bs ip), .slice ia il ic, .int .i64 iv, .bool is_, .bool ie, .slice pa pn pc] 26)).heap[w6.heap.size]? = some (.cells #[.int .u8 7, .string (bs ip), .slice ia il ic, .int .i64 iv, .bool is_, .bool ie, .slice pa pn pc] 26 (0, 0)) := heap_alloc_new w6 _
              have hgb : w5.heap.size ≤ w6.heap.size := hb6'.size
              have own6 := own6.alloc (.cells #[.int .u8 7, .string (bs ip), .slice ia il ic, .int .i64 iv, .bool is_, .bool ie, .slice pa pn pc] 26)
              refine ⟨HSB.out _ hb6, ?_⟩
              obtain ⟨gi, hgie⟩ : ∃ gi, gi = w6.heap.size := ⟨_, rfl⟩
              rw [← hgie] at hgi hgb ⊢
              obtain ⟨W6, hW6⟩ : ∃ W6, W6 = w6.alloc (.cells #[.int .u8 7, .string (bs ip), .slice ia il ic, .int .i64 iv, .bool is_, .bool ie, .slice pa pn pc] 26) := ⟨_, rfl⟩
              rw [← hW6] at hb6 hgi own6 ⊢
              try dsimp only
              simp only [Act.put, List.setIfInBounds_toArray, List.set_cons_zero, List.set_cons_succ]
              clear hW6 hgie hb6' grow6 wh6 o1 u1
              refine ran_in 7 rfl (by kernel_rfl) (by rfl) ?_
              refine wp_append_any (.tmp 106) (.tmp 108) 24 rfl w5.heap.size 26 i0 (.agg #[.int .u8 0, .string ⟨#[]⟩, .slice none 0 0, .int .i64 0, .bool false, .bool false, .slice none 0 0]) 7 88 Tryz.underlying24 HF.out.1 HF.out.2.1 HF.out.2.2.1 HF.out.2.2.2 rfl (by decide) (.slice a6 kk c6) kk (flatO (Qo.take kk)) rfl own6 (some ⟨gi, 0, none⟩) 1 1 [.int .u8 7, .string (bs ip), .slice ia il ic, .int .i64 iv, .bool is_, .bool ie, .slice pa pn pc] rfl (fun h => by cases h) rfl (fun ad h j u hu => by cases h; have := range_blk hgi j u hu; rw [Nat.zero_add] at this; rw [Addr.add_lit, Nat.zero_add]; exact this) HPI.out (by unfold maxLen; omega) (by omega) hb6.size ?_
              intro v7 w7 own7 grow7 wh7
              have hb7 : Below w5.heap.size w5 w7 := hb6.grown grow7 hb6.size (fun g' hg' => (own6.lt g' hg').1)
              refine ⟨HSB.out _ hb7, ?_⟩
              obtain ⟨a7, c7, hv7⟩ := row_form own7
              subst hv7
              try dsimp only
              simp only [Act.put, List.setIfInBounds_toArray, List.set_cons_zero, List.set_cons_succ]
              refine ran_in 11 rfl (by kernel_rfl) (by rfl) ?_
              refine wp_append_any (.tmp 109) (.tmp 112) 24 rfl w5.heap.size 26 i0 (.agg #[.int .u8 0, .string ⟨#[]⟩, .slice none 0 0, .int .i64 0, .bool false, .bool false, .slice none 0 0]) 7 88 Tryz.underlying24 HF.out.1 HF.out.2.1 HF.out.2.2.1 HF.out.2.2.2 rfl (by decide) (.slice a7 (kk + 1) c7) (kk + 1) (flatO (Qo.take kk) ++ [.int .u8 7, .string (bs ip), .slice ia il ic, .int .i64 iv, .bool is_, .bool ie, .slice pa pn pc]) rfl own7 x2 (qn - kk) c2 (flatO (Qo.drop kk)) rfl HL.out.2.2.2.2.1 HL.out.2.2.2.2.2.2 (fun ad h => HL.out.2.2.2.2.2.1 ad h w7 hb7) (flatO_plain _) (by unfold maxLen; omega) (by omega) hb7.size ?_
              intro v8 w8 own8 grow8 wh8
              have hb8 : Below w5.heap.size w5 w8 := hb7.grown grow8 hb7.size (fun g' hg' => (own7.lt g' hg').1)
              refine ⟨HSB.out _ hb8, ?_⟩
              obtain ⟨na, nc, hv8⟩ := row_form own8
              subst hv8
              try dsimp only
              simp only [Act.put, List.setIfInBounds_toArray, List.set_cons_zero, List.set_cons_succ]
              have hS8 := HSB.out _ hb8
              refine took_in 12 rfl (by kernel_rfl) (by kernel_rfl) (by kernel_rfl) (by rfl) hS8 (fun w' hS' => by go_simp <;> rfl) (fun _ _ _ h => h) ?_
              simp only [Act.put, List.setIfInBounds_toArray, List.set_cons_zero, List.set_cons_succ]
              have k80 := (hb8.block w.heap.size (by have := HBL.out; omega)).trans HK0.out
              have q6 : w8.cell? ⟨w.heap.size, 6, none⟩ = some (.slice qa qn qc) := cell_of_row _ _ 6 _ 26 (0, 0) k80
              have f6 : w8.frozen? ⟨w.heap.size, 6, none⟩ = false := by simp [World.frozen?, k80]
              obtain ⟨w9, hw9⟩ : ∃ w9, w9 = w8.setCell ⟨w.heap.size, 6, none⟩ (.slice na (kk + 1 + (qn - kk)) nc) := ⟨_, rfl⟩
              have K9 : Kept (· = w.heap.size) w8 w9 := by rw [hw9]; exact Kept.setCell (S := (· = w.heap.size)) (p := ⟨w.heap.size, 6, none⟩) (Kept.refl _ w8) rfl _
              have k90 : w9.heap[w.heap.size]? = some (.cells #[.int .u8 7, .string (bs op), .slice oa on oc, .int .i64 ov, .bool os, .bool oe, .slice na (kk + 1 + (qn - kk)) nc] 26 (0, 0)) := by rw [hw9]; simp [World.setCell, Array.getElem?_modify, k80]
              have hS9 : World.rangeAt w9 (w.heap.size + 1) 0 [.int .u8 7, .string (bs ip), .slice ia il ic, .int .i64 iv, .bool is_, .bool ie, .slice pa pn pc] := fun j u hu => (K9.cell (p := ⟨w.heap.size + 1, 0 + j, none⟩) (by have := HBL.out; have := hb8.size; show w.heap.size + 1 < w8.heap.size; omega) (fun e => by have e : w.heap.size + 1 = w.heap.size := e; omega)).trans (HSB.out _ hb8 j u hu)
              have b9 : Below w.heap.size w w9 := (HBW.out.trans (hb8.mono HBW.out.size)).trans (K9.below (HBW.out.trans (hb8.mono HBW.out.size)).size (fun j e => by have e : j = w.heap.size := e; omega))
              refine do_in 13 rfl (by kernel_rfl) (by rfl) w9 (by rw [hw9]; go_simp <;> first | rfl | exact ⟨rfl, rfl⟩) hS9 ?_
              simp only [Act.put, List.setIfInBounds_toArray, List.set_cons_zero, List.set_cons_succ]
              refine wpAnyH_done (by kernel_rfl) ?_ _
              have own9 : w9.ownsRow w5.heap.size 26 7 (.slice na (kk + 1 + (qn - kk)) nc) (kk + 1 + (qn - kk)) (flatO (Qo.take kk ++ [(⟨7, ip, ia, il, ic, iv, is_, ie, pa, pn, pc⟩ : RawO)] ++ Qo.drop kk)) := by
                have h := own_kept own8 K9 (fun g' hg' e => by have e : g' = w.heap.size := e; have := (own8.lt g' hg').1; have := HBL.out; omega)
                have e : flatO (Qo.take kk ++ [(⟨7, ip, ia, il, ic, iv, is_, ie, pa, pn, pc⟩ : RawO)] ++ Qo.drop kk) = flatO (Qo.take kk) ++ [.int .u8 7, .string (bs ip), .slice ia il ic, .int .i64 iv, .bool is_, .bool ie, .slice pa pn pc] ++ flatO (Qo.drop kk) := by
                  rw [flatO_append, flatO_append]
                  rfl
                rw [e]
                exact h
              have hlen : (kk + 1 + (qn - kk)) = (Qo.take kk ++ [(⟨7, ip, ia, il, ic, iv, is_, ie, pa, pn, pc⟩ : RawO)] ++ Qo.drop kk).length := by
                have := HO.out.2
                simp only [List.length_append, List.length_take, List.length_drop, List.length_cons, List.length_nil]
                omega
              obtain ⟨na', nc', e9, hat⟩ := row_opAt (D := n1 + n2) own9 hlen b9 (fun r hr => by
                rcases List.mem_append.1 hr with hr | hr
                · rcases List.mem_append.1 hr with hr | hr
                  · exact HAL.out r (List.mem_of_mem_take hr)
                  · have hr : r = (⟨7, ip, ia, il, ic, iv, is_, ie, pa, pn, pc⟩ : RawO) := by simpa using hr
                    rw [hr]
                    exact ⟨HIL.out, Qi, HI.out.2, HOQ.out.2.mono (Nat.le_add_left _ _)⟩
                · exact HAL.out r (List.mem_of_mem_drop hr))
              cases e9
              have hck := check_any (n1 + n2 + 1) w9 ⟨7, op, oa, on, oc, ov, os, oe, na, (kk + 1 + (qn - kk)), nc⟩ ((Qo.take kk ++ [(⟨7, ip, ia, il, ic, iv, is_, ie, pa, pn, pc⟩ : RawO)] ++ Qo.drop kk).map RawO.info) (by rw [List.length_map]; exact hlen) hat HON.out
              rw [checkE_bad (List.any_eq_true.2 ⟨RawO.info (⟨7, ip, ia, il, ic, iv, is_, ie, pa, pn, pc⟩ : RawO), List.mem_map_of_mem (by simp), by simp [RawO.info, PartI.bad]⟩)] at hck
              unfold RawO.val RawO.cells at hck
              dsimp only at hck
              have HCK := Lib.hid hck
              have HR9 := Lib.hid (range_blk k90)
              have HB9 := Lib.hid b9
              clear hck hat hlen own9 own8 own7 own6 grow8 grow7 wh8 wh7 hb8 hb7 hb6 hgi hgb k80 q6 f6 K9 k90 hS9 b9 hw9 hS
              go_wp2_with (refine wpList_load_mid rfl 26 (.tmp 3) rfl w.heap.size 0 rfl [.int .u8 7, .string (bs op), .slice oa on oc, .int .i64 ov, .bool os, .bool oe, .slice na (kk + 1 + (qn - kk)) nc] _ HR9.out Tryz.underlying26 rfl HSO.out ?_)
              refine HCK.out.mono ?_
              rintro e w10 ⟨rfl, B10⟩
              have HBX := Lib.hid (HB9.out.trans (B10.mono HB9.out.size))
              clear B10
              go_wp2_with fail
              refine (works_any w10 (HM.out.1.kept HBX.out) (tab_below HM.out.2 HBX.out)).mono ?_
              rintro e wz ⟨rfl, BZ⟩
              have HZ := Lib.hid ((HBX.out : Below w.heap.size w w10).trans (BZ.mono (HBX.out : Below w.heap.size w w10).size))
              clear BZ
              go_wp2
              go_ret
              exact ⟨rfl, HZ.out⟩
            · refine wp_gives (v := .slice (some ⟨(w5.drew.alloc (.cells #[] 26)).heap.size, 0, none⟩) 1 1) (w' := (w5.drew.alloc (.cells #[] 26)).alloc (.cells #[.int .u8 7, .string (bs ip), .slice ia il ic, .int .i64 iv, .bool is_, .bool ie, .slice pa pn pc] 26)) (by go_simp <;> first | rfl | exact ⟨rfl, rfl⟩) ?_
              have u2 : Below w5.heap.size w5 ((w5.drew.alloc (.cells #[] 26)).alloc (.cells #[.int .u8 7, .string (bs ip), .slice ia il ic, .int .i64 iv, .bool is_, .bool ie, .slice pa pn pc] 26)) := belowA u1 _
              have o2 := o1.alloc (.cells #[.int .u8 7, .string (bs ip), .slice ia il ic, .int .i64 iv, .bool is_, .bool ie, .slice pa pn pc] 26)
              have gi2 : ((w5.drew.alloc (.cells #[] 26)).alloc (.cells #[.int .u8 7, .string (bs ip), .slice ia il ic, .int .i64 iv, .bool is_, .bool ie, .slice pa pn pc] 26)).heap[(w5.drew.alloc (.cells #[] 26)).heap.size]? = some (.cells #[.int .u8 7, .string (bs ip), .slice ia il ic, .int .i64 iv, .bool is_, .bool ie, .slice pa pn pc] 26 (0, 0)) := heap_alloc_new _ _
              have gn2 : w5.heap.size < (w5.drew.alloc (.cells #[] 26)).heap.size := by rw [World.size_alloc]; show w5.heap.size < w5.heap.size + 1; omega
              refine ⟨HSB.out _ u2, ?_⟩
              obtain ⟨gi, hgie⟩ : ∃ gi, gi = (w5.drew.alloc (.cells #[] 26)).heap.size := ⟨_, rfl⟩
              rw [← hgie] at gi2 gn2 ⊢
              try dsimp only
              simp only [Act.put, List.setIfInBounds_toArray, List.set_cons_zero, List.set_cons_succ]
              refine ran_in 4 rfl (by kernel_rfl) (by rfl) ?_
              refine wp_append_any (.tmp 102) (.tmp 105) 24 rfl w5.heap.size 26 i0 (.agg #[.int .u8 0, .string ⟨#[]⟩, .slice none 0 0, .int .i64 0, .bool false, .bool false, .slice none 0 0]) 7 88 Tryz.underlying24 HF.out.1 HF.out.2.1 HF.out.2.2.1 HF.out.2.2.2 rfl (by decide) _ 0 [] rfl o2 x1 kk c1 (flatO (Qo.take kk)) rfl HL.out.1 HTL.out (fun ad h => HL.out.2.1 ad h _ u2) (flatO_plain _) (by unfold maxLen; omega) (by omega) u2.size ?_
              intro v6 w6 own6 grow6 wh6
              rw [Nat.zero_add, List.nil_append] at own6
              have hb6' : Below w5.heap.size w5 w6 := u2.grown grow6 u2.size (fun g' hg' => by cases hg'; exact Nat.le_refl _)
              refine ⟨HSB.out _ hb6', ?_⟩
              obtain ⟨a6, c6, hv6⟩ := row_form own6
              subst hv6
              try dsimp only
              simp only [Act.put, List.setIfInBounds_toArray, List.set_cons_zero, List.set_cons_succ]
              have hgi := (grow6.block gi (lt_of_block gi2) (fun e => by cases e; exact Nat.lt_irrefl _ gn2)).trans gi2
              have hb6 := hb6'
              have hgb := Nat.le_of_lt gn2
              clear hgie hb6' grow6 wh6 o1 u1 u2 o2 gi2 gn2
              refine ran_in 7 rfl (by kernel_rfl) (by rfl) ?_
              refine wp_append_any (.tmp 106) (.tmp 108) 24 rfl w5.heap.size 26 i0 (.agg #[.int .u8 0, .string ⟨#[]⟩, .slice none 0 0, .int .i64 0, .bool false, .bool false, .slice none 0 0]) 7 88 Tryz.underlying24 HF.out.1 HF.out.2.1 HF.out.2.2.1 HF.out.2.2.2 rfl (by decide) (.slice a6 kk c6) kk (flatO (Qo.take kk)) rfl own6 (some ⟨gi, 0, none⟩) 1 1 [.int .u8 7, .string (bs ip), .slice ia il ic, .int .i64 iv, .bool is_, .bool ie, .slice pa pn pc] rfl (fun h => by cases h) rfl (fun ad h j u hu => by cases h; have := range_blk hgi j u hu; rw [Nat.zero_add] at this; rw [Addr.add_lit, Nat.zero_add]; exact this) HPI.out (by unfold maxLen; omega) (by omega) hb6.size ?_
              intro v7 w7 own7 grow7 wh7
              have hb7 : Below w5.heap.size w5 w7 := hb6.grown grow7 hb6.size (fun g' hg' => (own6.lt g' hg').1)
              refine ⟨HSB.out _ hb7, ?_⟩
              obtain ⟨a7, c7, hv7⟩ := row_form own7
              subst hv7
              try dsimp only
              simp only [Act.put, List.setIfInBounds_toArray, List.set_cons_zero, List.set_cons_succ]
              refine ran_in 11 rfl (by kernel_rfl) (by rfl) ?_
              refine wp_append_any (.tmp 109) (.tmp 112) 24 rfl w5.heap.size 26 i0 (.agg #[.int .u8 0, .string ⟨#[]⟩, .slice none 0 0, .int .i64 0, .bool false, .bool false, .slice none 0 0]) 7 88 Tryz.underlying24 HF.out.1 HF.out.2.1 HF.out.2.2.1 HF.out.2.2.2 rfl (by decide) (.slice a7 (kk + 1) c7) (kk + 1) (flatO (Qo.take kk) ++ [.int .u8 7, .string (bs ip), .slice ia il ic, .int .i64 iv, .bool is_, .bool ie, .slice pa pn pc]) rfl own7 x2 (qn - kk) c2 (flatO (Qo.drop kk)) rfl HL.out.2.2.2.2.1 HL.out.2.2.2.2.2.2 (fun ad h => HL.out.2.2.2.2.2.1 ad h w7 hb7) (flatO_plain _) (by unfold maxLen; omega) (by omega) hb7.size ?_
              intro v8 w8 own8 grow8 wh8
              have hb8 : Below w5.heap.size w5 w8 := hb7.grown grow8 hb7.size (fun g' hg' => (own7.lt g' hg').1)
              refine ⟨HSB.out _ hb8, ?_⟩
              obtain ⟨na, nc, hv8⟩ := row_form own8
              subst hv8
              try dsimp only
              simp only [Act.put, List.setIfInBounds_toArray, List.set_cons_zero, List.set_cons_succ]
              have hS8 := HSB.out _ hb8
              refine took_in 12 rfl (by kernel_rfl) (by kernel_rfl) (by kernel_rfl) (by rfl) hS8 (fun w' hS' => by go_simp <;> rfl) (fun _ _ _ h => h) ?_
              simp only [Act.put, List.setIfInBounds_toArray, List.set_cons_zero, List.set_cons_succ]
              have k80 := (hb8.block w.heap.size (by have := HBL.out; omega)).trans HK0.out
              have q6 : w8.cell? ⟨w.heap.size, 6, none⟩ = some (.slice qa qn qc) := cell_of_row _ _ 6 _ 26 (0, 0) k80
              have f6 : w8.frozen? ⟨w.heap.size, 6, none⟩ = false := by simp [World.frozen?, k80]
              obtain ⟨w9, hw9⟩ : ∃ w9, w9 = w8.setCell ⟨w.heap.size, 6, none⟩ (.slice na (kk + 1 + (qn - kk)) nc) := ⟨_, rfl⟩
              have K9 : Kept (· = w.heap.size) w8 w9 := by rw [hw9]; exact Kept.setCell (S := (· = w.heap.size)) (p := ⟨w.heap.size, 6, none⟩) (Kept.refl _ w8) rfl _
              have k90 : w9.heap[w.heap.size]? = some (.cells #[.int .u8 7, .string (bs op), .slice oa on oc, .int .i64 ov, .bool os, .bool oe, .slice na (kk + 1 + (qn - kk)) nc] 26 (0, 0)) := by rw [hw9]; simp [World.setCell, Array.getElem?_modify, k80]
              have hS9 : World.rangeAt w9 (w.heap.size + 1) 0 [.int .u8 7, .string (bs ip), .slice ia il ic, .int .i64 iv, .bool is_, .bool ie, .slice pa pn pc] := fun j u hu => (K9.cell (p := ⟨w.heap.size + 1, 0 + j, none⟩) (by have := HBL.out; have := hb8.size; show w.heap.size + 1 < w8.heap.size; omega) (fun e => by have e : w.heap.size + 1 = w.heap.size := e; omega)).trans (HSB.out _ hb8 j u hu)
              have b9 : Below w.heap.size w w9 := (HBW.out.trans (hb8.mono HBW.out.size)).trans (K9.below (HBW.out.trans (hb8.mono HBW.out.size)).size (fun j e => by have e : j = w.heap.size := e; omega))
              refine do_in 13 rfl (by kernel_rfl) (by rfl) w9 (by rw [hw9]; go_simp <;> first | rfl | exact ⟨rfl, rfl⟩) hS9 ?_
              simp only [Act.put, List.setIfInBounds_toArray, List.set_cons_zero, List.set_cons_succ]
              refine wpAnyH_done (by kernel_rfl) ?_ _
              have own9 : w9.ownsRow w5.heap.size 26 7 (.slice na (kk + 1 + (qn - kk)) nc) (kk + 1 + (qn - kk)) (flatO (Qo.take kk ++ [(⟨7, ip, ia, il, ic, iv, is_, ie, pa, pn, pc⟩ : RawO)] ++ Qo.drop kk)) := by
                have h := own_kept own8 K9 (fun g' hg' e => by have e : g' = w.heap.size := e; have := (own8.lt g' hg').1; have := HBL.out; omega)
                have e : flatO (Qo.take kk ++ [(⟨7, ip, ia, il, ic, iv, is_, ie, pa, pn, pc⟩ : RawO)] ++ Qo.drop kk) = flatO (Qo.take kk) ++ [.int .u8 7, .string (bs ip), .slice ia il ic, .int .i64 iv, .bool is_, .bool ie, .slice pa pn pc] ++ flatO (Qo.drop kk) := by
                  rw [flatO_append, flatO_append]
                  rfl
                rw [e]
                exact h
              have hlen : (kk + 1 + (qn - kk)) = (Qo.take kk ++ [(⟨7, ip, ia, il, ic, iv, is_, ie, pa, pn, pc⟩ : RawO)] ++ Qo.drop kk).length := by
                have := HO.out.2
                simp only [List.length_append, List.length_take, List.length_drop, List.length_cons, List.length_nil]
                omega
              obtain ⟨na', nc', e9, hat⟩ := row_opAt (D := n1 + n2) own9 hlen b9 (fun r hr => by
                rcases List.mem_append.1 hr with hr | hr
                · rcases List.mem_append.1 hr with hr | hr
                  · exact HAL.out r (List.mem_of_mem_take hr)
                  · have hr : r = (⟨7, ip, ia, il, ic, iv, is_, ie, pa, pn, pc⟩ : RawO) := by simpa using hr
                    rw [hr]
                    exact ⟨HIL.out, Qi, HI.out.2, HOQ.out.2.mono (Nat.le_add_left _ _)⟩
                · exact HAL.out r (List.mem_of_mem_drop hr))
              cases e9
              have hck := check_any (n1 + n2 + 1) w9 ⟨7, op, oa, on, oc, ov, os, oe, na, (kk + 1 + (qn - kk)), nc⟩ ((Qo.take kk ++ [(⟨7, ip, ia, il, ic, iv, is_, ie, pa, pn, pc⟩ : RawO)] ++ Qo.drop kk).map RawO.info) (by rw [List.length_map]; exact hlen) hat HON.out
              rw [checkE_bad (List.any_eq_true.2 ⟨RawO.info (⟨7, ip, ia, il, ic, iv, is_, ie, pa, pn, pc⟩ : RawO), List.mem_map_of_mem (by simp), by simp [RawO.info, PartI.bad]⟩)] at hck
              unfold RawO.val RawO.cells at hck
              dsimp only at hck
              have HCK := Lib.hid hck
              have HR9 := Lib.hid (range_blk k90)
              have HB9 := Lib.hid b9
              clear hck hat hlen own9 own8 own7 own6 grow8 grow7 wh8 wh7 hb8 hb7 hb6 hgi hgb k80 q6 f6 K9 k90 hS9 b9 hw9 hS
              go_wp2_with (refine wpList_load_mid rfl 26 (.tmp 3) rfl w.heap.size 0 rfl [.int .u8 7, .string (bs op), .slice oa on oc, .int .i64 ov, .bool os, .bool oe, .slice na (kk + 1 + (qn - kk)) nc] _ HR9.out Tryz.underlying26 rfl HSO.out ?_)
              refine HCK.out.mono ?_
              rintro e w10 ⟨rfl, B10⟩
              have HBX := Lib.hid (HB9.out.trans (B10.mono HB9.out.size))
              clear B10
              go_wp2_with fail
              refine (works_any w10 (HM.out.1.kept HBX.out) (tab_below HM.out.2 HBX.out)).mono ?_
              rintro e wz ⟨rfl, BZ⟩
              have HZ := Lib.hid ((HBX.out : Below w.heap.size w w10).trans (BZ.mono (HBX.out : Below w.heap.size w w10).size))
              clear BZ
              go_wp2
              go_ret
              exact ⟨rfl, HZ.out⟩
          · -- the part's row first
            refine wp_gives (v := .slice (some ⟨w5.drew.heap.size, 0, none⟩) 1 1) (w' := w5.drew.alloc (.cells #[.int .u8 7, .string (bs ip), .slice ia il ic, .int .i64 iv, .bool is_, .bool ie, .slice pa pn pc] 26)) (by go_simp <;> first | rfl | exact ⟨rfl, rfl⟩) ?_
            have u1 : Below w5.heap.size w5 (w5.drew.alloc (.cells #[.int .u8 7, .string (bs ip), .slice ia il ic, .int .i64 iv, .bool is_, .bool ie, .slice pa pn pc] 26)) := belowA (Below.refl _ w5).drew _
            have gi1 : (w5.drew.alloc (.cells #[.int .u8 7, .string (bs ip), .slice ia il ic, .int .i64 iv, .bool is_, .bool ie, .slice pa pn pc] 26)).heap[w5.drew.heap.size]? = some (.cells #[.int .u8 7, .string (bs ip), .slice ia il ic, .int .i64 iv, .bool is_, .bool ie, .slice pa pn pc] 26 (0, 0)) := heap_alloc_new _ _
            refine ⟨HSB.out _ u1, ?_⟩
            try dsimp only
            simp only [Act.put, List.setIfInBounds_toArray, List.set_cons_zero, List.set_cons_succ]
            refine ran_in 0 rfl (by kernel_rfl) (by rfl) ?_
            refine wp_gives (v := .slice (some ⟨(w5.drew.alloc (.cells #[.int .u8 7, .string (bs ip), .slice ia il ic, .int .i64 iv, .bool is_, .bool ie, .slice pa pn pc] 26)).heap.size, 0, none⟩) 0 0) (w' := (w5.drew.alloc (.cells #[.int .u8 7, .string (bs ip), .slice ia il ic, .int .i64 iv, .bool is_, .bool ie, .slice pa pn pc] 26)).alloc (.cells #[] 26)) (by go_simp <;> first | rfl | exact ⟨rfl, rfl⟩) ?_
            have u2 : Below w5.heap.size w5 ((w5.drew.alloc (.cells #[.int .u8 7, .string (bs ip), .slice ia il ic, .int .i64 iv, .bool is_, .bool ie, .slice pa pn pc] 26)).alloc (.cells #[] 26)) := belowA u1 _
            have o2 : ((w5.drew.alloc (.cells #[.int .u8 7, .string (bs ip), .slice ia il ic, .int .i64 iv, .bool is_, .bool ie, .slice pa pn pc] 26)).alloc (.cells #[] 26)).ownsRow w5.heap.size 26 7 (.slice (some ⟨(w5.drew.alloc (.cells #[.int .u8 7, .string (bs ip), .slice ia il ic, .int .i64 iv, .bool is_, .bool ie, .slice pa pn pc] 26)).heap.size, 0, none⟩) 0 0) 0 [] := own_empty' _ u1.size
            have gi2 : ((w5.drew.alloc (.cells #[.int .u8 7, .string (bs ip), .slice ia il ic, .int .i64 iv, .bool is_, .bool ie, .slice pa pn pc] 26)).alloc (.cells #[] 26)).heap[w5.heap.size]? = some (.cells #[.int .u8 7, .string (bs ip), .slice ia il ic, .int .i64 iv, .bool is_, .bool ie, .slice pa pn pc] 26 (0, 0)) := (heap_alloc_old _ _ (lt_of_block gi1)).trans gi1
            have gn2 : w5.heap.size < (w5.drew.alloc (.cells #[.int .u8 7, .string (bs ip), .slice ia il ic, .int .i64 iv, .bool is_, .bool ie, .slice pa pn pc] 26)).heap.size := lt_of_block gi1
            refine ⟨HSB.out _ u2, ?_⟩
            obtain ⟨gi, hgie⟩ : ∃ gi, gi = w5.heap.size := ⟨_, rfl⟩
            change wpAnyH _ _ _ _ _ _ _ _ _
            try dsimp only
            simp only [Act.put, List.setIfInBounds_toArray, List.set_cons_zero, List.set_cons_succ]
            refine ran_in 4 rfl (by kernel_rfl) (by rfl) ?_
            refine wp_append_any (.tmp 102) (.tmp 105) 24 rfl w5.heap.size 26 i0 (.agg #[.int .u8 0, .string ⟨#[]⟩, .slice none 0 0, .int .i64 0, .bool false, .bool false, .slice none 0 0]) 7 88 Tryz.underlying24 HF.out.1 HF.out.2.1 HF.out.2.2.1 HF.out.2.2.2 rfl (by decide) _ 0 [] rfl o2 x1 kk c1 (flatO (Qo.take kk)) rfl HL.out.1 HTL.out (fun ad h => HL.out.2.1 ad h _ u2) (flatO_plain _) (by unfold maxLen; omega) (by omega) u2.size ?_
            intro v6 w6 own6 grow6 wh6
            rw [Nat.zero_add, List.nil_append] at own6
            have hb6' : Below w5.heap.size w5 w6 := u2.grown grow6 u2.size (fun g' hg' => by cases hg'; exact u1.size)
            refine ⟨HSB.out _ hb6', ?_⟩
            obtain ⟨a6, c6, hv6⟩ := row_form own6
            subst hv6
            try dsimp only
            simp only [Act.put, List.setIfInBounds_toArray, List.set_cons_zero, List.set_cons_succ]
            have hgi := (grow6.block w5.heap.size (lt_of_block gi2) (fun e => absurd (Option.some.inj e) (Nat.ne_of_lt gn2))).trans gi2
            have hb6 := hb6'
            have hgb := Nat.le_refl w5.heap.size
            clear hgie hb6' grow6 wh6 u1 u2 o2 gi2 gi1
            refine ran_in 7 rfl (by kernel_rfl) (by rfl) ?_
            refine wp_append_any (.tmp 106) (.tmp 108) 24 rfl w5.heap.size 26 i0 (.agg #[.int .u8 0, .string ⟨#[]⟩, .slice none 0 0, .int .i64 0, .bool false, .bool false, .slice none 0 0]) 7 88 Tryz.underlying24 HF.out.1 HF.out.2.1 HF.out.2.2.1 HF.out.2.2.2 rfl (by decide) (.slice a6 kk c6) kk (flatO (Qo.take kk)) rfl own6 (some ⟨w5.heap.size, 0, none⟩) 1 1 [.int .u8 7, .string (bs ip), .slice ia il ic, .int .i64 iv, .bool is_, .bool ie, .slice pa pn pc] rfl (fun h => by cases h) rfl (fun ad h j u hu => by cases h; have := range_blk hgi j u hu; rw [Nat.zero_add] at this; rw [Addr.add_lit, Nat.zero_add]; exact this) HPI.out (by unfold maxLen; omega) (by omega) hb6.size ?_
            intro v7 w7 own7 grow7 wh7
            have hb7 : Below w5.heap.size w5 w7 := hb6.grown grow7 hb6.size (fun g' hg' => (own6.lt g' hg').1)
            refine ⟨HSB.out _ hb7, ?_⟩
            obtain ⟨a7, c7, hv7⟩ := row_form own7
            subst hv7
            try dsimp only
            simp only [Act.put, List.setIfInBounds_toArray, List.set_cons_zero, List.set_cons_succ]
            refine ran_in 11 rfl (by kernel_rfl) (by rfl) ?_
            refine wp_append_any (.tmp 109) (.tmp 112) 24 rfl w5.heap.size 26 i0 (.agg #[.int .u8 0, .string ⟨#[]⟩, .slice none 0 0, .int .i64 0, .bool false, .bool false, .slice none 0 0]) 7 88 Tryz.underlying24 HF.out.1 HF.out.2.1 HF.out.2.2.1 HF.out.2.2.2 rfl (by decide) (.slice a7 (kk + 1) c7) (kk + 1) (flatO (Qo.take kk) ++ [.int .u8 7, .string (bs ip), .slice ia il ic, .int .i64 iv, .bool is_, .bool ie, .slice pa pn pc]) rfl own7 x2 (qn - kk) c2 (flatO (Qo.drop kk)) rfl HL.out.2.2.2.2.1 HL.out.2.2.2.2.2.2 (fun ad h => HL.out.2.2.2.2.2.1 ad h w7 hb7) (flatO_plain _) (by unfold maxLen; omega) (by omega) hb7.size ?_
            intro v8 w8 own8 grow8 wh8
            have hb8 : Below w5.heap.size w5 w8 := hb7.grown grow8 hb7.size (fun g' hg' => (own7.lt g' hg').1)
            refine ⟨HSB.out _ hb8, ?_⟩
            obtain ⟨na, nc, hv8⟩ := row_form own8
            subst hv8
            try dsimp only
            simp only [Act.put, List.setIfInBounds_toArray, List.set_cons_zero, List.set_cons_succ]
            have hS8 := HSB.out _ hb8
            refine took_in 12 rfl (by kernel_rfl) (by kernel_rfl) (by kernel_rfl) (by rfl) hS8 (fun w' hS' => by go_simp <;> rfl) (fun _ _ _ h => h) ?_
            simp only [Act.put, List.setIfInBounds_toArray, List.set_cons_zero, List.set_cons_succ]
            have k80 := (hb8.block w.heap.size (by have := HBL.out; omega)).trans HK0.out
            have q6 : w8.cell? ⟨w.heap.size, 6, none⟩ = some (.slice qa qn qc) := cell_of_row _ _ 6 _ 26 (0, 0) k80
            have f6 : w8.frozen? ⟨w.heap.size, 6, none⟩ = false := by simp [World.frozen?, k80]
            obtain ⟨w9, hw9⟩ : ∃ w9, w9 = w8.setCell ⟨w.heap.size, 6, none⟩ (.slice na (kk + 1 + (qn - kk)) nc) := ⟨_, rfl⟩
            have K9 : Kept (· = w.heap.size) w8 w9 := by rw [hw9]; exact Kept.setCell (S := (· = w.heap.size)) (p := ⟨w.heap.size, 6, none⟩) (Kept.refl _ w8) rfl _
            have k90 : w9.heap[w.heap.size]? = some (.cells #[.int .u8 7, .string (bs op), .slice oa on oc, .int .i64 ov, .bool os, .bool oe, .slice na (kk + 1 + (qn - kk)) nc] 26 (0, 0)) := by rw [hw9]; simp [World.setCell, Array.getElem?_modify, k80]
            have hS9 : World.rangeAt w9 (w.heap.size + 1) 0 [.int .u8 7, .string (bs ip), .slice ia il ic, .int .i64 iv, .bool is_, .bool ie, .slice pa pn pc] := fun j u hu => (K9.cell (p := ⟨w.heap.size + 1, 0 + j, none⟩) (by have := HBL.out; have := hb8.size; show w.heap.size + 1 < w8.heap.size; omega) (fun e => by have e : w.heap.size + 1 = w.heap.size := e; omega)).trans (HSB.out _ hb8 j u hu)
            have b9 : Below w.heap.size w w9 := (HBW.out.trans (hb8.mono HBW.out.size)).trans (K9.below (HBW.out.trans (hb8.mono HBW.out.size)).size (fun j e => by have e : j = w.heap.size := e; omega))
            refine do_in 13 rfl (by kernel_rfl) (by rfl) w9 (by rw [hw9]; go_simp <;> first | rfl | exact ⟨rfl, rfl⟩) hS9 ?_
            simp only [Act.put, List.setIfInBounds_toArray, List.set_cons_zero, List.set_cons_succ]
            refine wpAnyH_done (by kernel_rfl) ?_ _
            have own9 : w9.ownsRow w5.heap.size 26 7 (.slice na (kk + 1 + (qn - kk)) nc) (kk + 1 + (qn - kk)) (flatO (Qo.take kk ++ [(⟨7, ip, ia, il, ic, iv, is_, ie, pa, pn, pc⟩ : RawO)] ++ Qo.drop kk)) := by
              have h := own_kept own8 K9 (fun g' hg' e => by have e : g' = w.heap.size := e; have := (own8.lt g' hg').1; have := HBL.out; omega)
              have e : flatO (Qo.take kk ++ [(⟨7, ip, ia, il, ic, iv, is_, ie, pa, pn, pc⟩ : RawO)] ++ Qo.drop kk) = flatO (Qo.take kk) ++ [.int .u8 7, .string (bs ip), .slice ia il ic, .int .i64 iv, .bool is_, .bool ie, .slice pa pn pc] ++ flatO (Qo.drop kk) := by
                rw [flatO_append, flatO_append]
                rfl
              rw [e]
              exact h
            have hlen : (kk + 1 + (qn - kk)) = (Qo.take kk ++ [(⟨7, ip, ia, il, ic, iv, is_, ie, pa, pn, pc⟩ : RawO)] ++ Qo.drop kk).length := by
              have := HO.out.2
              simp only [List.length_append, List.length_take, List.length_drop, List.length_cons, List.length_nil]
              omega
            obtain ⟨na', nc', e9, hat⟩ := row_opAt (D := n1 + n2) own9 hlen b9 (fun r hr => by
              rcases List.mem_append.1 hr with hr | hr
              · rcases List.mem_append.1 hr with hr | hr
                · exact HAL.out r (List.mem_of_mem_take hr)
                · have hr : r = (⟨7, ip, ia, il, ic, iv, is_, ie, pa, pn, pc⟩ : RawO) := by simpa using hr
                  rw [hr]
                  exact ⟨HIL.out, Qi, HI.out.2, HOQ.out.2.mono (Nat.le_add_left _ _)⟩
              · exact HAL.out r (List.mem_of_mem_drop hr))
            cases e9
            have hck := check_any (n1 + n2 + 1) w9 ⟨7, op, oa, on, oc, ov, os, oe, na, (kk + 1 + (qn - kk)), nc⟩ ((Qo.take kk ++ [(⟨7, ip, ia, il, ic, iv, is_, ie, pa, pn, pc⟩ : RawO)] ++ Qo.drop kk).map RawO.info) (by rw [List.length_map]; exact hlen) hat HON.out
            rw [checkE_bad (List.any_eq_true.2 ⟨RawO.info (⟨7, ip, ia, il, ic, iv, is_, ie, pa, pn, pc⟩ : RawO), List.mem_map_of_mem (by simp), by simp [RawO.info, PartI.bad]⟩)] at hck
            unfold RawO.val RawO.cells at hck
            dsimp only at hck
            have HCK := Lib.hid hck
            have HR9 := Lib.hid (range_blk k90)
            have HB9 := Lib.hid b9
            clear hck hat hlen own9 own8 own7 own6 grow8 grow7 wh8 wh7 hb8 hb7 hb6 hgi k80 q6 f6 K9 k90 hS9 b9 hw9 hS
            go_wp2_with (refine wpList_load_mid rfl 26 (.tmp 3) rfl w.heap.size 0 rfl [.int .u8 7, .string (bs op), .slice oa on oc, .int .i64 ov, .bool os, .bool oe, .slice na (kk + 1 + (qn - kk)) nc] _ HR9.out Tryz.underlying26 rfl HSO.out ?_)
            refine HCK.out.mono ?_
            rintro e w10 ⟨rfl, B10⟩
            have HBX := Lib.hid (HB9.out.trans (B10.mono HB9.out.size))
            clear B10
            go_wp2_with fail
            refine (works_any w10 (HM.out.1.kept HBX.out) (tab_below HM.out.2 HBX.out)).mono ?_
            rintro e wz ⟨rfl, BZ⟩
            have HZ := Lib.hid ((HBX.out : Below w.heap.size w w10).trans (BZ.mono (HBX.out : Below w.heap.size w w10).size))
            clear BZ
            go_wp2
            go_ret
            exact ⟨rfl, HZ.out⟩
end Go.Proofs.YtnclkfhdpkkakaaGreatDoor

namespace Go.Proofs.YtnclkfhdpkkakaaGreatDoor
set_option linter.unusedVariables false
set_option linter.unusedSimpArgs false
open Go Go.RowKit Go.ChangeShapes Go.WideShapes Go.Deep
set_option maxRecDepth 100000 in
theorem opNest_law {H : Type} (enc : TypeId × Value → H) (W : World)
    (v0 : Value) (d0 : DataW H) (p0 : List MemPlace) (h0 : DataW.Trod enc Tryz.prog W 0 (fun _ => true) true 26 v0 d0 p0) (o0 : ∃ b, Value.okWide Tryz.prog W .any b 26 v0)
    (v1 : Value) (d1 : DataW H) (p1 : List MemPlace) (h1 : DataW.Trod enc Tryz.prog W 0 (fun _ => true) true 26 v1 d1 p1) (o1 : ∃ b, Value.okWide Tryz.prog W .any b 26 v1)
    (v2 : Value) (d2 : DataW H) (p2 : List MemPlace) (h2 : DataW.Trod enc Tryz.prog W 0 (fun _ => true) true 5 v2 d2 p2) (o2 : ∃ b, Value.okWide Tryz.prog W .any b 5 v2) (hm : MaxInt W) (PT : PowTab W) :
    Calls Tryz.prog 10 #[v0, v1, v2] W fun e W' => e = .returned (.bool true) ∧ Below W.heap.size W W' := by
  obtain ⟨b0, o0⟩ := o0
  obtain ⟨b1, o1⟩ := o1
  obtain ⟨b2, o2⟩ := o2
  obtain ⟨cs0, rfl, _⟩ := okWide_struct Tryz.underlying26 o0
  obtain ⟨cs1, rfl, _⟩ := okWide_struct Tryz.underlying26 o1
  obtain ⟨x2, rfl, rfl, rfl, w2⟩ := open_int Tryz.underlying5 o2 h2
  have b2 := bd_u8 w2
  obtain ⟨f0, h0⟩ := h0
  obtain ⟨f1, h1⟩ := h1
  obtain ⟨ro, oo, Qo, e0, k0, n0, a0⟩ := op_open f0 h0
  obtain ⟨ri, oi, Qi, e1, k1, n1, a1⟩ := op_open f1 h1
  have e0 : cs0 = ro.cells.toArray := by
    have e2 : cs0.toList = ro.cells := by simpa [Value.cells] using e0
    rw [← e2]
  have e1 : cs1 = ri.cells.toArray := by
    have e2 : cs1.toList = ri.cells := by simpa [Value.cells] using e1
    rw [← e2]
  subst e0 e1
  exact opNest_core W hm PT ro Qo f0 n0 a0 k0.pn k0.dn ri Qi f1 n1 a1 k1.pn k1.dn x2 b2.1 b2.2
end Go.Proofs.YtnclkfhdpkkakaaGreatDoor
