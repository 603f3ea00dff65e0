/-
  OpFits, walked.
  OpFits: over whatever arguments can be read.
-/
import Derived.Test.YtnclkfhdpkkakaaGreatDoorJOpFitP
import Derived.Test.YtnclkfhdpkkakaaGreatDoorShaped
import Derived.ProofKit
namespace Go.Proofs.YtnclkfhdpkkakaaGreatDoor
set_option linter.unusedVariables false
set_option linter.unusedSimpArgs false
open Go Go.RowKit Go.Shelf Go.MapKept Go.ChangeMaps Go.Maps Go.Sort
theorem asks_one {w : World} {g : Nat} {x : AskRaw} (hg : w.heap[g]? = some (.cells x.cells.toArray 31 (0, 0))) (hx : AskOk w x) : AsksAt w (some ⟨g, 0, none⟩) [x] := fun k y hy => by
  have hk : k = 0 := by have := (List.getElem?_eq_some_iff.1 hy).1; simp at this; exact this
  subst hk
  simp at hy
  subst hy
  exact ⟨g, 0, rfl, lt_of_block hg, by rw [Nat.zero_mul]; exact range_blk hg, hx⟩
theorem greatL_one {x : AskRaw} (h : greatL [x] = false) : askGreat x = false := (great_not h).2 x (by simp)
set_option maxRecDepth 100000 in
set_option maxHeartbeats 64000000 in
theorem opFits_core (w : World) (hm : MaxInt w) (PT : PowTab w) (a : Option Addr) (c : Nat) (L : List AskRaw) (hat : AsksAt w a L) (hl : L.length ≤ maxLen) (y : AskRaw) (hy : AskOk w y) :
    Calls Tryz.prog 3 #[.slice a L.length c, .agg y.cells.toArray] w fun e w' => e = .returned (.bool true) ∧ Below w.heap.size w w' := by
  obtain ⟨⟨ok, op, oa, on, oc, ov, os, oe, qa, qn, qc⟩, xo, xQ, xps, ⟨s, sn⟩⟩ := y
  obtain ⟨n, hn⟩ : ∃ n, n = L.length := ⟨_, rfl⟩
  rw [← hn]
  unfold AskRaw.cells
  dsimp only
  obtain ⟨w1, hw1⟩ : ∃ w1, w1 = w.alloc (.cells #[.int .u8 ok, .string (bs op), .slice oa on oc, .int .i64 ov, .bool os, .bool oe, .slice qa qn qc, .int .i64 s, .int .u32 sn] 31) := ⟨_, rfl⟩
  have B1 : Below w.heap.size w w1 := by rw [hw1]; exact belowA (Below.refl _ w) _
  have k1 : w1.heap[w.heap.size]? = some (.cells #[.int .u8 ok, .string (bs op), .slice oa on oc, .int .i64 ov, .bool os, .bool oe, .slice qa qn qc, .int .i64 s, .int .u32 sn] 31 (0, 0)) := by rw [hw1]; exact heap_alloc_new w _
  have hs1 : w1.heap.size = w.heap.size + 1 := by rw [hw1]; simp
  have hgr := asks_great w1 a c L (hat.below B1) hl
  rw [← hn] at hgr
  have HSO : Hid ((Tryz.prog.info? 26).map (·.size) = some 7) := Lib.hid (by kernel_rfl)
  have HSS : Hid ((Tryz.prog.info? 29).map (·.size) = some 2) := Lib.hid (by kernel_rfl)
  have HSA : Hid ((Tryz.prog.info? 31).map (·.size) = some 9) := Lib.hid (by kernel_rfl)
  have HSR : Hid ((Tryz.prog.info? 43).map (·.size) = some 13) := Lib.hid infoReply13
  have HSZ : Hid ((Tryz.prog.info? 39).map (·.size) = some 9) := Lib.hid (by kernel_rfl)
  have HGR := Lib.hid hgr
  have HM := Lib.hid (And.intro hm (And.intro PT (And.intro hat (And.intro hy hn))))
  have H1 := Lib.hid (And.intro B1 (And.intro k1 (And.intro hs1 hw1)))
  clear hgr hm PT hat hy hn B1 k1 hs1 hw1 hl
  obtain ⟨gl, hgl⟩ : ∃ gl, gl = greatL L := ⟨_, rfl⟩
  rw [← hgl] at HGR
  have HGL := Lib.hid hgl
  clear hgl
  go_enter Tryz.func3, Tryz.ntmps3
  go_upto_region 1 with fail
  rw [← H1.out.2.2.2]
  go_wp2_with fail
  refine HGR.out.mono ?_
  rintro e w2 ⟨rfl, B2⟩
  have HB2 := Lib.hid (And.intro (H1.out.1.trans (B2.mono H1.out.1.size)) B2)
  have k2 := (B2.block w.heap.size (by have := H1.out.2.2.1; omega)).trans H1.out.2.1
  have HR2 := Lib.hid (range_blk k2)
  have HK2 := Lib.hid k2
  have e2_0 : w2.cell? ⟨w.heap.size, 0, none⟩ = some (.int .u8 ok) := cell_of_row _ _ 0 _ 31 (0, 0) k2
  have e2_1 : w2.cell? ⟨w.heap.size, 1, none⟩ = some (.string (bs op)) := cell_of_row _ _ 1 _ 31 (0, 0) k2
  have e2_2 : w2.cell? ⟨w.heap.size, 2, none⟩ = some (.slice oa on oc) := cell_of_row _ _ 2 _ 31 (0, 0) k2
  have e2_3 : w2.cell? ⟨w.heap.size, 3, none⟩ = some (.int .i64 ov) := cell_of_row _ _ 3 _ 31 (0, 0) k2
  have e2_4 : w2.cell? ⟨w.heap.size, 4, none⟩ = some (.bool os) := cell_of_row _ _ 4 _ 31 (0, 0) k2
  have e2_5 : w2.cell? ⟨w.heap.size, 5, none⟩ = some (.bool oe) := cell_of_row _ _ 5 _ 31 (0, 0) k2
  have e2_6 : w2.cell? ⟨w.heap.size, 6, none⟩ = some (.slice qa qn qc) := cell_of_row _ _ 6 _ 31 (0, 0) k2
  have e2_7 : w2.cell? ⟨w.heap.size, 7, none⟩ = some (.int .i64 s) := cell_of_row _ _ 7 _ 31 (0, 0) k2
  have e2_8 : w2.cell? ⟨w.heap.size, 8, none⟩ = some (.int .u32 sn) := cell_of_row _ _ 8 _ 31 (0, 0) k2
  clear B2 k2
  cases gl
  rotate_left
  · go_wp2
    go_ret
    exact ⟨rfl, HB2.out.1⟩
  obtain ⟨w3, hw3⟩ : ∃ w3, w3 = w2.alloc (.cells #[.int .u8 ok, .string (bs op), .slice oa on oc, .int .i64 ov, .bool os, .bool oe, .slice qa qn qc, .int .i64 s, .int .u32 sn] 31) := ⟨_, rfl⟩
  have B3 : Below w2.heap.size w2 w3 := by rw [hw3]; exact belowA (Below.refl _ w2) _
  have k3 : w3.heap[w2.heap.size]? = some (.cells #[.int .u8 ok, .string (bs op), .slice oa on oc, .int .i64 ov, .bool os, .bool oe, .slice qa qn qc, .int .i64 s, .int .u32 sn] 31 (0, 0)) := by rw [hw3]; exact heap_alloc_new w2 _
  have hb3 : Below w.heap.size w w3 := HB2.out.1.trans (B3.mono HB2.out.1.size)
  have hgr := asks_great w3 (some ⟨w2.heap.size, 0, none⟩) 1 [(⟨⟨ok, op, oa, on, oc, ov, os, oe, qa, qn, qc⟩, xo, xQ, xps, ⟨s, sn⟩⟩ : AskRaw)] (asks_one k3 (HM.out.2.2.2.1.below hb3)) (show 1 ≤ maxLen by unfold maxLen; decide)
  obtain ⟨gx, hgx⟩ : ∃ gx, gx = greatL [(⟨⟨ok, op, oa, on, oc, ov, os, oe, qa, qn, qc⟩, xo, xQ, xps, ⟨s, sn⟩⟩ : AskRaw)] := ⟨_, rfl⟩
  rw [← hgx] at hgr
  have HGX := Lib.hid hgx
  have HGR2 := Lib.hid hgr
  have H3 := Lib.hid (And.intro hb3 (And.intro B3 hw3))
  clear hgr hgx hb3 B3 k3 hw3
  go_wp2_with fail
  rw [← H3.out.2.2]
  clear e2_0 e2_1 e2_2 e2_3 e2_4 e2_5 e2_6 e2_7 e2_8
  refine HGR2.out.mono ?_
  rintro e w4 ⟨rfl, B4⟩
  have HB4 := Lib.hid (And.intro (H3.out.1.trans (B4.mono H3.out.1.size)) (H3.out.2.1.trans (B4.mono H3.out.2.1.size)))
  clear B4
  cases gx
  rotate_left
  · go_wp2
    go_ret
    exact ⟨rfl, HB4.out.1⟩
  have hgw := grown_any w4 (HM.out.1.kept HB4.out.1) (tab_below HM.out.2.1 HB4.out.1) a c L (HM.out.2.2.1.below HB4.out.1) HGL.out.symm
  rw [← HM.out.2.2.2.2] at hgw
  have HGW := Lib.hid hgw
  clear hgw
  go_wp2_with fail
  refine HGW.out.mono ?_
  rintro e w5 ⟨b, rfl, hb4, S5, hat5, B5⟩
  generalize (grownS L).1 = at_ at S5 hat5
  generalize (grownS L).2 = M at S5
  have hb5 : Below w.heap.size w w5 := HB4.out.1.trans (B5.mono HB4.out.1.size)
  have hin := (HM.out.2.2.2.1.below hb5).opIn (greatL_one HGX.out.symm)
  have hdo := S5.do_op (Int.le_trans hat5 (by decide)) hin ⟨s, sn⟩
  unfold RawO.val RawO.cells whoV at hdo
  dsimp only at hdo
  have k5 := ((B5.block w.heap.size (by have := HB4.out.2.size; have := HB2.out.2.size; have := H1.out.2.2.1; omega)).trans ((HB4.out.2.block w.heap.size (by have := HB2.out.2.size; have := H1.out.2.2.1; omega)).trans HK2.out))
  have HDO := Lib.hid hdo
  have HIN := Lib.hid hin
  have H5 := Lib.hid (And.intro S5 (And.intro hb5 (And.intro hb4 k5)))
  have HAT := Lib.hid hat5
  have HR5 := Lib.hid (And.intro (show w5.rangeAt w.heap.size 0 [.int .u8 ok, .string (bs op), .slice oa on oc, .int .i64 ov, .bool os, .bool oe, .slice qa qn qc] from (ask_cells (x := (⟨⟨ok, op, oa, on, oc, ov, os, oe, qa, qn, qc⟩, xo, xQ, xps, ⟨s, sn⟩⟩ : AskRaw)) (range_blk k5)).1) (show w5.rangeAt w.heap.size 7 [.int .i64 s, .int .u32 sn] from by have := (ask_cells (x := (⟨⟨ok, op, oa, on, oc, ov, os, oe, qa, qn, qc⟩, xo, xQ, xps, ⟨s, sn⟩⟩ : AskRaw)) (range_blk k5)).2; rw [Nat.zero_add] at this; exact this))
  have HX := Lib.hid HM.out.2.2.2.1
  clear hdo hin S5 hb5 hb4 k5 B5 hat5
  go_wp2_with (first
    | (refine wpList_load_mid rfl 26 (.tmp 24) rfl w.heap.size 0 rfl [.int .u8 ok, .string (bs op), .slice oa on oc, .int .i64 ov, .bool os, .bool oe, .slice qa qn qc] _ HR5.out.1 Tryz.underlying26 rfl HSO.out ?_)
    | (refine wpList_load_mid rfl 29 (.tmp 26) rfl w.heap.size 7 rfl [.int .i64 s, .int .u32 sn] _ HR5.out.2 Tryz.underlying29 rfl HSS.out ?_))
  refine HDO.out.mono ?_
  rintro e w6 ⟨u1, u2, rfl, hEO, ⟨⟨ra, rn, rc, ⟨r1, r2, r3, r4, r5, r6, r7, r8⟩⟩, ka, kc, pa, pc, rfl, hrd, hkd, hpd⟩, B6⟩
  obtain ⟨xa, xc, XL, rfl, hxA, hxL⟩ := hEO
  obtain ⟨x, hx⟩ : ∃ x, x = doE pR M at_ ⟨s, sn⟩ (⟨⟨ok, op, oa, on, oc, ov, os, oe, qa, qn, qc⟩, xo, xQ, xps, ⟨s, sn⟩⟩ : AskRaw).ce (⟨⟨ok, op, oa, on, oc, ov, os, oe, qa, qn, qc⟩, xo, xQ, xps, ⟨s, sn⟩⟩ : AskRaw).v := ⟨_, rfl⟩
  obtain ⟨px, hpx⟩ : ∃ px, px = (doA pR M at_ ⟨s, sn⟩ (⟨⟨ok, op, oa, on, oc, ov, os, oe, qa, qn, qc⟩, xo, xQ, xps, ⟨s, sn⟩⟩ : AskRaw).ce (⟨⟨ok, op, oa, on, oc, ov, os, oe, qa, qn, qc⟩, xo, xQ, xps, ⟨s, sn⟩⟩ : AskRaw).v).path := ⟨_, rfl⟩
  obtain ⟨kn, hkn⟩ : ∃ kn, kn = (doA pR M at_ ⟨s, sn⟩ (⟨⟨ok, op, oa, on, oc, ov, os, oe, qa, qn, qc⟩, xo, xQ, xps, ⟨s, sn⟩⟩ : AskRaw).ce (⟨⟨ok, op, oa, on, oc, ov, os, oe, qa, qn, qc⟩, xo, xQ, xps, ⟨s, sn⟩⟩ : AskRaw).v).kids.length := ⟨_, rfl⟩
  obtain ⟨pn, hpn⟩ : ∃ pn, pn = (doR pR M at_ ⟨s, sn⟩ (⟨⟨ok, op, oa, on, oc, ov, os, oe, qa, qn, qc⟩, xo, xQ, xps, ⟨s, sn⟩⟩ : AskRaw).ce (⟨⟨ok, op, oa, on, oc, ov, os, oe, qa, qn, qc⟩, xo, xQ, xps, ⟨s, sn⟩⟩ : AskRaw).v).length := ⟨_, rfl⟩
  obtain ⟨xn, hxnn⟩ : ∃ xn, xn = (doX pR M at_ ⟨s, sn⟩ (⟨⟨ok, op, oa, on, oc, ov, os, oe, qa, qn, qc⟩, xo, xQ, xps, ⟨s, sn⟩⟩ : AskRaw).ce (⟨⟨ok, op, oa, on, oc, ov, os, oe, qa, qn, qc⟩, xo, xQ, xps, ⟨s, sn⟩⟩ : AskRaw).v).length := ⟨_, rfl⟩
  have hrep : ReplyAt w6 (From w5.heap.size) (.agg ([.int .i64 x, .string (bs px), .slice ra rn rc, .int .u32 r1, .int .u32 r2, .int .u32 r3, .int .i64 r4, .int .u32 r5, .int .u64 r6, .int .u64 r7, .int .u64 r8, .slice ka kn kc, .slice pa pn pc] : List Value).toArray) (doE pR M at_ ⟨s, sn⟩ (⟨⟨ok, op, oa, on, oc, ov, os, oe, qa, qn, qc⟩, xo, xQ, xps, ⟨s, sn⟩⟩ : AskRaw).ce (⟨⟨ok, op, oa, on, oc, ov, os, oe, qa, qn, qc⟩, xo, xQ, xps, ⟨s, sn⟩⟩ : AskRaw).v) (doA pR M at_ ⟨s, sn⟩ (⟨⟨ok, op, oa, on, oc, ov, os, oe, qa, qn, qc⟩, xo, xQ, xps, ⟨s, sn⟩⟩ : AskRaw).ce (⟨⟨ok, op, oa, on, oc, ov, os, oe, qa, qn, qc⟩, xo, xQ, xps, ⟨s, sn⟩⟩ : AskRaw).v) (doR pR M at_ ⟨s, sn⟩ (⟨⟨ok, op, oa, on, oc, ov, os, oe, qa, qn, qc⟩, xo, xQ, xps, ⟨s, sn⟩⟩ : AskRaw).ce (⟨⟨ok, op, oa, on, oc, ov, os, oe, qa, qn, qc⟩, xo, xQ, xps, ⟨s, sn⟩⟩ : AskRaw).v) := ⟨⟨ra, rn, rc, ⟨r1, r2, r3, r4, r5, r6, r7, r8⟩⟩, ka, kc, pa, pc, by rw [← hx, ← hpx, ← hkn, ← hpn]; rfl, hrd, hkd, hpd⟩
  rw [← hx, ← hpx, ← hkn, ← hpn, ← hxnn]
  unfold repCells Raw.cells Nums.cells
  dsimp only [List.cons_append, List.nil_append]
  obtain ⟨w7, hw7⟩ : ∃ w7, w7 = w6.alloc (.cells #[.int .i64 x, .string (bs px), .slice ra rn rc, .int .u32 r1, .int .u32 r2, .int .u32 r3, .int .i64 r4, .int .u32 r5, .int .u64 r6, .int .u64 r7, .int .u64 r8, .slice ka kn kc, .slice pa pn pc] 43) := ⟨_, rfl⟩
  have B67 : Below w6.heap.size w6 w7 := by rw [hw7]; exact belowA (Below.refl _ w6) _
  have k7 : w7.heap[w6.heap.size]? = some (.cells #[.int .i64 x, .string (bs px), .slice ra rn rc, .int .u32 r1, .int .u32 r2, .int .u32 r3, .int .i64 r4, .int .u32 r5, .int .u64 r6, .int .u64 r7, .int .u64 r8, .slice ka kn kc, .slice pa pn pc] 43 (0, 0)) := by rw [hw7]; exact heap_alloc_new w6 _
  have B57 : Below w5.heap.size w5 w7 := B6.trans (B67.mono B6.size)
  have HS7 := Lib.hid (H5.out.1.below B57)
  have HB7 := Lib.hid (H5.out.2.1.trans (B57.mono H5.out.2.1.size))
  have HREP : Hid (ReplyAt w7 (From w5.heap.size) (.agg ([.int .i64 x, .string (bs px), .slice ra rn rc, .int .u32 r1, .int .u32 r2, .int .u32 r3, .int .i64 r4, .int .u32 r5, .int .u64 r6, .int .u64 r7, .int .u64 r8, .slice ka kn kc, .slice pa pn pc] : List Value).toArray) (doE pR M at_ ⟨s, sn⟩ (⟨⟨ok, op, oa, on, oc, ov, os, oe, qa, qn, qc⟩, xo, xQ, xps, ⟨s, sn⟩⟩ : AskRaw).ce (⟨⟨ok, op, oa, on, oc, ov, os, oe, qa, qn, qc⟩, xo, xQ, xps, ⟨s, sn⟩⟩ : AskRaw).v) (doA pR M at_ ⟨s, sn⟩ (⟨⟨ok, op, oa, on, oc, ov, os, oe, qa, qn, qc⟩, xo, xQ, xps, ⟨s, sn⟩⟩ : AskRaw).ce (⟨⟨ok, op, oa, on, oc, ov, os, oe, qa, qn, qc⟩, xo, xQ, xps, ⟨s, sn⟩⟩ : AskRaw).v) (doR pR M at_ ⟨s, sn⟩ (⟨⟨ok, op, oa, on, oc, ov, os, oe, qa, qn, qc⟩, xo, xQ, xps, ⟨s, sn⟩⟩ : AskRaw).ce (⟨⟨ok, op, oa, on, oc, ov, os, oe, qa, qn, qc⟩, xo, xQ, xps, ⟨s, sn⟩⟩ : AskRaw).v)) := Lib.hid (hrep.keptS (Kept.ofBelow (S := fun _ => False) B67) (fun _ _ _ h => h))
  have HEO : Hid (EffsOut w7 (.slice xa xn xc) (doX pR M at_ ⟨s, sn⟩ (⟨⟨ok, op, oa, on, oc, ov, os, oe, qa, qn, qc⟩, xo, xQ, xps, ⟨s, sn⟩⟩ : AskRaw).ce (⟨⟨ok, op, oa, on, oc, ov, os, oe, qa, qn, qc⟩, xo, xQ, xps, ⟨s, sn⟩⟩ : AskRaw).v)) := Lib.hid (EffsOut.below ⟨xa, xc, XL, by rw [hxnn], hxA, hxL⟩ B67)
  have HV := Lib.hid (And.intro hx (And.intro hpx (And.intro hkn (And.intro hpn hxnn))))
  have HBB : Hid (w.heap.size < b) := Lib.hid (by have := H5.out.2.2.1; have := HB4.out.2.size; have := HB2.out.2.size; have := H1.out.2.2.1; omega)
  have HK1 : Hid (w7.heap[w.heap.size]? = some (.cells #[.int .u8 ok, .string (bs op), .slice oa on oc, .int .i64 ov, .bool os, .bool oe, .slice qa qn qc, .int .i64 s, .int .u32 sn] 31 (0, 0)) ∧ w.heap.size < w5.heap.size) := Lib.hid ⟨(B57.block _ (lt_of_block H5.out.2.2.2)).trans H5.out.2.2.2, lt_of_block H5.out.2.2.2⟩
  have HK7 : Hid (w7.heap[w6.heap.size]? = some (.cells #[.int .i64 x, .string (bs px), .slice ra rn rc, .int .u32 r1, .int .u32 r2, .int .u32 r3, .int .i64 r4, .int .u32 r5, .int .u64 r6, .int .u64 r7, .int .u64 r8, .slice ka kn kc, .slice pa pn pc] 43 (0, 0)) ∧ b < w5.heap.size ∧ w5.heap.size ≤ w6.heap.size) := Lib.hid ⟨k7, H5.out.1.tr.lt, B6.size⟩
  have HW7 := Lib.hid hw7
  have HR7 := Lib.hid (range_blk k7)
  have z0 : w7.cell? ⟨w6.heap.size, 0, none⟩ = some (.int .i64 x) := cell_of_row _ _ 0 _ 43 (0, 0) k7
  have y0 : w7.cell? ⟨w.heap.size, 0, none⟩ = some (.int .u8 ok) := cell_of_row _ _ 0 _ 31 (0, 0) HK1.out.1
  have tw : ∀ _ : True, IntKind.u64.wrap (at_ + 1) = at_ + 1 := fun _ => by rw [IntKind.wrap_u64]; have := HAT.out; have := HS7.out.lo; omega
  clear hrd hkd hpd hx hpx hkn hpn hxnn hxA hxL hrep hw7 B67 k7 B57 B6
  go_upto_region 7 with fail
  rw [← HW7.out]
  by_cases hx0 : x = 0
  · have hE : doE pR M at_ ⟨s, sn⟩ (⟨⟨ok, op, oa, on, oc, ov, os, oe, qa, qn, qc⟩, xo, xQ, xps, ⟨s, sn⟩⟩ : AskRaw).ce (⟨⟨ok, op, oa, on, oc, ov, os, oe, qa, qn, qc⟩, xo, xQ, xps, ⟨s, sn⟩⟩ : AskRaw).v = 0 := by rw [← HV.out.1]; exact hx0
    have hce := doE_zero hE
    have hgood := HIN.out.good hce
    have hkd : ok = xo.kind := HX.out.ok.leaf.kind
    subst hx0
    by_cases h7 : ok = 7
    · have hk7 : xo.kind = 7 := by rw [← hkd]; exact h7
      have hlen : pn = qn := by
        rw [HV.out.2.2.2.1]
        have h1 : doR pR M at_ ⟨s, sn⟩ (⟨⟨ok, op, oa, on, oc, ov, os, oe, qa, qn, qc⟩, xo, xQ, xps, ⟨s, sn⟩⟩ : AskRaw).ce (⟨⟨ok, op, oa, on, oc, ov, os, oe, qa, qn, qc⟩, xo, xQ, xps, ⟨s, sn⟩⟩ : AskRaw).v = runR pR (at_ + 1) ⟨s, sn⟩ M xps := by unfold doR; rw [if_pos ⟨hce, hk7⟩]; rfl
        have hs : (⟨⟨ok, op, oa, on, oc, ov, os, oe, qa, qn, qc⟩, xo, xQ, xps, ⟨s, sn⟩⟩ : AskRaw).v.seq = xps := by unfold OpV.seq; exact if_pos hk7
        have h2 : runE pR (at_ + 1) ⟨s, sn⟩ M xps = 0 := by
          unfold doE at hE
          rw [if_neg (by simpa using hce), hs] at hE
          exact hE
        rw [h1, runR_len _ _ h2]
        exact HX.out.pl.trans HX.out.pn.symm
      have tl : ((pn : Int) == (qn : Int)) = true := by rw [hlen]; simp
      subst h7
      clear hE hce hgood hkd hk7 hlen
      by_cases hxn : xn = 0
      · have HNE : Hid (doX pR M at_ ⟨s, sn⟩ (⟨⟨7, op, oa, on, oc, ov, os, oe, qa, qn, qc⟩, xo, xQ, xps, ⟨s, sn⟩⟩ : AskRaw).ce (⟨⟨7, op, oa, on, oc, ov, os, oe, qa, qn, qc⟩, xo, xQ, xps, ⟨s, sn⟩⟩ : AskRaw).v = []) := Lib.hid (List.eq_nil_of_length_eq_zero (by rw [← HV.out.2.2.2.2]; exact hxn))
        have t1 : decide (0 < xn) = false := by simp; omega
        have t2 : decide ((0 : Int) < (xn : Int)) = false := by simp; omega
        obtain ⟨w8, hw8⟩ : ∃ w8, w8 = w7 := ⟨_, rfl⟩
        have S8 : St w4 w8 b pR at_ (doM pR M at_ ⟨s, sn⟩ (⟨⟨7, op, oa, on, oc, ov, os, oe, qa, qn, qc⟩, xo, xQ, xps, ⟨s, sn⟩⟩ : AskRaw).ce (⟨⟨7, op, oa, on, oc, ov, os, oe, qa, qn, qc⟩, xo, xQ, xps, ⟨s, sn⟩⟩ : AskRaw).v) := by rw [hw8, doM_same HS7.out.inv HNE.out]; exact HS7.out
        have K8 : Kept (· = b) w7 w8 := by rw [hw8]; exact Kept.refl _ _
        clear hxn
        go_wp2_with fail
        refine HS7.out.tr.at_any.mono ?_
        rintro e w7' ⟨rfl, rfl⟩
        go_wp2_with fail
        rw [← hw8]
        clear hw8
        have teq : ((at_ : Int) == at_ + 1) = false := by rw [beq_eq_false_iff_ne]; omega
        have HS8 := Lib.hid S8
        have hbb : Below w.heap.size w w8 := HB7.out.trans (K8.below HB7.out.size (fun j e => by have e : j = b := e; have := HBB.out; omega))
        have q1 := (K8.block w.heap.size (lt_of_block HK1.out.1) (fun e => by have e : w.heap.size = b := e; have := HBB.out; omega)).trans HK1.out.1
        have q7 := (K8.block w6.heap.size (lt_of_block HK7.out.1) (fun e => by have e : w6.heap.size = b := e; have := HK7.out.2; omega)).trans HK7.out.1
        have c0 : w8.cell? ⟨w.heap.size, 0, none⟩ = some (.int .u8 7) := cell_of_row _ _ 0 _ 31 (0, 0) q1
        have c1 : w8.cell? ⟨w.heap.size, 1, none⟩ = some (.string (bs op)) := cell_of_row _ _ 1 _ 31 (0, 0) q1
        have c6 : w8.cell? ⟨w.heap.size, 6, none⟩ = some (.slice qa qn qc) := cell_of_row _ _ 6 _ 31 (0, 0) q1
        have d1 : w8.cell? ⟨w6.heap.size, 1, none⟩ = some (.string (bs px)) := cell_of_row _ _ 1 _ 43 (0, 0) q7
        have d12 : w8.cell? ⟨w6.heap.size, 12, none⟩ = some (.slice pa pn pc) := cell_of_row _ _ 12 _ 43 (0, 0) q7
        have HB8 := Lib.hid hbb
        have HQ7 := Lib.hid q7
        have HRP8 : Hid (ReplyAt w8 (From w5.heap.size) _ _ _ _) := Lib.hid (HREP.out.keptS K8 (fun j h1 h2 e => by have e : j = b := e; have h1 : w5.heap.size ≤ j := h1; have := HK7.out.2; omega))
        clear hbb q1 q7 S8 K8
        go_wp2_with fail
        have S8 := HS8.out
        refine S8.tr.at_any.mono ?_
        rintro e w8' ⟨rfl, rfl⟩
        go_wp2_with fail
        refine (works_any _ S8.tr.max S8.pow).mono ?_
        rintro e wz ⟨rfl, BZ⟩
        have HZ := Lib.hid (HB8.out.trans (BZ.mono HB8.out.size))
        clear BZ
        go_wp2
        go_ret
        exact ⟨rfl, HZ.out⟩
      · have HNE : Hid (doX pR M at_ ⟨s, sn⟩ (⟨⟨7, op, oa, on, oc, ov, os, oe, qa, qn, qc⟩, xo, xQ, xps, ⟨s, sn⟩⟩ : AskRaw).ce (⟨⟨7, op, oa, on, oc, ov, os, oe, qa, qn, qc⟩, xo, xQ, xps, ⟨s, sn⟩⟩ : AskRaw).v ≠ []) := Lib.hid (fun e => hxn (by rw [HV.out.2.2.2.2, e]; rfl))
        have t1 : decide (0 < xn) = true := by simp; omega
        have t2 : decide ((0 : Int) < (xn : Int)) = true := by simp; omega
        have HAP := Lib.hid (HS7.out.apply_do (Int.le_trans HAT.out (by decide)) HIN.out HEO.out HNE.out)
        clear hxn
        go_wp2_with fail
        refine HS7.out.tr.at_any.mono ?_
        rintro e w7' ⟨rfl, rfl⟩
        go_wp2_with fail
        refine HAP.out.mono ?_
        rintro e w8 ⟨rfl, S8, K8⟩
        have teq : ((at_ + 1 : Int) == at_ + 1) = true := by simp
        have HS8 := Lib.hid S8
        have hbb : Below w.heap.size w w8 := HB7.out.trans (K8.below HB7.out.size (fun j e => by have e : j = b := e; have := HBB.out; omega))
        have q1 := (K8.block w.heap.size (lt_of_block HK1.out.1) (fun e => by have e : w.heap.size = b := e; have := HBB.out; omega)).trans HK1.out.1
        have q7 := (K8.block w6.heap.size (lt_of_block HK7.out.1) (fun e => by have e : w6.heap.size = b := e; have := HK7.out.2; omega)).trans HK7.out.1
        have c0 : w8.cell? ⟨w.heap.size, 0, none⟩ = some (.int .u8 7) := cell_of_row _ _ 0 _ 31 (0, 0) q1
        have c1 : w8.cell? ⟨w.heap.size, 1, none⟩ = some (.string (bs op)) := cell_of_row _ _ 1 _ 31 (0, 0) q1
        have c6 : w8.cell? ⟨w.heap.size, 6, none⟩ = some (.slice qa qn qc) := cell_of_row _ _ 6 _ 31 (0, 0) q1
        have d1 : w8.cell? ⟨w6.heap.size, 1, none⟩ = some (.string (bs px)) := cell_of_row _ _ 1 _ 43 (0, 0) q7
        have d12 : w8.cell? ⟨w6.heap.size, 12, none⟩ = some (.slice pa pn pc) := cell_of_row _ _ 12 _ 43 (0, 0) q7
        have HB8 := Lib.hid hbb
        have HQ7 := Lib.hid q7
        have HRP8 : Hid (ReplyAt w8 (From w5.heap.size) _ _ _ _) := Lib.hid (HREP.out.keptS K8 (fun j h1 h2 e => by have e : j = b := e; have h1 : w5.heap.size ≤ j := h1; have := HK7.out.2; omega))
        clear hbb q1 q7 S8 K8
        go_wp2_with fail
        have S8 := HS8.out
        refine S8.tr.at_any.mono ?_
        rintro e w8' ⟨rfl, rfl⟩
        go_wp2_with fail
        refine (works_any _ S8.tr.max S8.pow).mono ?_
        rintro e wz ⟨rfl, BZ⟩
        have HZ := Lib.hid (HB8.out.trans (BZ.mono HB8.out.size))
        clear BZ
        go_wp2
        go_ret
        exact ⟨rfl, HZ.out⟩
    · have hleafy : Leafy xo := by
        rcases hgood with h | h
        · exact h.2.2
        · exact absurd (hkd.trans h.1) h7
      rw [hce] at hE
      obtain ⟨l1, l2, l3, l4⟩ := leaf_all (v := (⟨⟨ok, op, oa, on, oc, ov, os, oe, qa, qn, qc⟩, xo, xQ, xps, ⟨s, sn⟩⟩ : AskRaw).v) HS7.out.inv (show xo.kind ≠ 7 by rw [← hkd]; exact h7) hE
      have l1 : opE pR M ⟨s, sn⟩ xo = 0 := l1
      have hwr := leaf_writes (at_ := at_ + 1) l1
      have hpx : px = (opA pR M (at_ + 1) ⟨s, sn⟩ xo).path := by rw [HV.out.2.1, hce, l2]; rfl
      have hxx : xn = (opXs pR M (at_ + 1) ⟨s, sn⟩ xo).length := by rw [HV.out.2.2.2.2, hce, l4]; rfl
      have hmm : doM pR M at_ ⟨s, sn⟩ (⟨⟨ok, op, oa, on, oc, ov, os, oe, qa, qn, qc⟩, xo, xQ, xps, ⟨s, sn⟩⟩ : AskRaw).ce (⟨⟨ok, op, oa, on, oc, ov, os, oe, qa, qn, qc⟩, xo, xQ, xps, ⟨s, sn⟩⟩ : AskRaw).v = opM pR M (at_ + 1) ⟨s, sn⟩ xo := by rw [hce, l3]; rfl
      have hta : (doA pR M at_ ⟨s, sn⟩ (⟨⟨ok, op, oa, on, oc, ov, os, oe, qa, qn, qc⟩, xo, xQ, xps, ⟨s, sn⟩⟩ : AskRaw).ce (⟨⟨ok, op, oa, on, oc, ov, os, oe, qa, qn, qc⟩, xo, xQ, xps, ⟨s, sn⟩⟩ : AskRaw).v).node = (opA pR M (at_ + 1) ⟨s, sn⟩ xo).node := by rw [hce, l2]; rfl
      have hcases : ok = 1 ∨ ok = 2 ∨ ok = 3 ∨ ok = 4 ∨ ok = 5 ∨ ok = 6 := by have := hleafy.1; have := hleafy.2.1; omega
      have hop : op = xo.path := HX.out.ok.leaf.path
      have HLL := Lib.hid (And.intro hleafy (And.intro l1 (And.intro hwr (And.intro hpx (And.intro hxx (And.intro hmm (And.intro hta (And.intro hop hkd))))))))
      clear hE hce hgood h7 hleafy l1 l2 l3 l4 hwr hpx hxx hmm hta hop hkd
      rcases hcases with rfl | rfl | rfl | rfl | rfl | rfl
      · have hw := HLL.out.2.2.1
        have hkd : (1 : Int) = xo.kind := HLL.out.2.2.2.2.2.2.2.2
        have hne : opXs pR M (at_ + 1) ⟨s, sn⟩ xo ≠ [] := hw.2 (by omega)
        have hxn : xn ≠ 0 := fun e => hne (List.eq_nil_of_length_eq_zero (by rw [← HLL.out.2.2.2.2.1]; exact e))
        have HNE : Hid (doX pR M at_ ⟨s, sn⟩ (⟨⟨1, op, oa, on, oc, ov, os, oe, qa, qn, qc⟩, xo, xQ, xps, ⟨s, sn⟩⟩ : AskRaw).ce (⟨⟨1, op, oa, on, oc, ov, os, oe, qa, qn, qc⟩, xo, xQ, xps, ⟨s, sn⟩⟩ : AskRaw).v ≠ []) := Lib.hid (fun e => hxn (by rw [HV.out.2.2.2.2, e]; rfl))
        clear hne
        have htl := leaf_told (at_ := at_ + 1) HLL.out.2.1 (by omega)
        rw [← HLL.out.2.2.2.2.2.1, ← HLL.out.2.2.2.1] at htl
        have HTL : Hid (getA px (doM pR M at_ ⟨s, sn⟩ (⟨⟨1, op, oa, on, oc, ov, os, oe, qa, qn, qc⟩, xo, xQ, xps, ⟨s, sn⟩⟩ : AskRaw).ce (⟨⟨1, op, oa, on, oc, ov, os, oe, qa, qn, qc⟩, xo, xQ, xps, ⟨s, sn⟩⟩ : AskRaw).v) = some (opA pR M (at_ + 1) ⟨s, sn⟩ xo).node ∧ underB px pR = true) := Lib.hid htl
        have HTA := Lib.hid HLL.out.2.2.2.2.2.2.1
        clear hw hkd htl
        have t1 : decide (0 < xn) = true := by simp; omega
        have t2 : decide ((0 : Int) < (xn : Int)) = true := by simp; omega
        have HAP := Lib.hid (HS7.out.apply_do (Int.le_trans HAT.out (by decide)) HIN.out HEO.out HNE.out)
        clear hxn
        go_wp2_with fail
        refine HS7.out.tr.at_any.mono ?_
        rintro e w7' ⟨rfl, rfl⟩
        go_wp2_with fail
        refine HAP.out.mono ?_
        rintro e w8 ⟨rfl, S8, K8⟩
        have teq : ((at_ + 1 : Int) == at_ + 1) = true := by simp
        have HS8 := Lib.hid S8
        have hbb : Below w.heap.size w w8 := HB7.out.trans (K8.below HB7.out.size (fun j e => by have e : j = b := e; have := HBB.out; omega))
        have q1 := (K8.block w.heap.size (lt_of_block HK1.out.1) (fun e => by have e : w.heap.size = b := e; have := HBB.out; omega)).trans HK1.out.1
        have q7 := (K8.block w6.heap.size (lt_of_block HK7.out.1) (fun e => by have e : w6.heap.size = b := e; have := HK7.out.2; omega)).trans HK7.out.1
        have c0 : w8.cell? ⟨w.heap.size, 0, none⟩ = some (.int .u8 1) := cell_of_row _ _ 0 _ 31 (0, 0) q1
        have c1 : w8.cell? ⟨w.heap.size, 1, none⟩ = some (.string (bs op)) := cell_of_row _ _ 1 _ 31 (0, 0) q1
        have c6 : w8.cell? ⟨w.heap.size, 6, none⟩ = some (.slice qa qn qc) := cell_of_row _ _ 6 _ 31 (0, 0) q1
        have d1 : w8.cell? ⟨w6.heap.size, 1, none⟩ = some (.string (bs px)) := cell_of_row _ _ 1 _ 43 (0, 0) q7
        have d12 : w8.cell? ⟨w6.heap.size, 12, none⟩ = some (.slice pa pn pc) := cell_of_row _ _ 12 _ 43 (0, 0) q7
        have HB8 := Lib.hid hbb
        have HQ7 := Lib.hid q7
        have HRP8 : Hid (ReplyAt w8 (From w5.heap.size) _ _ _ _) := Lib.hid (HREP.out.keptS K8 (fun j h1 h2 e => by have e : j = b := e; have h1 : w5.heap.size ≤ j := h1; have := HK7.out.2; omega))
        clear hbb q1 q7 S8 K8
        have HPL2 : Hid (px.length ≤ 1000) := Lib.hid (by
          have S8 := HS8.out
          have hm : px ∈ (doM pR M at_ ⟨s, sn⟩ (⟨⟨1, op, oa, on, oc, ov, os, oe, qa, qn, qc⟩, xo, xQ, xps, ⟨s, sn⟩⟩ : AskRaw).ce (⟨⟨1, op, oa, on, oc, ov, os, oe, qa, qn, qc⟩, xo, xQ, xps, ⟨s, sn⟩⟩ : AskRaw).v).map (·.1) := getA_some.1 (by rw [HTL.out.1]; rfl)
          obtain ⟨z, hz, e⟩ := List.mem_map.1 hm
          rw [← e]
          exact S8.tr.fit.path z hz)
        have HPL : Hid (px.length ≤ maxLen) := Lib.hid (by have := HPL2.out; unfold maxLen; omega)
        go_wp2_with fail
        have S8 := HS8.out
        refine S8.tr.at_any.mono ?_
        rintro e w8' ⟨rfl, rfl⟩
        go_wp2_with fail
        have hget := S8.tr.get px HPL.out
        have HGE := Lib.hid hget
        clear hget
        refine HGE.out.mono ?_
        rintro e w9 ⟨⟨ga, gn, gc, ⟨g1, g2, g3, g4, g5, g6, g7, g8⟩⟩, rfl, hgr, B9, _⟩
        unfold Raw.val Raw.cells Nums.cells
        dsimp only
        have hs : (getA px (doM pR M at_ ⟨s, sn⟩ (⟨⟨1, op, oa, on, oc, ov, os, oe, qa, qn, qc⟩, xo, xQ, xps, ⟨s, sn⟩⟩ : AskRaw).ce (⟨⟨1, op, oa, on, oc, ov, os, oe, qa, qn, qc⟩, xo, xQ, xps, ⟨s, sn⟩⟩ : AskRaw).v)).isSome = true := by rw [HTL.out.1]; rfl
        rw [hs]
        obtain ⟨w10, hw10⟩ : ∃ w10, w10 = w9.alloc (.cells #[.slice ga gn gc, .int .u32 g1, .int .u32 g2, .int .u32 g3, .int .i64 g4, .int .u32 g5, .int .u64 g6, .int .u64 g7, .int .u64 g8] 39) := ⟨_, rfl⟩
        have B910 : Below w9.heap.size w9 w10 := by rw [hw10]; exact belowA (Below.refl _ w9) _
        have B10 : Below w8.heap.size w8 w10 := B9.trans (B910.mono B9.size)
        have k10 : w10.heap[w9.heap.size]? = some (.cells #[.slice ga gn gc, .int .u32 g1, .int .u32 g2, .int .u32 g3, .int .i64 g4, .int .u32 g5, .int .u64 g6, .int .u64 g7, .int .u64 g8] 39 (0, 0)) := by rw [hw10]; exact heap_alloc_new w9 _
        have q10 := (B10.block w6.heap.size (lt_of_block HQ7.out)).trans HQ7.out
        have hrd : Reads w10 (From w8.heap.size) ⟨ga, gn, gc, ⟨g1, g2, g3, g4, g5, g6, g7, g8⟩⟩ (opA pR M (at_ + 1) ⟨s, sn⟩ xo).node := by
          have h := hgr.below B910
          rw [HTL.out.1] at h
          exact h
        obtain ⟨⟨ra', rn', rc', ⟨r1', r2', r3', r4', r5', r6', r7', r8'⟩⟩, ka', kc', pa', pc', he', hrr, _, _⟩ := HRP8.out
        unfold repCells Raw.cells Nums.cells at he'
        dsimp only [List.cons_append, List.nil_append] at he'
        have hrr2 : Reads w10 (From w5.heap.size) ⟨ra, rn, rc, ⟨r1, r2, r3, r4, r5, r6, r7, r8⟩⟩ (opA pR M (at_ + 1) ⟨s, sn⟩ xo).node := by
          simp only [Value.agg.injEq, List.toArray_inj, Array.mk.injEq, List.cons.injEq, Value.slice.injEq, Value.int.injEq, true_and, and_true] at he'
          obtain ⟨_, _, ⟨rfl, rfl, rfl⟩, rfl, rfl, rfl, rfl, rfl, rfl, rfl, rfl, _⟩ := he'
          rw [← HTA.out]
          exact hrr.below B10
        have hnd := refNode_same hrd hrr2
        unfold Raw.val Raw.cells Nums.cells at hnd
        dsimp only at hnd
        have n1 : w10.rangeAt w9.heap.size 0 [.slice ga gn gc, .int .u32 g1, .int .u32 g2, .int .u32 g3, .int .i64 g4, .int .u32 g5, .int .u64 g6, .int .u64 g7, .int .u64 g8] := range_blk k10
        have n2 : w10.rangeAt w6.heap.size 2 [.slice ra rn rc, .int .u32 r1, .int .u32 r2, .int .u32 r3, .int .i64 r4, .int .u32 r5, .int .u64 r6, .int .u64 r7, .int .u64 r8] := mid_range 2 (o := 0) (range_blk q10) (fun j v hv => by
          have hj := (List.getElem?_eq_some_iff.1 hv).1
          rw [← hv]
          rw [show 2 + j = j + 2 by omega]
          rw [List.getElem?_cons_succ, List.getElem?_cons_succ]
          exact (List.getElem?_append_left (l₂ := [.slice ka kn kc, .slice pa pn pc]) hj))
        have HND := Lib.hid hnd
        have HN := Lib.hid (And.intro n1 n2)
        have HW10 := Lib.hid hw10
        have HS10 := Lib.hid (S8.below B10)
        have HB10 := Lib.hid (HB8.out.trans (B10.mono HB8.out.size))
        have c0' : w10.cell? ⟨w.heap.size, 0, none⟩ = some (.int .u8 1) := (B10.cell (p := ⟨w.heap.size, 0, none⟩) (World.block_lt_of_cell? _ _ c0)).trans c0
        have d1' := (B10.cell (p := ⟨w6.heap.size, 1, none⟩) (World.block_lt_of_cell? _ _ d1)).trans d1
        have HD1 := Lib.hid d1'
        have h9_0 : w10.cell? ⟨w9.heap.size, 0, none⟩ = some (.slice ga gn gc) := cell_of_row _ _ 0 _ 39 (0, 0) k10
        have h9_1 : w10.cell? ⟨w9.heap.size, 1, none⟩ = some (.int .u32 g1) := cell_of_row _ _ 1 _ 39 (0, 0) k10
        have h9_2 : w10.cell? ⟨w9.heap.size, 2, none⟩ = some (.int .u32 g2) := cell_of_row _ _ 2 _ 39 (0, 0) k10
        have h9_3 : w10.cell? ⟨w9.heap.size, 3, none⟩ = some (.int .u32 g3) := cell_of_row _ _ 3 _ 39 (0, 0) k10
        have h9_4 : w10.cell? ⟨w9.heap.size, 4, none⟩ = some (.int .i64 g4) := cell_of_row _ _ 4 _ 39 (0, 0) k10
        have h9_5 : w10.cell? ⟨w9.heap.size, 5, none⟩ = some (.int .u32 g5) := cell_of_row _ _ 5 _ 39 (0, 0) k10
        have h9_6 : w10.cell? ⟨w9.heap.size, 6, none⟩ = some (.int .u64 g6) := cell_of_row _ _ 6 _ 39 (0, 0) k10
        have h9_7 : w10.cell? ⟨w9.heap.size, 7, none⟩ = some (.int .u64 g7) := cell_of_row _ _ 7 _ 39 (0, 0) k10
        have h9_8 : w10.cell? ⟨w9.heap.size, 8, none⟩ = some (.int .u64 g8) := cell_of_row _ _ 8 _ 39 (0, 0) k10
        have h6_2 : w10.cell? ⟨w6.heap.size, 2, none⟩ = some (.slice ra rn rc) := cell_of_row _ _ 2 _ 43 (0, 0) q10
        have h6_3 : w10.cell? ⟨w6.heap.size, 3, none⟩ = some (.int .u32 r1) := cell_of_row _ _ 3 _ 43 (0, 0) q10
        have h6_4 : w10.cell? ⟨w6.heap.size, 4, none⟩ = some (.int .u32 r2) := cell_of_row _ _ 4 _ 43 (0, 0) q10
        have h6_5 : w10.cell? ⟨w6.heap.size, 5, none⟩ = some (.int .u32 r3) := cell_of_row _ _ 5 _ 43 (0, 0) q10
        have h6_6 : w10.cell? ⟨w6.heap.size, 6, none⟩ = some (.int .i64 r4) := cell_of_row _ _ 6 _ 43 (0, 0) q10
        have h6_7 : w10.cell? ⟨w6.heap.size, 7, none⟩ = some (.int .u32 r5) := cell_of_row _ _ 7 _ 43 (0, 0) q10
        have h6_8 : w10.cell? ⟨w6.heap.size, 8, none⟩ = some (.int .u64 r6) := cell_of_row _ _ 8 _ 43 (0, 0) q10
        have h6_9 : w10.cell? ⟨w6.heap.size, 9, none⟩ = some (.int .u64 r7) := cell_of_row _ _ 9 _ 43 (0, 0) q10
        have h6_10 : w10.cell? ⟨w6.heap.size, 10, none⟩ = some (.int .u64 r8) := cell_of_row _ _ 10 _ 43 (0, 0) q10
        clear hgr B9 B910 B10 k10 q10 hrd he' hrr hrr2 hnd n1 n2 hw10 S8 hs d1'
        go_upto_region 17 with fail
        rw [← HW10.out]
        go_wp2_with fail
        refine HND.out.mono ?_
        rintro e w11 ⟨rfl, B11⟩
        have d1'' : w11.cell? ⟨w6.heap.size, 1, none⟩ = some (.string (bs px)) := (B11.cell (p := ⟨w6.heap.size, 1, none⟩) (World.block_lt_of_cell? _ _ HD1.out)).trans HD1.out
        have HS11 := Lib.hid (HS10.out.below B11)
        have HB11 := Lib.hid (HB10.out.trans (B11.mono HB10.out.size))
        have hun := later_under w11 HS11.out.tr.max px pR HPL2.out (by decide)
        rw [HTL.out.2] at hun
        have HUN := Lib.hid hun
        clear B11 hun
        go_wp2_with fail
        refine (HUN.out _ (Below.refl _ _)).mono ?_
        rintro e w12 ⟨rfl, B12⟩
        have HS12 := Lib.hid (HS11.out.below B12)
        have HB12 := Lib.hid (HB11.out.trans (B12.mono HB11.out.size))
        clear B12
        go_wp2_with fail
        refine (works_any _ HS12.out.tr.max HS12.out.pow).mono ?_
        rintro e wz ⟨rfl, BZ⟩
        have HZ := Lib.hid (HB12.out.trans (BZ.mono HB12.out.size))
        clear BZ
        go_wp2
        go_ret
        exact ⟨rfl, HZ.out⟩
      · have hw := HLL.out.2.2.1
        have hkd : (2 : Int) = xo.kind := HLL.out.2.2.2.2.2.2.2.2
        have hne : opXs pR M (at_ + 1) ⟨s, sn⟩ xo ≠ [] := hw.2 (by omega)
        have hxn : xn ≠ 0 := fun e => hne (List.eq_nil_of_length_eq_zero (by rw [← HLL.out.2.2.2.2.1]; exact e))
        have HNE : Hid (doX pR M at_ ⟨s, sn⟩ (⟨⟨2, op, oa, on, oc, ov, os, oe, qa, qn, qc⟩, xo, xQ, xps, ⟨s, sn⟩⟩ : AskRaw).ce (⟨⟨2, op, oa, on, oc, ov, os, oe, qa, qn, qc⟩, xo, xQ, xps, ⟨s, sn⟩⟩ : AskRaw).v ≠ []) := Lib.hid (fun e => hxn (by rw [HV.out.2.2.2.2, e]; rfl))
        clear hne
        have htl := leaf_gone (at_ := at_ + 1) HS7.out.inv HLL.out.2.1 hkd.symm
        rw [← HLL.out.2.2.2.2.2.2.2.1, ← HLL.out.2.2.2.2.2.1, ← HLL.out.2.2.2.1] at htl
        have HTL : Hid (getA px (doM pR M at_ ⟨s, sn⟩ (⟨⟨2, op, oa, on, oc, ov, os, oe, qa, qn, qc⟩, xo, xQ, xps, ⟨s, sn⟩⟩ : AskRaw).ce (⟨⟨2, op, oa, on, oc, ov, os, oe, qa, qn, qc⟩, xo, xQ, xps, ⟨s, sn⟩⟩ : AskRaw).v) = none ∧ px = op) := Lib.hid ⟨by rw [htl.2]; exact htl.1, htl.2⟩
        have HPL : Hid (px.length ≤ maxLen) := Lib.hid (by rw [htl.2, HLL.out.2.2.2.2.2.2.2.1]; have := HLL.out.1.2.2.1; unfold maxLen; omega)
        clear hw hkd htl
        have t1 : decide (0 < xn) = true := by simp; omega
        have t2 : decide ((0 : Int) < (xn : Int)) = true := by simp; omega
        have HAP := Lib.hid (HS7.out.apply_do (Int.le_trans HAT.out (by decide)) HIN.out HEO.out HNE.out)
        clear hxn
        go_wp2_with fail
        refine HS7.out.tr.at_any.mono ?_
        rintro e w7' ⟨rfl, rfl⟩
        go_wp2_with fail
        refine HAP.out.mono ?_
        rintro e w8 ⟨rfl, S8, K8⟩
        have teq : ((at_ + 1 : Int) == at_ + 1) = true := by simp
        have HS8 := Lib.hid S8
        have hbb : Below w.heap.size w w8 := HB7.out.trans (K8.below HB7.out.size (fun j e => by have e : j = b := e; have := HBB.out; omega))
        have q1 := (K8.block w.heap.size (lt_of_block HK1.out.1) (fun e => by have e : w.heap.size = b := e; have := HBB.out; omega)).trans HK1.out.1
        have q7 := (K8.block w6.heap.size (lt_of_block HK7.out.1) (fun e => by have e : w6.heap.size = b := e; have := HK7.out.2; omega)).trans HK7.out.1
        have c0 : w8.cell? ⟨w.heap.size, 0, none⟩ = some (.int .u8 2) := cell_of_row _ _ 0 _ 31 (0, 0) q1
        have c1 : w8.cell? ⟨w.heap.size, 1, none⟩ = some (.string (bs op)) := cell_of_row _ _ 1 _ 31 (0, 0) q1
        have c6 : w8.cell? ⟨w.heap.size, 6, none⟩ = some (.slice qa qn qc) := cell_of_row _ _ 6 _ 31 (0, 0) q1
        have d1 : w8.cell? ⟨w6.heap.size, 1, none⟩ = some (.string (bs px)) := cell_of_row _ _ 1 _ 43 (0, 0) q7
        have d12 : w8.cell? ⟨w6.heap.size, 12, none⟩ = some (.slice pa pn pc) := cell_of_row _ _ 12 _ 43 (0, 0) q7
        have HB8 := Lib.hid hbb
        have HQ7 := Lib.hid q7
        have HRP8 : Hid (ReplyAt w8 (From w5.heap.size) _ _ _ _) := Lib.hid (HREP.out.keptS K8 (fun j h1 h2 e => by have e : j = b := e; have h1 : w5.heap.size ≤ j := h1; have := HK7.out.2; omega))
        clear hbb q1 q7 S8 K8
        go_wp2_with fail
        have S8 := HS8.out
        refine S8.tr.at_any.mono ?_
        rintro e w8' ⟨rfl, rfl⟩
        go_wp2_with fail
        have hget := S8.tr.get px HPL.out
        have HGE := Lib.hid hget
        clear hget
        refine HGE.out.mono ?_
        rintro e w9 ⟨⟨ga, gn, gc, ⟨g1, g2, g3, g4, g5, g6, g7, g8⟩⟩, rfl, hgr, B9, _⟩
        unfold Raw.val Raw.cells Nums.cells
        dsimp only
        rw [HTL.out.1]
        dsimp only [Option.isSome]
        obtain ⟨w10, hw10⟩ : ∃ w10, w10 = w9.alloc (.cells #[.slice ga gn gc, .int .u32 g1, .int .u32 g2, .int .u32 g3, .int .i64 g4, .int .u32 g5, .int .u64 g6, .int .u64 g7, .int .u64 g8] 39) := ⟨_, rfl⟩
        have B10 : Below w8.heap.size w8 w10 := by rw [hw10]; exact belowA B9 _
        have HW10 := Lib.hid hw10
        have HS10 := Lib.hid (S8.below B10)
        have HB10 := Lib.hid (HB8.out.trans (B10.mono HB8.out.size))
        have c0' : w10.cell? ⟨w.heap.size, 0, none⟩ = some (.int .u8 2) := (B10.cell (p := ⟨w.heap.size, 0, none⟩) (World.block_lt_of_cell? _ _ c0)).trans c0
        have c1' : w10.cell? ⟨w.heap.size, 1, none⟩ = some (.string (bs op)) := (B10.cell (p := ⟨w.heap.size, 1, none⟩) (World.block_lt_of_cell? _ _ c1)).trans c1
        have d1' : w10.cell? ⟨w6.heap.size, 1, none⟩ = some (.string (bs px)) := (B10.cell (p := ⟨w6.heap.size, 1, none⟩) (World.block_lt_of_cell? _ _ d1)).trans d1
        have tpx : ((bs px).toList == (bs op).toList) = true := by rw [HTL.out.2]; simp
        clear hgr B9 B10 hw10 S8
        go_upto_region 17 with fail
        rw [← HW10.out]
        go_wp2_with fail
        refine (works_any _ HS10.out.tr.max HS10.out.pow).mono ?_
        rintro e wz ⟨rfl, BZ⟩
        have HZ := Lib.hid (HB10.out.trans (BZ.mono HB10.out.size))
        clear BZ
        go_wp2
        go_ret
        exact ⟨rfl, HZ.out⟩
      · have hw := HLL.out.2.2.1
        have hkd : (3 : Int) = xo.kind := HLL.out.2.2.2.2.2.2.2.2
        have hne : opXs pR M (at_ + 1) ⟨s, sn⟩ xo ≠ [] := hw.2 (by omega)
        have hxn : xn ≠ 0 := fun e => hne (List.eq_nil_of_length_eq_zero (by rw [← HLL.out.2.2.2.2.1]; exact e))
        have HNE : Hid (doX pR M at_ ⟨s, sn⟩ (⟨⟨3, op, oa, on, oc, ov, os, oe, qa, qn, qc⟩, xo, xQ, xps, ⟨s, sn⟩⟩ : AskRaw).ce (⟨⟨3, op, oa, on, oc, ov, os, oe, qa, qn, qc⟩, xo, xQ, xps, ⟨s, sn⟩⟩ : AskRaw).v ≠ []) := Lib.hid (fun e => hxn (by rw [HV.out.2.2.2.2, e]; rfl))
        clear hne
        have htl := leaf_told (at_ := at_ + 1) HLL.out.2.1 (by omega)
        rw [← HLL.out.2.2.2.2.2.1, ← HLL.out.2.2.2.1] at htl
        have HTL : Hid (getA px (doM pR M at_ ⟨s, sn⟩ (⟨⟨3, op, oa, on, oc, ov, os, oe, qa, qn, qc⟩, xo, xQ, xps, ⟨s, sn⟩⟩ : AskRaw).ce (⟨⟨3, op, oa, on, oc, ov, os, oe, qa, qn, qc⟩, xo, xQ, xps, ⟨s, sn⟩⟩ : AskRaw).v) = some (opA pR M (at_ + 1) ⟨s, sn⟩ xo).node ∧ underB px pR = true) := Lib.hid htl
        have HTA := Lib.hid HLL.out.2.2.2.2.2.2.1
        clear hw hkd htl
        have t1 : decide (0 < xn) = true := by simp; omega
        have t2 : decide ((0 : Int) < (xn : Int)) = true := by simp; omega
        have HAP := Lib.hid (HS7.out.apply_do (Int.le_trans HAT.out (by decide)) HIN.out HEO.out HNE.out)
        clear hxn
        go_wp2_with fail
        refine HS7.out.tr.at_any.mono ?_
        rintro e w7' ⟨rfl, rfl⟩
        go_wp2_with fail
        refine HAP.out.mono ?_
        rintro e w8 ⟨rfl, S8, K8⟩
        have teq : ((at_ + 1 : Int) == at_ + 1) = true := by simp
        have HS8 := Lib.hid S8
        have hbb : Below w.heap.size w w8 := HB7.out.trans (K8.below HB7.out.size (fun j e => by have e : j = b := e; have := HBB.out; omega))
        have q1 := (K8.block w.heap.size (lt_of_block HK1.out.1) (fun e => by have e : w.heap.size = b := e; have := HBB.out; omega)).trans HK1.out.1
        have q7 := (K8.block w6.heap.size (lt_of_block HK7.out.1) (fun e => by have e : w6.heap.size = b := e; have := HK7.out.2; omega)).trans HK7.out.1
        have c0 : w8.cell? ⟨w.heap.size, 0, none⟩ = some (.int .u8 3) := cell_of_row _ _ 0 _ 31 (0, 0) q1
        have c1 : w8.cell? ⟨w.heap.size, 1, none⟩ = some (.string (bs op)) := cell_of_row _ _ 1 _ 31 (0, 0) q1
        have c6 : w8.cell? ⟨w.heap.size, 6, none⟩ = some (.slice qa qn qc) := cell_of_row _ _ 6 _ 31 (0, 0) q1
        have d1 : w8.cell? ⟨w6.heap.size, 1, none⟩ = some (.string (bs px)) := cell_of_row _ _ 1 _ 43 (0, 0) q7
        have d12 : w8.cell? ⟨w6.heap.size, 12, none⟩ = some (.slice pa pn pc) := cell_of_row _ _ 12 _ 43 (0, 0) q7
        have HB8 := Lib.hid hbb
        have HQ7 := Lib.hid q7
        have HRP8 : Hid (ReplyAt w8 (From w5.heap.size) _ _ _ _) := Lib.hid (HREP.out.keptS K8 (fun j h1 h2 e => by have e : j = b := e; have h1 : w5.heap.size ≤ j := h1; have := HK7.out.2; omega))
        clear hbb q1 q7 S8 K8
        have HPL2 : Hid (px.length ≤ 1000) := Lib.hid (by
          have S8 := HS8.out
          have hm : px ∈ (doM pR M at_ ⟨s, sn⟩ (⟨⟨3, op, oa, on, oc, ov, os, oe, qa, qn, qc⟩, xo, xQ, xps, ⟨s, sn⟩⟩ : AskRaw).ce (⟨⟨3, op, oa, on, oc, ov, os, oe, qa, qn, qc⟩, xo, xQ, xps, ⟨s, sn⟩⟩ : AskRaw).v).map (·.1) := getA_some.1 (by rw [HTL.out.1]; rfl)
          obtain ⟨z, hz, e⟩ := List.mem_map.1 hm
          rw [← e]
          exact S8.tr.fit.path z hz)
        have HPL : Hid (px.length ≤ maxLen) := Lib.hid (by have := HPL2.out; unfold maxLen; omega)
        go_wp2_with fail
        have S8 := HS8.out
        refine S8.tr.at_any.mono ?_
        rintro e w8' ⟨rfl, rfl⟩
        go_wp2_with fail
        have hget := S8.tr.get px HPL.out
        have HGE := Lib.hid hget
        clear hget
        refine HGE.out.mono ?_
        rintro e w9 ⟨⟨ga, gn, gc, ⟨g1, g2, g3, g4, g5, g6, g7, g8⟩⟩, rfl, hgr, B9, _⟩
        unfold Raw.val Raw.cells Nums.cells
        dsimp only
        have hs : (getA px (doM pR M at_ ⟨s, sn⟩ (⟨⟨3, op, oa, on, oc, ov, os, oe, qa, qn, qc⟩, xo, xQ, xps, ⟨s, sn⟩⟩ : AskRaw).ce (⟨⟨3, op, oa, on, oc, ov, os, oe, qa, qn, qc⟩, xo, xQ, xps, ⟨s, sn⟩⟩ : AskRaw).v)).isSome = true := by rw [HTL.out.1]; rfl
        rw [hs]
        obtain ⟨w10, hw10⟩ : ∃ w10, w10 = w9.alloc (.cells #[.slice ga gn gc, .int .u32 g1, .int .u32 g2, .int .u32 g3, .int .i64 g4, .int .u32 g5, .int .u64 g6, .int .u64 g7, .int .u64 g8] 39) := ⟨_, rfl⟩
        have B910 : Below w9.heap.size w9 w10 := by rw [hw10]; exact belowA (Below.refl _ w9) _
        have B10 : Below w8.heap.size w8 w10 := B9.trans (B910.mono B9.size)
        have k10 : w10.heap[w9.heap.size]? = some (.cells #[.slice ga gn gc, .int .u32 g1, .int .u32 g2, .int .u32 g3, .int .i64 g4, .int .u32 g5, .int .u64 g6, .int .u64 g7, .int .u64 g8] 39 (0, 0)) := by rw [hw10]; exact heap_alloc_new w9 _
        have q10 := (B10.block w6.heap.size (lt_of_block HQ7.out)).trans HQ7.out
        have hrd : Reads w10 (From w8.heap.size) ⟨ga, gn, gc, ⟨g1, g2, g3, g4, g5, g6, g7, g8⟩⟩ (opA pR M (at_ + 1) ⟨s, sn⟩ xo).node := by
          have h := hgr.below B910
          rw [HTL.out.1] at h
          exact h
        obtain ⟨⟨ra', rn', rc', ⟨r1', r2', r3', r4', r5', r6', r7', r8'⟩⟩, ka', kc', pa', pc', he', hrr, _, _⟩ := HRP8.out
        unfold repCells Raw.cells Nums.cells at he'
        dsimp only [List.cons_append, List.nil_append] at he'
        have hrr2 : Reads w10 (From w5.heap.size) ⟨ra, rn, rc, ⟨r1, r2, r3, r4, r5, r6, r7, r8⟩⟩ (opA pR M (at_ + 1) ⟨s, sn⟩ xo).node := by
          simp only [Value.agg.injEq, List.toArray_inj, Array.mk.injEq, List.cons.injEq, Value.slice.injEq, Value.int.injEq, true_and, and_true] at he'
          obtain ⟨_, _, ⟨rfl, rfl, rfl⟩, rfl, rfl, rfl, rfl, rfl, rfl, rfl, rfl, _⟩ := he'
          rw [← HTA.out]
          exact hrr.below B10
        have hnd := refNode_same hrd hrr2
        unfold Raw.val Raw.cells Nums.cells at hnd
        dsimp only at hnd
        have n1 : w10.rangeAt w9.heap.size 0 [.slice ga gn gc, .int .u32 g1, .int .u32 g2, .int .u32 g3, .int .i64 g4, .int .u32 g5, .int .u64 g6, .int .u64 g7, .int .u64 g8] := range_blk k10
        have n2 : w10.rangeAt w6.heap.size 2 [.slice ra rn rc, .int .u32 r1, .int .u32 r2, .int .u32 r3, .int .i64 r4, .int .u32 r5, .int .u64 r6, .int .u64 r7, .int .u64 r8] := mid_range 2 (o := 0) (range_blk q10) (fun j v hv => by
          have hj := (List.getElem?_eq_some_iff.1 hv).1
          rw [← hv]
          rw [show 2 + j = j + 2 by omega]
          rw [List.getElem?_cons_succ, List.getElem?_cons_succ]
          exact (List.getElem?_append_left (l₂ := [.slice ka kn kc, .slice pa pn pc]) hj))
        have HND := Lib.hid hnd
        have HN := Lib.hid (And.intro n1 n2)
        have HW10 := Lib.hid hw10
        have HS10 := Lib.hid (S8.below B10)
        have HB10 := Lib.hid (HB8.out.trans (B10.mono HB8.out.size))
        have c0' : w10.cell? ⟨w.heap.size, 0, none⟩ = some (.int .u8 3) := (B10.cell (p := ⟨w.heap.size, 0, none⟩) (World.block_lt_of_cell? _ _ c0)).trans c0
        have d1' := (B10.cell (p := ⟨w6.heap.size, 1, none⟩) (World.block_lt_of_cell? _ _ d1)).trans d1
        have HD1 := Lib.hid d1'
        have h9_0 : w10.cell? ⟨w9.heap.size, 0, none⟩ = some (.slice ga gn gc) := cell_of_row _ _ 0 _ 39 (0, 0) k10
        have h9_1 : w10.cell? ⟨w9.heap.size, 1, none⟩ = some (.int .u32 g1) := cell_of_row _ _ 1 _ 39 (0, 0) k10
        have h9_2 : w10.cell? ⟨w9.heap.size, 2, none⟩ = some (.int .u32 g2) := cell_of_row _ _ 2 _ 39 (0, 0) k10
        have h9_3 : w10.cell? ⟨w9.heap.size, 3, none⟩ = some (.int .u32 g3) := cell_of_row _ _ 3 _ 39 (0, 0) k10
        have h9_4 : w10.cell? ⟨w9.heap.size, 4, none⟩ = some (.int .i64 g4) := cell_of_row _ _ 4 _ 39 (0, 0) k10
        have h9_5 : w10.cell? ⟨w9.heap.size, 5, none⟩ = some (.int .u32 g5) := cell_of_row _ _ 5 _ 39 (0, 0) k10
        have h9_6 : w10.cell? ⟨w9.heap.size, 6, none⟩ = some (.int .u64 g6) := cell_of_row _ _ 6 _ 39 (0, 0) k10
        have h9_7 : w10.cell? ⟨w9.heap.size, 7, none⟩ = some (.int .u64 g7) := cell_of_row _ _ 7 _ 39 (0, 0) k10
        have h9_8 : w10.cell? ⟨w9.heap.size, 8, none⟩ = some (.int .u64 g8) := cell_of_row _ _ 8 _ 39 (0, 0) k10
        have h6_2 : w10.cell? ⟨w6.heap.size, 2, none⟩ = some (.slice ra rn rc) := cell_of_row _ _ 2 _ 43 (0, 0) q10
        have h6_3 : w10.cell? ⟨w6.heap.size, 3, none⟩ = some (.int .u32 r1) := cell_of_row _ _ 3 _ 43 (0, 0) q10
        have h6_4 : w10.cell? ⟨w6.heap.size, 4, none⟩ = some (.int .u32 r2) := cell_of_row _ _ 4 _ 43 (0, 0) q10
        have h6_5 : w10.cell? ⟨w6.heap.size, 5, none⟩ = some (.int .u32 r3) := cell_of_row _ _ 5 _ 43 (0, 0) q10
        have h6_6 : w10.cell? ⟨w6.heap.size, 6, none⟩ = some (.int .i64 r4) := cell_of_row _ _ 6 _ 43 (0, 0) q10
        have h6_7 : w10.cell? ⟨w6.heap.size, 7, none⟩ = some (.int .u32 r5) := cell_of_row _ _ 7 _ 43 (0, 0) q10
        have h6_8 : w10.cell? ⟨w6.heap.size, 8, none⟩ = some (.int .u64 r6) := cell_of_row _ _ 8 _ 43 (0, 0) q10
        have h6_9 : w10.cell? ⟨w6.heap.size, 9, none⟩ = some (.int .u64 r7) := cell_of_row _ _ 9 _ 43 (0, 0) q10
        have h6_10 : w10.cell? ⟨w6.heap.size, 10, none⟩ = some (.int .u64 r8) := cell_of_row _ _ 10 _ 43 (0, 0) q10
        clear hgr B9 B910 B10 k10 q10 hrd he' hrr hrr2 hnd n1 n2 hw10 S8 hs d1'
        go_upto_region 17 with fail
        rw [← HW10.out]
        go_wp2_with fail
        refine HND.out.mono ?_
        rintro e w11 ⟨rfl, B11⟩
        have d1'' : w11.cell? ⟨w6.heap.size, 1, none⟩ = some (.string (bs px)) := (B11.cell (p := ⟨w6.heap.size, 1, none⟩) (World.block_lt_of_cell? _ _ HD1.out)).trans HD1.out
        have HS11 := Lib.hid (HS10.out.below B11)
        have HB11 := Lib.hid (HB10.out.trans (B11.mono HB10.out.size))
        have hun := later_under w11 HS11.out.tr.max px pR HPL2.out (by decide)
        rw [HTL.out.2] at hun
        have HUN := Lib.hid hun
        clear B11 hun
        go_wp2_with fail
        refine (HUN.out _ (Below.refl _ _)).mono ?_
        rintro e w12 ⟨rfl, B12⟩
        have HS12 := Lib.hid (HS11.out.below B12)
        have HB12 := Lib.hid (HB11.out.trans (B12.mono HB11.out.size))
        clear B12
        go_wp2_with fail
        refine (works_any _ HS12.out.tr.max HS12.out.pow).mono ?_
        rintro e wz ⟨rfl, BZ⟩
        have HZ := Lib.hid (HB12.out.trans (BZ.mono HB12.out.size))
        clear BZ
        go_wp2
        go_ret
        exact ⟨rfl, HZ.out⟩
      · have hw := HLL.out.2.2.1
        have hkd : (4 : Int) = xo.kind := HLL.out.2.2.2.2.2.2.2.2
        have hze : opXs pR M (at_ + 1) ⟨s, sn⟩ xo = [] := Classical.byContradiction fun e => by have := hw.1 e; omega
        have hxn : xn = 0 := by rw [HLL.out.2.2.2.2.1, hze]; rfl
        have HNE : Hid (doX pR M at_ ⟨s, sn⟩ (⟨⟨4, op, oa, on, oc, ov, os, oe, qa, qn, qc⟩, xo, xQ, xps, ⟨s, sn⟩⟩ : AskRaw).ce (⟨⟨4, op, oa, on, oc, ov, os, oe, qa, qn, qc⟩, xo, xQ, xps, ⟨s, sn⟩⟩ : AskRaw).v = []) := Lib.hid (List.eq_nil_of_length_eq_zero (by rw [← HV.out.2.2.2.2]; exact hxn))
        clear hze
        have htl := leaf_told (at_ := at_ + 1) HLL.out.2.1 (by omega)
        rw [← HLL.out.2.2.2.2.2.1, ← HLL.out.2.2.2.1] at htl
        have HTL : Hid (getA px (doM pR M at_ ⟨s, sn⟩ (⟨⟨4, op, oa, on, oc, ov, os, oe, qa, qn, qc⟩, xo, xQ, xps, ⟨s, sn⟩⟩ : AskRaw).ce (⟨⟨4, op, oa, on, oc, ov, os, oe, qa, qn, qc⟩, xo, xQ, xps, ⟨s, sn⟩⟩ : AskRaw).v) = some (opA pR M (at_ + 1) ⟨s, sn⟩ xo).node ∧ underB px pR = true) := Lib.hid htl
        have HTA := Lib.hid HLL.out.2.2.2.2.2.2.1
        clear hw hkd htl
        have t1 : decide (0 < xn) = false := by simp; omega
        have t2 : decide ((0 : Int) < (xn : Int)) = false := by simp; omega
        obtain ⟨w8, hw8⟩ : ∃ w8, w8 = w7 := ⟨_, rfl⟩
        have S8 : St w4 w8 b pR at_ (doM pR M at_ ⟨s, sn⟩ (⟨⟨4, op, oa, on, oc, ov, os, oe, qa, qn, qc⟩, xo, xQ, xps, ⟨s, sn⟩⟩ : AskRaw).ce (⟨⟨4, op, oa, on, oc, ov, os, oe, qa, qn, qc⟩, xo, xQ, xps, ⟨s, sn⟩⟩ : AskRaw).v) := by rw [hw8, doM_same HS7.out.inv HNE.out]; exact HS7.out
        have K8 : Kept (· = b) w7 w8 := by rw [hw8]; exact Kept.refl _ _
        clear hxn
        go_wp2_with fail
        refine HS7.out.tr.at_any.mono ?_
        rintro e w7' ⟨rfl, rfl⟩
        go_wp2_with fail
        rw [← hw8]
        clear hw8
        have teq : ((at_ : Int) == at_ + 1) = false := by rw [beq_eq_false_iff_ne]; omega
        have HS8 := Lib.hid S8
        have hbb : Below w.heap.size w w8 := HB7.out.trans (K8.below HB7.out.size (fun j e => by have e : j = b := e; have := HBB.out; omega))
        have q1 := (K8.block w.heap.size (lt_of_block HK1.out.1) (fun e => by have e : w.heap.size = b := e; have := HBB.out; omega)).trans HK1.out.1
        have q7 := (K8.block w6.heap.size (lt_of_block HK7.out.1) (fun e => by have e : w6.heap.size = b := e; have := HK7.out.2; omega)).trans HK7.out.1
        have c0 : w8.cell? ⟨w.heap.size, 0, none⟩ = some (.int .u8 4) := cell_of_row _ _ 0 _ 31 (0, 0) q1
        have c1 : w8.cell? ⟨w.heap.size, 1, none⟩ = some (.string (bs op)) := cell_of_row _ _ 1 _ 31 (0, 0) q1
        have c6 : w8.cell? ⟨w.heap.size, 6, none⟩ = some (.slice qa qn qc) := cell_of_row _ _ 6 _ 31 (0, 0) q1
        have d1 : w8.cell? ⟨w6.heap.size, 1, none⟩ = some (.string (bs px)) := cell_of_row _ _ 1 _ 43 (0, 0) q7
        have d12 : w8.cell? ⟨w6.heap.size, 12, none⟩ = some (.slice pa pn pc) := cell_of_row _ _ 12 _ 43 (0, 0) q7
        have HB8 := Lib.hid hbb
        have HQ7 := Lib.hid q7
        have HRP8 : Hid (ReplyAt w8 (From w5.heap.size) _ _ _ _) := Lib.hid (HREP.out.keptS K8 (fun j h1 h2 e => by have e : j = b := e; have h1 : w5.heap.size ≤ j := h1; have := HK7.out.2; omega))
        clear hbb q1 q7 S8 K8
        have HPL2 : Hid (px.length ≤ 1000) := Lib.hid (by
          have S8 := HS8.out
          have hm : px ∈ (doM pR M at_ ⟨s, sn⟩ (⟨⟨4, op, oa, on, oc, ov, os, oe, qa, qn, qc⟩, xo, xQ, xps, ⟨s, sn⟩⟩ : AskRaw).ce (⟨⟨4, op, oa, on, oc, ov, os, oe, qa, qn, qc⟩, xo, xQ, xps, ⟨s, sn⟩⟩ : AskRaw).v).map (·.1) := getA_some.1 (by rw [HTL.out.1]; rfl)
          obtain ⟨z, hz, e⟩ := List.mem_map.1 hm
          rw [← e]
          exact S8.tr.fit.path z hz)
        have HPL : Hid (px.length ≤ maxLen) := Lib.hid (by have := HPL2.out; unfold maxLen; omega)
        go_wp2_with fail
        have S8 := HS8.out
        refine S8.tr.at_any.mono ?_
        rintro e w8' ⟨rfl, rfl⟩
        go_wp2_with fail
        have hget := S8.tr.get px HPL.out
        have HGE := Lib.hid hget
        clear hget
        refine HGE.out.mono ?_
        rintro e w9 ⟨⟨ga, gn, gc, ⟨g1, g2, g3, g4, g5, g6, g7, g8⟩⟩, rfl, hgr, B9, _⟩
        unfold Raw.val Raw.cells Nums.cells
        dsimp only
        have hs : (getA px (doM pR M at_ ⟨s, sn⟩ (⟨⟨4, op, oa, on, oc, ov, os, oe, qa, qn, qc⟩, xo, xQ, xps, ⟨s, sn⟩⟩ : AskRaw).ce (⟨⟨4, op, oa, on, oc, ov, os, oe, qa, qn, qc⟩, xo, xQ, xps, ⟨s, sn⟩⟩ : AskRaw).v)).isSome = true := by rw [HTL.out.1]; rfl
        rw [hs]
        obtain ⟨w10, hw10⟩ : ∃ w10, w10 = w9.alloc (.cells #[.slice ga gn gc, .int .u32 g1, .int .u32 g2, .int .u32 g3, .int .i64 g4, .int .u32 g5, .int .u64 g6, .int .u64 g7, .int .u64 g8] 39) := ⟨_, rfl⟩
        have B910 : Below w9.heap.size w9 w10 := by rw [hw10]; exact belowA (Below.refl _ w9) _
        have B10 : Below w8.heap.size w8 w10 := B9.trans (B910.mono B9.size)
        have k10 : w10.heap[w9.heap.size]? = some (.cells #[.slice ga gn gc, .int .u32 g1, .int .u32 g2, .int .u32 g3, .int .i64 g4, .int .u32 g5, .int .u64 g6, .int .u64 g7, .int .u64 g8] 39 (0, 0)) := by rw [hw10]; exact heap_alloc_new w9 _
        have q10 := (B10.block w6.heap.size (lt_of_block HQ7.out)).trans HQ7.out
        have hrd : Reads w10 (From w8.heap.size) ⟨ga, gn, gc, ⟨g1, g2, g3, g4, g5, g6, g7, g8⟩⟩ (opA pR M (at_ + 1) ⟨s, sn⟩ xo).node := by
          have h := hgr.below B910
          rw [HTL.out.1] at h
          exact h
        obtain ⟨⟨ra', rn', rc', ⟨r1', r2', r3', r4', r5', r6', r7', r8'⟩⟩, ka', kc', pa', pc', he', hrr, _, _⟩ := HRP8.out
        unfold repCells Raw.cells Nums.cells at he'
        dsimp only [List.cons_append, List.nil_append] at he'
        have hrr2 : Reads w10 (From w5.heap.size) ⟨ra, rn, rc, ⟨r1, r2, r3, r4, r5, r6, r7, r8⟩⟩ (opA pR M (at_ + 1) ⟨s, sn⟩ xo).node := by
          simp only [Value.agg.injEq, List.toArray_inj, Array.mk.injEq, List.cons.injEq, Value.slice.injEq, Value.int.injEq, true_and, and_true] at he'
          obtain ⟨_, _, ⟨rfl, rfl, rfl⟩, rfl, rfl, rfl, rfl, rfl, rfl, rfl, rfl, _⟩ := he'
          rw [← HTA.out]
          exact hrr.below B10
        have hnd := refNode_same hrd hrr2
        unfold Raw.val Raw.cells Nums.cells at hnd
        dsimp only at hnd
        have n1 : w10.rangeAt w9.heap.size 0 [.slice ga gn gc, .int .u32 g1, .int .u32 g2, .int .u32 g3, .int .i64 g4, .int .u32 g5, .int .u64 g6, .int .u64 g7, .int .u64 g8] := range_blk k10
        have n2 : w10.rangeAt w6.heap.size 2 [.slice ra rn rc, .int .u32 r1, .int .u32 r2, .int .u32 r3, .int .i64 r4, .int .u32 r5, .int .u64 r6, .int .u64 r7, .int .u64 r8] := mid_range 2 (o := 0) (range_blk q10) (fun j v hv => by
          have hj := (List.getElem?_eq_some_iff.1 hv).1
          rw [← hv]
          rw [show 2 + j = j + 2 by omega]
          rw [List.getElem?_cons_succ, List.getElem?_cons_succ]
          exact (List.getElem?_append_left (l₂ := [.slice ka kn kc, .slice pa pn pc]) hj))
        have HND := Lib.hid hnd
        have HN := Lib.hid (And.intro n1 n2)
        have HW10 := Lib.hid hw10
        have HS10 := Lib.hid (S8.below B10)
        have HB10 := Lib.hid (HB8.out.trans (B10.mono HB8.out.size))
        have c0' : w10.cell? ⟨w.heap.size, 0, none⟩ = some (.int .u8 4) := (B10.cell (p := ⟨w.heap.size, 0, none⟩) (World.block_lt_of_cell? _ _ c0)).trans c0
        have d1' := (B10.cell (p := ⟨w6.heap.size, 1, none⟩) (World.block_lt_of_cell? _ _ d1)).trans d1
        have HD1 := Lib.hid d1'
        have h9_0 : w10.cell? ⟨w9.heap.size, 0, none⟩ = some (.slice ga gn gc) := cell_of_row _ _ 0 _ 39 (0, 0) k10
        have h9_1 : w10.cell? ⟨w9.heap.size, 1, none⟩ = some (.int .u32 g1) := cell_of_row _ _ 1 _ 39 (0, 0) k10
        have h9_2 : w10.cell? ⟨w9.heap.size, 2, none⟩ = some (.int .u32 g2) := cell_of_row _ _ 2 _ 39 (0, 0) k10
        have h9_3 : w10.cell? ⟨w9.heap.size, 3, none⟩ = some (.int .u32 g3) := cell_of_row _ _ 3 _ 39 (0, 0) k10
        have h9_4 : w10.cell? ⟨w9.heap.size, 4, none⟩ = some (.int .i64 g4) := cell_of_row _ _ 4 _ 39 (0, 0) k10
        have h9_5 : w10.cell? ⟨w9.heap.size, 5, none⟩ = some (.int .u32 g5) := cell_of_row _ _ 5 _ 39 (0, 0) k10
        have h9_6 : w10.cell? ⟨w9.heap.size, 6, none⟩ = some (.int .u64 g6) := cell_of_row _ _ 6 _ 39 (0, 0) k10
        have h9_7 : w10.cell? ⟨w9.heap.size, 7, none⟩ = some (.int .u64 g7) := cell_of_row _ _ 7 _ 39 (0, 0) k10
        have h9_8 : w10.cell? ⟨w9.heap.size, 8, none⟩ = some (.int .u64 g8) := cell_of_row _ _ 8 _ 39 (0, 0) k10
        have h6_2 : w10.cell? ⟨w6.heap.size, 2, none⟩ = some (.slice ra rn rc) := cell_of_row _ _ 2 _ 43 (0, 0) q10
        have h6_3 : w10.cell? ⟨w6.heap.size, 3, none⟩ = some (.int .u32 r1) := cell_of_row _ _ 3 _ 43 (0, 0) q10
        have h6_4 : w10.cell? ⟨w6.heap.size, 4, none⟩ = some (.int .u32 r2) := cell_of_row _ _ 4 _ 43 (0, 0) q10
        have h6_5 : w10.cell? ⟨w6.heap.size, 5, none⟩ = some (.int .u32 r3) := cell_of_row _ _ 5 _ 43 (0, 0) q10
        have h6_6 : w10.cell? ⟨w6.heap.size, 6, none⟩ = some (.int .i64 r4) := cell_of_row _ _ 6 _ 43 (0, 0) q10
        have h6_7 : w10.cell? ⟨w6.heap.size, 7, none⟩ = some (.int .u32 r5) := cell_of_row _ _ 7 _ 43 (0, 0) q10
        have h6_8 : w10.cell? ⟨w6.heap.size, 8, none⟩ = some (.int .u64 r6) := cell_of_row _ _ 8 _ 43 (0, 0) q10
        have h6_9 : w10.cell? ⟨w6.heap.size, 9, none⟩ = some (.int .u64 r7) := cell_of_row _ _ 9 _ 43 (0, 0) q10
        have h6_10 : w10.cell? ⟨w6.heap.size, 10, none⟩ = some (.int .u64 r8) := cell_of_row _ _ 10 _ 43 (0, 0) q10
        clear hgr B9 B910 B10 k10 q10 hrd he' hrr hrr2 hnd n1 n2 hw10 S8 hs d1'
        go_upto_region 17 with fail
        rw [← HW10.out]
        go_wp2_with fail
        refine HND.out.mono ?_
        rintro e w11 ⟨rfl, B11⟩
        have d1'' : w11.cell? ⟨w6.heap.size, 1, none⟩ = some (.string (bs px)) := (B11.cell (p := ⟨w6.heap.size, 1, none⟩) (World.block_lt_of_cell? _ _ HD1.out)).trans HD1.out
        have HS11 := Lib.hid (HS10.out.below B11)
        have HB11 := Lib.hid (HB10.out.trans (B11.mono HB10.out.size))
        have hun := later_under w11 HS11.out.tr.max px pR HPL2.out (by decide)
        rw [HTL.out.2] at hun
        have HUN := Lib.hid hun
        clear B11 hun
        go_wp2_with fail
        refine (HUN.out _ (Below.refl _ _)).mono ?_
        rintro e w12 ⟨rfl, B12⟩
        have HS12 := Lib.hid (HS11.out.below B12)
        have HB12 := Lib.hid (HB11.out.trans (B12.mono HB11.out.size))
        clear B12
        go_wp2_with fail
        refine (works_any _ HS12.out.tr.max HS12.out.pow).mono ?_
        rintro e wz ⟨rfl, BZ⟩
        have HZ := Lib.hid (HB12.out.trans (BZ.mono HB12.out.size))
        clear BZ
        go_wp2
        go_ret
        exact ⟨rfl, HZ.out⟩
      · have hw := HLL.out.2.2.1
        have hkd : (5 : Int) = xo.kind := HLL.out.2.2.2.2.2.2.2.2
        have hze : opXs pR M (at_ + 1) ⟨s, sn⟩ xo = [] := Classical.byContradiction fun e => by have := hw.1 e; omega
        have hxn : xn = 0 := by rw [HLL.out.2.2.2.2.1, hze]; rfl
        have HNE : Hid (doX pR M at_ ⟨s, sn⟩ (⟨⟨5, op, oa, on, oc, ov, os, oe, qa, qn, qc⟩, xo, xQ, xps, ⟨s, sn⟩⟩ : AskRaw).ce (⟨⟨5, op, oa, on, oc, ov, os, oe, qa, qn, qc⟩, xo, xQ, xps, ⟨s, sn⟩⟩ : AskRaw).v = []) := Lib.hid (List.eq_nil_of_length_eq_zero (by rw [← HV.out.2.2.2.2]; exact hxn))
        clear hze
        have htl := leaf_told (at_ := at_ + 1) HLL.out.2.1 (by omega)
        rw [← HLL.out.2.2.2.2.2.1, ← HLL.out.2.2.2.1] at htl
        have HTL : Hid (getA px (doM pR M at_ ⟨s, sn⟩ (⟨⟨5, op, oa, on, oc, ov, os, oe, qa, qn, qc⟩, xo, xQ, xps, ⟨s, sn⟩⟩ : AskRaw).ce (⟨⟨5, op, oa, on, oc, ov, os, oe, qa, qn, qc⟩, xo, xQ, xps, ⟨s, sn⟩⟩ : AskRaw).v) = some (opA pR M (at_ + 1) ⟨s, sn⟩ xo).node ∧ underB px pR = true) := Lib.hid htl
        have HTA := Lib.hid HLL.out.2.2.2.2.2.2.1
        clear hw hkd htl
        have t1 : decide (0 < xn) = false := by simp; omega
        have t2 : decide ((0 : Int) < (xn : Int)) = false := by simp; omega
        obtain ⟨w8, hw8⟩ : ∃ w8, w8 = w7 := ⟨_, rfl⟩
        have S8 : St w4 w8 b pR at_ (doM pR M at_ ⟨s, sn⟩ (⟨⟨5, op, oa, on, oc, ov, os, oe, qa, qn, qc⟩, xo, xQ, xps, ⟨s, sn⟩⟩ : AskRaw).ce (⟨⟨5, op, oa, on, oc, ov, os, oe, qa, qn, qc⟩, xo, xQ, xps, ⟨s, sn⟩⟩ : AskRaw).v) := by rw [hw8, doM_same HS7.out.inv HNE.out]; exact HS7.out
        have K8 : Kept (· = b) w7 w8 := by rw [hw8]; exact Kept.refl _ _
        clear hxn
        go_wp2_with fail
        refine HS7.out.tr.at_any.mono ?_
        rintro e w7' ⟨rfl, rfl⟩
        go_wp2_with fail
        rw [← hw8]
        clear hw8
        have teq : ((at_ : Int) == at_ + 1) = false := by rw [beq_eq_false_iff_ne]; omega
        have HS8 := Lib.hid S8
        have hbb : Below w.heap.size w w8 := HB7.out.trans (K8.below HB7.out.size (fun j e => by have e : j = b := e; have := HBB.out; omega))
        have q1 := (K8.block w.heap.size (lt_of_block HK1.out.1) (fun e => by have e : w.heap.size = b := e; have := HBB.out; omega)).trans HK1.out.1
        have q7 := (K8.block w6.heap.size (lt_of_block HK7.out.1) (fun e => by have e : w6.heap.size = b := e; have := HK7.out.2; omega)).trans HK7.out.1
        have c0 : w8.cell? ⟨w.heap.size, 0, none⟩ = some (.int .u8 5) := cell_of_row _ _ 0 _ 31 (0, 0) q1
        have c1 : w8.cell? ⟨w.heap.size, 1, none⟩ = some (.string (bs op)) := cell_of_row _ _ 1 _ 31 (0, 0) q1
        have c6 : w8.cell? ⟨w.heap.size, 6, none⟩ = some (.slice qa qn qc) := cell_of_row _ _ 6 _ 31 (0, 0) q1
        have d1 : w8.cell? ⟨w6.heap.size, 1, none⟩ = some (.string (bs px)) := cell_of_row _ _ 1 _ 43 (0, 0) q7
        have d12 : w8.cell? ⟨w6.heap.size, 12, none⟩ = some (.slice pa pn pc) := cell_of_row _ _ 12 _ 43 (0, 0) q7
        have HB8 := Lib.hid hbb
        have HQ7 := Lib.hid q7
        have HRP8 : Hid (ReplyAt w8 (From w5.heap.size) _ _ _ _) := Lib.hid (HREP.out.keptS K8 (fun j h1 h2 e => by have e : j = b := e; have h1 : w5.heap.size ≤ j := h1; have := HK7.out.2; omega))
        clear hbb q1 q7 S8 K8
        have HPL2 : Hid (px.length ≤ 1000) := Lib.hid (by
          have S8 := HS8.out
          have hm : px ∈ (doM pR M at_ ⟨s, sn⟩ (⟨⟨5, op, oa, on, oc, ov, os, oe, qa, qn, qc⟩, xo, xQ, xps, ⟨s, sn⟩⟩ : AskRaw).ce (⟨⟨5, op, oa, on, oc, ov, os, oe, qa, qn, qc⟩, xo, xQ, xps, ⟨s, sn⟩⟩ : AskRaw).v).map (·.1) := getA_some.1 (by rw [HTL.out.1]; rfl)
          obtain ⟨z, hz, e⟩ := List.mem_map.1 hm
          rw [← e]
          exact S8.tr.fit.path z hz)
        have HPL : Hid (px.length ≤ maxLen) := Lib.hid (by have := HPL2.out; unfold maxLen; omega)
        go_wp2_with fail
        have S8 := HS8.out
        refine S8.tr.at_any.mono ?_
        rintro e w8' ⟨rfl, rfl⟩
        go_wp2_with fail
        have hget := S8.tr.get px HPL.out
        have HGE := Lib.hid hget
        clear hget
        refine HGE.out.mono ?_
        rintro e w9 ⟨⟨ga, gn, gc, ⟨g1, g2, g3, g4, g5, g6, g7, g8⟩⟩, rfl, hgr, B9, _⟩
        unfold Raw.val Raw.cells Nums.cells
        dsimp only
        have hs : (getA px (doM pR M at_ ⟨s, sn⟩ (⟨⟨5, op, oa, on, oc, ov, os, oe, qa, qn, qc⟩, xo, xQ, xps, ⟨s, sn⟩⟩ : AskRaw).ce (⟨⟨5, op, oa, on, oc, ov, os, oe, qa, qn, qc⟩, xo, xQ, xps, ⟨s, sn⟩⟩ : AskRaw).v)).isSome = true := by rw [HTL.out.1]; rfl
        rw [hs]
        obtain ⟨w10, hw10⟩ : ∃ w10, w10 = w9.alloc (.cells #[.slice ga gn gc, .int .u32 g1, .int .u32 g2, .int .u32 g3, .int .i64 g4, .int .u32 g5, .int .u64 g6, .int .u64 g7, .int .u64 g8] 39) := ⟨_, rfl⟩
        have B910 : Below w9.heap.size w9 w10 := by rw [hw10]; exact belowA (Below.refl _ w9) _
        have B10 : Below w8.heap.size w8 w10 := B9.trans (B910.mono B9.size)
        have k10 : w10.heap[w9.heap.size]? = some (.cells #[.slice ga gn gc, .int .u32 g1, .int .u32 g2, .int .u32 g3, .int .i64 g4, .int .u32 g5, .int .u64 g6, .int .u64 g7, .int .u64 g8] 39 (0, 0)) := by rw [hw10]; exact heap_alloc_new w9 _
        have q10 := (B10.block w6.heap.size (lt_of_block HQ7.out)).trans HQ7.out
        have hrd : Reads w10 (From w8.heap.size) ⟨ga, gn, gc, ⟨g1, g2, g3, g4, g5, g6, g7, g8⟩⟩ (opA pR M (at_ + 1) ⟨s, sn⟩ xo).node := by
          have h := hgr.below B910
          rw [HTL.out.1] at h
          exact h
        obtain ⟨⟨ra', rn', rc', ⟨r1', r2', r3', r4', r5', r6', r7', r8'⟩⟩, ka', kc', pa', pc', he', hrr, _, _⟩ := HRP8.out
        unfold repCells Raw.cells Nums.cells at he'
        dsimp only [List.cons_append, List.nil_append] at he'
        have hrr2 : Reads w10 (From w5.heap.size) ⟨ra, rn, rc, ⟨r1, r2, r3, r4, r5, r6, r7, r8⟩⟩ (opA pR M (at_ + 1) ⟨s, sn⟩ xo).node := by
          simp only [Value.agg.injEq, List.toArray_inj, Array.mk.injEq, List.cons.injEq, Value.slice.injEq, Value.int.injEq, true_and, and_true] at he'
          obtain ⟨_, _, ⟨rfl, rfl, rfl⟩, rfl, rfl, rfl, rfl, rfl, rfl, rfl, rfl, _⟩ := he'
          rw [← HTA.out]
          exact hrr.below B10
        have hnd := refNode_same hrd hrr2
        unfold Raw.val Raw.cells Nums.cells at hnd
        dsimp only at hnd
        have n1 : w10.rangeAt w9.heap.size 0 [.slice ga gn gc, .int .u32 g1, .int .u32 g2, .int .u32 g3, .int .i64 g4, .int .u32 g5, .int .u64 g6, .int .u64 g7, .int .u64 g8] := range_blk k10
        have n2 : w10.rangeAt w6.heap.size 2 [.slice ra rn rc, .int .u32 r1, .int .u32 r2, .int .u32 r3, .int .i64 r4, .int .u32 r5, .int .u64 r6, .int .u64 r7, .int .u64 r8] := mid_range 2 (o := 0) (range_blk q10) (fun j v hv => by
          have hj := (List.getElem?_eq_some_iff.1 hv).1
          rw [← hv]
          rw [show 2 + j = j + 2 by omega]
          rw [List.getElem?_cons_succ, List.getElem?_cons_succ]
          exact (List.getElem?_append_left (l₂ := [.slice ka kn kc, .slice pa pn pc]) hj))
        have HND := Lib.hid hnd
        have HN := Lib.hid (And.intro n1 n2)
        have HW10 := Lib.hid hw10
        have HS10 := Lib.hid (S8.below B10)
        have HB10 := Lib.hid (HB8.out.trans (B10.mono HB8.out.size))
        have c0' : w10.cell? ⟨w.heap.size, 0, none⟩ = some (.int .u8 5) := (B10.cell (p := ⟨w.heap.size, 0, none⟩) (World.block_lt_of_cell? _ _ c0)).trans c0
        have d1' := (B10.cell (p := ⟨w6.heap.size, 1, none⟩) (World.block_lt_of_cell? _ _ d1)).trans d1
        have HD1 := Lib.hid d1'
        have h9_0 : w10.cell? ⟨w9.heap.size, 0, none⟩ = some (.slice ga gn gc) := cell_of_row _ _ 0 _ 39 (0, 0) k10
        have h9_1 : w10.cell? ⟨w9.heap.size, 1, none⟩ = some (.int .u32 g1) := cell_of_row _ _ 1 _ 39 (0, 0) k10
        have h9_2 : w10.cell? ⟨w9.heap.size, 2, none⟩ = some (.int .u32 g2) := cell_of_row _ _ 2 _ 39 (0, 0) k10
        have h9_3 : w10.cell? ⟨w9.heap.size, 3, none⟩ = some (.int .u32 g3) := cell_of_row _ _ 3 _ 39 (0, 0) k10
        have h9_4 : w10.cell? ⟨w9.heap.size, 4, none⟩ = some (.int .i64 g4) := cell_of_row _ _ 4 _ 39 (0, 0) k10
        have h9_5 : w10.cell? ⟨w9.heap.size, 5, none⟩ = some (.int .u32 g5) := cell_of_row _ _ 5 _ 39 (0, 0) k10
        have h9_6 : w10.cell? ⟨w9.heap.size, 6, none⟩ = some (.int .u64 g6) := cell_of_row _ _ 6 _ 39 (0, 0) k10
        have h9_7 : w10.cell? ⟨w9.heap.size, 7, none⟩ = some (.int .u64 g7) := cell_of_row _ _ 7 _ 39 (0, 0) k10
        have h9_8 : w10.cell? ⟨w9.heap.size, 8, none⟩ = some (.int .u64 g8) := cell_of_row _ _ 8 _ 39 (0, 0) k10
        have h6_2 : w10.cell? ⟨w6.heap.size, 2, none⟩ = some (.slice ra rn rc) := cell_of_row _ _ 2 _ 43 (0, 0) q10
        have h6_3 : w10.cell? ⟨w6.heap.size, 3, none⟩ = some (.int .u32 r1) := cell_of_row _ _ 3 _ 43 (0, 0) q10
        have h6_4 : w10.cell? ⟨w6.heap.size, 4, none⟩ = some (.int .u32 r2) := cell_of_row _ _ 4 _ 43 (0, 0) q10
        have h6_5 : w10.cell? ⟨w6.heap.size, 5, none⟩ = some (.int .u32 r3) := cell_of_row _ _ 5 _ 43 (0, 0) q10
        have h6_6 : w10.cell? ⟨w6.heap.size, 6, none⟩ = some (.int .i64 r4) := cell_of_row _ _ 6 _ 43 (0, 0) q10
        have h6_7 : w10.cell? ⟨w6.heap.size, 7, none⟩ = some (.int .u32 r5) := cell_of_row _ _ 7 _ 43 (0, 0) q10
        have h6_8 : w10.cell? ⟨w6.heap.size, 8, none⟩ = some (.int .u64 r6) := cell_of_row _ _ 8 _ 43 (0, 0) q10
        have h6_9 : w10.cell? ⟨w6.heap.size, 9, none⟩ = some (.int .u64 r7) := cell_of_row _ _ 9 _ 43 (0, 0) q10
        have h6_10 : w10.cell? ⟨w6.heap.size, 10, none⟩ = some (.int .u64 r8) := cell_of_row _ _ 10 _ 43 (0, 0) q10
        clear hgr B9 B910 B10 k10 q10 hrd he' hrr hrr2 hnd n1 n2 hw10 S8 hs d1'
        go_upto_region 17 with fail
        rw [← HW10.out]
        go_wp2_with fail
        refine HND.out.mono ?_
        rintro e w11 ⟨rfl, B11⟩
        have d1'' : w11.cell? ⟨w6.heap.size, 1, none⟩ = some (.string (bs px)) := (B11.cell (p := ⟨w6.heap.size, 1, none⟩) (World.block_lt_of_cell? _ _ HD1.out)).trans HD1.out
        have HS11 := Lib.hid (HS10.out.below B11)
        have HB11 := Lib.hid (HB10.out.trans (B11.mono HB10.out.size))
        have hun := later_under w11 HS11.out.tr.max px pR HPL2.out (by decide)
        rw [HTL.out.2] at hun
        have HUN := Lib.hid hun
        clear B11 hun
        go_wp2_with fail
        refine (HUN.out _ (Below.refl _ _)).mono ?_
        rintro e w12 ⟨rfl, B12⟩
        have HS12 := Lib.hid (HS11.out.below B12)
        have HB12 := Lib.hid (HB11.out.trans (B12.mono HB11.out.size))
        clear B12
        go_wp2_with fail
        refine (works_any _ HS12.out.tr.max HS12.out.pow).mono ?_
        rintro e wz ⟨rfl, BZ⟩
        have HZ := Lib.hid (HB12.out.trans (BZ.mono HB12.out.size))
        clear BZ
        go_wp2
        go_ret
        exact ⟨rfl, HZ.out⟩
      · have hw := HLL.out.2.2.1
        have hkd : (6 : Int) = xo.kind := HLL.out.2.2.2.2.2.2.2.2
        have hze : opXs pR M (at_ + 1) ⟨s, sn⟩ xo = [] := Classical.byContradiction fun e => by have := hw.1 e; omega
        have hxn : xn = 0 := by rw [HLL.out.2.2.2.2.1, hze]; rfl
        have HNE : Hid (doX pR M at_ ⟨s, sn⟩ (⟨⟨6, op, oa, on, oc, ov, os, oe, qa, qn, qc⟩, xo, xQ, xps, ⟨s, sn⟩⟩ : AskRaw).ce (⟨⟨6, op, oa, on, oc, ov, os, oe, qa, qn, qc⟩, xo, xQ, xps, ⟨s, sn⟩⟩ : AskRaw).v = []) := Lib.hid (List.eq_nil_of_length_eq_zero (by rw [← HV.out.2.2.2.2]; exact hxn))
        clear hze
        have htl := leaf_told (at_ := at_ + 1) HLL.out.2.1 (by omega)
        rw [← HLL.out.2.2.2.2.2.1, ← HLL.out.2.2.2.1] at htl
        have HTL : Hid (getA px (doM pR M at_ ⟨s, sn⟩ (⟨⟨6, op, oa, on, oc, ov, os, oe, qa, qn, qc⟩, xo, xQ, xps, ⟨s, sn⟩⟩ : AskRaw).ce (⟨⟨6, op, oa, on, oc, ov, os, oe, qa, qn, qc⟩, xo, xQ, xps, ⟨s, sn⟩⟩ : AskRaw).v) = some (opA pR M (at_ + 1) ⟨s, sn⟩ xo).node ∧ underB px pR = true) := Lib.hid htl
        have HTA := Lib.hid HLL.out.2.2.2.2.2.2.1
        clear hw hkd htl
        have t1 : decide (0 < xn) = false := by simp; omega
        have t2 : decide ((0 : Int) < (xn : Int)) = false := by simp; omega
        obtain ⟨w8, hw8⟩ : ∃ w8, w8 = w7 := ⟨_, rfl⟩
        have S8 : St w4 w8 b pR at_ (doM pR M at_ ⟨s, sn⟩ (⟨⟨6, op, oa, on, oc, ov, os, oe, qa, qn, qc⟩, xo, xQ, xps, ⟨s, sn⟩⟩ : AskRaw).ce (⟨⟨6, op, oa, on, oc, ov, os, oe, qa, qn, qc⟩, xo, xQ, xps, ⟨s, sn⟩⟩ : AskRaw).v) := by rw [hw8, doM_same HS7.out.inv HNE.out]; exact HS7.out
        have K8 : Kept (· = b) w7 w8 := by rw [hw8]; exact Kept.refl _ _
        clear hxn
        go_wp2_with fail
        refine HS7.out.tr.at_any.mono ?_
        rintro e w7' ⟨rfl, rfl⟩
        go_wp2_with fail
        rw [← hw8]
        clear hw8
        have teq : ((at_ : Int) == at_ + 1) = false := by rw [beq_eq_false_iff_ne]; omega
        have HS8 := Lib.hid S8
        have hbb : Below w.heap.size w w8 := HB7.out.trans (K8.below HB7.out.size (fun j e => by have e : j = b := e; have := HBB.out; omega))
        have q1 := (K8.block w.heap.size (lt_of_block HK1.out.1) (fun e => by have e : w.heap.size = b := e; have := HBB.out; omega)).trans HK1.out.1
        have q7 := (K8.block w6.heap.size (lt_of_block HK7.out.1) (fun e => by have e : w6.heap.size = b := e; have := HK7.out.2; omega)).trans HK7.out.1
        have c0 : w8.cell? ⟨w.heap.size, 0, none⟩ = some (.int .u8 6) := cell_of_row _ _ 0 _ 31 (0, 0) q1
        have c1 : w8.cell? ⟨w.heap.size, 1, none⟩ = some (.string (bs op)) := cell_of_row _ _ 1 _ 31 (0, 0) q1
        have c6 : w8.cell? ⟨w.heap.size, 6, none⟩ = some (.slice qa qn qc) := cell_of_row _ _ 6 _ 31 (0, 0) q1
        have d1 : w8.cell? ⟨w6.heap.size, 1, none⟩ = some (.string (bs px)) := cell_of_row _ _ 1 _ 43 (0, 0) q7
        have d12 : w8.cell? ⟨w6.heap.size, 12, none⟩ = some (.slice pa pn pc) := cell_of_row _ _ 12 _ 43 (0, 0) q7
        have HB8 := Lib.hid hbb
        have HQ7 := Lib.hid q7
        have HRP8 : Hid (ReplyAt w8 (From w5.heap.size) _ _ _ _) := Lib.hid (HREP.out.keptS K8 (fun j h1 h2 e => by have e : j = b := e; have h1 : w5.heap.size ≤ j := h1; have := HK7.out.2; omega))
        clear hbb q1 q7 S8 K8
        have HPL2 : Hid (px.length ≤ 1000) := Lib.hid (by
          have S8 := HS8.out
          have hm : px ∈ (doM pR M at_ ⟨s, sn⟩ (⟨⟨6, op, oa, on, oc, ov, os, oe, qa, qn, qc⟩, xo, xQ, xps, ⟨s, sn⟩⟩ : AskRaw).ce (⟨⟨6, op, oa, on, oc, ov, os, oe, qa, qn, qc⟩, xo, xQ, xps, ⟨s, sn⟩⟩ : AskRaw).v).map (·.1) := getA_some.1 (by rw [HTL.out.1]; rfl)
          obtain ⟨z, hz, e⟩ := List.mem_map.1 hm
          rw [← e]
          exact S8.tr.fit.path z hz)
        have HPL : Hid (px.length ≤ maxLen) := Lib.hid (by have := HPL2.out; unfold maxLen; omega)
        go_wp2_with fail
        have S8 := HS8.out
        refine S8.tr.at_any.mono ?_
        rintro e w8' ⟨rfl, rfl⟩
        go_wp2_with fail
        have hget := S8.tr.get px HPL.out
        have HGE := Lib.hid hget
        clear hget
        refine HGE.out.mono ?_
        rintro e w9 ⟨⟨ga, gn, gc, ⟨g1, g2, g3, g4, g5, g6, g7, g8⟩⟩, rfl, hgr, B9, _⟩
        unfold Raw.val Raw.cells Nums.cells
        dsimp only
        have hs : (getA px (doM pR M at_ ⟨s, sn⟩ (⟨⟨6, op, oa, on, oc, ov, os, oe, qa, qn, qc⟩, xo, xQ, xps, ⟨s, sn⟩⟩ : AskRaw).ce (⟨⟨6, op, oa, on, oc, ov, os, oe, qa, qn, qc⟩, xo, xQ, xps, ⟨s, sn⟩⟩ : AskRaw).v)).isSome = true := by rw [HTL.out.1]; rfl
        rw [hs]
        obtain ⟨w10, hw10⟩ : ∃ w10, w10 = w9.alloc (.cells #[.slice ga gn gc, .int .u32 g1, .int .u32 g2, .int .u32 g3, .int .i64 g4, .int .u32 g5, .int .u64 g6, .int .u64 g7, .int .u64 g8] 39) := ⟨_, rfl⟩
        have B910 : Below w9.heap.size w9 w10 := by rw [hw10]; exact belowA (Below.refl _ w9) _
        have B10 : Below w8.heap.size w8 w10 := B9.trans (B910.mono B9.size)
        have k10 : w10.heap[w9.heap.size]? = some (.cells #[.slice ga gn gc, .int .u32 g1, .int .u32 g2, .int .u32 g3, .int .i64 g4, .int .u32 g5, .int .u64 g6, .int .u64 g7, .int .u64 g8] 39 (0, 0)) := by rw [hw10]; exact heap_alloc_new w9 _
        have q10 := (B10.block w6.heap.size (lt_of_block HQ7.out)).trans HQ7.out
        have hrd : Reads w10 (From w8.heap.size) ⟨ga, gn, gc, ⟨g1, g2, g3, g4, g5, g6, g7, g8⟩⟩ (opA pR M (at_ + 1) ⟨s, sn⟩ xo).node := by
          have h := hgr.below B910
          rw [HTL.out.1] at h
          exact h
        obtain ⟨⟨ra', rn', rc', ⟨r1', r2', r3', r4', r5', r6', r7', r8'⟩⟩, ka', kc', pa', pc', he', hrr, _, _⟩ := HRP8.out
        unfold repCells Raw.cells Nums.cells at he'
        dsimp only [List.cons_append, List.nil_append] at he'
        have hrr2 : Reads w10 (From w5.heap.size) ⟨ra, rn, rc, ⟨r1, r2, r3, r4, r5, r6, r7, r8⟩⟩ (opA pR M (at_ + 1) ⟨s, sn⟩ xo).node := by
          simp only [Value.agg.injEq, List.toArray_inj, Array.mk.injEq, List.cons.injEq, Value.slice.injEq, Value.int.injEq, true_and, and_true] at he'
          obtain ⟨_, _, ⟨rfl, rfl, rfl⟩, rfl, rfl, rfl, rfl, rfl, rfl, rfl, rfl, _⟩ := he'
          rw [← HTA.out]
          exact hrr.below B10
        have hnd := refNode_same hrd hrr2
        unfold Raw.val Raw.cells Nums.cells at hnd
        dsimp only at hnd
        have n1 : w10.rangeAt w9.heap.size 0 [.slice ga gn gc, .int .u32 g1, .int .u32 g2, .int .u32 g3, .int .i64 g4, .int .u32 g5, .int .u64 g6, .int .u64 g7, .int .u64 g8] := range_blk k10
        have n2 : w10.rangeAt w6.heap.size 2 [.slice ra rn rc, .int .u32 r1, .int .u32 r2, .int .u32 r3, .int .i64 r4, .int .u32 r5, .int .u64 r6, .int .u64 r7, .int .u64 r8] := mid_range 2 (o := 0) (range_blk q10) (fun j v hv => by
          have hj := (List.getElem?_eq_some_iff.1 hv).1
          rw [← hv]
          rw [show 2 + j = j + 2 by omega]
          rw [List.getElem?_cons_succ, List.getElem?_cons_succ]
          exact (List.getElem?_append_left (l₂ := [.slice ka kn kc, .slice pa pn pc]) hj))
        have HND := Lib.hid hnd
        have HN := Lib.hid (And.intro n1 n2)
        have HW10 := Lib.hid hw10
        have HS10 := Lib.hid (S8.below B10)
        have HB10 := Lib.hid (HB8.out.trans (B10.mono HB8.out.size))
        have c0' : w10.cell? ⟨w.heap.size, 0, none⟩ = some (.int .u8 6) := (B10.cell (p := ⟨w.heap.size, 0, none⟩) (World.block_lt_of_cell? _ _ c0)).trans c0
        have d1' := (B10.cell (p := ⟨w6.heap.size, 1, none⟩) (World.block_lt_of_cell? _ _ d1)).trans d1
        have HD1 := Lib.hid d1'
        have h9_0 : w10.cell? ⟨w9.heap.size, 0, none⟩ = some (.slice ga gn gc) := cell_of_row _ _ 0 _ 39 (0, 0) k10
        have h9_1 : w10.cell? ⟨w9.heap.size, 1, none⟩ = some (.int .u32 g1) := cell_of_row _ _ 1 _ 39 (0, 0) k10
        have h9_2 : w10.cell? ⟨w9.heap.size, 2, none⟩ = some (.int .u32 g2) := cell_of_row _ _ 2 _ 39 (0, 0) k10
        have h9_3 : w10.cell? ⟨w9.heap.size, 3, none⟩ = some (.int .u32 g3) := cell_of_row _ _ 3 _ 39 (0, 0) k10
        have h9_4 : w10.cell? ⟨w9.heap.size, 4, none⟩ = some (.int .i64 g4) := cell_of_row _ _ 4 _ 39 (0, 0) k10
        have h9_5 : w10.cell? ⟨w9.heap.size, 5, none⟩ = some (.int .u32 g5) := cell_of_row _ _ 5 _ 39 (0, 0) k10
        have h9_6 : w10.cell? ⟨w9.heap.size, 6, none⟩ = some (.int .u64 g6) := cell_of_row _ _ 6 _ 39 (0, 0) k10
        have h9_7 : w10.cell? ⟨w9.heap.size, 7, none⟩ = some (.int .u64 g7) := cell_of_row _ _ 7 _ 39 (0, 0) k10
        have h9_8 : w10.cell? ⟨w9.heap.size, 8, none⟩ = some (.int .u64 g8) := cell_of_row _ _ 8 _ 39 (0, 0) k10
        have h6_2 : w10.cell? ⟨w6.heap.size, 2, none⟩ = some (.slice ra rn rc) := cell_of_row _ _ 2 _ 43 (0, 0) q10
        have h6_3 : w10.cell? ⟨w6.heap.size, 3, none⟩ = some (.int .u32 r1) := cell_of_row _ _ 3 _ 43 (0, 0) q10
        have h6_4 : w10.cell? ⟨w6.heap.size, 4, none⟩ = some (.int .u32 r2) := cell_of_row _ _ 4 _ 43 (0, 0) q10
        have h6_5 : w10.cell? ⟨w6.heap.size, 5, none⟩ = some (.int .u32 r3) := cell_of_row _ _ 5 _ 43 (0, 0) q10
        have h6_6 : w10.cell? ⟨w6.heap.size, 6, none⟩ = some (.int .i64 r4) := cell_of_row _ _ 6 _ 43 (0, 0) q10
        have h6_7 : w10.cell? ⟨w6.heap.size, 7, none⟩ = some (.int .u32 r5) := cell_of_row _ _ 7 _ 43 (0, 0) q10
        have h6_8 : w10.cell? ⟨w6.heap.size, 8, none⟩ = some (.int .u64 r6) := cell_of_row _ _ 8 _ 43 (0, 0) q10
        have h6_9 : w10.cell? ⟨w6.heap.size, 9, none⟩ = some (.int .u64 r7) := cell_of_row _ _ 9 _ 43 (0, 0) q10
        have h6_10 : w10.cell? ⟨w6.heap.size, 10, none⟩ = some (.int .u64 r8) := cell_of_row _ _ 10 _ 43 (0, 0) q10
        clear hgr B9 B910 B10 k10 q10 hrd he' hrr hrr2 hnd n1 n2 hw10 S8 hs d1'
        go_upto_region 17 with fail
        rw [← HW10.out]
        go_wp2_with fail
        refine HND.out.mono ?_
        rintro e w11 ⟨rfl, B11⟩
        have d1'' : w11.cell? ⟨w6.heap.size, 1, none⟩ = some (.string (bs px)) := (B11.cell (p := ⟨w6.heap.size, 1, none⟩) (World.block_lt_of_cell? _ _ HD1.out)).trans HD1.out
        have HS11 := Lib.hid (HS10.out.below B11)
        have HB11 := Lib.hid (HB10.out.trans (B11.mono HB10.out.size))
        have hun := later_under w11 HS11.out.tr.max px pR HPL2.out (by decide)
        rw [HTL.out.2] at hun
        have HUN := Lib.hid hun
        clear B11 hun
        go_wp2_with fail
        refine (HUN.out _ (Below.refl _ _)).mono ?_
        rintro e w12 ⟨rfl, B12⟩
        have HS12 := Lib.hid (HS11.out.below B12)
        have HB12 := Lib.hid (HB11.out.trans (B12.mono HB11.out.size))
        clear B12
        go_wp2_with fail
        refine (works_any _ HS12.out.tr.max HS12.out.pow).mono ?_
        rintro e wz ⟨rfl, BZ⟩
        have HZ := Lib.hid (HB12.out.trans (BZ.mono HB12.out.size))
        clear BZ
        go_wp2
        go_ret
        exact ⟨rfl, HZ.out⟩
  · have tx : (x != 0) = true := by simpa using hx0
    have hE : doE pR M at_ ⟨s, sn⟩ (⟨⟨ok, op, oa, on, oc, ov, os, oe, qa, qn, qc⟩, xo, xQ, xps, ⟨s, sn⟩⟩ : AskRaw).ce (⟨⟨ok, op, oa, on, oc, ov, os, oe, qa, qn, qc⟩, xo, xQ, xps, ⟨s, sn⟩⟩ : AskRaw).v ≠ 0 := by rw [← HV.out.1]; exact hx0
    have hxz : xn = 0 := by rw [HV.out.2.2.2.2, doX_none hE]; rfl
    have txn : ((xn : Int) == 0) = true := by rw [hxz]; rfl
    by_cases h7 : ok = 7
    · have hk : (ok == 7) = true := by rw [h7]; rfl
      clear h7 hx0 hxz hE
      go_wp2_with fail
      refine (works_any _ HS7.out.tr.max HS7.out.pow).mono ?_
      rintro e wz ⟨rfl, BZ⟩
      have HZ := Lib.hid (HB7.out.trans (BZ.mono HB7.out.size))
      clear BZ
      go_wp2
      go_ret
      exact ⟨rfl, HZ.out⟩
    · have hk : (ok == 7) = false := by simpa using h7
      have hna := leaf_noAns (root := pR) (M := M) (at_ := at_) (who := ⟨s, sn⟩) (ce := (⟨⟨ok, op, oa, on, oc, ov, os, oe, qa, qn, qc⟩, xo, xQ, xps, ⟨s, sn⟩⟩ : AskRaw).ce) (v := (⟨⟨ok, op, oa, on, oc, ov, os, oe, qa, qn, qc⟩, xo, xQ, xps, ⟨s, sn⟩⟩ : AskRaw).v) (by show xo.kind ≠ 7; rw [← HX.out.ok.leaf.kind]; exact h7) hE
      have hrep := HREP.out
      rw [hna.1, hna.2, ← HV.out.1] at hrep
      have hrs := reply_same hrep (reply_bare w7 (fun _ => True) x) (by decide) (by decide) (fun y h => by simp at h)
      have HRS := Lib.hid hrs
      clear hrs hrep hna h7 hx0 hxz hE
      have e7_1 : w7.cell? ⟨w6.heap.size, 1, none⟩ = some (.string (bs px)) := cell_of_row _ _ 1 _ 43 (0, 0) HK7.out.1
      have e7_2 : w7.cell? ⟨w6.heap.size, 2, none⟩ = some (.slice ra rn rc) := cell_of_row _ _ 2 _ 43 (0, 0) HK7.out.1
      have e7_3 : w7.cell? ⟨w6.heap.size, 3, none⟩ = some (.int .u32 r1) := cell_of_row _ _ 3 _ 43 (0, 0) HK7.out.1
      have e7_4 : w7.cell? ⟨w6.heap.size, 4, none⟩ = some (.int .u32 r2) := cell_of_row _ _ 4 _ 43 (0, 0) HK7.out.1
      have e7_5 : w7.cell? ⟨w6.heap.size, 5, none⟩ = some (.int .u32 r3) := cell_of_row _ _ 5 _ 43 (0, 0) HK7.out.1
      have e7_6 : w7.cell? ⟨w6.heap.size, 6, none⟩ = some (.int .i64 r4) := cell_of_row _ _ 6 _ 43 (0, 0) HK7.out.1
      have e7_7 : w7.cell? ⟨w6.heap.size, 7, none⟩ = some (.int .u32 r5) := cell_of_row _ _ 7 _ 43 (0, 0) HK7.out.1
      have e7_8 : w7.cell? ⟨w6.heap.size, 8, none⟩ = some (.int .u64 r6) := cell_of_row _ _ 8 _ 43 (0, 0) HK7.out.1
      have e7_9 : w7.cell? ⟨w6.heap.size, 9, none⟩ = some (.int .u64 r7) := cell_of_row _ _ 9 _ 43 (0, 0) HK7.out.1
      have e7_10 : w7.cell? ⟨w6.heap.size, 10, none⟩ = some (.int .u64 r8) := cell_of_row _ _ 10 _ 43 (0, 0) HK7.out.1
      have e7_11 : w7.cell? ⟨w6.heap.size, 11, none⟩ = some (.slice ka kn kc) := cell_of_row _ _ 11 _ 43 (0, 0) HK7.out.1
      have e7_12 : w7.cell? ⟨w6.heap.size, 12, none⟩ = some (.slice pa pn pc) := cell_of_row _ _ 12 _ 43 (0, 0) HK7.out.1
      go_wp2_with fail
      refine HRS.out.mono ?_
      rintro e w8 ⟨rfl, B8⟩
      have HS8 := Lib.hid (HS7.out.below B8)
      have HB8 := Lib.hid (HB7.out.trans (B8.mono HB7.out.size))
      clear B8
      go_wp2_with fail
      refine (works_any _ HS8.out.tr.max HS8.out.pow).mono ?_
      rintro e wz ⟨rfl, BZ⟩
      have HZ := Lib.hid (HB8.out.trans (BZ.mono HB8.out.size))
      clear BZ
      go_wp2
      go_ret
      exact ⟨rfl, HZ.out⟩
end Go.Proofs.YtnclkfhdpkkakaaGreatDoor

namespace Go.Proofs.YtnclkfhdpkkakaaGreatDoor
set_option linter.unusedVariables false
set_option linter.unusedSimpArgs false
open Go Go.RowKit Go.ChangeShapes Go.WideShapes Go.Deep
set_option maxRecDepth 100000 in
theorem opFits_law {H : Type} (enc : TypeId × Value → H) (W : World)
    (v0 : Value) (d0 : DataW H) (p0 : List MemPlace) (h0 : DataW.Trod enc Tryz.prog W 0 (fun _ => true) true 22 v0 d0 p0) (o0 : ∃ b, Value.okWide Tryz.prog W .any b 22 v0)
    (v1 : Value) (d1 : DataW H) (p1 : List MemPlace) (h1 : DataW.Trod enc Tryz.prog W 0 (fun _ => true) true 31 v1 d1 p1) (o1 : ∃ b, Value.okWide Tryz.prog W .any b 31 v1) (hm : MaxInt W) (PT : PowTab W) :
    Calls Tryz.prog 3 #[v0, v1] W fun e W' => e = .returned (.bool true) ∧ Below W.heap.size W W' := by
  obtain ⟨b0, o0⟩ := o0
  obtain ⟨b1, o1⟩ := o1
  obtain ⟨a0, len0, cap0, rfl⟩ := okWide_slice Tryz.underlying22 o0
  obtain ⟨cs, rfl, _⟩ := okWide_struct Tryz.underlying31 o1
  obtain ⟨f0, h0⟩ := h0
  obtain ⟨f1, h1⟩ := h1
  obtain ⟨a, c, L, e0, l0, hat⟩ := asks_open h0
  obtain ⟨y, e1, hy⟩ := ask_open h1
  simp [Value.cells] at e0
  obtain ⟨rfl, rfl, rfl⟩ := e0
  have e1 : cs = y.cells.toArray := by
    have e2 : cs.toList = y.cells := by simpa [Value.cells] using e1
    rw [← e2]
  subst e1
  exact opFits_core W hm PT _ _ L hat l0 y hy
end Go.Proofs.YtnclkfhdpkkakaaGreatDoor
