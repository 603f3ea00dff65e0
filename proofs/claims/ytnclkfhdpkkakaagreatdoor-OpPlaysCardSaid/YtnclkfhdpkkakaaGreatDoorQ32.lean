/-
  Do of one operation, walked. The laws' did, walked. Operations on nodes, in a form that can be reckoned. A tree in a run of operations: one bundle; did of one operation.
-/
import Derived.Test.YtnclkfhdpkkakaaGreatDoorQ30
import Derived.Test.YtnclkfhdpkkakaaGreatDoorQ31
import Derived.Test.YtnclkfhdpkkakaaGreatDoorQ15
namespace Go.Proofs.YtnclkfhdpkkakaaGreatDoor
set_option linter.unusedVariables false
set_option linter.unusedSimpArgs false
open Go Go.RowKit Go.Shelf Go.MapKept Go.ChangeMaps Go.Maps Go.Sort
theorem below_tr {w0 w w' : World} {b : Nat} {root : Bytes} {at_ : Int} {M : List (Bytes × Nd)} (R : TR w0 w b root at_ M) (hb : Below w.heap.size w w') : TR w0 w' b root at_ M := R.below hb
theorem kept_cells {w : World} {p : Addr} {B o : Nat} {cs : List Value} {u : Value} (hn : p.block ≠ B) (h : w.cell? p = some u) : (w.setCells B o cs).cell? p = some u :=
 (Kept.cell (S := (· = B)) (Kept.setCells (S := (· = B)) (p := B) rfl _ o (Kept.refl _ w)) (World.block_lt_of_cell? _ _ h) hn).trans h
theorem doer_new {w0 w w3 : World} {b2 : Nat} {root : Bytes} {at_ : Int} {M : List (Bytes × Nd)} (RC : TR w0 w3 b2 root at_ M) (hbl : Below w.heap.size w w3) (hb : w.heap.size ≤ b2) (hm : MaxInt w) (I : Inv root M) (a s n : Int) :
  DoerAt (fun _ => False) w (w3.alloc (.cells #[.pointer (some ⟨b2, 0, none⟩), .int .u64 a, .int .i64 s, .int .u32 n, .slice none 0 0] 82)) w3.heap.size b2 root a at_ M ⟨s, n⟩ (.slice none 0 0) [] [] := by
 have B4 : Below w3.heap.size w3 (w3.alloc (.cells #[.pointer (some ⟨b2, 0, none⟩), .int .u64 a, .int .i64 s, .int .u32 n, .slice none 0 0] 82)) := belowA (Below.refl _ w3) _
 obtain ⟨lo, mb, T⟩ := RC.tree
 have T2 := (T.both (lo' := fun k => k < w3.heap.size) (fun k _ h => h)).below B4
 exact ⟨⟨⟨_, _, T2⟩, hbl.trans (B4.mono hbl.size), hb, RC.fit, RC.rl, hm⟩, heap_alloc_new w3 _, effRow_nil _ _, hbl.size, I, ⟨rfl, fun k r e h => by simp at h⟩, fun _ h => h.elim, _, _, T2, fun k hk => ⟨⟨by simp [Value.ownBlock], by have hk : k < w3.heap.size := hk; omega⟩, fun h => h⟩⟩
theorem do_one {root : Bytes} {M : List (Bytes × Nd)} {at_ : Int} {who : Sess} {o : OpV} (hk : o.leaf.kind ≠ 7) :
  doE root M at_ who 0 o = opE root M who o.leaf ∧ doX root M at_ who 0 o = opXs root M (at_ + 1) who o.leaf ∧ doA root M at_ who 0 o = (opR root M (at_ + 1) who o.leaf).a ∧ doR root M at_ who 0 o = [] := by
 have h1 : o.seq = [o.leaf] := by unfold OpV.seq; rw [if_neg hk]
 have h2 : doE root M at_ who 0 o = opE root M who o.leaf := by
  unfold doE
  rw [if_neg (by simp), h1]
  unfold runE
  by_cases h : opE root M who o.leaf = 0
  ·rw [if_pos h, h]; rfl
  ·rw [if_neg h]
 refine ⟨h2, ?_, ?_, ?_⟩
 ·unfold doX
  rw [h2, h1]
  unfold runX
  by_cases h : opE root M who o.leaf = 0
  ·rw [if_neg (by simpa using h), if_pos h]
   simp [runX]
  ·rw [if_pos h]
   unfold opXs
   rw [if_pos h]
 ·unfold doA
  rw [if_pos ⟨rfl, hk⟩]
 ·unfold doR
  rw [if_neg (fun h => hk h.2)]
section
variable {w0 w : World} {b : Nat} {root : Bytes} {at_ : Int} {M : List (Bytes × Nd)}
set_option maxRecDepth 100000 in
set_option maxHeartbeats 16000000 in
theorem do_leaf (R : TR w0 w b root at_ M) (I : Inv root M) (hm : MaxInt w) (h0 : 0 ≤ at_) (h1 : at_ ≤ 90000) (NX : Nice M) (PT : PowTab w) (r : RawO) (o : OpV) (who : Sess) (hr : LeafO w (fun k => k < w.heap.size) r o.leaf) (HC : ∀ w', Below w.heap.size w w' → Calls Tryz.prog 22 #[r.val] w' (CheckIs w' 0)) (hg : o.leaf.kind ≠ 7 ∧ r.pn = 0 ∧ Leafy o.leaf) :
  Calls Tryz.prog 14 #[.pointer (some ⟨b, 0, none⟩), r.val, whoV who] w (DoEnd w root M at_ who 0 o) := by
 obtain ⟨ok, op, oa, on, oc, ov, os, oe, qa, qn, qc⟩ := r
 obtain ⟨s, n⟩ := who
 obtain ⟨⟨lk, lp, ld, lv, ls, le⟩, ps⟩ := o
 obtain ⟨q1, q2, q3, q4, q5, q6, q7, q8⟩ := hr
 have hr : LeafO w (fun k => k < w.heap.size) ⟨ok, op, oa, on, oc, ov, os, oe, qa, qn, qc⟩ ⟨lk, lp, ld, lv, ls, le⟩ := ⟨q1, q2, q3, q4, q5, q6, q7, q8⟩
 clear q3 q4 q5 q6 q7 q8
 dsimp only at q1 q2
 subst q1 q2
 unfold RawO.val RawO.cells whoV
 unfold RawO.val RawO.cells at HC
 dsimp only at HC ⊢
 obtain ⟨w1, hw1, hb1, hs1, k0, k1, k2⟩ := do_boxes w ok op oa on oc ov os oe qa qn qc s n
 have HSO : Hid ((Tryz.prog.info? 26).map (·.size) = some 7) := Lib.hid (by kernel_rfl)
 have HSR : Hid ((Tryz.prog.info? 43).map (·.size) = some 13) := Lib.hid infoReply13
 have HSS : Hid ((Tryz.prog.info? 29).map (·.size) = some 2) := Lib.hid (by kernel_rfl)
 have H1 := Lib.hid (And.intro hb1 (And.intro hs1 (And.intro k0 (And.intro k1 (And.intro k2 hw1)))))
 have HR1 := Lib.hid (range_blk k0)
 have hck := HC w1 hb1
 have HCK := Lib.hid hck
 have HI := Lib.hid (And.intro R (And.intro I (And.intro hm (And.intro h0 (And.intro h1 (And.intro NX PT))))))
 have HG := Lib.hid (And.intro hr hg)
 have tw : ∀ _ : True, IntKind.u64.wrap (at_ + 1) = at_ + 1 := fun _ => by rw [IntKind.wrap_u64]; omega
 clear HC hb1 hs1 k0 k1 k2 hck R I hm h0 h1 NX PT hr hg
 go_enter Tryz.func14, Tryz.ntmps14
 go_wp2_with fail
 rw [← hw1]
 clear hw1
 refine HCK.out.mono ?_
 rintro e w2 ⟨rfl, B2⟩
 have B02 : Below w.heap.size w w2 := H1.out.1.trans (B2.mono H1.out.1.size)
 have HRW : Hid (w2.drew.rangeAt (w.heap.size + 1) 0 [.int .i64 s, .int .u32 n]) := Lib.hid (range_blk (w := w2.drew) ((B2.block (w.heap.size + 1) (by have := H1.out.2.1; omega)).trans H1.out.2.2.2.1))
 have HCL := Lib.hid ((below_tr HI.out.1 (B02.drew)).clone)
 have H2 := Lib.hid (And.intro B2 B02)
 clear B2 B02
 go_wp2_with fail
 refine wp_region_held_drew (S := fun w' => World.rangeAt w' (w.heap.size + 1) 0 [.int .i64 s, .int .u32 n]) (by kernel_rfl) HRW.out (fun hS => ?_)
 refine tI 0 rfl hS ?_
 refine tI 2 rfl hS ?_
 refine tL 5 rfl hS 29 (.tmp 5) (w.heap.size + 1) 0 [.int .i64 s, .int .u32 n] (fun _ h => h) Tryz.underlying29 HSS.out ?_
 simp only [putS]
 refine cI 1 rfl ?_
 refine HCL.out.mono ?_
 rintro e w3 ⟨b2, rfl, RC, hb2, B3'⟩
 have B3 : Below w2.heap.size w2 w3 := (Below.refl _ w2).drew.trans B3'
 have hS3 : World.rangeAt w3 (w.heap.size + 1) 0 [.int .i64 s, .int .u32 n] := range_kept HRW.out B3' (by have := H1.out.2.1; have := H2.out.1.size; show w.heap.size + 1 < w2.heap.size; omega)
 have B03 : Below w.heap.size w w3 := H2.out.2.trans (B3.mono H2.out.2.size)
 have HAT := Lib.hid (below_tr HI.out.1 B03).at_any
 have hb2' : w2.heap.size ≤ b2 := hb2
 have H3 := Lib.hid (And.intro RC (And.intro hb2' (And.intro B3 B03)))
 clear RC hb2 hb2' B3' B3 B03 hS
 refine ⟨hS3, ?_⟩
 try dsimp only
 simp only [putS]
 refine cI 3 rfl ?_
 refine HAT.out.mono ?_
 rintro e w3' ⟨rfl, rfl⟩
 refine ⟨hS3, ?_⟩
 try dsimp only
 simp only [putS]
 refine tI 4 rfl hS3 ?_
 refine tI 6 rfl hS3 ?_
 simp only [putS]
 obtain ⟨w4, hw4⟩ : ∃ w4, w4 = w3.alloc (.cells #[.pointer (some ⟨b2, 0, none⟩), .int .u64 (at_ + 1), .int .i64 s, .int .u32 n, .slice none 0 0] 82) := ⟨_, rfl⟩
 have D4 : DoerAt (fun _ => False) w w4 w3.heap.size b2 root (at_ + 1) at_ M ⟨s, n⟩ (.slice none 0 0) [] [] := by rw [hw4]; exact doer_new H3.out.1 H3.out.2.2.2 (Nat.le_trans H2.out.2.size H3.out.2.1) HI.out.2.2.1 HI.out.2.1 _ _ _
 have B4 : Below w3.heap.size w3 w4 := by rw [hw4]; exact belowA (Below.refl _ w3) _
 have hs4 : w4.heap.size = w3.heap.size + 1 := by rw [hw4]; simp
 have hS4 : World.rangeAt w4 (w.heap.size + 1) 0 [.int .i64 s, .int .u32 n] := range_kept hS3 B4 (by have := H1.out.2.1; have := H2.out.1.size; have := H3.out.2.2.1.size; omega)
 have HW4 := Lib.hid hw4
 have H4 := Lib.hid (And.intro D4 (And.intro B4 hs4))
 clear D4 B4 hs4
 refine give_in 7 rfl (by kernel_rfl) (by rfl) (.pointer (some ⟨w3.heap.size, 0, none⟩)) w4 (by rw [HW4.out]; go_simp <;> first | rfl | exact ⟨rfl, rfl⟩) hS4 ?_
 clear hw4 hS3
 simp only [putS]
 refine tI 8 rfl hS4 ?_
 simp only [putS]
 refine wpAnyH_done (by kernel_rfl) ?_ _
 clear hS4
 obtain ⟨w5, hw5⟩ : ∃ w5, w5 = w4.alloc (.cells #[.int .i64 0, .string ⟨#[]⟩, .slice none 0 0, .int .u32 0, .int .u32 0, .int .u32 0, .int .i64 0, .int .u32 0, .int .u64 0, .int .u64 0, .int .u64 0, .slice none 0 0, .slice none 0 0] 43) := ⟨_, rfl⟩
 have B5 : Below w4.heap.size w4 w5 := by rw [hw5]; exact belowA (Below.refl _ w4) _
 have hs5 : w5.heap.size = w4.heap.size + 1 := by rw [hw5]; simp
 have k5 : w5.heap[w4.heap.size]? = some (.cells #[.int .i64 0, .string ⟨#[]⟩, .slice none 0 0, .int .u32 0, .int .u32 0, .int .u32 0, .int .i64 0, .int .u32 0, .int .u64 0, .int .u64 0, .int .u64 0, .slice none 0 0, .slice none 0 0] 43 (0, 0)) := by rw [hw5]; exact heap_alloc_new w4 _
 have B15 : Below w1.heap.size w1 w5 := H2.out.1.trans ((H3.out.2.2.1.trans ((H4.out.2.1.trans (B5.mono H4.out.2.1.size)).mono H3.out.2.2.1.size)).mono H2.out.1.size)
 have B05 : Below w.heap.size w w5 := H1.out.1.trans (B15.mono H1.out.1.size)
 have kop : w5.heap[w.heap.size]? = some (.cells #[.int .u8 ok, .string (bs op), .slice oa on oc, .int .i64 ov, .bool os, .bool oe, .slice qa qn qc] 26 (0, 0)) := (B15.block _ (by have := H1.out.2.1; omega)).trans H1.out.2.2.1
 have kres : w5.heap[w.heap.size + 2]? = some (.cells #[.int .i64 0, .string ⟨#[]⟩, .slice none 0 0, .int .u32 0, .int .u32 0, .int .u32 0, .int .i64 0, .int .u32 0, .int .u64 0, .int .u64 0, .int .u64 0, .slice none 0 0, .slice none 0 0] 43 (0, 0)) := (B15.block _ (by have := H1.out.2.1; omega)).trans H1.out.2.2.2.2.1
 have HW5 := Lib.hid hw5
 have HR5 := Lib.hid (range_blk kop)
 have z0 : w5.cell? ⟨w.heap.size, 0, none⟩ = some (.int .u8 ok) := cell_of_row _ _ 0 _ 26 (0, 0) kop
 have H5 := Lib.hid (And.intro (H4.out.1.below B5) (And.intro hs5 (And.intro k5 (And.intro B15 (And.intro B05 (And.intro kop (And.intro kres (And.intro H4.out.2.2 (by have := H1.out.2.1; have := H2.out.1.size; have := H3.out.2.2.1.size; omega : w.heap.size + 3 ≤ w3.heap.size)))))))))
 clear hw5 B5 hs5 k5 B15 B05 kop kres
 have hq0 : qn = 0 := HG.out.2.2.1
 subst hq0
 have t7 : (ok != 7) = true := by simpa using HG.out.2.1
 have hon := H5.out.1.one_leaf HI.out.2.2.2.1 (Int.le_trans HI.out.2.2.2.2.1 (by decide)) (by simp) HI.out.2.2.2.2.2.1 (tab_below HI.out.2.2.2.2.2.2 H5.out.2.2.2.2.1) ⟨ok, op, oa, on, oc, ov, os, oe, qa, 0, qc⟩ ⟨ok, op, ld, lv, ls, le⟩ (HG.out.1.below H5.out.2.2.2.2.1) (fun k _ => ⟨by simp [Value.ownBlock], fun h => h⟩) HG.out.2.2.2
 unfold RawO.val RawO.cells at hon
 dsimp only at hon
 have HON1 := Lib.hid hon
 clear hon
 go_upto_region 8 with fail
 rw [← HW5.out]
 go_wp2_with (refine wpList_load_mid rfl 26 (.tmp 4) rfl w.heap.size 0 rfl [.int .u8 ok, .string (bs op), .slice oa on oc, .int .i64 ov, .bool os, .bool oe, .slice qa 0 qc] _ HR5.out Tryz.underlying26 rfl HSO.out ?_)
 refine HON1.out.mono ?_
 rintro e w6 h6
 have tq : ∀ _ : True, (0 : Nat) = 0 := fun _ => rfl
 rcases h6 with ⟨hE0, cnt2, _, _, ⟨⟨v6, L6, ⟨ra, rn, rc, ⟨r1, r2, r3, r4, r5, r6, r7, r8⟩⟩, ka, kc, rfl, D6, G6, hrd, hkd⟩, K6⟩⟩ | ⟨hE, rfl, B6⟩
 ·obtain ⟨px, hpx⟩ : ∃ px, px = (opA root M (at_ + 1) ⟨s, n⟩ ⟨ok, op, ld, lv, ls, le⟩).path := ⟨_, rfl⟩
  obtain ⟨kn, hkn⟩ : ∃ kn, kn = (opA root M (at_ + 1) ⟨s, n⟩ ⟨ok, op, ld, lv, ls, le⟩).kids.length := ⟨_, rfl⟩
  rw [← hpx, ← hkn]
  unfold repCells Raw.cells Nums.cells
  dsimp only [List.cons_append, List.nil_append]
  have hOD : OpDone (fun _ => False) w w5 w3.heap.size b2 root (at_ + 1) cnt2 M (opM root M (at_ + 1) ⟨s, n⟩ ⟨ok, op, ld, lv, ls, le⟩) ⟨s, n⟩ (.slice none 0 0) ([] ++ opXs root M (at_ + 1) ⟨s, n⟩ ⟨ok, op, ld, lv, ls, le⟩) (opA root M (at_ + 1) ⟨s, n⟩ ⟨ok, op, ld, lv, ls, le⟩) (.returned (.agg (repCells 0 px ⟨ra, rn, rc, ⟨r1, r2, r3, r4, r5, r6, r7, r8⟩⟩ ka kn kc none 0 0).toArray)) w6 := ⟨⟨v6, L6, ⟨ra, rn, rc, ⟨r1, r2, r3, r4, r5, r6, r7, r8⟩⟩, ka, kc, by rw [hpx, hkn], D6, G6, hrd, hkd⟩, K6⟩
  have hb2 : b2 < w3.heap.size := H3.out.1.lt
  have hb2w : w.heap.size + 3 ≤ b2 := by have := H3.out.2.1; have := H1.out.2.1; have := H2.out.1.size; omega
  have hnk : ∀ k, k ≠ b2 → k ≠ w3.heap.size → ¬ (k = b2 ∨ k = w3.heap.size ∨ (Value.slice none 0 0).ownBlock = some k) := fun k h1 h2 h => by
   rcases h with h | h | h
   ·exact h1 h
   ·exact h2 h
   ·simp [Value.ownBlock] at h
  have hs4 := H5.out.2.2.2.2.2.2.2.1
  have hs5 := H5.out.2.1
  have h3w := H5.out.2.2.2.2.2.2.2.2
  have k6 := (K6.block w4.heap.size (by omega) (hnk _ (by omega) (by omega))).trans H5.out.2.2.1
  have kr6 := (K6.block (w.heap.size + 2) (by omega) (hnk _ (by omega) (by omega))).trans H5.out.2.2.2.2.2.2.1
  have ko6 := (K6.block w.heap.size (by omega) (hnk _ (by omega) (by omega))).trans H5.out.2.2.2.2.2.1
  have ht6 : w6.there w4.heap.size 0 13 := there_of k6 (by simp)
  obtain ⟨w7, hw7⟩ : ∃ w7, w7 = w6.setCells w4.heap.size 0 [.int .i64 0, .string (bs px), .slice ra rn rc, .int .u32 r1, .int .u32 r2, .int .u32 r3, .int .i64 r4, .int .u32 r5, .int .u64 r6, .int .u64 r7, .int .u64 r8, .slice ka kn kc, .slice none 0 0] := ⟨_, rfl⟩
  have K7 : Kept (· = w4.heap.size) w6 w7 := by rw [hw7]; exact Kept.setCells (S := (· = w4.heap.size)) (p := w4.heap.size) rfl _ 0 (Kept.refl _ w6)
  have k7 : w7.heap[w4.heap.size]? = some (.cells #[.int .i64 0, .string (bs px), .slice ra rn rc, .int .u32 r1, .int .u32 r2, .int .u32 r3, .int .i64 r4, .int .u32 r5, .int .u64 r6, .int .u64 r7, .int .u64 r8, .slice ka kn kc, .slice none 0 0] 43 (0, 0)) := by rw [hw7]; exact cells_set k6 rfl
  have hs6 := K6.size
  have hs7 := K7.size
  have kr7 := (K7.block (w.heap.size + 2) (by omega) (fun e => by have e : w.heap.size + 2 = w4.heap.size := e; omega)).trans kr6
  have ko7 := (K7.block w.heap.size (by omega) (fun e => by have e : w.heap.size = w4.heap.size := e; omega)).trans ko6
  have D7 := D6.turn k6 zr_free (by decide) (by decide) (by decide) (by omega) K7
  have z6 : w7.cell? ⟨w.heap.size, 6, none⟩ = some (.slice qa 0 qc) := cell_of_row _ _ 6 _ 26 (0, 0) ko7
  have z10 : w7.cell? ⟨w4.heap.size, 0, none⟩ = some (.int .i64 0) := cell_of_row _ _ 0 _ 43 (0, 0) k7
  have zv : w7.cell? ⟨w3.heap.size, 4, none⟩ = some v6 := cell_of_row _ _ 4 _ 82 (0, 0) D7.blk
  have ht7 : w7.there (w.heap.size + 2) 0 13 := there_of kr7 (by simp)
  have HW7 := Lib.hid hw7
  have H7 := Lib.hid (And.intro ht6 (And.intro k7 (And.intro kr7 (And.intro ht7 (And.intro D7 (And.intro K7 (And.intro K6 (And.intro hrd (And.intro hkd (And.intro hpx (And.intro hkn (And.intro hE0 (And.intro hb2 hb2w)))))))))))))
  have HKV7 : Hid (World.rangeAt w7.drew w4.heap.size 0 [.int .i64 0, .string (bs px), .slice ra rn rc, .int .u32 r1, .int .u32 r2, .int .u32 r3, .int .i64 r4, .int .u32 r5, .int .u64 r6, .int .u64 r7, .int .u64 r8, .slice ka kn kc, .slice none 0 0] ∧ w7.drew.cell? ⟨w3.heap.size, 4, none⟩ = some v6) := Lib.hid ⟨range_blk k7, zv⟩
  have HON : Hid ((#[.int .i64 0, .string (bs px), .slice ra rn rc, .int .u32 r1, .int .u32 r2, .int .u32 r3, .int .i64 r4, .int .u32 r5, .int .u64 r6, .int .u64 r7, .int .u64 r8, .slice ka kn kc, .slice none 0 0] : Array Value).all (·.oneCell') = true) := Lib.hid (by simp [Value.oneCell'])
  clear hOD ht6 k7 kr7 ht7 D7 K7 K6 D6 G6 hrd hkd hpx hkn hE0 hb2 hb2w hnk k6 kr6 ko6 ko7 hw7 zv hs4 hs5 h3w hs6 hs7
  try unfold repCells Raw.cells Nums.cells
  try dsimp only [List.cons_append, List.nil_append]
  go_upto_region 10 with (refine wpList_store_mid rfl 43 (.tmp 10) (.tmp 37) rfl w4.heap.size 0 #[.int .i64 0, .string (bs px), .slice ra rn rc, .int .u32 r1, .int .u32 r2, .int .u32 r3, .int .i64 r4, .int .u32 r5, .int .u64 r6, .int .u64 r7, .int .u64 r8, .slice ka kn kc, .slice none 0 0] rfl rfl H7.out.1 HSR.out HON.out ?_)
  rw [← HW7.out]
  go_wp2_with fail
  go_loopw [41] (fun ci wr => ci = .int .i64 0 ∧ wr = w7) (fun _ _ => 0)
  case atStart => exact ⟨rfl, rfl⟩
  case round =>
   obtain ⟨rfl, rfl⟩ := hrel
   go_wp2_with fail
   refine wp_region_held_drew (S := fun w' => World.rangeAt w' w4.heap.size 0 [.int .i64 0, .string (bs px), .slice ra rn rc, .int .u32 r1, .int .u32 r2, .int .u32 r3, .int .i64 r4, .int .u32 r5, .int .u64 r6, .int .u64 r7, .int .u64 r8, .slice ka kn kc, .slice none 0 0] ∧ w'.cell? ⟨w3.heap.size, 4, none⟩ = some v6) (by kernel_rfl) HKV7.out (fun hS => ?_)
   have yv : ∀ w', (World.rangeAt w' w4.heap.size 0 [.int .i64 0, .string (bs px), .slice ra rn rc, .int .u32 r1, .int .u32 r2, .int .u32 r3, .int .i64 r4, .int .u32 r5, .int .u64 r6, .int .u64 r7, .int .u64 r8, .slice ka kn kc, .slice none 0 0] ∧ w'.cell? ⟨w3.heap.size, 4, none⟩ = some v6) → w'.cell? ⟨w3.heap.size, 4, none⟩ = some v6 := fun w' h => h.2
   refine tI 0 rfl hS ?_
   refine tI 1 rfl hS ?_
   refine tI 2 rfl hS ?_
   refine tJ 3 rfl hS yv ?_
   simp only [putS]
   refine tL 4 rfl hS 43 (.tmp 10) w4.heap.size 0 [.int .i64 0, .string (bs px), .slice ra rn rc, .int .u32 r1, .int .u32 r2, .int .u32 r3, .int .i64 r4, .int .u32 r5, .int .u64 r6, .int .u64 r7, .int .u64 r8, .slice ka kn kc, .slice none 0 0] (fun _ h => h.1) Tryz.underlying43 HSR.out ?_
   refine tI 5 rfl hS ?_
   simp only [putS]
   refine sI 6 rfl 43 (.tmp 7) (.tmp 69) (w.heap.size + 2) 0 #[.int .i64 0, .string (bs px), .slice ra rn rc, .int .u32 r1, .int .u32 r2, .int .u32 r3, .int .i64 r4, .int .u32 r5, .int .u64 r6, .int .u64 r7, .int .u64 r8, .slice ka kn kc, .slice none 0 0] H7.out.2.2.2.1 HSR.out HON.out ⟨range_set hS.1 (by have := H5.out.2.2.2.2.2.2.2; omega), (kept_cells (by have := H5.out.2.2.2.2.2.2.2; show w3.heap.size ≠ w.heap.size + 2; omega) hS.2)⟩ ?_
   simp only [putS]
   refine wpAnyH_done (by kernel_rfl) ?_ _
   go_wp2_with fail
   refine bodyPost_ret (results_tmp_cell_mid rfl _ _ (w.heap.size + 2) 0 [.int .i64 0, .string (bs px), .slice ra rn rc, .int .u32 r1, .int .u32 r2, .int .u32 r3, .int .i64 r4, .int .u32 r5, .int .u64 r6, .int .u64 r7, .int .u64 r8, .slice ka kn kc, .slice none 0 0] _ rfl (World.rangeAt_setCells_same _ _ _ _ H7.out.2.2.2.1) Tryz.underlying43 rfl HSR.out) rfl ?_
   obtain ⟨hb1, hs1, k0, k1, k2, _⟩ := H1.out
   obtain ⟨h61, h62, h63, h64, D7, K7, K6, hrd, hkd, hpx, hkn, hE0, hb2, hb2w⟩ := H7.out
   have hs4 := H5.out.2.2.2.2.2.2.2.1
   have hs5 := H5.out.2.1
   have h3w := H5.out.2.2.2.2.2.2.2.2
   have B05 := H5.out.2.2.2.2.1
   have K9 : Kept (· = w.heap.size + 2) wr.drew (wr.drew.setCells (w.heap.size + 2) 0 [.int .i64 0, .string (bs px), .slice ra rn rc, .int .u32 r1, .int .u32 r2, .int .u32 r3, .int .i64 r4, .int .u32 r5, .int .u64 r6, .int .u64 r7, .int .u64 r8, .slice ka kn kc, .slice none 0 0]) := Kept.setCells (S := (· = w.heap.size + 2)) (p := w.heap.size + 2) rfl _ 0 (Kept.refl _ wr.drew)
   have K7d : Kept (· = w4.heap.size) w6 wr.drew := K7.drew
   have D9 := (D7.below (Below.refl _ wr).drew).turn (w := wr.drew) h63 zr_free (by decide) (by decide) (by decide) (by omega) K9
   obtain ⟨e1, e2, e3, e4⟩ := do_one (root := root) (M := M) (at_ := at_) (who := ⟨s, n⟩) (o := ⟨⟨ok, op, ld, lv, ls, le⟩, ps⟩) HG.out.2.1
   have eR : (opR root M (at_ + 1) ⟨s, n⟩ ⟨ok, op, ld, lv, ls, le⟩).a = opA root M (at_ + 1) ⟨s, n⟩ ⟨ok, op, ld, lv, ls, le⟩ := by unfold opR; rw [if_neg (by simpa using hE0)]
   have B09 : Below w.heap.size w (wr.drew.setCells (w.heap.size + 2) 0 [.int .i64 0, .string (bs px), .slice ra rn rc, .int .u32 r1, .int .u32 r2, .int .u32 r3, .int .i64 r4, .int .u32 r5, .int .u64 r6, .int .u64 r7, .int .u64 r8, .slice ka kn kc, .slice none 0 0]) := B05.trans (((K6.below B05.size (fun k h => by
    rcases h with h | h | h
    ·omega
    ·omega
    ·simp [Value.ownBlock] at h)).trans ((K7d.below (Nat.le_trans B05.size K6.size) (fun k e => by have e : k = w4.heap.size := e; omega)).trans (K9.below (by have := K6.size; have := K7d.size; have := B05.size; omega) (fun k e => by have e : k = w.heap.size + 2 := e; omega)))))
   refine ⟨_, _, rfl, ?_, ?_, B09⟩
   ·rw [e2]
    have q := D9.row.out
    rw [List.nil_append] at q
    exact q
   ·rw [e1, e3, e4, eR, hE0]
    refine ⟨⟨ra, rn, rc, ⟨r1, r2, r3, r4, r5, r6, r7, r8⟩⟩, ka, kc, none, 0, by rw [hpx, hkn]; rfl, ?_, ?_, RepsAt.nil _ _ _⟩
    ·have q1 := (hrd.keptS K7d (fun k h1 _ e => by have e : k = w4.heap.size := e; have := h1.1; omega)).keptS K9 (fun k h1 _ e => by have e : k = w.heap.size + 2 := e; have := h1.1; omega)
     exact q1.mono (fun k h1 => by have := h1.1; have := B05.size; show w.heap.size ≤ k; omega)
    ·have q1 := (hkd.keptS K7d (fun k h1 _ e => by have e : k = w4.heap.size := e; have := h1.1; omega)).keptS K9 (fun k h1 _ e => by have e : k = w.heap.size + 2 := e; have := h1.1; omega)
     exact q1.mono (fun k h1 _ => by have := h1.1; have := B05.size; show w.heap.size ≤ k; omega)
 ·obtain ⟨x, hx⟩ : ∃ x, x = opE root M ⟨s, n⟩ ⟨ok, op, ld, lv, ls, le⟩ := ⟨_, rfl⟩
  rw [← hx]
  have hs4 := H5.out.2.2.2.2.2.2.2.1
  have hs5 := H5.out.2.1
  have h3w := H5.out.2.2.2.2.2.2.2.2
  have k6 := (B6.block w4.heap.size (by omega)).trans H5.out.2.2.1
  have kr6 := (B6.block (w.heap.size + 2) (by omega)).trans H5.out.2.2.2.2.2.2.1
  have ko6 := (B6.block w.heap.size (by omega)).trans H5.out.2.2.2.2.2.1
  have ht6 : w6.there w4.heap.size 0 13 := there_of k6 (by simp)
  obtain ⟨w7, hw7⟩ : ∃ w7, w7 = w6.setCells w4.heap.size 0 [.int .i64 x, .string ⟨#[]⟩, .slice none 0 0, .int .u32 0, .int .u32 0, .int .u32 0, .int .i64 0, .int .u32 0, .int .u64 0, .int .u64 0, .int .u64 0, .slice none 0 0, .slice none 0 0] := ⟨_, rfl⟩
  have K7 : Kept (· = w4.heap.size) w6 w7 := by rw [hw7]; exact Kept.setCells (S := (· = w4.heap.size)) (p := w4.heap.size) rfl _ 0 (Kept.refl _ w6)
  have k7 : w7.heap[w4.heap.size]? = some (.cells #[.int .i64 x, .string ⟨#[]⟩, .slice none 0 0, .int .u32 0, .int .u32 0, .int .u32 0, .int .i64 0, .int .u32 0, .int .u64 0, .int .u64 0, .int .u64 0, .slice none 0 0, .slice none 0 0] 43 (0, 0)) := by rw [hw7]; exact cells_set k6 rfl
  have hs6 := B6.size
  have hs7 := K7.size
  have kr7 := (K7.block (w.heap.size + 2) (by omega) (fun e => by have e : w.heap.size + 2 = w4.heap.size := e; omega)).trans kr6
  have ko7 := (K7.block w.heap.size (by omega) (fun e => by have e : w.heap.size = w4.heap.size := e; omega)).trans ko6
  have z6 : w7.cell? ⟨w.heap.size, 6, none⟩ = some (.slice qa 0 qc) := cell_of_row _ _ 6 _ 26 (0, 0) ko7
  have z10 : w7.cell? ⟨w4.heap.size, 0, none⟩ = some (.int .i64 x) := cell_of_row _ _ 0 _ 43 (0, 0) k7
  have ht7 : w7.there (w.heap.size + 2) 0 13 := there_of kr7 (by simp)
  have tx : (x != 0) = true := by rw [hx]; simpa using hE
  have HW7 := Lib.hid hw7
  have H7 := Lib.hid (And.intro ht6 (And.intro k7 (And.intro kr7 (And.intro ht7 (And.intro K7 (And.intro B6 (And.intro hx hE)))))))
  have HKV7 : Hid (World.rangeAt w7.drew w4.heap.size 0 [.int .i64 x, .string ⟨#[]⟩, .slice none 0 0, .int .u32 0, .int .u32 0, .int .u32 0, .int .i64 0, .int .u32 0, .int .u64 0, .int .u64 0, .int .u64 0, .slice none 0 0, .slice none 0 0]) := Lib.hid (range_blk (w := w7.drew) k7)
  have HON : Hid ((#[.int .i64 x, .string ⟨#[]⟩, .slice none 0 0, .int .u32 0, .int .u32 0, .int .u32 0, .int .i64 0, .int .u32 0, .int .u64 0, .int .u64 0, .int .u64 0, .slice none 0 0, .slice none 0 0] : Array Value).all (·.oneCell') = true) := Lib.hid (by simp [Value.oneCell'])
  clear ht6 k7 kr7 ht7 K7 B6 hx hE k6 kr6 ko6 ko7 hw7 hs4 hs5 h3w hs6 hs7
  try unfold repCells zRaw Raw.cells zNums Nums.cells
  try dsimp only [List.cons_append, List.nil_append]
  go_upto_region 10 with (refine wpList_store_mid rfl 43 (.tmp 10) (.tmp 37) rfl w4.heap.size 0 #[.int .i64 x, .string ⟨#[]⟩, .slice none 0 0, .int .u32 0, .int .u32 0, .int .u32 0, .int .i64 0, .int .u32 0, .int .u64 0, .int .u64 0, .int .u64 0, .slice none 0 0, .slice none 0 0] rfl rfl H7.out.1 HSR.out HON.out ?_)
  rw [← HW7.out]
  go_wp2_with fail
  go_loopw [41] (fun ci wr => ci = .int .i64 0 ∧ wr = w7) (fun _ _ => 0)
  case atStart => exact ⟨rfl, rfl⟩
  case round =>
   obtain ⟨rfl, rfl⟩ := hrel
   go_wp2_with fail
   refine wp_region_held_drew (S := fun w' => World.rangeAt w' w4.heap.size 0 [.int .i64 x, .string ⟨#[]⟩, .slice none 0 0, .int .u32 0, .int .u32 0, .int .u32 0, .int .i64 0, .int .u32 0, .int .u64 0, .int .u64 0, .int .u64 0, .slice none 0 0, .slice none 0 0]) (by kernel_rfl) HKV7.out (fun hS => ?_)
   refine tL 0 rfl hS 43 (.tmp 10) w4.heap.size 0 [.int .i64 x, .string ⟨#[]⟩, .slice none 0 0, .int .u32 0, .int .u32 0, .int .u32 0, .int .i64 0, .int .u32 0, .int .u64 0, .int .u64 0, .int .u64 0, .slice none 0 0, .slice none 0 0] (fun _ h => h) Tryz.underlying43 HSR.out ?_
   refine tI 1 rfl hS ?_
   simp only [putS]
   refine sI 2 rfl 43 (.tmp 7) (.tmp 64) (w.heap.size + 2) 0 #[.int .i64 x, .string ⟨#[]⟩, .slice none 0 0, .int .u32 0, .int .u32 0, .int .u32 0, .int .i64 0, .int .u32 0, .int .u64 0, .int .u64 0, .int .u64 0, .slice none 0 0, .slice none 0 0] H7.out.2.2.2.1 HSR.out HON.out (range_set hS (by have := H5.out.2.2.2.2.2.2.2; omega)) ?_
   simp only [putS]
   refine wpAnyH_done (by kernel_rfl) ?_ _
   go_wp2_with fail
   refine bodyPost_ret (results_tmp_cell_mid rfl _ _ (w.heap.size + 2) 0 [.int .i64 x, .string ⟨#[]⟩, .slice none 0 0, .int .u32 0, .int .u32 0, .int .u32 0, .int .i64 0, .int .u32 0, .int .u64 0, .int .u64 0, .int .u64 0, .slice none 0 0, .slice none 0 0] _ rfl (World.rangeAt_setCells_same _ _ _ _ H7.out.2.2.2.1) Tryz.underlying43 rfl HSR.out) rfl ?_
   obtain ⟨h61, h62, h63, h64, K7, B6, hx, hE⟩ := H7.out
   have hs4 := H5.out.2.2.2.2.2.2.2.1
   have hs5 := H5.out.2.1
   have h3w := H5.out.2.2.2.2.2.2.2.2
   have B05 := H5.out.2.2.2.2.1
   have K9 : Kept (· = w.heap.size + 2) wr.drew (wr.drew.setCells (w.heap.size + 2) 0 [.int .i64 x, .string ⟨#[]⟩, .slice none 0 0, .int .u32 0, .int .u32 0, .int .u32 0, .int .i64 0, .int .u32 0, .int .u64 0, .int .u64 0, .int .u64 0, .slice none 0 0, .slice none 0 0]) := Kept.setCells (S := (· = w.heap.size + 2)) (p := w.heap.size + 2) rfl _ 0 (Kept.refl _ wr.drew)
   have K7d : Kept (· = w4.heap.size) w6 wr.drew := K7.drew
   obtain ⟨e1, e2, e3, e4⟩ := do_one (root := root) (M := M) (at_ := at_) (who := ⟨s, n⟩) (o := ⟨⟨ok, op, ld, lv, ls, le⟩, ps⟩) HG.out.2.1
   have eR : (opR root M (at_ + 1) ⟨s, n⟩ ⟨ok, op, ld, lv, ls, le⟩).a = noAns := by unfold opR; rw [if_pos (by simpa using hE)]
   have eX : opXs root M (at_ + 1) ⟨s, n⟩ ⟨ok, op, ld, lv, ls, le⟩ = [] := by unfold opXs; rw [if_pos (by simpa using hE)]
   have B06 : Below w.heap.size w w6 := B05.trans (B6.mono B05.size)
   have B09 : Below w.heap.size w (wr.drew.setCells (w.heap.size + 2) 0 [.int .i64 x, .string ⟨#[]⟩, .slice none 0 0, .int .u32 0, .int .u32 0, .int .u32 0, .int .i64 0, .int .u32 0, .int .u64 0, .int .u64 0, .int .u64 0, .slice none 0 0, .slice none 0 0]) := B06.trans ((K7d.below B06.size (fun k e => by have e : k = w4.heap.size := e; omega)).trans (K9.below (by have := K7d.size; have := B06.size; omega) (fun k e => by have e : k = w.heap.size + 2 := e; omega)))
   refine ⟨_, _, rfl, ?_, ?_, B09⟩
   ·rw [e2, eX]
    exact EffsOut.nil _
   ·rw [e1, e3, e4, eR, ← hx]
    exact ⟨zRaw, none, 0, none, 0, rfl, zReads _ _, StrLo.nil _ _ _, RepsAt.nil _ _ _⟩
end
end Go.Proofs.YtnclkfhdpkkakaaGreatDoor
namespace Go.Proofs.YtnclkfhdpkkakaaGreatDoor
set_option linter.unusedVariables false
set_option linter.unusedSimpArgs false
open Go Go.RowKit Go.Shelf Go.MapKept Go.ChangeMaps Go.Maps Go.Sort
theorem op_fitE {root : Bytes} {M : List (Bytes × Nd)} {at_ : Int} {who : Sess} {o : Opl} (h : Fit M) (hl : Leafy o) : ∀ e ∈ opXs root M at_ who o, FitE e := by
 obtain ⟨_, _, hp, hd⟩ := hl
 have hnode : ∀ p, ((getA p M).getD zNd).data.length ≤ 1000000 := fun p => by
  cases hg : getA p M with
  | none => simp [zNd]
  | some nd => exact h.node hg
 intro e he
 unfold opXs at he
 split at he
 ·simp at he
 ·rename_i h0
  have h0 : opE root M who o = 0 := by simpa using h0
  unfold opX at he
  split at he
  ·rename_i hk
   obtain ⟨_, hok, ⟨u, hu, _⟩, _⟩ := create_parts (opE_create hk h0).2
   obtain ⟨LP, hLP⟩ := Option.isSome_iff_exists.1 hok
   have h64 := parts_len64 hLP
   simp [createX] at he
   rcases he with rfl | rfl
   ·refine ⟨parentL_len _ (by omega), ?_⟩
    show (createU M at_ o).data.length ≤ 1000000
    have := hnode (parentL (newPath M o))
    unfold createU
    split <;> exact this
   ·exact ⟨by show (newPath M o).length ≤ 1000; omega, hd⟩
  ·split at he
   ·simp [removeX] at he
    rcases he with rfl | rfl
    ·exact ⟨by show o.path.length ≤ 1000; omega, by simp [zNd]⟩
    ·exact ⟨parentL_len _ (by omega), hnode _⟩
   ·split at he
    ·simp [setX] at he
     subst he
     exact ⟨by show o.path.length ≤ 1000; omega, hd⟩
    ·simp at he
theorem Fit.op {root : Bytes} {M : List (Bytes × Nd)} {at_ : Int} {who : Sess} {o : Opl} (h : Fit M) (I : Inv root M) (hl : Leafy o) : Fit (opM root M at_ who o) := by
 have := h.all (op_fitE (root := root) (at_ := at_) (who := who) h hl) (root := root)
 rw [op_fits I o] at this
 exact this
theorem run_fitE {root : Bytes} {at_ : Int} {who : Sess} : ∀ (l : List Opl) {M : List (Bytes × Nd)}, Fit M → Inv root M → (∀ o ∈ l, Leafy o) → ∀ e ∈ runX root at_ who M l, FitE e
 | [], M, h, I, hl => fun e he => by simp [runX] at he
 | o :: l, M, h, I, hl => fun e he => by
  unfold runX at he
  split at he
  ·rcases List.mem_append.1 he with he | he
   ·exact op_fitE h (hl o (List.mem_cons_self ..)) e he
   ·exact run_fitE l (h.op I (hl o (List.mem_cons_self ..))) (I.op o) (fun x hx => hl x (List.mem_cons_of_mem _ hx)) e he
  ·simp at he
def OpV.fine (o : OpV) : Prop := ∀ p ∈ o.seq, Leafy p
theorem do_fitE {root : Bytes} {M : List (Bytes × Nd)} {at_ : Int} {who : Sess} {ce : Int} {o : OpV} (h : Fit M) (I : Inv root M) (hl : ce = 0 → o.fine) : ∀ e ∈ doX root M at_ who ce o, FitE e := by
 unfold doX
 split
 ·intro e he; simp at he
 ·rename_i h0
  have hc : ce = 0 := by
   by_cases hc : ce = 0
   ·exact hc
   ·exfalso
    apply h0
    unfold doE
    rw [if_pos hc]
    exact hc
  exact run_fitE _ h I (hl hc)
def DidEnd (w0 w : World) (b : Nat) (root : Bytes) (M : List (Bytes × Nd)) (at_ : Int) (who : Sess) (ce : Int) (o : OpV) (e : Ending) (w' : World) : Prop :=
 ∃ u, e = .returned u ∧ ReplyAt w' (From w.heap.size) u (doE root M at_ who ce o) (doA root M at_ who ce o) (doR root M at_ who ce o) ∧ TR w0 w' b root (if doX root M at_ who ce o = [] then at_ else at_ + 1) (doM root M at_ who ce o) ∧ Kept (· = b) w w'
section
variable {w0 w : World} {b : Nat} {root : Bytes} {at_ : Int} {M : List (Bytes × Nd)}
theorem TR.set (R : TR w0 w b root at_ M) {B : Nat} {cs : Array Value} {t : TypeId} {fr : Nat × Nat} (hb : w.heap[B]? = some (.cells cs t fr)) (hu : ∀ x ∈ cs.toList, ∀ n, x ≠ .int .u8 n) (h1 : t ≠ 86) (h0 : w0.heap.size ≤ B) {w' : World} (hk : Kept (· = B) w w') : TR w0 w' b root at_ M := by
 obtain ⟨lo, mb, T⟩ := R.tree
 exact ⟨⟨lo, mb, T.turnG hb hu h1 hk⟩, R.bl.trans (hk.below R.bl.size (fun k e => by have e : k = B := e; omega)), R.hb, R.fit, R.rl, R.hm⟩
theorem did_fin {w2 w4 : World} {who : Sess} {ce : Int} {o : OpV} (hR : TR w0 w4 b root (if doX root M at_ who ce o = [] then at_ else at_ + 1) (doM root M at_ who ce o)) (hk : Kept (· = b) w w4) (hs : w.heap.size + 3 ≤ w2.heap.size)  (cs : List Value)
  (hr : ReplyAt w4 (From w2.heap.size) (.agg cs.toArray) (doE root M at_ who ce o) (doA root M at_ who ce o) (doR root M at_ who ce o)) (hres : w4.heap[w.heap.size + 2]? = some (.cells #[.int .i64 0, .string ⟨#[]⟩, .slice none 0 0, .int .u32 0, .int .u32 0, .int .u32 0, .int .i64 0, .int .u32 0, .int .u64 0, .int .u64 0, .int .u64 0, .slice none 0 0, .slice none 0 0] 43 (0, 0)) ∧ w0.heap.size ≤ w.heap.size) :
  DidEnd w0 w b root M at_ who ce o (.returned (.agg cs.toArray)) (w4.setCells (w.heap.size + 2) 0 cs) := by
 have K9 : Kept (· = w.heap.size + 2) w4 (w4.setCells (w.heap.size + 2) 0 cs) := Kept.setCells (S := (· = w.heap.size + 2)) (p := w.heap.size + 2) rfl _ 0 (Kept.refl _ w4)
 refine ⟨_, rfl, ?_, hR.set hres.1 zr_free (by decide) (by omega) K9, hk.newK K9 (by omega)⟩
 have q := hr.keptS K9 (fun k h1 _ e => by have h1 : w2.heap.size ≤ k := h1; have e : k = w.heap.size + 2 := e; omega)
 exact q.mono (fun k h1 => by have h1 : w2.heap.size ≤ k := h1; show w.heap.size ≤ k; omega)
set_option maxRecDepth 100000 in
set_option maxHeartbeats 8000000 in
theorem did_any (R : TR w0 w b root at_ M) (I : Inv root M) (h0 : 0 ≤ at_) (h1 : at_ ≤ 90000) (r : RawO) (o : OpV) (who : Sess) (ce : Int) (hl : ce = 0 → o.fine)
  (HDO : ∀ w', Below w.heap.size w w' → Calls Tryz.prog 14 #[.pointer (some ⟨b, 0, none⟩), r.val, whoV who] w' (DoEnd w' root M at_ who ce o)) (hlen : (doX root M at_ who ce o).length ≤ 900) :
  Calls Tryz.prog 25 #[.pointer (some ⟨b, 0, none⟩), r.val, whoV who] w (DidEnd w0 w b root M at_ who ce o) := by
 obtain ⟨ok, op, oa, on, oc, ov, os, oe, qa, qn, qc⟩ := r
 obtain ⟨s, n⟩ := who
 unfold RawO.val RawO.cells whoV at *
 dsimp only at HDO ⊢
 obtain ⟨w1, hw1, hb1, hs1, k0, k1, k2⟩ := do_boxes w ok op oa on oc ov os oe qa qn qc s n
 have HSR : Hid ((Tryz.prog.info? 43).map (·.size) = some 13) := Lib.hid infoReply13
 have H1 := Lib.hid (And.intro hb1 (And.intro hs1 (And.intro k2 hw1)))
 have hdo := HDO w1 hb1
 have HDD := Lib.hid hdo
 have HI := Lib.hid (And.intro R (And.intro I (And.intro h0 (And.intro h1 (And.intro (do_fitE (at_ := at_) (who := ⟨s, n⟩) R.fit I hl) hlen)))))
 clear HDO hdo hb1 hs1 k0 k1 k2 R I h0 h1 hl hlen
 go_enter Tryz.func25, Tryz.ntmps25
 go_wp2_with fail
 rw [← hw1]
 clear hw1
 refine HDD.out.mono ?_
 rintro e w2 ⟨u1, u2, rfl, ⟨xa, xc, XL, rfl, hxA, hxL⟩, ⟨⟨ra, rn, rc, ⟨r1, r2, r3, r4, r5, r6, r7, r8⟩⟩, ka, kc, pa, pc, rfl, hrd, hkd, hpd⟩, B2⟩
 obtain ⟨x, hx⟩ : ∃ x, x = doE root M at_ ⟨s, n⟩ ce o := ⟨_, rfl⟩
 obtain ⟨px, hpx⟩ : ∃ px, px = (doA root M at_ ⟨s, n⟩ ce o).path := ⟨_, rfl⟩
 obtain ⟨kn, hkn⟩ : ∃ kn, kn = (doA root M at_ ⟨s, n⟩ ce o).kids.length := ⟨_, rfl⟩
 obtain ⟨pn, hpn⟩ : ∃ pn, pn = (doR root M at_ ⟨s, n⟩ ce o).length := ⟨_, rfl⟩
 obtain ⟨xn, hxn⟩ : ∃ xn, xn = (doX root M at_ ⟨s, n⟩ ce o).length := ⟨_, rfl⟩
 have hrep : ReplyAt w2 (From w1.heap.size) (.agg ([.int .i64 x, .string (bs px), .slice ra rn rc, .int .u32 r1, .int .u32 r2, .int .u32 r3, .int .i64 r4, .int .u32 r5, .int .u64 r6, .int .u64 r7, .int .u64 r8, .slice ka kn kc, .slice pa pn pc] : List Value).toArray) (doE root M at_ ⟨s, n⟩ ce o) (doA root M at_ ⟨s, n⟩ ce o) (doR root M at_ ⟨s, n⟩ ce o) := ⟨⟨ra, rn, rc, ⟨r1, r2, r3, r4, r5, r6, r7, r8⟩⟩, ka, kc, pa, pc, by rw [← hx, ← hpx, ← hkn, ← hpn]; rfl, hrd, hkd, hpd⟩
 rw [← hx, ← hpx, ← hkn, ← hpn, ← hxn]
 unfold repCells Raw.cells Nums.cells
 dsimp only [List.cons_append, List.nil_append]
 obtain ⟨w3, hw3⟩ : ∃ w3, w3 = w2.alloc (.cells #[.int .i64 x, .string (bs px), .slice ra rn rc, .int .u32 r1, .int .u32 r2, .int .u32 r3, .int .i64 r4, .int .u32 r5, .int .u64 r6, .int .u64 r7, .int .u64 r8, .slice ka kn kc, .slice pa pn pc] 43) := ⟨_, rfl⟩
 have B3 : Below w2.heap.size w2 w3 := by rw [hw3]; exact belowA (Below.refl _ w2) _
 have k3 : w3.heap[w2.heap.size]? = some (.cells #[.int .i64 x, .string (bs px), .slice ra rn rc, .int .u32 r1, .int .u32 r2, .int .u32 r3, .int .i64 r4, .int .u32 r5, .int .u64 r6, .int .u64 r7, .int .u64 r8, .slice ka kn kc, .slice pa pn pc] 43 (0, 0)) := by rw [hw3]; exact heap_alloc_new w2 _
 have hs3 : w3.heap.size = w2.heap.size + 1 := by rw [hw3]; simp
 have B13 : Below w1.heap.size w1 w3 := B2.trans (B3.mono B2.size)
 have B03 : Below w.heap.size w w3 := H1.out.1.trans (B13.mono H1.out.1.size)
 have hrep3 : ReplyAt w3 (From w1.heap.size) (.agg ([.int .i64 x, .string (bs px), .slice ra rn rc, .int .u32 r1, .int .u32 r2, .int .u32 r3, .int .i64 r4, .int .u32 r5, .int .u64 r6, .int .u64 r7, .int .u64 r8, .slice ka kn kc, .slice pa pn pc] : List Value).toArray) (doE root M at_ ⟨s, n⟩ ce o) (doA root M at_ ⟨s, n⟩ ce o) (doR root M at_ ⟨s, n⟩ ce o) := hrep.keptS (Kept.ofBelow (S := fun _ => False) B3) (fun _ _ _ h => h)
 have kr3 := (B13.block (w.heap.size + 2) (by have := H1.out.2.1; omega)).trans H1.out.2.2.1
 have R3 := HI.out.1.below B03
 have HW3 := Lib.hid hw3
 have HON : Hid ((#[.int .i64 x, .string (bs px), .slice ra rn rc, .int .u32 r1, .int .u32 r2, .int .u32 r3, .int .i64 r4, .int .u32 r5, .int .u64 r6, .int .u64 r7, .int .u64 r8, .slice ka kn kc, .slice pa pn pc] : Array Value).all (·.oneCell') = true) := Lib.hid (by simp [Value.oneCell'])
 have HXL : Hid (xn = XL.length ∧ xn = (doX root M at_ ⟨s, n⟩ ce o).length ∧ EffsAt w3 w3.heap.size xa XL ∧ LikeE w3 (fun _ => True) XL (doX root M at_ ⟨s, n⟩ ce o)) := Lib.hid ⟨by rw [hxn]; exact hxL.1.symm, hxn, (hxA.below B3).mono B3.size, hxL.below B3⟩
 have H3 := Lib.hid (And.intro R3 (And.intro B03 (And.intro k3 (And.intro hrep3 (And.intro kr3 (And.intro hs3 B2.size))))))
 clear hxA hxL hrd hkd hpd B2 hx hpx hkn hpn hxn hrep hw3 B3 k3 hs3 B13 B03 hrep3 kr3 R3
 go_upto_region 2 with fail
 rw [← HW3.out]
 by_cases hxn : xn = 0
 ·have t1 : decide (0 < xn) = false := by simp; omega
  have t2 : decide ((0 : Int) < (xn : Int)) = false := by simp; omega
  have hE : doX root M at_ ⟨s, n⟩ ce o = [] := List.eq_nil_of_length_eq_zero (by rw [← HXL.out.2.1]; exact hxn)
  have HT1 := Lib.hid (And.intro (range_blk H3.out.2.2.1) (there_of (n := 13) H3.out.2.2.2.2.1 (by simp)))
  have hM : doM root M at_ ⟨s, n⟩ ce o = M := by
   have h := do_fits (at_ := at_) (who := ⟨s, n⟩) (ce := ce) (o := o) HI.out.2.1
   rw [hE] at h
   exact (congrArg Prod.snd h).symm
  have H4 : Hid (TR w0 w3 b root (if doX root M at_ ⟨s, n⟩ ce o = [] then at_ else at_ + 1) (doM root M at_ ⟨s, n⟩ ce o) ∧ Kept (· = b) w w3 ∧ ReplyAt w3 (From w1.heap.size) (.agg ([.int .i64 x, .string (bs px), .slice ra rn rc, .int .u32 r1, .int .u32 r2, .int .u32 r3, .int .i64 r4, .int .u32 r5, .int .u64 r6, .int .u64 r7, .int .u64 r8, .slice ka kn kc, .slice pa pn pc] : List Value).toArray) (doE root M at_ ⟨s, n⟩ ce o) (doA root M at_ ⟨s, n⟩ ce o) (doR root M at_ ⟨s, n⟩ ce o) ∧ (w3.heap[w.heap.size + 2]? = some (.cells #[.int .i64 0, .string ⟨#[]⟩, .slice none 0 0, .int .u32 0, .int .u32 0, .int .u32 0, .int .i64 0, .int .u32 0, .int .u64 0, .int .u64 0, .int .u64 0, .slice none 0 0, .slice none 0 0] 43 (0, 0)) ∧ w0.heap.size ≤ w.heap.size)) := Lib.hid ⟨by rw [if_pos hE, hM]; exact H3.out.1, Kept.ofBelow H3.out.2.1, H3.out.2.2.2.1, H3.out.2.2.2.2.1, HI.out.1.bl.size⟩
  clear hxn hE hM
  go_wp2_with (first
   | (refine wpList_load_mid rfl 43 (.tmp 8) rfl w2.heap.size 0 rfl [.int .i64 x, .string (bs px), .slice ra rn rc, .int .u32 r1, .int .u32 r2, .int .u32 r3, .int .i64 r4, .int .u32 r5, .int .u64 r6, .int .u64 r7, .int .u64 r8, .slice ka kn kc, .slice pa pn pc] _ HT1.out.1 Tryz.underlying43 rfl HSR.out ?_)
   | (refine wpList_store_mid rfl 43 (.tmp 6) (.tmp 22) rfl (w.heap.size + 2) 0 #[.int .i64 x, .string (bs px), .slice ra rn rc, .int .u32 r1, .int .u32 r2, .int .u32 r3, .int .i64 r4, .int .u32 r5, .int .u64 r6, .int .u64 r7, .int .u64 r8, .slice ka kn kc, .slice pa pn pc] rfl rfl HT1.out.2 HSR.out HON.out ?_))
  refine bodyPost_ret (results_cell_mid rfl _ _ (w.heap.size + 2) 0 [.int .i64 x, .string (bs px), .slice ra rn rc, .int .u32 r1, .int .u32 r2, .int .u32 r3, .int .i64 r4, .int .u32 r5, .int .u64 r6, .int .u64 r7, .int .u64 r8, .slice ka kn kc, .slice pa pn pc] _ rfl (World.rangeAt_setCells_same _ _ _ _ HT1.out.2) Tryz.underlying43 rfl HSR.out) rfl ?_
  exact did_fin H4.out.1 H4.out.2.1 (w2 := w1) (Nat.le_of_eq H1.out.2.1.symm) ([.int .i64 x, .string (bs px), .slice ra rn rc, .int .u32 r1, .int .u32 r2, .int .u32 r3, .int .i64 r4, .int .u32 r5, .int .u64 r6, .int .u64 r7, .int .u64 r8, .slice ka kn kc, .slice pa pn pc] : List Value) H4.out.2.2.1 H4.out.2.2.2
 ·have t1 : decide (0 < xn) = true := by simp; omega
  have t2 : decide ((0 : Int) < (xn : Int)) = true := by simp; omega
  have hap := H3.out.1.apply HI.out.2.2.1 (by have := HI.out.2.2.2.1; omega) xa xc XL (doX root M at_ ⟨s, n⟩ ce o) HXL.out.2.2.2 HXL.out.2.2.1 HI.out.2.2.2.2.1 (by rw [← HXL.out.1, HXL.out.2.1]; have := HI.out.2.2.2.2.2; omega)
  rw [← HXL.out.1] at hap
  have HAP := Lib.hid hap
  have HNE : Hid (doX root M at_ ⟨s, n⟩ ce o ≠ []) := Lib.hid (fun e => hxn (by rw [HXL.out.2.1, e]; rfl))
  clear hxn hap
  go_wp2_with fail
  refine HAP.out.mono ?_
  rintro e w4 ⟨rfl, R4, K4⟩
  have hbb : b < w.heap.size := HI.out.1.lt
  have hfit := do_fits (at_ := at_) (who := ⟨s, n⟩) (ce := ce) (o := o) HI.out.2.1
  obtain ⟨_, ha, hn⟩ := atA_yes (at_ := at_) hfit
  rw [ha, hn] at R4
  have s12 := H3.out.2.2.2.2.2.2
  have s3 := H3.out.2.2.2.2.2.1
  have s1 := H1.out.2.1
  have k4 := (K4.block w2.heap.size (by omega) (fun e => by have e : w2.heap.size = b := e; omega)).trans H3.out.2.2.1
  have kr4 := (K4.block (w.heap.size + 2) (by omega) (fun e => by have e : w.heap.size + 2 = b := e; omega)).trans H3.out.2.2.2.2.1
  have HT2 := Lib.hid (And.intro (range_blk k4) (there_of (n := 13) kr4 (by simp)))
  have H4 : Hid (TR w0 w4 b root (if doX root M at_ ⟨s, n⟩ ce o = [] then at_ else at_ + 1) (doM root M at_ ⟨s, n⟩ ce o) ∧ Kept (· = b) w w4 ∧ ReplyAt w4 (From w1.heap.size) (.agg ([.int .i64 x, .string (bs px), .slice ra rn rc, .int .u32 r1, .int .u32 r2, .int .u32 r3, .int .i64 r4, .int .u32 r5, .int .u64 r6, .int .u64 r7, .int .u64 r8, .slice ka kn kc, .slice pa pn pc] : List Value).toArray) (doE root M at_ ⟨s, n⟩ ce o) (doA root M at_ ⟨s, n⟩ ce o) (doR root M at_ ⟨s, n⟩ ce o) ∧ (w4.heap[w.heap.size + 2]? = some (.cells #[.int .i64 0, .string ⟨#[]⟩, .slice none 0 0, .int .u32 0, .int .u32 0, .int .u32 0, .int .i64 0, .int .u32 0, .int .u64 0, .int .u64 0, .int .u64 0, .slice none 0 0, .slice none 0 0] 43 (0, 0)) ∧ w0.heap.size ≤ w.heap.size)) := Lib.hid ⟨by rw [if_neg HNE.out]; exact R4, (Kept.ofBelow H3.out.2.1).trans K4, H3.out.2.2.2.1.keptS K4 (fun k h1 _ e => by have h1 : w1.heap.size ≤ k := h1; have e : k = b := e; omega), kr4, HI.out.1.bl.size⟩
  rw [hfit]
  clear hfit ha hn R4 K4 k4 kr4 s12 s3 s1
  go_wp2_with (first
   | (refine wpList_load_mid rfl 43 (.tmp 8) rfl w2.heap.size 0 rfl [.int .i64 x, .string (bs px), .slice ra rn rc, .int .u32 r1, .int .u32 r2, .int .u32 r3, .int .i64 r4, .int .u32 r5, .int .u64 r6, .int .u64 r7, .int .u64 r8, .slice ka kn kc, .slice pa pn pc] _ HT2.out.1 Tryz.underlying43 rfl HSR.out ?_)
   | (refine wpList_store_mid rfl 43 (.tmp 6) (.tmp 22) rfl (w.heap.size + 2) 0 #[.int .i64 x, .string (bs px), .slice ra rn rc, .int .u32 r1, .int .u32 r2, .int .u32 r3, .int .i64 r4, .int .u32 r5, .int .u64 r6, .int .u64 r7, .int .u64 r8, .slice ka kn kc, .slice pa pn pc] rfl rfl HT2.out.2 HSR.out HON.out ?_))
  refine bodyPost_ret (results_cell_mid rfl _ _ (w.heap.size + 2) 0 [.int .i64 x, .string (bs px), .slice ra rn rc, .int .u32 r1, .int .u32 r2, .int .u32 r3, .int .i64 r4, .int .u32 r5, .int .u64 r6, .int .u64 r7, .int .u64 r8, .slice ka kn kc, .slice pa pn pc] _ rfl (World.rangeAt_setCells_same _ _ _ _ HT2.out.2) Tryz.underlying43 rfl HSR.out) rfl ?_
  exact did_fin H4.out.1 H4.out.2.1 (w2 := w1) (Nat.le_of_eq H1.out.2.1.symm) ([.int .i64 x, .string (bs px), .slice ra rn rc, .int .u32 r1, .int .u32 r2, .int .u32 r3, .int .i64 r4, .int .u32 r5, .int .u64 r6, .int .u64 r7, .int .u64 r8, .slice ka kn kc, .slice pa pn pc] : List Value) H4.out.2.2.1 H4.out.2.2.2
end
end Go.Proofs.YtnclkfhdpkkakaaGreatDoor
namespace Go.Proofs.YtnclkfhdpkkakaaGreatDoor
set_option linter.unusedVariables false
set_option linter.unusedSimpArgs false
theorem digs_eq {n : Int} (h : n.toNat < 10 ^ 10) : digs n = (List.range 10).map fun i => Lib.dg n.toNat (9 - i) := by
 unfold digs
 rw [Lib.decDigits_length]
 have hk := nDigits_le 9 n.toNat h
 have hp := Lib.lt_pow_nDigits n.toNat
 rw [Lib.decDigits_eq]
 generalize Lib.nDigits n.toNat = k at hk hp ⊢
 generalize n.toNat = u at hp ⊢
 apply List.ext_getElem
 ·simp; omega
 ·intro i h1 h2
  simp at h1 h2
  by_cases hi : i < 10 - k
  ·rw [List.getElem_append_left (by simpa using hi)]
   simp
   have h3 : u / 10 ^ (9 - i) = 0 := Nat.div_eq_of_lt (Nat.lt_of_lt_of_le hp (Nat.pow_le_pow_right (by decide) (by omega)))
   unfold Lib.dg
   rw [h3]
   rfl
  ·rw [List.getElem_append_right (by simpa using hi)]
   simp
   congr 1
   omega
def digsC (n : Int) : Bytes := (List.range 10).map fun i => Lib.dg n.toNat (9 - i)
def newPathC (M : List (Bytes × Nd)) (o : Opl) : Bytes := if o.seq then o.path ++ digsC ((getA (parentC o.path) M).getD zNd).num.next else o.path
theorem newPath_eq {M : List (Bytes × Nd)} {o : Opl} (h : Nice M) : newPath M o = newPathC M o := by
 unfold newPath newPathC
 rw [parentL_eq]
 split
 ·congr 1
  refine digs_eq ?_
  obtain ⟨un, h1, h2⟩ := next_nat h (parentC o.path)
  rw [← h1]
  simp
  omega
 ·rfl
def createEC (root : Bytes) (M : List (Bytes × Nd)) (who : Sess) (o : Opl) : Int :=
 if o.path = root then (if o.seq then 30 else 32)
 else if (partsC (newPathC M o)).isSome = false then 30
 else match getA (parentC (newPathC M o)) M with
 | none => 31
 | some u => if noSess u.num.os u.num.on = false then 34 else if o.eph = true ∧ noSess who.site who.n = true then 63 else if (getA (newPathC M o) M).isSome = true then 32 else if 48 ≤ M.length then 36 else 0
theorem createE_eq {root : Bytes} {M : List (Bytes × Nd)} {who : Sess} {o : Opl} (h : Nice M) : createE root M who o = createEC root M who o := by
 unfold createE createEC
 rw [newPath_eq h, partsL_eq, parentL_eq]
 rfl
def createUC (M : List (Bytes × Nd)) (at_ : Int) (o : Opl) : Nd := if o.seq then nextN (upN ((getA (parentC (newPathC M o)) M).getD zNd) at_) else upN ((getA (parentC (newPathC M o)) M).getD zNd) at_
def createMC (M : List (Bytes × Nd)) (at_ : Int) (who : Sess) (o : Opl) : List (Bytes × Nd) := putA (newPathC M o) (newN o.data at_ who o.eph) (putA (parentC (newPathC M o)) (createUC M at_ o) M)
theorem createM_eq {M : List (Bytes × Nd)} {at_ : Int} {who : Sess} {o : Opl} (h : Nice M) : createM M at_ who o = createMC M at_ who o := by
 unfold createM createMC createU createUC
 rw [newPath_eq h, parentL_eq]
def removeEC (root : Bytes) (M : List (Bytes × Nd)) (o : Opl) : Int := if o.path = root then 30 else if verE M o ≠ 0 then verE M o else if (M.any fun x => kidC root o.path x.1) = true then 33 else 0
theorem removeE_eq {root : Bytes} {M : List (Bytes × Nd)} {o : Opl} : removeE root M o = removeEC root M o := by
 unfold removeE removeEC
 have h := kids_pos root M o.path
 have h2 : (M.any fun x => kidB root o.path x.1) = (M.any fun x => kidC root o.path x.1) := by
  congr 1
  funext x
  exact kidB_eq _ _ _
 rw [h2] at h
 split
 ·rfl
 ·split
  ·rfl
  ·by_cases hk : (M.any fun x => kidC root o.path x.1) = true
   ·rw [if_pos hk, if_pos (h.2 hk)]
   ·rw [if_neg hk, if_neg (fun h3 => hk (h.1 h3))]
def removeMC (M : List (Bytes × Nd)) (at_ : Int) (o : Opl) : List (Bytes × Nd) := putA (parentC o.path) (upN ((getA (parentC o.path) M).getD zNd) at_) (delA o.path M)
def opEC (root : Bytes) (M : List (Bytes × Nd)) (who : Sess) (o : Opl) : Int :=
 if underC o.path root = false then 30
 else if o.kind = 1 then createEC root M who o
 else if o.kind = 2 then removeEC root M o
 else if o.kind = 3 ∨ o.kind = 4 then verE M o
 else if (getA o.path M).isSome = false then 31 else 0
theorem opE_eq {root : Bytes} {M : List (Bytes × Nd)} {who : Sess} {o : Opl} (h : Nice M) : opE root M who o = opEC root M who o := by
 unfold opE opEC
 rw [underB_eq, createE_eq h, removeE_eq]
def opMC (root : Bytes) (M : List (Bytes × Nd)) (at_ : Int) (who : Sess) (o : Opl) : List (Bytes × Nd) :=
 if opEC root M who o ≠ 0 then M else if o.kind = 1 then createMC M at_ who o else if o.kind = 2 then removeMC M at_ o else if o.kind = 3 then setM M at_ o else M
theorem opM_eq {root : Bytes} {M : List (Bytes × Nd)} {at_ : Int} {who : Sess} {o : Opl} (h : Nice M) : opM root M at_ who o = opMC root M at_ who o := by
 unfold opM opMC removeM removeMC
 rw [opE_eq h, createM_eq h, parentL_eq]
def opAC (M : List (Bytes × Nd)) (at_ : Int) (who : Sess) (o : Opl) : Ans :=
 if o.kind = 1 then ⟨newPathC M o, newN o.data at_ who o.eph, []⟩
 else if o.kind = 2 then ⟨o.path, zNd, []⟩
 else if o.kind = 3 then ⟨o.path, setN (nodeAt M o.path) o.data at_, []⟩
 else ⟨o.path, nodeAt M o.path, []⟩
theorem opA_eq {root : Bytes} {M : List (Bytes × Nd)} {at_ : Int} {who : Sess} {o : Opl} (h : Nice M) (hk : o.kind ≠ 6) : opA root M at_ who o = opAC M at_ who o := by
 unfold opA opAC
 rw [newPath_eq h, if_neg hk]
theorem nice_put {M : List (Bytes × Nd)} {p : Bytes} {d : Nd} (h : Nice M) (hd : 0 ≤ d.num.next ∧ d.num.next < 4294967296) : Nice (putA p d M) := fun x hx => by
 rcases putA_mem hx with rfl | hx
 ·exact hd
 ·exact h x hx
theorem nice_node {M : List (Bytes × Nd)} (h : Nice M) (p : Bytes) : 0 ≤ ((getA p M).getD zNd).num.next ∧ ((getA p M).getD zNd).num.next < 4294967296 := by
 obtain ⟨un, h1, h2⟩ := next_nat h p
 omega
theorem inc32_in (n : Int) : 0 ≤ inc32 n ∧ inc32 n < 4294967296 := by
 unfold inc32
 rw [IntKind.wrap_u32]
 omega
theorem Nice.op {root : Bytes} {M : List (Bytes × Nd)} {at_ : Int} {who : Sess} (h : Nice M) (o : Opl) : Nice (opM root M at_ who o) := by
 unfold opM
 split
 ·exact h
 ·split
  ·refine nice_put (nice_put h ?_) ⟨by show (0 : Int) ≤ 0; omega, by show (0 : Int) < 4294967296; omega⟩
   unfold createU
   split
   ·exact inc32_in _
   ·exact nice_node h _
  ·split
   ·exact nice_put (fun x hx => h x (delA_sub.subset hx)) (nice_node h _)
   ·split
    ·exact nice_put h (nice_node h _)
    ·exact h
end Go.Proofs.YtnclkfhdpkkakaaGreatDoor
namespace Go.Proofs.YtnclkfhdpkkakaaGreatDoor
set_option linter.unusedVariables false
set_option linter.unusedSimpArgs false
open Go Go.RowKit Go.Shelf Go.MapKept Go.ChangeMaps Go.Maps Go.Sort
structure St (w0 w : World) (b : Nat) (root : Bytes) (at_ : Int) (M : List (Bytes × Nd)) : Prop where
 tr : TR w0 w b root at_ M
 inv : Inv root M
 nice : Nice M
 tab : PowTab w0
 lo : 0 ≤ at_
section
variable {w0 w : World} {b : Nat} {root : Bytes} {at_ : Int} {M : List (Bytes × Nd)}
theorem St.below (S : St w0 w b root at_ M) {w' : World} (hb : Below w.heap.size w w') : St w0 w' b root at_ M := ⟨S.tr.below hb, S.inv, S.nice, S.tab, S.lo⟩
theorem St.pow (S : St w0 w b root at_ M) : PowTab w := tab_below S.tab S.tr.bl
theorem LeafO.lift {w w' : World} {r : RawO} {o : Opl} (h : LeafO w (fun k => k < w.heap.size) r o) (hb : Below w.heap.size w w') : LeafO w' (fun k => k < w'.heap.size) r o :=
 ⟨h.kind, h.path, h.ver, h.seq, h.eph, h.len, ((h.data.below hb).mono (fun k hk => Nat.lt_of_lt_of_le hk hb.size) hb.size), h.nil⟩
theorem check_leaf (w : World) (r : RawO) (o : Opl) (hk : r.kind = o.kind) (hl : Leafy o) (hpn : r.pn = 0) (hdn : r.dn ≤ 64) : ∀ w', Below w.heap.size w w' → Calls Tryz.prog 22 #[r.val] w' (CheckIs w' 0) := fun w' _ => by
 have h := check_any 0 w' r [] (by rw [hpn]; rfl) rfl (by unfold maxLen; omega)
 have e : checkE r.kind r.dn [] = 0 := by
  obtain ⟨k1, k6, _⟩ := hl
  unfold checkE
  rw [if_neg, if_neg (by simp), if_neg]
  ·simp; omega
  ·simp; omega
 rw [e] at h
 exact h
structure DidOne (w0 w : World) (b : Nat) (root : Bytes) (at_ : Int) (M : List (Bytes × Nd)) (who : Sess) (o : Opl) (e : Ending) (w' : World) : Prop where
 ret : ∃ (r : Raw) (ka : Option Addr) (kc : Nat) (pa : Option Addr) (pc : Nat), e = .returned (.agg (repCells (opE root M who o) (opR root M (at_ + 1) who o).a.path r ka (opR root M (at_ + 1) who o).a.kids.length kc pa 0 pc).toArray) ∧ Reads w' (From w.heap.size) r (opR root M (at_ + 1) who o).a.node ∧ StrLo w' (From w.heap.size) ka (opR root M (at_ + 1) who o).a.kids
 st : St w0 w' b root (if opXs root M (at_ + 1) who o = [] then at_ else at_ + 1) (opM root M (at_ + 1) who o)
 kept : Kept (· = b) w w'
theorem opXs_len {root : Bytes} {M : List (Bytes × Nd)} {at_ : Int} {who : Sess} {o : Opl} : (opXs root M at_ who o).length ≤ 2 := by
 unfold opXs opX
 split
 ·simp
 ·split
  ·simp [createX]
  ·split
   ·simp [removeX]
   ·split
    ·simp [setX]
    ·simp
theorem St.do_leaf (S : St w0 w b root at_ M) (h1 : at_ ≤ 90000) (r : RawO) (o : Opl) (who : Sess) (hr : LeafO w (fun k => k < w.heap.size) r o) (hl : Leafy o) (hpn : r.pn = 0) (hdn : r.dn ≤ 64) :
  Calls Tryz.prog 14 #[.pointer (some ⟨b, 0, none⟩), r.val, whoV who] w (DoEnd w root M at_ who 0 ⟨o, []⟩) :=
 Go.Proofs.YtnclkfhdpkkakaaGreatDoor.do_leaf S.tr S.inv S.tr.max S.lo h1 S.nice S.pow r ⟨o, []⟩ who hr (check_leaf w r o hr.kind hl hpn hdn) ⟨by have := hl.2.1; show o.kind ≠ 7; omega, hpn, hl⟩
theorem St.did (S : St w0 w b root at_ M) (h1 : at_ ≤ 90000) (r : RawO) (o : Opl) (who : Sess) (hr : LeafO w (fun k => k < w.heap.size) r o) (hl : Leafy o) (hpn : r.pn = 0) (hdn : r.dn ≤ 64) :
  Calls Tryz.prog 25 #[.pointer (some ⟨b, 0, none⟩), r.val, whoV who] w (DidOne w0 w b root at_ M who o) := by
 have hk7 : o.kind ≠ 7 := by have := hl.2.1; omega
 obtain ⟨e1, e2, e3, e4⟩ := do_one (root := root) (M := M) (at_ := at_) (who := who) (o := ⟨o, []⟩) hk7
 have hfine : (⟨o, []⟩ : OpV).fine := by
  intro p hp
  unfold OpV.seq at hp
  rw [if_neg hk7] at hp
  simp at hp
  rw [hp]
  exact hl
 have hM : doM root M at_ who 0 ⟨o, []⟩ = opM root M (at_ + 1) who o := by
  have h1 := do_fits (at_ := at_) (who := who) (ce := 0) (o := ⟨o, []⟩) S.inv
  rw [e2] at h1
  have h2 := op_fits (at_ := at_ + 1) (who := who) S.inv o
  rw [h1] at h2
  exact congrArg Prod.snd h2
 refine (did_any S.tr S.inv S.lo h1 r ⟨o, []⟩ who 0 (fun _ => hfine) (fun w' hb => (S.below hb).do_leaf h1 r o who (hr.lift hb) hl hpn hdn) (by rw [e2]; exact Nat.le_trans opXs_len (by decide))).mono ?_
 rintro e w' ⟨u, rfl, hrep, hT, hK⟩
 rw [e1, e3, e4] at hrep
 rw [e2, hM] at hT
 obtain ⟨rr, ka, kc, pa, pc, rfl, h3, h4, _⟩ := hrep
 refine ⟨⟨rr, ka, kc, pa, pc, rfl, h3, h4⟩, ⟨hT, S.inv.op o, S.nice.op o, S.tab, ?_⟩, hK⟩
 have := S.lo
 split <;> omega
end
end Go.Proofs.YtnclkfhdpkkakaaGreatDoor
