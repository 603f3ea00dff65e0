/-
  The reference's Reply, of two replies that say the same, walked.
  What an operation leaves, as plain nodes.
-/
import Derived.Test.YtnclkfhdpkkakaaGreatDoorJOpDoBad
import Derived.Test.YtnclkfhdpkkakaaGreatDoorTrRun
import Derived.Test.YtnclkfhdpkkakaaGreatDoorJOpGrow
namespace Go.Proofs.YtnclkfhdpkkakaaGreatDoor
set_option linter.unusedVariables false
set_option linter.unusedSimpArgs false
set_option linter.unusedVariables false
set_option linter.unusedSimpArgs false
open Go Go.RowKit Go.Shelf Go.MapKept Go.ChangeMaps Go.Maps Go.Sort
set_option maxRecDepth 100000 in
set_option maxHeartbeats 8000000 in
theorem refNode_same {w : World} {lo lo' : Nat → Prop} {r r' : Raw} {d : Nd} (h : Reads w lo r d) (h' : Reads w lo' r' d) :
    Calls Tryz.prog 20 #[r.val, r'.val] w fun e w' => e = .returned (.bool true) ∧ Below w.heap.size w w' := by
  obtain ⟨a, n, c, u⟩ := r
  obtain ⟨a', n', c', u'⟩ := r'
  have e1 : u = d.num := h.num
  have e2 : u' = d.num := h'.num
  subst e1 e2
  generalize hu : d.num = u at *
  obtain ⟨v1, v2, v3, v4, v5, v6, v7, v8⟩ := u
  unfold Raw.val Raw.cells Nums.cells
  dsimp only
  obtain ⟨w2, hw2⟩ : ∃ w2, w2 = (w.alloc (.cells #[.slice a n c, .int .u32 v1, .int .u32 v2, .int .u32 v3, .int .i64 v4, .int .u32 v5, .int .u64 v6, .int .u64 v7, .int .u64 v8] 39)).alloc (.cells #[.slice a' n' c', .int .u32 v1, .int .u32 v2, .int .u32 v3, .int .i64 v4, .int .u32 v5, .int .u64 v6, .int .u64 v7, .int .u64 v8] 39) := ⟨_, rfl⟩
  have hb : Below w.heap.size w w2 := by rw [hw2]; exact belowA (belowA (Below.refl _ w) _) _
  have q1 := conv_len h.len (h.data.below hb) h.nil
  have q2 := conv_len h'.len (h'.data.below hb) h'.nil
  have t0 : ((bs d.data).toList == (bs d.data).toList) = true := by simp
  have HB := Lib.hid hb
  rw [hw2] at q1 q2
  have HW := Lib.hid hw2
  clear h h' hb hw2 hu
  go_enter Tryz.func20, Tryz.ntmps20
  go_wp2
  go_ret
  rw [← HW.out]
  exact ⟨rfl, HB.out⟩
theorem refTexts_same {w : World} {a b : Option Addr} {c d : Nat} {K : List Bytes} (hl : K.length ≤ 1000) (S1 : StrSl w w.heap.size a K) (S2 : StrSl w w.heap.size b K) :
    Calls Tryz.prog 24 #[.slice a K.length c, .slice b K.length d] w fun e w' => e = .returned (.bool true) ∧ Below w.heap.size w w' :=
  (texts_any a b c d _ _ K K w hl hl S1 S2).mono fun e w' ⟨h1, q, h2⟩ => by
    subst h2
    exact ⟨by rw [h1]; simp, belowN (Below.refl _ w) q⟩
theorem StrLo.below {w w' : World} {lo : Nat → Prop} {a : Option Addr} {L : List Bytes} (h : StrLo w lo a L) (hb : Below w.heap.size w w') : StrLo w' lo a L := h.keptS (Kept.ofBelow (S := fun _ => False) hb) (fun _ _ _ h => h)
theorem RepsAt.below {w w' : World} {lo : Nat → Prop} {a : Option Addr} {L : List Rep} (h : RepsAt w lo a L) (hb : Below w.heap.size w w') : RepsAt w' lo a L := h.keptS (Kept.ofBelow (S := fun _ => False) hb) (fun _ _ _ h => h)
theorem mid_range {w : World} {B o : Nat} {cs ds : List Value} (i : Nat) (h : w.rangeAt B o cs) (hd : ∀ j u, ds[j]? = some u → cs[i + j]? = some u) : w.rangeAt B (o + i) ds := fun j u hu => by
  have := h (i + j) u (hd j u hu)
  rw [← Nat.add_assoc] at this
  exact this
set_option maxRecDepth 100000 in
set_option maxHeartbeats 16000000 in
theorem reply_same {w : World} {lo lo' : Nat → Prop} {u u' : Value} {x : Int} {A : Ans} {X : List Rep} (h : ReplyAt w lo u x A X) (h' : ReplyAt w lo' u' x A X) (hK : A.kids.length ≤ 1000) (hX : X.length ≤ 1000) (hXK : ∀ y ∈ X, y.a.kids.length ≤ 1000) :
    Calls Tryz.prog 15 #[u, u'] w fun e w' => e = .returned (.bool true) ∧ Below w.heap.size w w' := by
  obtain ⟨⟨ra, rn, rc, ⟨r1_, r2_, r3_, r4_, r5_, r6_, r7_, r8_⟩⟩, ka, kc, qa, qc, rfl, r1, r2, r3⟩ := h
  obtain ⟨⟨sa, sn, sc, ⟨s1_, s2_, s3_, s4_, s5_, s6_, s7_, s8_⟩⟩, la, lc, ma, mc, rfl, s1, s2, s3⟩ := h'
  have e1 : (⟨r1_, r2_, r3_, r4_, r5_, r6_, r7_, r8_⟩ : Nums) = ⟨s1_, s2_, s3_, s4_, s5_, s6_, s7_, s8_⟩ := (show _ = A.node.num from r1.num).trans (show A.node.num = _ from s1.num.symm)
  obtain ⟨rfl, rfl, rfl, rfl, rfl, rfl, rfl, rfl⟩ := Nums.mk.inj e1
  obtain ⟨p, hp⟩ : ∃ p, p = A.path := ⟨_, rfl⟩
  obtain ⟨K, hKn⟩ : ∃ K, K = A.kids.length := ⟨_, rfl⟩
  obtain ⟨N, hN⟩ : ∃ N, N = X.length := ⟨_, rfl⟩
  unfold repCells Raw.cells Nums.cells
  dsimp only [List.cons_append, List.nil_append]
  rw [← hp, ← hKn, ← hN]
  rw [← hKn] at hK
  rw [← hN] at hX
  obtain ⟨w1, hw1⟩ : ∃ w1, w1 = w.alloc (.cells #[.int .i64 x, .string (bs p), .slice ra rn rc, .int .u32 r1_, .int .u32 r2_, .int .u32 r3_, .int .i64 r4_, .int .u32 r5_, .int .u64 r6_, .int .u64 r7_, .int .u64 r8_, .slice ka K kc, .slice qa N qc] 43) := ⟨_, rfl⟩
  obtain ⟨w2, hw2⟩ : ∃ w2, w2 = w1.alloc (.cells #[.int .i64 x, .string (bs p), .slice sa sn sc, .int .u32 r1_, .int .u32 r2_, .int .u32 r3_, .int .i64 r4_, .int .u32 r5_, .int .u64 r6_, .int .u64 r7_, .int .u64 r8_, .slice la K lc, .slice ma N mc] 43) := ⟨_, rfl⟩
  have hb1 : Below w.heap.size w w1 := by rw [hw1]; exact belowA (Below.refl _ w) _
  have hs1 : w1.heap.size = w.heap.size + 1 := by rw [hw1]; simp
  have hb12 : Below w1.heap.size w1 w2 := by rw [hw2]; exact belowA (Below.refl _ w1) _
  have hs2 : w2.heap.size = w.heap.size + 2 := by rw [hw2]; simp; omega
  have hb2 : Below w.heap.size w w2 := hb1.trans (hb12.mono hb1.size)
  have k1 : w2.heap[w.heap.size]? = some (.cells #[.int .i64 x, .string (bs p), .slice ra rn rc, .int .u32 r1_, .int .u32 r2_, .int .u32 r3_, .int .i64 r4_, .int .u32 r5_, .int .u64 r6_, .int .u64 r7_, .int .u64 r8_, .slice ka K kc, .slice qa N qc] 43 (0, 0)) := (hb12.block _ (by omega)).trans (by rw [hw1]; exact heap_alloc_new w _)
  have k2 : w2.heap[w1.heap.size]? = some (.cells #[.int .i64 x, .string (bs p), .slice sa sn sc, .int .u32 r1_, .int .u32 r2_, .int .u32 r3_, .int .i64 r4_, .int .u32 r5_, .int .u64 r6_, .int .u64 r7_, .int .u64 r8_, .slice la K lc, .slice ma N mc] 43 (0, 0)) := by rw [hw2]; exact heap_alloc_new w1 _
  rw [hs1] at k2
  have hww : w2 = (w.alloc (.cells #[.int .i64 x, .string (bs p), .slice ra rn rc, .int .u32 r1_, .int .u32 r2_, .int .u32 r3_, .int .i64 r4_, .int .u32 r5_, .int .u64 r6_, .int .u64 r7_, .int .u64 r8_, .slice ka K kc, .slice qa N qc] 43)).alloc (.cells #[.int .i64 x, .string (bs p), .slice sa sn sc, .int .u32 r1_, .int .u32 r2_, .int .u32 r3_, .int .i64 r4_, .int .u32 r5_, .int .u64 r6_, .int .u64 r7_, .int .u64 r8_, .slice la K lc, .slice ma N mc] 43) := by rw [hw2, hw1]
  have n1 : w2.rangeAt w.heap.size 2 [.slice ra rn rc, .int .u32 r1_, .int .u32 r2_, .int .u32 r3_, .int .i64 r4_, .int .u32 r5_, .int .u64 r6_, .int .u64 r7_, .int .u64 r8_] := mid_range 2 (o := 0) (range_blk k1) (fun j v hv => by
    have hj := (List.getElem?_eq_some_iff.1 hv).1
    rw [← hv]
    rw [show 2 + j = j + 2 by omega]
    rw [List.getElem?_cons_succ, List.getElem?_cons_succ]
    exact (List.getElem?_append_left (l₂ := [.slice ka K kc, .slice qa N qc]) hj))
  have n2 : w2.rangeAt (w.heap.size + 1) 2 [.slice sa sn sc, .int .u32 r1_, .int .u32 r2_, .int .u32 r3_, .int .i64 r4_, .int .u32 r5_, .int .u64 r6_, .int .u64 r7_, .int .u64 r8_] := mid_range 2 (o := 0) (range_blk k2) (fun j v hv => by
    have hj := (List.getElem?_eq_some_iff.1 hv).1
    rw [← hv]
    rw [show 2 + j = j + 2 by omega]
    rw [List.getElem?_cons_succ, List.getElem?_cons_succ]
    exact (List.getElem?_append_left (l₂ := [.slice la K lc, .slice ma N mc]) hj))
  have hnd := refNode_same (r1.below hb2) (s1.below hb2)
  unfold Raw.val Raw.cells Nums.cells at hnd
  dsimp only at hnd
  have HND := Lib.hid hnd
  have HTX : Hid (∀ w', Below w2.heap.size w2 w' → Calls Tryz.prog 24 #[.slice ka K kc, .slice la K lc] w' fun e w'' => e = .returned (.bool true) ∧ Below w'.heap.size w' w'') := Lib.hid fun w' hb => by
    have hbb := hb2.trans (hb.mono hb2.size)
    rw [hKn]
    exact refTexts_same (by rw [← hKn]; exact hK) ((r2.below hbb).sl) ((s2.below hbb).sl)
  have HP := Lib.hid (And.intro r3 (And.intro s3 (And.intro hN hXK)))
  have HSZ : Hid ((Tryz.prog.info? 39).map (·.size) = some 9) := Lib.hid (by kernel_rfl)
  have HSR : Hid ((Tryz.prog.info? 43).map (·.size) = some 13) := Lib.hid infoReply13
  have HN := Lib.hid (And.intro n1 n2)
  have HK := Lib.hid (And.intro k1 (And.intro k2 (And.intro hb2 hs2)))
  have HWW := Lib.hid hww
  have c1 : ∀ w', Below w2.heap.size w2 w' → ∀ i v, (#[.int .i64 x, .string (bs p), .slice ra rn rc, .int .u32 r1_, .int .u32 r2_, .int .u32 r3_, .int .i64 r4_, .int .u32 r5_, .int .u64 r6_, .int .u64 r7_, .int .u64 r8_, .slice ka K kc, .slice qa N qc] : Array Value)[i]? = some v → w'.cell? ⟨w.heap.size, i, none⟩ = some v := fun w' hb i v hv => (cell_of_row _ _ i _ 43 (0, 0) ((hb.block _ (by omega)).trans HK.out.1)).trans hv
  have c2 : ∀ w', Below w2.heap.size w2 w' → ∀ i v, (#[.int .i64 x, .string (bs p), .slice sa sn sc, .int .u32 r1_, .int .u32 r2_, .int .u32 r3_, .int .i64 r4_, .int .u32 r5_, .int .u64 r6_, .int .u64 r7_, .int .u64 r8_, .slice la K lc, .slice ma N mc] : Array Value)[i]? = some v → w'.cell? ⟨w.heap.size + 1, i, none⟩ = some v := fun w' hb i v hv => (cell_of_row _ _ i _ 43 (0, 0) ((hb.block _ (by omega)).trans HK.out.2.1)).trans hv
  have HC := Lib.hid (And.intro c1 c2)
  have tp : ((bs p).toList != (bs p).toList) = false := by simp
  have tp2 : ((bs p).toList == (bs p).toList) = true := by simp
  have a0 : w2.cell? ⟨w.heap.size, 0, none⟩ = some (.int .i64 x) := c1 _ (Below.refl _ _) 0 _ rfl
  have a1 : w2.cell? ⟨w.heap.size, 1, none⟩ = some (.string (bs p)) := c1 _ (Below.refl _ _) 1 _ rfl
  have b0 : w2.cell? ⟨w.heap.size + 1, 0, none⟩ = some (.int .i64 x) := c2 _ (Below.refl _ _) 0 _ rfl
  have b1 : w2.cell? ⟨w.heap.size + 1, 1, none⟩ = some (.string (bs p)) := c2 _ (Below.refl _ _) 1 _ rfl
  have aa2 := c1 _ (Below.refl _ _) 2 _ rfl
  have bb2 := c2 _ (Below.refl _ _) 2 _ rfl
  have aa3 := c1 _ (Below.refl _ _) 3 _ rfl
  have bb3 := c2 _ (Below.refl _ _) 3 _ rfl
  have aa4 := c1 _ (Below.refl _ _) 4 _ rfl
  have bb4 := c2 _ (Below.refl _ _) 4 _ rfl
  have aa5 := c1 _ (Below.refl _ _) 5 _ rfl
  have bb5 := c2 _ (Below.refl _ _) 5 _ rfl
  have aa6 := c1 _ (Below.refl _ _) 6 _ rfl
  have bb6 := c2 _ (Below.refl _ _) 6 _ rfl
  have aa7 := c1 _ (Below.refl _ _) 7 _ rfl
  have bb7 := c2 _ (Below.refl _ _) 7 _ rfl
  have aa8 := c1 _ (Below.refl _ _) 8 _ rfl
  have bb8 := c2 _ (Below.refl _ _) 8 _ rfl
  have aa9 := c1 _ (Below.refl _ _) 9 _ rfl
  have bb9 := c2 _ (Below.refl _ _) 9 _ rfl
  have aa10 := c1 _ (Below.refl _ _) 10 _ rfl
  have bb10 := c2 _ (Below.refl _ _) 10 _ rfl
  clear e1 r1 r2 r3 s1 s2 s3 hp hKn hN hw1 hw2 hb1 hs1 hb12 hb2 k1 k2 hww n1 n2 hnd c1 c2 hXK hs2
  go_enter Tryz.func15, Tryz.ntmps15
  go_upto_region 1 with fail
  rw [← HWW.out]
  go_wp2_with fail
  refine HND.out.mono ?_
  rintro e w3 ⟨rfl, B3⟩
  have a3 : w3.cell? ⟨w.heap.size, 11, none⟩ = some (.slice ka K kc) := HC.out.1 _ B3 11 _ rfl
  have b3 : w3.cell? ⟨w.heap.size + 1, 11, none⟩ = some (.slice la K lc) := HC.out.2 _ B3 11 _ rfl
  have HB3 := Lib.hid B3
  clear B3
  go_wp2_with fail
  refine (HTX.out _ HB3.out).mono ?_
  rintro e w4 ⟨rfl, B4⟩
  have B24 := HB3.out.trans (B4.mono HB3.out.size)
  have a4 : w4.cell? ⟨w.heap.size, 12, none⟩ = some (.slice qa N qc) := HC.out.1 _ B24 12 _ rfl
  have b4 : w4.cell? ⟨w.heap.size + 1, 12, none⟩ = some (.slice ma N mc) := HC.out.2 _ B24 12 _ rfl
  have HB4 := Lib.hid B24
  clear B24 B4
  go_wp2_with fail
  go_loopw [5] (fun iv wr => ∃ k : Nat, k ≤ N ∧ iv = .int .i64 k ∧ Hid (Below w2.heap.size w2 wr)) (fun iv _ => N - (intOf iv).toNat)
  case atStart => exact ⟨0, by omega, rfl, HB4⟩
  case round =>
    obtain ⟨k, hk, rfl, HS⟩ := hrel
    have a5 : wr.cell? ⟨w.heap.size, 12, none⟩ = some (.slice qa N qc) := HC.out.1 _ HS.out 12 _ rfl
    have b5 : wr.cell? ⟨w.heap.size + 1, 12, none⟩ = some (.slice ma N mc) := HC.out.2 _ HS.out 12 _ rfl
    by_cases hlt : k < N
    · have tlt : decide ((k : Int) < (N : Int)) = true := by simp; omega
      obtain ⟨y, hy⟩ : ∃ y, X[k]? = some y := ⟨_, List.getElem?_eq_getElem (by rw [← HP.out.2.2.1]; exact hlt)⟩
      have hbw := HK.out.2.2.1.trans (HS.out.mono HK.out.2.2.1.size)
      obtain ⟨g1, o1, ⟨ye, yp, ⟨ea, en, ec, ⟨e1_, e2_, e3_, e4_, e5_, e6_, e7_, e8_⟩⟩, ga, yk, gc⟩, hq1, _, gl1, gr1, gd1⟩ := (HP.out.1.below hbw) k y hy
      obtain ⟨g2, o2, ⟨ye', yp', ⟨fa, fn, fc, ⟨f1_, f2_, f3_, f4_, f5_, f6_, f7_, f8_⟩⟩, ha, yk', hc⟩, hq2, _, gl2, gr2, gd2⟩ := (HP.out.2.1.below hbw) k y hy
      subst hq1 hq2
      have e1 : ye' = ye := gd2.e.trans gd1.e.symm
      have e2 : yp' = yp := gd2.path.trans gd1.path.symm
      have e3 : yk' = yk := gd2.kn.trans gd1.kn.symm
      subst e1 e2 e3
      have e4 : (⟨e1_, e2_, e3_, e4_, e5_, e6_, e7_, e8_⟩ : Nums) = ⟨f1_, f2_, f3_, f4_, f5_, f6_, f7_, f8_⟩ := (show _ = y.a.node.num from gd1.node.num).trans (show y.a.node.num = _ from gd2.node.num.symm)
      obtain ⟨rfl, rfl, rfl, rfl, rfl, rfl, rfl, rfl⟩ := Nums.mk.inj e4
      have hyk : yk' = y.a.kids.length := gd2.kn
      have hy1000 := HP.out.2.2.2 y (List.mem_of_getElem? hy)
      unfold RawR.cells repCells Raw.cells Nums.cells at gr1 gr2
      dsimp only [List.cons_append, List.nil_append] at gr1 gr2
      obtain ⟨v1, hv1⟩ : ∃ v1, v1 = wr.alloc (.cells #[.int .i64 ye', .string (bs yp'), .slice ea en ec, .int .u32 e1_, .int .u32 e2_, .int .u32 e3_, .int .i64 e4_, .int .u32 e5_, .int .u64 e6_, .int .u64 e7_, .int .u64 e8_, .slice ga yk' gc, .slice none 0 0] 43) := ⟨_, rfl⟩
      obtain ⟨v2, hv2⟩ : ∃ v2, v2 = v1.alloc (.cells #[.int .i64 ye', .string (bs yp'), .slice fa fn fc, .int .u32 e1_, .int .u32 e2_, .int .u32 e3_, .int .i64 e4_, .int .u32 e5_, .int .u64 e6_, .int .u64 e7_, .int .u64 e8_, .slice ha yk' hc, .slice none 0 0] 43) := ⟨_, rfl⟩
      have vb1 : Below wr.heap.size wr v1 := by rw [hv1]; exact belowA (Below.refl _ wr) _
      have vs1 : v1.heap.size = wr.heap.size + 1 := by rw [hv1]; simp
      have vb12 : Below v1.heap.size v1 v2 := by rw [hv2]; exact belowA (Below.refl _ v1) _
      have vs2 : v2.heap.size = wr.heap.size + 2 := by rw [hv2]; simp; omega
      have vb2 : Below wr.heap.size wr v2 := vb1.trans (vb12.mono vb1.size)
      have m1 : v2.heap[wr.heap.size]? = some (.cells #[.int .i64 ye', .string (bs yp'), .slice ea en ec, .int .u32 e1_, .int .u32 e2_, .int .u32 e3_, .int .i64 e4_, .int .u32 e5_, .int .u64 e6_, .int .u64 e7_, .int .u64 e8_, .slice ga yk' gc, .slice none 0 0] 43 (0, 0)) := (vb12.block _ (by omega)).trans (by rw [hv1]; exact heap_alloc_new wr _)
      have m2 : v2.heap[wr.heap.size + 1]? = some (.cells #[.int .i64 ye', .string (bs yp'), .slice fa fn fc, .int .u32 e1_, .int .u32 e2_, .int .u32 e3_, .int .i64 e4_, .int .u32 e5_, .int .u64 e6_, .int .u64 e7_, .int .u64 e8_, .slice ha yk' hc, .slice none 0 0] 43 (0, 0)) := by rw [hv2, ← vs1]; exact heap_alloc_new v1 _
      have n1 : v2.rangeAt wr.heap.size 2 [.slice ea en ec, .int .u32 e1_, .int .u32 e2_, .int .u32 e3_, .int .i64 e4_, .int .u32 e5_, .int .u64 e6_, .int .u64 e7_, .int .u64 e8_] := mid_range 2 (o := 0) (range_blk m1) (fun j v hv => by
        have hj := (List.getElem?_eq_some_iff.1 hv).1
        rw [← hv]
        rw [show 2 + j = j + 2 by omega]
        rw [List.getElem?_cons_succ, List.getElem?_cons_succ]
        exact (List.getElem?_append_left (l₂ := [.slice ga yk' gc, .slice none 0 0]) hj))
      have n2 : v2.rangeAt (wr.heap.size + 1) 2 [.slice fa fn fc, .int .u32 e1_, .int .u32 e2_, .int .u32 e3_, .int .i64 e4_, .int .u32 e5_, .int .u64 e6_, .int .u64 e7_, .int .u64 e8_] := mid_range 2 (o := 0) (range_blk m2) (fun j v hv => by
        have hj := (List.getElem?_eq_some_iff.1 hv).1
        rw [← hv]
        rw [show 2 + j = j + 2 by omega]
        rw [List.getElem?_cons_succ, List.getElem?_cons_succ]
        exact (List.getElem?_append_left (l₂ := [.slice ha yk' hc, .slice none 0 0]) hj))
      have gr2' := range_kept gr2 vb1 gl2
      have hnd := refNode_same (gd1.node.below vb2) (gd2.node.below vb2)
      unfold Raw.val Raw.cells Nums.cells at hnd
      dsimp only at hnd
      have HND2 := Lib.hid hnd
      have HTX2 : Hid (∀ w', Below v2.heap.size v2 w' → Calls Tryz.prog 24 #[.slice ga yk' gc, .slice ha yk' hc] w' fun e w'' => e = .returned (.bool true) ∧ Below w'.heap.size w' w'') := Lib.hid fun w' hb => by
        have hbb := vb2.trans (hb.mono vb2.size)
        rw [hyk]
        exact refTexts_same hy1000 ((gd1.kids.below hbb).sl) ((gd2.kids.below hbb).sl)
      have d1 : ∀ w', Below v2.heap.size v2 w' → ∀ i v, (#[.int .i64 ye', .string (bs yp'), .slice ea en ec, .int .u32 e1_, .int .u32 e2_, .int .u32 e3_, .int .i64 e4_, .int .u32 e5_, .int .u64 e6_, .int .u64 e7_, .int .u64 e8_, .slice ga yk' gc, .slice none 0 0] : Array Value)[i]? = some v → w'.cell? ⟨wr.heap.size, i, none⟩ = some v := fun w' hb i v hv => (cell_of_row _ _ i _ 43 (0, 0) ((hb.block _ (by omega)).trans m1)).trans hv
      have d2 : ∀ w', Below v2.heap.size v2 w' → ∀ i v, (#[.int .i64 ye', .string (bs yp'), .slice fa fn fc, .int .u32 e1_, .int .u32 e2_, .int .u32 e3_, .int .i64 e4_, .int .u32 e5_, .int .u64 e6_, .int .u64 e7_, .int .u64 e8_, .slice ha yk' hc, .slice none 0 0] : Array Value)[i]? = some v → w'.cell? ⟨wr.heap.size + 1, i, none⟩ = some v := fun w' hb i v hv => (cell_of_row _ _ i _ 43 (0, 0) ((hb.block _ (by omega)).trans m2)).trans hv
      have HD := Lib.hid (And.intro d1 d2)
      have HN2 := Lib.hid (And.intro n1 n2)
      have HG := Lib.hid (And.intro gr1 gr2')
      have HV1 := Lib.hid hv1
      have HV2 := Lib.hid hv2
      have HB2 := Lib.hid (HS.out.trans (vb2.mono HS.out.size))
      have tq : ((bs yp').toList != (bs yp').toList) = false := by simp
      have tq2 : ((bs yp').toList == (bs yp').toList) = true := by simp
      have b6 : v1.cell? ⟨w.heap.size + 1, 12, none⟩ = some (.slice (some ⟨g2, o2, none⟩) N mc) := HC.out.2 _ (HS.out.trans (vb1.mono HS.out.size)) 12 _ rfl
      have f0 : v2.cell? ⟨wr.heap.size, 0, none⟩ = some (.int .i64 ye') := d1 _ (Below.refl _ _) 0 _ rfl
      have f1 : v2.cell? ⟨wr.heap.size, 1, none⟩ = some (.string (bs yp')) := d1 _ (Below.refl _ _) 1 _ rfl
      have g0 : v2.cell? ⟨wr.heap.size + 1, 0, none⟩ = some (.int .i64 ye') := d2 _ (Below.refl _ _) 0 _ rfl
      have g1' : v2.cell? ⟨wr.heap.size + 1, 1, none⟩ = some (.string (bs yp')) := d2 _ (Below.refl _ _) 1 _ rfl
      have ff2 := d1 _ (Below.refl _ _) 2 _ rfl
      have gg2 := d2 _ (Below.refl _ _) 2 _ rfl
      have ff3 := d1 _ (Below.refl _ _) 3 _ rfl
      have gg3 := d2 _ (Below.refl _ _) 3 _ rfl
      have ff4 := d1 _ (Below.refl _ _) 4 _ rfl
      have gg4 := d2 _ (Below.refl _ _) 4 _ rfl
      have ff5 := d1 _ (Below.refl _ _) 5 _ rfl
      have gg5 := d2 _ (Below.refl _ _) 5 _ rfl
      have ff6 := d1 _ (Below.refl _ _) 6 _ rfl
      have gg6 := d2 _ (Below.refl _ _) 6 _ rfl
      have ff7 := d1 _ (Below.refl _ _) 7 _ rfl
      have gg7 := d2 _ (Below.refl _ _) 7 _ rfl
      have ff8 := d1 _ (Below.refl _ _) 8 _ rfl
      have gg8 := d2 _ (Below.refl _ _) 8 _ rfl
      have ff9 := d1 _ (Below.refl _ _) 9 _ rfl
      have gg9 := d2 _ (Below.refl _ _) 9 _ rfl
      have ff10 := d1 _ (Below.refl _ _) 10 _ rfl
      have gg10 := d2 _ (Below.refl _ _) 10 _ rfl
      have hsz1 := vs1
      have HLT := Lib.hid hlt
      clear hy hbw gl1 gr1 gd1 gl2 gr2 gd2 e4 hyk hy1000 hv1 hv2 vb1 vb12 vs2 vb2 m1 m2 n1 n2 gr2' hnd d1 d2 vs1 hlt
      go_upto_region 7 with (refine wpList_load_mid rfl 43 (.tmp 55) rfl g1 (o1 + k * 13) rfl [.int .i64 ye', .string (bs yp'), .slice ea en ec, .int .u32 e1_, .int .u32 e2_, .int .u32 e3_, .int .i64 e4_, .int .u32 e5_, .int .u64 e6_, .int .u64 e7_, .int .u64 e8_, .slice ga yk' gc, .slice none 0 0] _ HG.out.1 Tryz.underlying43 rfl HSR.out ?_)
      rw [← HV1.out]
      go_upto_region 8 with (refine wpList_load_mid rfl 43 (.tmp 60) rfl g2 (o2 + k * 13) rfl [.int .i64 ye', .string (bs yp'), .slice fa fn fc, .int .u32 e1_, .int .u32 e2_, .int .u32 e3_, .int .i64 e4_, .int .u32 e5_, .int .u64 e6_, .int .u64 e7_, .int .u64 e8_, .slice ha yk' hc, .slice none 0 0] _ HG.out.2 Tryz.underlying43 rfl HSR.out ?_)
      rw [← HV2.out]
      try rw [hsz1]
      clear hsz1
      go_wp2_with fail
      refine HND2.out.mono ?_
      rintro e v3 ⟨rfl, B5⟩
      have f3 : v3.cell? ⟨wr.heap.size, 11, none⟩ = some (.slice ga yk' gc) := HD.out.1 _ B5 11 _ rfl
      have g3 : v3.cell? ⟨wr.heap.size + 1, 11, none⟩ = some (.slice ha yk' hc) := HD.out.2 _ B5 11 _ rfl
      have HB5 := Lib.hid B5
      clear B5
      go_wp2_with fail
      refine (HTX2.out _ HB5.out).mono ?_
      rintro e v4 ⟨rfl, B6⟩
      have B26 := HB5.out.trans (B6.mono HB5.out.size)
      have f4 : v4.cell? ⟨wr.heap.size, 12, none⟩ = some (.slice none 0 0) := HD.out.1 _ B26 12 _ rfl
      have g4 : v4.cell? ⟨wr.heap.size + 1, 12, none⟩ = some (.slice none 0 0) := HD.out.2 _ B26 12 _ rfl
      have HBE := Lib.hid (HB2.out.trans (B26.mono HB2.out.size))
      have hlt := HLT.out
      clear B26 B6
      go_wp2_with fail
      go_roundw
      case rel => exact ⟨k + 1, by omega, by go_num, HBE⟩
      case measure => simp [intOf]; omega
    · obtain rfl : N = k := by omega
      have tlt : decide ((N : Int) < (N : Int)) = false := by simp
      go_wp2_with fail
      go_ret
      exact ⟨rfl, HK.out.2.2.1.trans (HS.out.mono HK.out.2.2.1.size)⟩
end Go.Proofs.YtnclkfhdpkkakaaGreatDoor

namespace Go.Proofs.YtnclkfhdpkkakaaGreatDoor
set_option linter.unusedVariables false
set_option linter.unusedSimpArgs false
open Go Go.RowKit Go.Shelf Go.MapKept Go.ChangeMaps Go.Maps Go.Sort
section
variable {root : Bytes} {M : List (Bytes × Nd)} {at_ : Int} {who : Sess} {o : Opl}
theorem doE_zero {ce : Int} {v : OpV} (h : doE root M at_ who ce v = 0) : ce = 0 := by
  by_cases h0 : ce = 0
  · exact h0
  · unfold doE at h
    rw [if_pos h0] at h
    exact absurd h h0
theorem opE_at (h : opE root M who o = 0) : underB o.path root = true := by
  cases hu : underB o.path root with
  | true => rfl
  | false =>
    unfold opE at h
    rw [if_pos hu] at h
    cases h
theorem leaf_writes (h : opE root M who o = 0) : opXs root M at_ who o ≠ [] ↔ (o.kind = 1 ∨ o.kind = 2 ∨ o.kind = 3) := by
  unfold opXs opX
  rw [if_neg (by simpa using h)]
  by_cases h1 : o.kind = 1
  · rw [if_pos h1]; simp [createX, h1]
  · rw [if_neg h1]
    by_cases h2 : o.kind = 2
    · rw [if_pos h2]; simp [removeX, h2]
    · rw [if_neg h2]
      by_cases h3 : o.kind = 3
      · rw [if_pos h3]; simp [setX, h3]
      · rw [if_neg h3]; simp [h1, h2, h3]
theorem opE_get (h : opE root M who o = 0) (h1 : o.kind ≠ 1) (h2 : o.kind ≠ 2) : (getA o.path M).isSome = true := by
  have hu := opE_at h
  unfold opE at h
  rw [if_neg (by rw [hu]; simp), if_neg h1, if_neg h2] at h
  split at h
  · obtain ⟨d, hd, _⟩ := ver_there h
    rw [hd]; rfl
  · split at h
    · cases h
    · rename_i h3
      cases hg : (getA o.path M).isSome with
      | true => rfl
      | false => exact absurd hg h3
/-- A node that goes is gone. -/
theorem leaf_gone (I : Inv root M) (h : opE root M who o = 0) (hk : o.kind = 2) : getA o.path (opM root M at_ who o) = none ∧ (opA root M at_ who o).path = o.path := by
  obtain ⟨hu, hr⟩ := opE_remove hk h
  obtain ⟨h1, h2, h3⟩ := remove_parts hr
  have hM : opM root M at_ who o = removeM M at_ o := by
    unfold opM
    rw [if_neg (by simpa using h), if_neg (by omega), if_pos hk]
  refine ⟨?_, ?_⟩
  · rw [hM]
    unfold removeM
    rw [getA_putA_other _ (Ne.symm (under_parent hu h1).2)]
    have : (getA o.path (delA o.path M)).isSome = false := getA_no.2 fun hm => ((delA_keys I.nodup _).1 hm).2 rfl
    cases hg : getA o.path (delA o.path M) with
    | none => rfl
    | some d => rw [hg] at this; cases this
  · unfold opA
    rw [if_neg (by omega), if_pos hk]
/-- What is read behind an operation is what it said. -/
theorem leaf_told (h : opE root M who o = 0) (hk : o.kind ≠ 2) : getA (opA root M at_ who o).path (opM root M at_ who o) = some (opA root M at_ who o).node ∧ underB (opA root M at_ who o).path root = true := by
  have hu := opE_at h
  by_cases h1 : o.kind = 1
  · obtain ⟨_, hc⟩ := opE_create h1 h
    obtain ⟨c1, c2, _⟩ := create_parts hc
    have hM : opM root M at_ who o = createM M at_ who o := by
      unfold opM
      rw [if_neg (by simpa using h), if_pos h1]
    have hA : opA root M at_ who o = ⟨newPath M o, newN o.data at_ who o.eph, []⟩ := by unfold opA; rw [if_pos h1]
    rw [hM, hA]
    exact ⟨getA_putA_same _ _ _, (newPath_ok hu c1 c2).1⟩
  · have hg := opE_get h h1 hk
    by_cases h3 : o.kind = 3
    · have hM : opM root M at_ who o = setM M at_ o := by
        unfold opM
        rw [if_neg (by simpa using h), if_neg h1, if_neg hk, if_pos h3]
      have hA : opA root M at_ who o = ⟨o.path, setN (nodeAt M o.path) o.data at_, []⟩ := by unfold opA; rw [if_neg h1, if_neg hk, if_pos h3]
      rw [hM, hA]
      exact ⟨getA_putA_same _ _ _, hu⟩
    · have hM : opM root M at_ who o = M := by
        unfold opM
        rw [if_neg (by simpa using h), if_neg h1, if_neg hk, if_neg h3]
      have hA : (opA root M at_ who o).path = o.path ∧ (opA root M at_ who o).node = nodeAt M o.path := by
        unfold opA
        rw [if_neg h1, if_neg hk, if_neg h3]
        split <;> exact ⟨rfl, rfl⟩
      rw [hM, hA.1, hA.2]
      refine ⟨?_, hu⟩
      obtain ⟨d, hd⟩ := Option.isSome_iff_exists.1 hg
      unfold nodeAt
      rw [hd]
      rfl
/-- With an error there is no answer. -/
theorem leaf_noAns {ce : Int} {v : OpV} (hk : v.leaf.kind ≠ 7) (h : doE root M at_ who ce v ≠ 0) : doA root M at_ who ce v = noAns ∧ doR root M at_ who ce v = [] := by
  refine ⟨?_, by unfold doR; rw [if_neg (fun h => hk h.2)]⟩
  by_cases h0 : ce = 0
  · subst h0
    obtain ⟨e1, _, e3, _⟩ := do_one (root := root) (M := M) (at_ := at_) (who := who) hk
    rw [e3]
    rw [e1] at h
    unfold opR
    rw [if_pos h]
  · unfold doA
    rw [if_neg (fun h => h0 h.1)]
theorem doX_none {ce : Int} {v : OpV} (h : doE root M at_ who ce v ≠ 0) : doX root M at_ who ce v = [] := by unfold doX; rw [if_pos h]
theorem doM_same {ce : Int} {v : OpV} (I : Inv root M) (h : doX root M at_ who ce v = []) : doM root M at_ who ce v = M := by
  have h2 := do_fits (at_ := at_) (who := who) (ce := ce) (o := v) I
  rw [h] at h2
  exact (congrArg Prod.snd h2).symm
/-- One operation that is no multi, all told. -/
theorem leaf_all {v : OpV} (I : Inv root M) (hk : v.leaf.kind ≠ 7) (h : doE root M at_ who 0 v = 0) :
    opE root M who v.leaf = 0 ∧ doA root M at_ who 0 v = opA root M (at_ + 1) who v.leaf ∧ doM root M at_ who 0 v = opM root M (at_ + 1) who v.leaf ∧ doX root M at_ who 0 v = opXs root M (at_ + 1) who v.leaf := by
  obtain ⟨e1, e2, e3, _⟩ := do_one (root := root) (M := M) (at_ := at_) (who := who) hk
  rw [e1] at h
  refine ⟨h, ?_, ?_, e2⟩
  · rw [e3]
    unfold opR
    rw [if_neg (by simpa using h)]
  · have h1 := do_fits (at_ := at_) (who := who) (ce := 0) (o := v) I
    rw [e2] at h1
    have h2 := op_fits (at_ := at_ + 1) (who := who) I v.leaf
    rw [h1] at h2
    exact congrArg Prod.snd h2
end
section
variable {w0 w : World} {b : Nat} {root : Bytes} {at_ : Int} {M : List (Bytes × Nd)}
set_option maxRecDepth 100000 in
/-- The effects that were answered, applied. -/
theorem St.apply_do (S : St w0 w b root at_ M) (h1 : at_ ≤ 90000) {wI : World} {r : RawO} {o : OpV} {ce : Int} (hin : OpIn wI r o ce) {who : Sess} {a : Option Addr} {n c : Nat} (hu : EffsOut w (.slice a n c) (doX root M at_ who ce o)) (hne : doX root M at_ who ce o ≠ []) :
    Calls Tryz.prog 18 #[.pointer (some ⟨b, 0, none⟩), .slice a n c] w fun e w' => e = .returned (.int .i64 0) ∧ St w0 w' b root (at_ + 1) (doM root M at_ who ce o) ∧ Kept (· = b) w w' := by
  obtain ⟨xa, xc, XL, e, hA, hL⟩ := hu
  cases e
  have hfit := do_fits (at_ := at_) (who := who) (ce := ce) (o := o) S.inv
  have hlen := hin.xlen root M at_ who
  have hl : XL.length = (doX root M at_ who ce o).length := hL.1
  have hap := S.tr.apply S.lo (by omega) a c XL (doX root M at_ who ce o) hL hA (do_fitE S.tr.fit S.inv (fun h0 => (hin.fine h0).1)) (by omega)
  rw [hl] at hap
  refine hap.mono ?_
  rintro e w' ⟨rfl, R4, K4⟩
  obtain ⟨_, ha, hn⟩ := atA_yes (at_ := at_) hfit
  rw [ha, hn] at R4
  rw [hfit]
  exact ⟨rfl, ⟨R4, S.inv.does, S.nice.does, S.tab, by have := S.lo; omega⟩, K4⟩
end
/-- A reply that says an error alone. -/
theorem reply_bare (w : World) (lo : Nat → Prop) (x : Int) : ReplyAt w lo (.agg #[.int .i64 x, .string ⟨#[]⟩, .slice none 0 0, .int .u32 0, .int .u32 0, .int .u32 0, .int .i64 0, .int .u32 0, .int .u64 0, .int .u64 0, .int .u64 0, .slice none 0 0, .slice none 0 0]) x noAns [] :=
  ⟨zRaw, none, 0, none, 0, rfl, zReads _ _, StrLo.nil _ _ _, RepsAt.nil _ _ _⟩
end Go.Proofs.YtnclkfhdpkkakaaGreatDoor
