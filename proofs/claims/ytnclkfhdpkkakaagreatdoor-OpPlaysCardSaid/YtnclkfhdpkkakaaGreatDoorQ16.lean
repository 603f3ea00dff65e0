/-
  Apply, walked. The table of an operation's kinds: walked. Effects that came in: nodes, effects, rows of them, rows of rows.
-/
import Derived.Test.YtnclkfhdpkkakaaGreatDoorQ15
import Derived.Carry
namespace Go.Proofs.YtnclkfhdpkkakaaGreatDoor
set_option linter.unusedVariables false
set_option linter.unusedSimpArgs false
set_option linter.unusedVariables false
set_option linter.unusedSimpArgs false
open Go Go.RowKit Go.Shelf Go.MapKept Go.ChangeMaps Go.Maps Go.Sort
theorem ByteSl.turn {w w' : World} {lo : Nat → Prop} {hi b : Nat} {a : Option Addr} {D : Bytes} (h : ByteSl w lo hi a D) {s : ByteArray} {x : Int} {y : Option Nat} {t : TypeId} (hb : w.heap[b]? = some (.cells #[.string s, .int .u64 x, .map y] t (0, 0))) (hk : Kept (· = b) w w') (hw : hi ≤ w.heap.size) : ByteSl w' lo hi a D := fun j c hj => by
 obtain ⟨g, off, h1, h2, h3, h4⟩ := h j c hj
 refine ⟨g, off, h1, h2, h3, (hk.cell (p := ⟨g, off + j, none⟩) (Nat.lt_of_lt_of_le h3 hw) (fun e => ?_)).trans h4⟩
 have e : g = b := e
 subst e
 rw [cell_of_row _ _ (off + j) _ t (0, 0) hb] at h4
 generalize off + j = k at h4
 rcases (show k = 0 ∨ k = 1 ∨ k = 2 ∨ 3 ≤ k by omega) with rfl | rfl | rfl | hk3
 ·simp at h4
 ·simp at h4
 ·simp at h4
 ·rw [Array.getElem?_eq_none (by simpa using hk3)] at h4
  cases h4
theorem Reads.turn {w w' : World} {lo : Nat → Prop} {b : Nat} {r : Raw} {d : Nd} (h : Reads w lo r d) {s : ByteArray} {x : Int} {y : Option Nat} {t : TypeId} (hb : w.heap[b]? = some (.cells #[.string s, .int .u64 x, .map y] t (0, 0))) (hk : Kept (· = b) w w') : Reads w' lo r d :=
 ⟨h.num, h.len, (h.data.turn hb hk (Nat.le_refl _)).mono (fun _ h => h) hk.size, h.nil⟩
theorem applyA_at {root : Bytes} {M : List (Bytes × Nd)} {E : List Eff} {i : Nat} {e : Eff} (h0 : (applyA root M (E.take i)).1 = 0) (he : E[i]? = some e) :
  (oneE root (applyA root M (E.take i)).2 e ≠ 0 → applyA root M E = (oneE root (applyA root M (E.take i)).2 e, (applyA root M (E.take i)).2)) ∧
  (oneE root (applyA root M (E.take i)).2 e = 0 → applyA root M (E.take (i + 1)) = (0, oneM root (applyA root M (E.take i)).2 e)) := by
 have hs : E.take (i + 1) = E.take i ++ [e] := by rw [List.take_add_one, he]; rfl
 have h1 := applyA_snoc root e (E.take i) M h0
 refine ⟨fun h => ?_, fun h => ?_⟩
 ·rw [if_neg h] at h1
  have h2 := applyA_stop root (E.drop (i + 1)) (E.take (i + 1)) M (by rw [hs, h1]; exact h)
  rw [List.take_append_drop] at h2
  rw [h2, hs, h1]
 ·rw [hs, h1, if_pos h]
def ApplyPost (lo : Nat → Prop) (b : Nat) (root : Bytes) (at_ : Int) (M : List (Bytes × Nd)) (w : World) (x : Int × List (Bytes × Nd)) (e : Ending) (w' : World) : Prop :=
 ∃ mb', e = .returned (.int .i64 x.1) ∧ TreeAt w' (Plus lo w.heap.size) b mb' root (if x.1 = 0 then at_ + 1 else at_) (if x.1 = 0 then x.2 else M) ∧ Kept (· = b) w w'
structure ApSt (lo : Nat → Prop) (b' mb' : Nat) (root : Bytes) (at_ : Int) (M : List (Bytes × Nd)) (E : List Eff) (w w1 : World) (i : Nat) (wr : World) : Prop where
 tree : TreeAt wr (Plus lo w.heap.size) b' mb' root at_ (applyA root M (E.take i)).2
 ok : (applyA root M (E.take i)).1 = 0
 kept : Kept (· = mb') w1 wr
theorem neq_int {x : Int} (h : x ≠ 0) : (x == 0) = false ∧ (!(x == 0)) = true := by simp [h]
theorem eq_int {x : Int} (h : x = 0) : (x == 0) = true ∧ (!(x == 0)) = false := by simp [h]
section
variable {w : World} {lo : Nat → Prop} {b mb : Nat} {root : Bytes} {at_ : Int} {M : List (Bytes × Nd)}
theorem TreeAt.swap {lo' : Nat → Prop} {b' mb' : Nat} {root' : Bytes} {at' : Int} {M' : List (Bytes × Nd)} (T : TreeAt w lo b mb root at_ M) (T' : TreeAt w lo' b' mb' root' at' M') (hb : b ≠ b') :
  TreeAt ((w.setCell ⟨b, 2, none⟩ (.map (some mb'))).setCell ⟨b, 1, none⟩ (.int .u64 (at_ + 1))) lo' b mb' root (at_ + 1) M' ∧ Kept (· = b) w ((w.setCell ⟨b, 2, none⟩ (.map (some mb'))).setCell ⟨b, 1, none⟩ (.int .u64 (at_ + 1))) := by
 have hk : Kept (· = b) w ((w.setCell ⟨b, 2, none⟩ (.map (some mb'))).setCell ⟨b, 1, none⟩ (.int .u64 (at_ + 1))) := (((Kept.refl (· = b) w).setCell (p := ⟨b, 2, none⟩) rfl _).setCell (p := ⟨b, 1, none⟩) rfl _)
 obtain ⟨m, hm, hl⟩ := T'.map
 have hbm : mb' ≠ b := fun e => by
  obtain ⟨es, c, h1, _⟩ := hm
  rw [e, T.blk] at h1
  cases h1
 refine ⟨⟨?_, m, hm.of_block (hk.block _ hm.lt hbm), hl.imp fun r d h => h.turn T.blk hk⟩, hk⟩
 simp [World.setCell, Array.getElem?_modify, T.blk]
set_option maxRecDepth 100000 in
set_option maxHeartbeats 8000000 in
theorem TreeAt.apply_any (T : TreeAt w lo b mb root at_ M) (hmx : MaxInt w) (hfit : Fit M) (hrl : root.length ≤ 1000) (h0 : 0 ≤ at_) (h1 : at_ ≤ 1000000000) (ao : Option Addr) (cap : Nat) (L : List RawE) (E : List Eff) {lr : Nat → Prop}
  (hL : LikeE w lr L E) (hA : EffsAt w w.heap.size ao L) (hE : ∀ e ∈ E, FitE e) (hbig : L.length ≤ 1000000) :
  Calls Tryz.prog 18 #[.pointer (some ⟨b, 0, none⟩), .slice ao L.length cap] w (ApplyPost lo b root at_ M w (applyA root M E)) := by
 obtain ⟨N, hN⟩ : ∃ N, N = L.length := ⟨_, rfl⟩
 have hNE : N = E.length := hN.trans hL.1
 rw [← hN] at hbig ⊢
 have HCL := Lib.hid T.clone_any
 have HT := Lib.hid T
 have HIN := Lib.hid (And.intro hL (And.intro hA (And.intro hE (And.intro hfit (And.intro hmx (And.intro hN hNE))))))
 have hbl : b < w.heap.size := lt_of_block T.blk
 clear T hmx hfit hL hA hE hN hNE
 go_enter Tryz.func18, Tryz.ntmps18
 go_wp2_with fail
 refine HCL.out.mono ?_
 rintro e w1 ⟨b', mb', rfl, T1, hb', hmb', hne, B1⟩
 have HT1 := Lib.hid T1
 have HB1 := Lib.hid B1
 have hs1 := B1.size
 clear T1 B1
 go_wp2
 go_loopw [15] (fun p wr => ∃ i : Nat, i ≤ N ∧ p = .int .i64 i ∧ Hid (ApSt lo b' mb' root at_ M E w w1 i wr))
  (fun p _ => N - (intOf p).toNat)
 case atStart =>
  exact ⟨0, by omega, rfl, Lib.hid ⟨(HT1.out.wide (fun k h => .inl h)), rfl, Kept.refl _ _⟩⟩
 case round =>
  obtain ⟨i, hi, rfl, HS⟩ := hrel
  by_cases hlt : i < N
  ·obtain ⟨hL, hA, hE, hfit, hmx, hN, hNE⟩ := HIN.out
   obtain ⟨r, hr⟩ : ∃ r, L[i]? = some r := ⟨_, List.getElem?_eq_getElem (by omega)⟩
   obtain ⟨e, he⟩ : ∃ e, E[i]? = some e := ⟨_, List.getElem?_eq_getElem (by omega)⟩
   obtain ⟨q1, q2, q3⟩ := hL.2 i r e hr he
   obtain ⟨bb, off, rfl, hbb, hrg⟩ := hA i r hr
   have hfe := hE e (List.mem_of_getElem? he)
   obtain ⟨hno, hyes⟩ := applyA_at (root := root) (M := M) HS.out.ok he
   obtain ⟨S1, S2, S3⟩ := HS.out
   have hfi : Fit (applyA root M (E.take i)).2 := Fit.all hfit (fun x hx => hE x (List.mem_of_mem_take hx))
   obtain ⟨p, g, ⟨a, n, c, ⟨v1, v2, v3, v4, v5, v6, v7, v8⟩⟩⟩ := r
   obtain ⟨p', g', nd⟩ := e
   dsimp only at q1 q2 q3
   subst q1 q2
   generalize (applyA root M (E.take i)).2 = Mi at *
   have hb1 : Below w.heap.size w1 wr := S3.below hs1 (fun k h => by omega)
   have hbw : Below w.heap.size w wr := HB1.out.trans hb1
   have hrw := range_kept hrg hbw hbb
   have k0 : wr.cell? ⟨bb, off + i * 11, none⟩ = some (.string (bs p)) := hrw 0 _ rfl
   have k1 : wr.cell? ⟨bb, off + i * 11 + 1, none⟩ = some (.bool g) := hrw 1 _ rfl
   have k2 : wr.cell? ⟨bb, off + i * 11 + 2, none⟩ = some (.slice a n c) := hrw 2 _ rfl
   have k3 : wr.cell? ⟨bb, off + i * 11 + 3, none⟩ = some (.int .u32 v1) := hrw 3 _ rfl
   have k4 : wr.cell? ⟨bb, off + i * 11 + 4, none⟩ = some (.int .u32 v2) := hrw 4 _ rfl
   have k5 : wr.cell? ⟨bb, off + i * 11 + 5, none⟩ = some (.int .u32 v3) := hrw 5 _ rfl
   have k6 : wr.cell? ⟨bb, off + i * 11 + 6, none⟩ = some (.int .i64 v4) := hrw 6 _ rfl
   have k7 : wr.cell? ⟨bb, off + i * 11 + 7, none⟩ = some (.int .u32 v5) := hrw 7 _ rfl
   have k8 : wr.cell? ⟨bb, off + i * 11 + 8, none⟩ = some (.int .u64 v6) := hrw 8 _ rfl
   have k9 : wr.cell? ⟨bb, off + i * 11 + 9, none⟩ = some (.int .u64 v7) := hrw 9 _ rfl
   have k10 : wr.cell? ⟨bb, off + i * 11 + 10, none⟩ = some (.int .u64 v8) := hrw 10 _ rfl
   obtain ⟨wa, hwa⟩ : ∃ wa, wa = wr.alloc (.cells #[.string (bs p), .bool g, .slice a n c, .int .u32 v1, .int .u32 v2, .int .u32 v3, .int .i64 v4, .int .u32 v5, .int .u64 v6, .int .u64 v7, .int .u64 v8] 88) := ⟨_, rfl⟩
   have hba : Below wr.heap.size wr wa := by rw [hwa]; exact belowA (Below.refl _ wr) _
   have ga : wa.heap[wr.heap.size]? = some (.cells #[.string (bs p), .bool g, .slice a n c, .int .u32 v1, .int .u32 v2, .int .u32 v3, .int .i64 v4, .int .u32 v5, .int .u64 v6, .int .u64 v7, .int .u64 v8] 88 (0, 0)) := by rw [hwa]; exact heap_alloc_new wr _
   have hgo : ∀ o, (Wext wa o).heap[wr.heap.size]? = some (.cells #[.string (bs p), .bool g, .slice a n c, .int .u32 v1, .int .u32 v2, .int .u32 v3, .int .i64 v4, .int .u32 v5, .int .u64 v6, .int .u64 v7, .int .u64 v8] 88 (0, 0)) := fun o => ((Wext.below wa o).block _ (lt_of_block ga)).trans ga
   have f0 : ∀ o, (Wext wa o).cell? ⟨wr.heap.size, 0, none⟩ = some (.string (bs p)) := fun o => cell_of_row _ _ 0 _ 88 (0, 0) (hgo o)
   have f1 : ∀ o, (Wext wa o).cell? ⟨wr.heap.size, 1, none⟩ = some (.bool g) := fun o => cell_of_row _ _ 1 _ 88 (0, 0) (hgo o)
   have f2 : ∀ o, (Wext wa o).cell? ⟨wr.heap.size, 2, none⟩ = some (.slice a n c) := fun o => cell_of_row _ _ 2 _ 88 (0, 0) (hgo o)
   have f3 : ∀ o, (Wext wa o).cell? ⟨wr.heap.size, 3, none⟩ = some (.int .u32 v1) := fun o => cell_of_row _ _ 3 _ 88 (0, 0) (hgo o)
   have f4 : ∀ o, (Wext wa o).cell? ⟨wr.heap.size, 4, none⟩ = some (.int .u32 v2) := fun o => cell_of_row _ _ 4 _ 88 (0, 0) (hgo o)
   have f5 : ∀ o, (Wext wa o).cell? ⟨wr.heap.size, 5, none⟩ = some (.int .u32 v3) := fun o => cell_of_row _ _ 5 _ 88 (0, 0) (hgo o)
   have f6 : ∀ o, (Wext wa o).cell? ⟨wr.heap.size, 6, none⟩ = some (.int .i64 v4) := fun o => cell_of_row _ _ 6 _ 88 (0, 0) (hgo o)
   have f7 : ∀ o, (Wext wa o).cell? ⟨wr.heap.size, 7, none⟩ = some (.int .u32 v5) := fun o => cell_of_row _ _ 7 _ 88 (0, 0) (hgo o)
   have f8 : ∀ o, (Wext wa o).cell? ⟨wr.heap.size, 8, none⟩ = some (.int .u64 v6) := fun o => cell_of_row _ _ 8 _ 88 (0, 0) (hgo o)
   have f9 : ∀ o, (Wext wa o).cell? ⟨wr.heap.size, 9, none⟩ = some (.int .u64 v7) := fun o => cell_of_row _ _ 9 _ 88 (0, 0) (hgo o)
   have f10 : ∀ o, (Wext wa o).cell? ⟨wr.heap.size, 10, none⟩ = some (.int .u64 v8) := fun o => cell_of_row _ _ 10 _ 88 (0, 0) (hgo o)
   have hext : ∀ o, Below wr.heap.size wr (Wext wa o) := fun o => hba.trans ((Wext.below wa o).mono hba.size)
   have T2 := HT.out.below hbw
   have hblr : b < wr.heap.size := lt_of_block T2.blk
   have ft : ∀ o, (Wext wa o).cell? ⟨b, 0, none⟩ = some (.string (bs root)) := fun o => ((hext o).cell (p := ⟨b, 0, none⟩) hblr).trans T2.cells.1
   have hmr : MaxInt wr := hmx.kept hbw
   have KU := Lib.hid ((always_under hmr p root hfe.path hrl).ext hba)
   have HWA := Lib.hid hwa
   have HEX := Lib.hid hext
   have HMR := Lib.hid (fun o => hmr.kept (hext o))
   have HQ3 := Lib.hid (q3.below hbw)
   have HF := Lib.hid (And.intro hfe hfi)
   have HSS := Lib.hid (And.intro S1 (And.intro S2 S3))
   have HNY := Lib.hid (And.intro hno hyes)
   have HBW := Lib.hid hbw
   clear hL hA hE hfit hmx hN hNE hr he hrg hrw hfe hfi S1 S2 S3 hno hyes hwa hba ga hgo hext T2 hmr q3 hb1 hbw HCL
   go_wp2_with fail
   rw [← HWA.out]
   clear k0 k1 k2 k3 k4 k5 k6 k7 k8 k9 k10
   go_wp2_with fail
   refine wp_region_ext (by kernel_rfl) (by kernel_rfl) ?_
   repeat (go_big_quiet_step (first | (go_at_call 21; exact KU.out _)))
   refine wpQuiet_nil ?_
   intro w' hw'
   obtain ⟨oq, hw''⟩ := hw'
   subst hw''
   have hwb := HEX.out oq
   have HWB := Lib.hid hwb
   have hbb2 : Below w.heap.size w (Wext wa oq) := HBW.out.trans (hwb.mono HBW.out.size)
   have HBB2 := Lib.hid hbb2
   have T3 := HSS.out.1.below hwb
   have HT3 := Lib.hid T3
   have j0 := f0 oq
   have j1 := f1 oq
   have j2 := f2 oq
   have j3 := f3 oq
   have j4 := f4 oq
   have j5 := f5 oq
   have j6 := f6 oq
   have j7 := f7 oq
   have j8 := f8 oq
   have j9 := f9 oq
   have j10 := f10 oq
   have hmr3 := HMR.out oq
   have HMR3 := Lib.hid hmr3
   have HQ3b := Lib.hid (HQ3.out.below hwb)
   clear f0 f1 f2 f3 f4 f5 f6 f7 f8 f9 f10 ft hwb hbb2 T3 hmr3 KU HWA HEX
   generalize Wext wa oq = wb at *
   cases hu : underB p root with
   | false =>
    have hz : oneE root Mi ⟨p, g, nd⟩ = 30 := by unfold oneE; rw [if_pos hu]
    have HZ : Hid (oneE root Mi ⟨p, g, nd⟩ ≠ 0) := Lib.hid (by rw [hz]; decide)
    have HZV := Lib.hid hz
    clear hu hz
    go_wp2
    go_ret
    have hres := HNY.out.1 HZ.out
    rw [HZV.out] at hres
    refine ⟨mb, by rw [hres]; rfl, ?_, Kept.ofBelow HBB2.out⟩
    rw [hres, if_neg (show ¬ (30 : Int) = 0 by decide), if_neg (show ¬ (30 : Int) = 0 by decide)]
    exact (HT.out.below HBB2.out).wide (fun k h => .inl h)
   | true =>
    cases g with
    | true =>
     have hz : oneE root Mi ⟨p, true, nd⟩ = goneE root Mi p := by unfold oneE; rw [if_neg (by rw [hu]; decide), if_pos rfl]
     have hzm : oneM root Mi ⟨p, true, nd⟩ = goneM root Mi p := by unfold oneM; rw [if_neg (by rw [hu]; decide), if_pos rfl]
     rw [hz, hzm] at HNY
     have HG := Lib.hid (HT3.out.gone_any (Nat.le_trans HF.out.2.len (by omega)) HMR3.out HF.out.2.path p HF.out.1.path)
     clear hz hzm hu
     go_wp2_with fail
     refine HG.out.mono ?_
     rintro e w3 ⟨rfl, T4, K4⟩
     have HX := Lib.hid (And.intro T4 K4)
     clear T4 K4 HG
     generalize goneE root Mi p = x at *
     by_cases hx : x = 0
     ·obtain ⟨x1, x2⟩ := eq_int hx
      have HXX := Lib.hid hx
      clear hx
      go_wp2
      go_roundw
      case rel =>
       have hn := HNY.out.2 HXX.out
       refine ⟨i + 1, by omega, by go_num, Lib.hid ⟨by rw [hn]; exact HX.out.1, by rw [hn], (HSS.out.2.2.trans (Kept.ofBelow HWB.out)).trans HX.out.2⟩⟩
      case measure => simp [intOf]; omega
     ·obtain ⟨x1, x2⟩ := neq_int hx
      have HXX := Lib.hid hx
      clear hx
      go_wp2
      go_ret
      have hres := HNY.out.1 HXX.out
      have hbl3 : Below w.heap.size w w3 := HBB2.out.trans (HX.out.2.below HBB2.out.size (fun k h => by omega))
      refine ⟨mb, by rw [hres]; rfl, ?_, Kept.ofBelow hbl3⟩
      rw [hres, if_neg HXX.out, if_neg HXX.out]
      exact (HT.out.below hbl3).wide (fun k h => .inl h)
    | false =>
     have hz : oneE root Mi ⟨p, false, nd⟩ = putE root Mi p := by unfold oneE; rw [if_neg (by rw [hu]; decide), if_neg (by simp)]
     have hzm : oneM root Mi ⟨p, false, nd⟩ = putM root Mi p nd := by unfold oneM; rw [if_neg (by rw [hu]; decide), if_neg (by simp)]
     rw [hz, hzm] at HNY
     have HP := Lib.hid (HT3.out.put_any HMR3.out p HF.out.1.path ⟨a, n, c, ⟨v1, v2, v3, v4, v5, v6, v7, v8⟩⟩ nd HQ3b.out HF.out.1.data)
     clear hz hzm hu
     go_wp2_with fail
     refine HP.out.mono ?_
     rintro e w3 ⟨rfl, T4, K4⟩
     have HX := Lib.hid (And.intro T4 K4)
     clear T4 K4 HP
     generalize putE root Mi p = x at *
     by_cases hx : x = 0
     ·obtain ⟨x1, x2⟩ := eq_int hx
      have HXX := Lib.hid hx
      clear hx
      go_wp2
      go_roundw
      case rel =>
       have hn := HNY.out.2 HXX.out
       refine ⟨i + 1, by omega, by go_num, Lib.hid ⟨by rw [hn]; exact HX.out.1.wide (fun k h => h.elim id (fun h => .inr (Nat.le_trans HBB2.out.size h))), by rw [hn], (HSS.out.2.2.trans (Kept.ofBelow HWB.out)).trans HX.out.2⟩⟩
      case measure => simp [intOf]; omega
     ·obtain ⟨x1, x2⟩ := neq_int hx
      have HXX := Lib.hid hx
      clear hx
      go_wp2
      go_ret
      have hres := HNY.out.1 HXX.out
      have hbl3 : Below w.heap.size w w3 := HBB2.out.trans (HX.out.2.below HBB2.out.size (fun k h => by omega))
      refine ⟨mb, by rw [hres]; rfl, ?_, Kept.ofBelow hbl3⟩
      rw [hres, if_neg HXX.out, if_neg HXX.out]
      exact (HT.out.below hbl3).wide (fun k h => .inl h)
  ·obtain rfl : i = N := by omega
   obtain ⟨hL, hA, hE, hfit, hmx, hN, hNE⟩ := HIN.out
   obtain ⟨S1, S2, S3⟩ := HS.out
   rw [hNE, List.take_length] at S1 S2
   have hb1 : Below w.heap.size w1 wr := S3.below hs1 (fun k h => by omega)
   have hbw : Below w.heap.size w wr := HB1.out.trans hb1
   have T2 := HT.out.below hbw
   obtain ⟨c0, c1, c2⟩ := T2.cells
   obtain ⟨d0, d1, d2⟩ := S1.cells
   have fb : ∀ j, wr.frozen? ⟨b, j, none⟩ = false := frozen0 T2.blk
   have HX := Lib.hid (And.intro S1 (And.intro S2 (And.intro hbw T2)))
   have hbb : b ≠ b' := by omega
   clear hL hA hE hfit hmx hN hNE S1 S2 S3 hb1 hbw T2
   go_wp2
   go_ret
   obtain ⟨S1, S2, hbw, T2⟩ := HX.out
   obtain ⟨t1, t2⟩ := T2.swap S1 hbb
   refine ⟨mb', by rw [S2]; rfl, ?_, (Kept.ofBelow hbw).trans t2⟩
   rw [if_pos S2, if_pos S2]
   exact t1
end
end Go.Proofs.YtnclkfhdpkkakaaGreatDoor
namespace Go.Proofs.YtnclkfhdpkkakaaGreatDoor
set_option linter.unusedVariables false
set_option linter.unusedSimpArgs false
set_option linter.unusedVariables false
set_option linter.unusedSimpArgs false
open Go Go.RowKit Go.Shelf Go.MapKept Go.ChangeMaps Go.Sort
open Go.Maps (Keyed)
section
variable {κ ν : Type} [DecidableEq κ] {P : Program} {k : TypeId} {fk : κ → Value} {fv : ν → Value} {w : World} {b : Nat} {m : List (κ × ν)}
theorem wpList_insert_has {ops : Array Oper} {rest : List Oper} {o : Oper} {a : Act} {Q : Exit → Act → World → Prop} (h : HasMap P k fk fv w b m) (K : Keyed P k) (hinj : ∀ x y, fk x = fk y → x = y) {t e : TypeId} (ht : P.underlying t = some (.map k e))
  (hg : o.guard = none) (x y z : Operand) (hop : o.op = .insert t x y z) (hx : a.eval x = .map (some b)) (c : κ) (v : ν) (hy : a.eval y = fk c) (hz : a.eval z = fv v) {l : Lit} (ha : keyOf P k (fk c) = some l)
  (hK : ∀ w', HasMap P k fk fv w' b (putA c v m) → Kept (· = b) w w' → wpList P ops Q rest (a.put o.dst undef) w') : wpList P ops Q (o :: rest) a w := by
 obtain ⟨ob, ho⟩ := HasMap.update h K hinj ht v ha
 obtain ⟨h1, h2⟩ := ho w rfl
 refine wpList_plain hg fun K' hK' => ?_
 have he : (execOp a.eval o).run P w = .ok .skip (setBlock w b ob) := by
  unfold execOp
  simp [hop, hx, hy, hz, h1, Result.andThen]
 unfold Oper.wp
 rw [he, Oper.upon_skip]
 exact hK' _ _ (hK _ h2 (kept_setBlock h.lt ob))
end
def kVal (n : Nat) : Value := .int .u8 n
def fVal (f : Nat) : Value := .func (.func f) #[] #[]
def kTab : List (Nat × Nat) := [(1, 85), (2, 86), (3, 87), (4, 88), (5, 89), (6, 90)]
def Table (w : World) (b : Nat) : Prop := HasMap Tryz.prog 5 kVal fVal w b kTab
theorem kVal_inj : ∀ x y : Nat, kVal x = kVal y → x = y := fun x y h => by
 unfold kVal at h
 injection h with _ h
 omega
theorem keyU8 : Keyed Tryz.prog 5 := Maps.int_keyed Tryz.underlying5
set_option maxRecDepth 100000 in
theorem does_ok (w : World) : Calls Tryz.prog 60 #[] w fun e w' => ∃ b, e = .returned (.map (some b)) ∧ Table w' b ∧ w.heap.size ≤ b ∧ Below w.heap.size w w' := by
 have hmm := @run_makeMap Tryz.prog
 have HM0 : HasMap Tryz.prog 5 kVal fVal (w.alloc (.map #[] 0)) w.heap.size ([] : List (Nat × Nat)) := HasMap.made _ _ _ _ w
 go_enter Tryz.func60, Tryz.ntmps60
 go_wp2_with (first
  | (refine wpList_insert_has HM0 keyU8 kVal_inj Tryz.underlying116 rfl (.tmp 1) (.const (.int .u8 1)) (.func 85) rfl rfl 1 85 rfl rfl (l := .int .u8 1) (by rfl) ?_; intro v1 HM1 HK1; clear HM0)
  | (refine wpList_insert_has HM1 keyU8 kVal_inj Tryz.underlying116 rfl (.tmp 1) (.const (.int .u8 2)) (.func 86) rfl rfl 2 86 rfl rfl (l := .int .u8 2) (by rfl) ?_; intro v2 HM2 HK2; clear HM1)
  | (refine wpList_insert_has HM2 keyU8 kVal_inj Tryz.underlying116 rfl (.tmp 1) (.const (.int .u8 3)) (.func 87) rfl rfl 3 87 rfl rfl (l := .int .u8 3) (by rfl) ?_; intro v3 HM3 HK3; clear HM2)
  | (refine wpList_insert_has HM3 keyU8 kVal_inj Tryz.underlying116 rfl (.tmp 1) (.const (.int .u8 4)) (.func 88) rfl rfl 4 88 rfl rfl (l := .int .u8 4) (by rfl) ?_; intro v4 HM4 HK4; clear HM3)
  | (refine wpList_insert_has HM4 keyU8 kVal_inj Tryz.underlying116 rfl (.tmp 1) (.const (.int .u8 5)) (.func 89) rfl rfl 5 89 rfl rfl (l := .int .u8 5) (by rfl) ?_; intro v5 HM5 HK5; clear HM4)
  | (refine wpList_insert_has HM5 keyU8 kVal_inj Tryz.underlying116 rfl (.tmp 1) (.const (.int .u8 6)) (.func 90) rfl rfl 6 90 rfl rfl (l := .int .u8 6) (by rfl) ?_; intro v6 HM6 HK6; clear HM5)
  | fail)
 go_ret
 refine ⟨_, rfl, HM6, Nat.le_refl _, ?_⟩
 have hk : Kept (· = w.heap.size) (w.alloc (.map #[] 0)) v6 := HK1.trans (HK2.trans (HK3.trans (HK4.trans (HK5.trans HK6))))
 exact (belowA (Below.refl _ w) _).trans (hk.below (by simp) (fun k e => by have e : k = w.heap.size := e; omega))
end Go.Proofs.YtnclkfhdpkkakaaGreatDoor
namespace Go.Proofs.YtnclkfhdpkkakaaGreatDoor
set_option linter.unusedVariables false
set_option linter.unusedSimpArgs false
set_option linter.unusedVariables false
set_option linter.unusedSimpArgs false
open Go Go.RowKit Go.ChangeShapes Go.WideShapes Go.Deep
theorem cellsByte : Tryz.prog.cellsOf 5 = 1 := by kernel_rfl
theorem cellsBytes : Tryz.prog.cellsOf 23 = 1 := by kernel_rfl
theorem cellsU32 : Tryz.prog.cellsOf 27 = 1 := by kernel_rfl
theorem cellsInt : Tryz.prog.cellsOf 3 = 1 := by kernel_rfl
theorem cellsBoo : Tryz.prog.cellsOf 4 = 1 := by kernel_rfl
theorem cellsSess : Tryz.prog.cellsOf 29 = 2 := by kernel_rfl
def Anyw : Nat → Prop := fun _ => True
section
variable {H : Type} {enc : TypeId × Value → H} {w : World} {base : Nat} {spare : Nat → Bool} {held : Bool}
theorem slice_none' {fuel : Nat} {t e : TypeId} (ht : Tryz.prog.underlying t = some (.slice e)) {len cap : Nat} {x : DataW H × List MemPlace} (h : DataW.trod enc Tryz.prog w base spare held fuel t [.slice none len cap] = some x) : len = 0 ∧ cap = 0 := by
 rcases DataW.trod_slice ht h with ⟨h1, _⟩ | ⟨a, len', cap', _, _, _, _, h1, _⟩
 ·simp at h1; exact h1
 ·simp at h1
def U32 (x : Int) : Prop := 0 ≤ x ∧ x < 4294967296
def U64 (x : Int) : Prop := 0 ≤ x ∧ x < 18446744073709551616
def I64 (x : Int) : Prop := -9223372036854775808 ≤ x ∧ x < 9223372036854775808
theorem i64_of {n : Int} (h : (Lit.int .i64 n).wf = true) : I64 n := by
 simp [Lit.wf, IntKind.min, IntKind.max, IntKind.signed, IntKind.bits] at h
 exact ⟨by omega, by omega⟩
structure Nums.Wf (u : Nums) : Prop where
 ver : U32 u.ver
 kin : U32 u.kin
 next : U32 u.next
 os : I64 u.os
 on : U32 u.on
 made : U64 u.made
 chg : U64 u.chg
 tch : U64 u.tch
set_option maxRecDepth 100000 in
theorem bytes_open {fuel : Nat} {cs : List Value} {y : DataW H × List MemPlace} (h : DataW.trod enc Tryz.prog w base spare held fuel 23 cs = some y) :
  ∃ ao c D, cs = [.slice ao D.length c] ∧ D.length ≤ c ∧ c ≤ maxLen ∧ ByteSl w Anyw w.heap.size ao D ∧ (ao = none → D = [] ∧ c = 0) := by
 have h0 := h
 obtain ⟨ao, len, cap, rfl, hl, hm, hi⟩ := rows_open (P := Tryz.prog) Tryz.underlying23 cellsByte (by omega) h
 obtain ⟨D, rfl, hat⟩ := list_of (fun i (x : UInt8) => ∃ b off, ao = some ⟨b, off, none⟩ ∧ b < w.heap.size ∧ w.cell? ⟨b, off + i, none⟩ = some (.int .u8 x.toNat)) len (fun i hil => by
  obtain ⟨b, off, cs', n', y', h1, h2, h3, h4, h5⟩ := hi i hil
  obtain ⟨v, e0, _, wf⟩ := DataW.trod_int Tryz.underlying5 h5
  subst e0
  obtain ⟨w0, w1⟩ := wf_u8 wf
  have := h4 0 _ rfl
  rw [Nat.mul_one, Nat.add_zero] at this
  refine ⟨UInt8.ofNat v.toNat, b, off, h1, h2, ?_⟩
  rw [this]
  have : ((UInt8.ofNat v.toNat).toNat : Int) = v := by
   rw [UInt8.toNat_ofNat']
   omega
  rw [this])
 refine ⟨ao, cap, D, rfl, hl, hm, fun j c hj => ?_, fun e => ?_⟩
 ·obtain ⟨b, off, h1, h2, h3⟩ := hat j c hj
  exact ⟨b, off, h1, trivial, h2, h3⟩
 ·subst e
  obtain ⟨h1, h2⟩ := slice_none' Tryz.underlying23 h0
  exact ⟨List.eq_nil_of_length_eq_zero h1, h2⟩
structure InE (e : Eff) : Prop where
 path : e.path.length ≤ maxLen
 data : e.node.data.length ≤ maxLen
 num : e.node.num.Wf
structure Row where
 ao : Option Addr
 c : Nat
 L : List RawE
 E : List Eff
structure RowOk (w : World) (r : Row) : Prop where
 at_ : EffsAt w w.heap.size r.ao r.L
 like : LikeE w Anyw r.L r.E
 ok : ∀ e ∈ r.E, InE e
 len : r.L.length ≤ r.c
 cap : r.c ≤ maxLen
theorem RowOk.below {w w' : World} {r : Row} (h : RowOk w r) (hb : Below w.heap.size w w') : RowOk w' r := ⟨(h.at_.below hb).mono hb.size, h.like.below hb, h.ok, h.len, h.cap⟩
def RowsAt (w : World) (B : Nat) (ao : Option Addr) (R : List Row) : Prop := ∀ k r, R[k]? = some r → RowOk w r ∧ ∃ b off, ao = some ⟨b, off, none⟩ ∧ b < B ∧ w.cell? ⟨b, off + k, none⟩ = some (.slice r.ao r.L.length r.c)
theorem RowsAt.below {w w' : World} {ao : Option Addr} {R : List Row} (h : RowsAt w w.heap.size ao R) (hb : Below w.heap.size w w') : RowsAt w' w'.heap.size ao R := fun k r hk => by
 obtain ⟨h0, b, off, h1, h2, h3⟩ := h k r hk
 exact ⟨h0.below hb, b, off, h1, Nat.lt_of_lt_of_le h2 hb.size, (hb.cell (p := ⟨b, off + k, none⟩) h2).trans h3⟩
end
end Go.Proofs.YtnclkfhdpkkakaaGreatDoor
