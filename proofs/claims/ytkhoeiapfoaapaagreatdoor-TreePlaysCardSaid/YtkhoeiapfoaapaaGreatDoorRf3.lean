/-
  The document's tree: put, walked.
-/
import Derived.Test.YtkhoeiapfoaapaaGreatDoorRf2
import Derived.Test.YtkhoeiapfoaapaaGreatDoorPlSort
import Derived.Test.YtkhoeiapfoaapaaGreatDoorApp
import Derived.Deep.AppendLies
import Derived.Deep.Onto
namespace Go.Proofs.YtkhoeiapfoaapaaGreatDoor
set_option linter.unusedVariables false
set_option linter.unusedSimpArgs false
set_option linter.unusedVariables false
set_option linter.unusedSimpArgs false
open Go Go.RowKit Go.Shelf Go.MapKept Go.ChangeMaps Go.Maps Go.Sort

theorem infoAt : (Tryz.prog.info? 53).map (fun i => (i.zero, i.size, i.bytes)) = some (some (.agg #[.string ⟨#[]⟩, .slice none 0 0, .int .u32 0, .int .u32 0, .int .u32 0, .int .i64 0, .int .u32 0, .int .u64 0, .int .u64 0, .int .u64 0]), 10, 96) := by kernel_rfl
theorem flatA_at : ∀ (L : List RawA) (k : Nat) (r : RawA), L[k]? = some r → ∀ j u, r.cells[j]? = some u → (L.flatMap RawA.cells)[k * 10 + j]? = some u
  | [], k, r, h, j, u, hu => by simp at h
  | x :: L, 0, r, h, j, u, hu => by
    simp at h
    subst h
    rw [List.flatMap_cons, Nat.zero_mul, Nat.zero_add, List.getElem?_append_left (List.getElem?_eq_some_iff.1 hu).1]
    exact hu
  | x :: L, k + 1, r, h, j, u, hu => by
    have h' : L[k]? = some r := by simpa using h
    rw [List.flatMap_cons, List.getElem?_append_right (by rw [rawA_len]; omega), rawA_len, show (k + 1) * 10 + j - 10 = k * 10 + j by omega]
    exact flatA_at L k r h' j u hu
theorem goP_cons (p : Bytes) (d : Nd) (done : Bool) (y : Bytes × Nd) (L : List (Bytes × Nd)) : goP p d done (y :: L) = (if !done && decide (p ≤ y.1) then [(p, d)] else []) ++ ((if y.1 = p then [] else [y]) ++ goP p d (done || decide (p ≤ y.1)) L) := rfl
theorem atE_cells (c0 c1 c2 c3 c4 c5 c6 c7 c8 c9 : Value) (w : World) : ∀ j u, [c0, c1, c2, c3, c4, c5, c6, c7, c8, c9][j]? = some u → (w.alloc (.cells #[c0, c1, c2, c3, c4, c5, c6, c7, c8, c9] 53)).cell? ((⟨w.heap.size, 0, none⟩ : Addr).add j) = some u := fun j u hu => by
  rw [Addr.add_mid, Nat.zero_add, cell_of_row _ _ j _ 53 (0, 0) (heap_alloc_new w _)]
  simpa using hu
theorem likeA_snoc {w : World} {Z : Nat → Prop} {R : List RawA} {L : List (Bytes × Nd)} (h : LikeA w Z R L) {r : RawA} {x : Bytes × Nd} (h1 : r.path = x.1) (h2 : Reads w (fun k => ¬ Z k) r.node x.2) : LikeA w Z (R ++ [r]) (L ++ [x]) := by
  refine ⟨by simp [h.1], fun k r' x' g1 g2 => ?_⟩
  have hl := h.1
  by_cases hlt : k < R.length
  · rw [List.getElem?_append_left hlt] at g1
    rw [List.getElem?_append_left (by omega)] at g2
    exact h.2 k r' x' g1 g2
  · have hk0 : k = R.length := by have := (List.getElem?_eq_some_iff.1 g1).1; simp at this; omega
    subst hk0
    rw [List.getElem?_append_right (Nat.le_refl _), Nat.sub_self] at g1
    rw [List.getElem?_append_right (by omega), ← hl, Nat.sub_self] at g2
    simp at g1 g2
    subst g1 g2
    exact ⟨h1, h2⟩
/-- A row that the call owns, as a row of nodes. -/
theorem atRow_lies {w : World} {base : Nat} {v : Value} {R : List RawA} {Z : Nat → Prop} (h : w.ownsRow base 53 10 v R.length (R.flatMap RawA.cells)) (hz : ∀ k, base ≤ k → ¬ Z k) :
    ∃ ao c, v = .slice ao R.length c ∧ AtsAt w w.heap.size Z ao R ∧ R.length ≤ c := by
  rcases h.2 with ⟨h1, h0⟩ | ⟨g, cap, cur, h1, hbg, hg, hnc, _⟩
  · have : R = [] := List.eq_nil_of_length_eq_zero h0
    subst this
    exact ⟨none, 0, h1, fun k r hk => by simp at hk, by simp⟩
  · refine ⟨some ⟨g, 0, none⟩, cap, h1, fun k r hk => ⟨g, 0, rfl, hz g hbg, (h.lt g (by rw [h1]; rfl)).2, fun j u hu => ?_⟩, hnc⟩
    have := h.cells (g := g) (by rw [h1]; rfl) (k * 10 + j) u (flatA_at R k r hk j u hu)
    rw [Addr.add_lit, Nat.zero_add] at this
    rw [show 0 + k * 10 + j = k * 10 + j by omega]
    exact this
/-- The new list, so far. -/
def PtSt (w w1 : World) (Z : Nat → Prop) (p : Bytes) (d : Nd) (L : List (Bytes × Nd)) (i : Nat) (dd : Bool) (v : Value) (wr : World) : Prop :=
  Below w1.heap.size w1 wr ∧ ∃ R' L', wr.ownsRow w1.heap.size 53 10 v R'.length (R'.flatMap RawA.cells) ∧ LikeA w Z R' L' ∧ L' ++ goP p d dd (L.drop i) = goP p d false L ∧ R'.length ≤ i + dd.toNat
theorem PtSt.app {w1 wr wx w' : World} {v v' : Value} {R' : List RawA} {r : RawA} {cs : List Value}
    (hb : Below w1.heap.size w1 wr) (hown : wr.ownsRow w1.heap.size 53 10 v R'.length (R'.flatMap RawA.cells)) 
    (hown' : w'.ownsRow w1.heap.size 53 10 v' (R'.length + 1) (R'.flatMap RawA.cells ++ cs)) (hg : wx.grownBy w' v.ownBlock) (hx : wx = wr.alloc (.cells cs.toArray 53)) (hcs : cs = r.cells) :
    Below w1.heap.size w1 w' ∧ w'.ownsRow w1.heap.size 53 10 v' (R' ++ [r]).length ((R' ++ [r]).flatMap RawA.cells) := by
  subst hx hcs
  refine ⟨(belowA hb _).grown hg (by have := hb.size; simp; omega) (fun g hg => (hown.lt g hg).1), ?_⟩
  rw [List.length_append, List.length_singleton, List.flatMap_append]
  simpa using hown'
theorem put_fin {w wr : World} {Z : Nat → Prop} {rb base : Nat} {root : Bytes} {cnt : Int} {ao : Option Addr} {c : Nat} {R R' : List RawA} {L L' : List (Bytes × Nd)} {v : Value}
    (T : RefAt wr Z rb root cnt ao c R L) (hb : Below w.heap.size w wr) (hown : wr.ownsRow base 53 10 v R'.length (R'.flatMap RawA.cells)) (hbase : w.heap.size ≤ base) (hZ : ∀ k, w.heap.size ≤ k → ¬ Z k) (hzr : Z rb) (hlike : LikeA w Z R' L') :
    (∃ ao' c' R'', RefAt (wr.setCell ⟨rb, 2, none⟩ v) Z rb root cnt ao' c' R'' L') ∧ Kept (· = rb) w (wr.setCell ⟨rb, 2, none⟩ v) := by
  obtain ⟨ao', c', rfl, hat, hc⟩ := atRow_lies hown (fun k hk => hZ k (Nat.le_trans hbase hk))
  have hk : Kept (· = rb) wr (wr.setCell ⟨rb, 2, none⟩ (.slice ao' R'.length c')) := Kept.setCell (S := (· = rb)) (p := ⟨rb, 2, none⟩) (Kept.refl _ wr) rfl _
  have hz : ∀ k, k = rb → Z k := fun k e => by rw [e]; exact hzr
  have hbk : Kept (· = rb) w wr := Kept.ofBelow hb
  refine ⟨⟨ao', c', R', ⟨?_, hat.kept hk hz, (hlike.kept hbk hz).kept hk hz, hc⟩⟩, hbk.trans hk⟩
  simp [World.setCell, Array.getElem?_modify, T.blk]
section
variable {w : World} {Z : Nat → Prop} {rb : Nat} {root : Bytes} {cnt : Int} {ao : Option Addr} {c0 : Nat} {R : List RawA} {L : List (Bytes × Nd)}
set_option maxRecDepth 100000 in
set_option maxHeartbeats 8000000 in
theorem RefAt.put (T : RefAt w Z rb root cnt ao c0 R L) (hl : R.length ≤ 1000) (p : Bytes) (r0 : Raw) (d : Nd) (hr : Reads w (fun k => ¬ Z k) r0 d) (hZ : ∀ k, w.heap.size ≤ k → ¬ Z k) (hzr : Z rb) :
    Calls Tryz.prog 43 #[.pointer (some ⟨rb, 0, none⟩), .string (bs p), r0.val] w fun e w' => e = .returned (.tuple #[]) ∧ (∃ ao' c' R', RefAt w' Z rb root cnt ao' c' R' (goP p d false L)) ∧ Kept (· = rb) w w' := by
  obtain ⟨i0, hi0, hz0, hz1, hz2⟩ := info_parts infoAt
  obtain ⟨a, n, c, ⟨v1, v2, v3, v4, v5, v6, v7, v8⟩⟩ := r0
  unfold Raw.val Raw.cells Nums.cells
  dsimp only
  obtain ⟨w1, hw1⟩ : ∃ w1, w1 = w.alloc (.cells #[.slice a n c, .int .u32 v1, .int .u32 v2, .int .u32 v3, .int .i64 v4, .int .u32 v5, .int .u64 v6, .int .u64 v7, .int .u64 v8] 39) := ⟨_, rfl⟩
  have hb1 : Below w.heap.size w w1 := by rw [hw1]; exact belowA (Below.refl _ w) _
  have hs1 : w1.heap.size = w.heap.size + 1 := by rw [hw1]; simp
  have hbox : w1.rangeAt w.heap.size 0 [.slice a n c, .int .u32 v1, .int .u32 v2, .int .u32 v3, .int .i64 v4, .int .u32 v5, .int .u64 v6, .int .u64 v7, .int .u64 v8] := fun j u hu => by
    rw [hw1, Nat.zero_add, cell_of_row _ _ j _ 39 (0, 0) (heap_alloc_new w _)]
    simpa using hu
  have T1 := T.below hb1
  have HT := Lib.hid (And.intro T1 (And.intro hb1 (And.intro hs1 hbox)))
  have HR0 := Lib.hid hr
  have HZ := Lib.hid hZ
  have HZR := Lib.hid hzr
  have HSZN : Hid ((Tryz.prog.info? 39).map (·.size) = some 9) := Lib.hid (by kernel_rfl)
  have HSZA : Hid ((Tryz.prog.info? 53).map (·.size) = some 10) := Lib.hid (by kernel_rfl)
  have hwl : w.heap.size < w1.heap.size := by omega
  obtain ⟨N, hN⟩ : ∃ N, N = R.length := ⟨_, rfl⟩
  rw [← hN] at hl
  have HN := Lib.hid hN
  have HT0 := Lib.hid T
  clear hN T T1 hb1 hs1 hbox hr hZ hzr
  go_enter Tryz.func43, Tryz.ntmps43
  go_wp2
  rw [← hw1]
  clear hw1
  go_loopw [6, 7, 8] (fun v dn ci wr => ∃ (i : Nat) (dd : Bool), i ≤ N ∧ ci = .int .i64 i ∧ dn = .bool dd ∧ Hid (PtSt w w1 Z p d L i dd v wr)) (fun _ _ ci _ => N - (intOf ci).toNat)
  case atStart => exact ⟨0, false, by omega, rfl, rfl, Lib.hid ⟨Below.refl _ w1, [], [], World.ownsRow_nil _ _ _ _, ⟨rfl, fun k r x h => by simp at h⟩, rfl, by simp⟩⟩
  case round =>
    obtain ⟨i, dd, hi, rfl, rfl, HS⟩ := hrel
    obtain ⟨hb, R', L', hown, hlike, heq, hlen⟩ := HS.out
    have hbs := hb.size
    have hlen1 : R'.length ≤ i + 1 := by cases dd <;> simp at hlen <;> omega
    have Tr := HT.out.1.below hb
    have q2 := Tr.c2
    rw [← HN.out] at q2
    have HO := Lib.hid hown
    have HSS := Lib.hid (And.intro hb (And.intro hlike heq))
    clear hown hlike heq HS
    by_cases hlt : i < N
    · obtain ⟨r, x, b, off, hr, hx, rfl, hbl, _, hp, hrd, hrg⟩ := Tr.node (i := i) (by rw [← HN.out]; exact hlt)
      obtain ⟨rx, x0, b', off', hr', hx', hao', _, _, hp', hrd', _⟩ := HT0.out.node (i := i) (by rw [← HN.out]; exact hlt)
      rw [hr] at hr'
      rw [hx] at hx'
      cases hao'
      cases hr'
      cases hx'
      obtain ⟨xp, xa, xn, xc, ⟨u1, u2, u3, u4, u5, u6, u7, u8⟩⟩ := r
      dsimp only at hp
      subst hp
      obtain ⟨xk, xd⟩ := x
      dsimp only at hrd'
      have hdrop : L.drop i = (xk, xd) :: L.drop (i + 1) := by
        have hx2 := List.getElem?_eq_some_iff.1 hx
        rw [List.drop_eq_getElem_cons hx2.1, hx2.2]
      have HD := Lib.hid hdrop
      have HXR0 := Lib.hid (And.intro hr hrd')
      have k0 : wr.cell? ⟨b, off + i * 10, none⟩ = some (.string (bs xk)) := hrg 0 _ rfl
      have hbox := range_kept HT.out.2.2.2 hb hwl
      have HBOX := Lib.hid hbox
      have HXR := Lib.hid hrg
      clear hdrop hr hx hrd hrd' hrg hbox Tr hb
      have HLEN := Lib.hid hlen
      cases dd with
      | false =>
        by_cases hle : p ≤ xk
        · by_cases he : xk = p
          · have t1 : (!Op.bytesLess (bs xk).toList (bs p).toList) = true := by
              rw [toList_bs, toList_bs, bytesLess_eq]
              simpa using hle
            have t2 : ((bs xk).toList == (bs p).toList) = true := by
              rw [toList_bs, toList_bs]
              simpa using he
            have t3 : ((bs xk).toList != (bs p).toList) = false := by simp only [bne, t2]; rfl
            have HE := Lib.hid he
            have HLE := Lib.hid hle
            clear he hle
            have hnx := fun (x2 : Value) (y2 : World) (h1 : y2.ownsRow w1.heap.size 53 10 x2 (R'.length + 1) (R'.flatMap RawA.cells ++ [.string (bs p), .slice a n c, .int .u32 v1, .int .u32 v2, .int .u32 v3, .int .i64 v4, .int .u32 v5, .int .u64 v6, .int .u64 v7, .int .u64 v8])) h2 => PtSt.app (r := ⟨p, ⟨a, n, c, ⟨v1, v2, v3, v4, v5, v6, v7, v8⟩⟩⟩) HSS.out.1 HO.out h1 h2 rfl rfl
            have HNX := Lib.hid hnx
            clear hnx
            go_wp2_with (first
              | (refine wpList_load_mid rfl 39 (.tmp 5) rfl w.heap.size 0 rfl [.slice a n c, .int .u32 v1, .int .u32 v2, .int .u32 v3, .int .i64 v4, .int .u32 v5, .int .u64 v6, .int .u64 v7, .int .u64 v8] _ HBOX.out Tryz.underlying39 rfl HSZN.out ?_)
              | (at_builtin; refine wpList_append_new rfl (.tmp 32) (.tmp 36) 54 rfl w1.heap.size 53 i0 (.agg #[.string ⟨#[]⟩, .slice none 0 0, .int .u32 0, .int .u32 0, .int .u32 0, .int .i64 0, .int .u32 0, .int .u64 0, .int .u64 0, .int .u64 0]) 10 96 Tryz.underlying54 hi0 hz0 hz1 hz2 rfl (by decide) _ _ _ rfl (HO.out.alloc _) ⟨wr.heap.size, 0, none⟩ 1 1 [.string (bs p), .slice a n c, .int .u32 v1, .int .u32 v2, .int .u32 v3, .int .i64 v4, .int .u32 v5, .int .u64 v6, .int .u64 v7, .int .u64 v8] rfl rfl (atE_cells _ _ _ _ _ _ _ _ _ _ wr) (by intro u hu; simp at hu; rcases hu with rfl | rfl | rfl | rfl | rfl | rfl | rfl | rfl | rfl | rfl <;> rfl) (by unfold maxLen; omega) (by omega) (by simp; omega) ?_; intro vq2 w2 hown2 hgrow2 hwh2; have hst := HNX.out _ _ hown2 hgrow2; have T2 := HT.out.1.below hst.1; have q22 := T2.c2; rw [← HN.out] at q22; have hxr2 : w2.rangeAt b (off + i * 10) [.string (bs xk), .slice xa xn xc, .int .u32 u1, .int .u32 u2, .int .u32 u3, .int .i64 u4, .int .u32 u5, .int .u64 u6, .int .u64 u7, .int .u64 u8] := (by obtain ⟨b2, of2, e2, _, _, h2⟩ := T2.at_ i _ HXR0.out.1; cases e2; exact h2); have k02 : w2.cell? ⟨b, off + i * 10, none⟩ = some (.string (bs xk)) := hxr2 0 _ rfl; have HXR2 := Lib.hid hxr2; have HST := Lib.hid hst; have hs2 := hst.1.size; have hlen2 : (R' ++ [(⟨p, ⟨a, n, c, ⟨v1, v2, v3, v4, v5, v6, v7, v8⟩⟩⟩ : RawA)]).length ≤ i + 2 := (by simp; omega); clear hst T2 hxr2 hown2 hgrow2 hwh2))
            have HN2 : Hid (PtSt w w1 Z p d L (i + 1) true _ _) := Lib.hid ⟨HST.out.1, _, _, HST.out.2, (likeA_snoc HSS.out.2.1 (r := ⟨p, ⟨a, n, c, ⟨v1, v2, v3, v4, v5, v6, v7, v8⟩⟩⟩) (x := (p, d)) rfl HR0.out), by
              have h := HSS.out.2.2
              rw [HD.out, goP_cons] at h
              rw [decide_eq_true HLE.out] at h
              rw [if_pos HE.out] at h
              simpa using h, by have := HLEN.out; simp at this ⊢; omega⟩
            go_roundw
            case rel => exact ⟨i + 1, true, by omega, by go_num, rfl, HN2⟩
            case measure => simp [intOf]; omega
          · have t1 : (!Op.bytesLess (bs xk).toList (bs p).toList) = true := by
              rw [toList_bs, toList_bs, bytesLess_eq]
              simpa using hle
            have t2 : ((bs xk).toList == (bs p).toList) = false := by
              rw [toList_bs, toList_bs]
              simpa using he
            have t3 : ((bs xk).toList != (bs p).toList) = true := by simp only [bne, t2]; rfl
            have HE := Lib.hid he
            have HLE := Lib.hid hle
            clear he hle
            have hnx := fun (x2 : Value) (y2 : World) (h1 : y2.ownsRow w1.heap.size 53 10 x2 (R'.length + 1) (R'.flatMap RawA.cells ++ [.string (bs p), .slice a n c, .int .u32 v1, .int .u32 v2, .int .u32 v3, .int .i64 v4, .int .u32 v5, .int .u64 v6, .int .u64 v7, .int .u64 v8])) h2 => PtSt.app (r := ⟨p, ⟨a, n, c, ⟨v1, v2, v3, v4, v5, v6, v7, v8⟩⟩⟩) HSS.out.1 HO.out h1 h2 rfl rfl
            have HNX := Lib.hid hnx
            clear hnx
            go_wp2_with (first
              | (refine wpList_load_mid rfl 39 (.tmp 5) rfl w.heap.size 0 rfl [.slice a n c, .int .u32 v1, .int .u32 v2, .int .u32 v3, .int .i64 v4, .int .u32 v5, .int .u64 v6, .int .u64 v7, .int .u64 v8] _ HBOX.out Tryz.underlying39 rfl HSZN.out ?_)
              | (at_builtin; refine wpList_append_new rfl (.tmp 32) (.tmp 36) 54 rfl w1.heap.size 53 i0 (.agg #[.string ⟨#[]⟩, .slice none 0 0, .int .u32 0, .int .u32 0, .int .u32 0, .int .i64 0, .int .u32 0, .int .u64 0, .int .u64 0, .int .u64 0]) 10 96 Tryz.underlying54 hi0 hz0 hz1 hz2 rfl (by decide) _ _ _ rfl (HO.out.alloc _) ⟨wr.heap.size, 0, none⟩ 1 1 [.string (bs p), .slice a n c, .int .u32 v1, .int .u32 v2, .int .u32 v3, .int .i64 v4, .int .u32 v5, .int .u64 v6, .int .u64 v7, .int .u64 v8] rfl rfl (atE_cells _ _ _ _ _ _ _ _ _ _ wr) (by intro u hu; simp at hu; rcases hu with rfl | rfl | rfl | rfl | rfl | rfl | rfl | rfl | rfl | rfl <;> rfl) (by unfold maxLen; omega) (by omega) (by simp; omega) ?_; intro vq2 w2 hown2 hgrow2 hwh2; have hst := HNX.out _ _ hown2 hgrow2; have T2 := HT.out.1.below hst.1; have q22 := T2.c2; rw [← HN.out] at q22; have hxr2 : w2.rangeAt b (off + i * 10) [.string (bs xk), .slice xa xn xc, .int .u32 u1, .int .u32 u2, .int .u32 u3, .int .i64 u4, .int .u32 u5, .int .u64 u6, .int .u64 u7, .int .u64 u8] := (by obtain ⟨b2, of2, e2, _, _, h2⟩ := T2.at_ i _ HXR0.out.1; cases e2; exact h2); have k02 : w2.cell? ⟨b, off + i * 10, none⟩ = some (.string (bs xk)) := hxr2 0 _ rfl; have HXR2 := Lib.hid hxr2; have HST := Lib.hid hst; have hs2 := hst.1.size; have hlen2 : (R' ++ [(⟨p, ⟨a, n, c, ⟨v1, v2, v3, v4, v5, v6, v7, v8⟩⟩⟩ : RawA)]).length ≤ i + 2 := (by simp; omega); clear hst T2 hxr2 hown2 hgrow2 hwh2)
              | (refine wpList_load_mid rfl 53 (.tmp 54) rfl b (off + i * 10) rfl [.string (bs xk), .slice xa xn xc, .int .u32 u1, .int .u32 u2, .int .u32 u3, .int .i64 u4, .int .u32 u5, .int .u64 u6, .int .u64 u7, .int .u64 u8] _ HXR2.out Tryz.underlying53 rfl HSZA.out ?_)
              | (at_builtin; refine wpList_append_new rfl (.tmp 48) (.tmp 56) 54 rfl w1.heap.size 53 i0 (.agg #[.string ⟨#[]⟩, .slice none 0 0, .int .u32 0, .int .u32 0, .int .u32 0, .int .i64 0, .int .u32 0, .int .u64 0, .int .u64 0, .int .u64 0]) 10 96 Tryz.underlying54 hi0 hz0 hz1 hz2 rfl (by decide) _ _ _ rfl (HST.out.2.alloc _) ⟨w2.heap.size, 0, none⟩ 1 1 [.string (bs xk), .slice xa xn xc, .int .u32 u1, .int .u32 u2, .int .u32 u3, .int .i64 u4, .int .u32 u5, .int .u64 u6, .int .u64 u7, .int .u64 u8] rfl rfl (atE_cells _ _ _ _ _ _ _ _ _ _ w2) (by intro u hu; simp at hu; rcases hu with rfl | rfl | rfl | rfl | rfl | rfl | rfl | rfl | rfl | rfl <;> rfl) (by unfold maxLen; omega) (by omega) (by simp; omega) ?_; intro vq3 w3 hown3 hgrow3 hwh3))
            have hst3 := PtSt.app HST.out.1 HST.out.2 (r := ⟨xk, ⟨xa, xn, xc, ⟨u1, u2, u3, u4, u5, u6, u7, u8⟩⟩⟩) hown3 hgrow3 rfl rfl
            have HST3 := Lib.hid hst3
            clear hst3 hown3 hgrow3 hwh3
            have HN2 : Hid (PtSt w w1 Z p d L (i + 1) true _ _) := Lib.hid ⟨HST3.out.1, _, _, HST3.out.2, (likeA_snoc (likeA_snoc HSS.out.2.1 (r := ⟨p, ⟨a, n, c, ⟨v1, v2, v3, v4, v5, v6, v7, v8⟩⟩⟩) (x := (p, d)) rfl HR0.out) (r := ⟨xk, ⟨xa, xn, xc, ⟨u1, u2, u3, u4, u5, u6, u7, u8⟩⟩⟩) (x := (xk, xd)) rfl HXR0.out.2), by
              have h := HSS.out.2.2
              rw [HD.out, goP_cons] at h
              rw [decide_eq_true HLE.out] at h
              rw [if_neg HE.out] at h
              simpa using h, by have := HLEN.out; simp at this ⊢; omega⟩
            go_roundw
            case rel => exact ⟨i + 1, true, by omega, by go_num, rfl, HN2⟩
            case measure => simp [intOf]; omega
        · have he : ¬ xk = p := fun e => hle (e ▸ List.le_refl _)
          have t1 : (!Op.bytesLess (bs xk).toList (bs p).toList) = false := by
            rw [toList_bs, toList_bs, bytesLess_eq]
            simpa using hle
          have t2 : ((bs xk).toList == (bs p).toList) = false := by
            rw [toList_bs, toList_bs]
            simpa using he
          have t3 : ((bs xk).toList != (bs p).toList) = true := by simp only [bne, t2]; rfl
          have HE := Lib.hid he
          have HLE := Lib.hid hle
          clear he hle
          go_wp2_with (first
            | (refine wpList_load_mid rfl 53 (.tmp 54) rfl b (off + i * 10) rfl [.string (bs xk), .slice xa xn xc, .int .u32 u1, .int .u32 u2, .int .u32 u3, .int .i64 u4, .int .u32 u5, .int .u64 u6, .int .u64 u7, .int .u64 u8] _ HXR.out Tryz.underlying53 rfl HSZA.out ?_)
            | (at_builtin; refine wpList_append_new rfl (.tmp 48) (.tmp 56) 54 rfl w1.heap.size 53 i0 (.agg #[.string ⟨#[]⟩, .slice none 0 0, .int .u32 0, .int .u32 0, .int .u32 0, .int .i64 0, .int .u32 0, .int .u64 0, .int .u64 0, .int .u64 0]) 10 96 Tryz.underlying54 hi0 hz0 hz1 hz2 rfl (by decide) _ _ _ rfl (HO.out.alloc _) ⟨wr.heap.size, 0, none⟩ 1 1 [.string (bs xk), .slice xa xn xc, .int .u32 u1, .int .u32 u2, .int .u32 u3, .int .i64 u4, .int .u32 u5, .int .u64 u6, .int .u64 u7, .int .u64 u8] rfl rfl (atE_cells _ _ _ _ _ _ _ _ _ _ wr) (by intro u hu; simp at hu; rcases hu with rfl | rfl | rfl | rfl | rfl | rfl | rfl | rfl | rfl | rfl <;> rfl) (by unfold maxLen; omega) (by omega) (by simp; omega) ?_; intro vq3 w3 hown3 hgrow3 hwh3))
          have hst3 := PtSt.app HSS.out.1 HO.out (r := ⟨xk, ⟨xa, xn, xc, ⟨u1, u2, u3, u4, u5, u6, u7, u8⟩⟩⟩) hown3 hgrow3 rfl rfl
          have HST3 := Lib.hid hst3
          clear hst3 hown3 hgrow3 hwh3
          have HN2 : Hid (PtSt w w1 Z p d L (i + 1) false _ _) := Lib.hid ⟨HST3.out.1, _, _, HST3.out.2, (likeA_snoc HSS.out.2.1 (r := ⟨xk, ⟨xa, xn, xc, ⟨u1, u2, u3, u4, u5, u6, u7, u8⟩⟩⟩) (x := (xk, xd)) rfl HXR0.out.2), by
            have h := HSS.out.2.2
            rw [HD.out, goP_cons] at h
            rw [decide_eq_false HLE.out] at h
            rw [if_neg HE.out] at h
            simpa using h, by have := HLEN.out; simp at this ⊢; omega⟩
          go_roundw
          case rel => exact ⟨i + 1, false, by omega, by go_num, rfl, HN2⟩
          case measure => simp [intOf]; omega
      | true =>
        by_cases he : xk = p
        · have t2 : ((bs xk).toList == (bs p).toList) = true := by
            rw [toList_bs, toList_bs]
            simpa using he
          have t3 : ((bs xk).toList != (bs p).toList) = false := by simp only [bne, t2]; rfl
          have HE := Lib.hid he
          clear he
          go_wp2
          have HN2 : Hid (PtSt w w1 Z p d L (i + 1) true _ _) := Lib.hid ⟨HSS.out.1, _, _, HO.out, HSS.out.2.1, by
            have h := HSS.out.2.2
            rw [HD.out, goP_cons] at h
            rw [if_pos HE.out] at h
            simpa using h, by have := HLEN.out; simp at this ⊢; omega⟩
          go_roundw
          case rel => exact ⟨i + 1, true, by omega, by go_num, rfl, HN2⟩
          case measure => simp [intOf]; omega
        · have t2 : ((bs xk).toList == (bs p).toList) = false := by
            rw [toList_bs, toList_bs]
            simpa using he
          have t3 : ((bs xk).toList != (bs p).toList) = true := by simp only [bne, t2]; rfl
          have HE := Lib.hid he
          clear he
          go_wp2_with (first
            | (refine wpList_load_mid rfl 53 (.tmp 54) rfl b (off + i * 10) rfl [.string (bs xk), .slice xa xn xc, .int .u32 u1, .int .u32 u2, .int .u32 u3, .int .i64 u4, .int .u32 u5, .int .u64 u6, .int .u64 u7, .int .u64 u8] _ HXR.out Tryz.underlying53 rfl HSZA.out ?_)
            | (at_builtin; refine wpList_append_new rfl (.tmp 48) (.tmp 56) 54 rfl w1.heap.size 53 i0 (.agg #[.string ⟨#[]⟩, .slice none 0 0, .int .u32 0, .int .u32 0, .int .u32 0, .int .i64 0, .int .u32 0, .int .u64 0, .int .u64 0, .int .u64 0]) 10 96 Tryz.underlying54 hi0 hz0 hz1 hz2 rfl (by decide) _ _ _ rfl (HO.out.alloc _) ⟨wr.heap.size, 0, none⟩ 1 1 [.string (bs xk), .slice xa xn xc, .int .u32 u1, .int .u32 u2, .int .u32 u3, .int .i64 u4, .int .u32 u5, .int .u64 u6, .int .u64 u7, .int .u64 u8] rfl rfl (atE_cells _ _ _ _ _ _ _ _ _ _ wr) (by intro u hu; simp at hu; rcases hu with rfl | rfl | rfl | rfl | rfl | rfl | rfl | rfl | rfl | rfl <;> rfl) (by unfold maxLen; omega) (by omega) (by simp; omega) ?_; intro vq3 w3 hown3 hgrow3 hwh3))
          have hst3 := PtSt.app HSS.out.1 HO.out (r := ⟨xk, ⟨xa, xn, xc, ⟨u1, u2, u3, u4, u5, u6, u7, u8⟩⟩⟩) hown3 hgrow3 rfl rfl
          have HST3 := Lib.hid hst3
          clear hst3 hown3 hgrow3 hwh3
          have HN2 : Hid (PtSt w w1 Z p d L (i + 1) true _ _) := Lib.hid ⟨HST3.out.1, _, _, HST3.out.2, (likeA_snoc HSS.out.2.1 (r := ⟨xk, ⟨xa, xn, xc, ⟨u1, u2, u3, u4, u5, u6, u7, u8⟩⟩⟩) (x := (xk, xd)) rfl HXR0.out.2), by
            have h := HSS.out.2.2
            rw [HD.out, goP_cons] at h
            rw [if_neg HE.out] at h
            simpa using h, by have := HLEN.out; simp at this ⊢; omega⟩
          go_roundw
          case rel => exact ⟨i + 1, true, by omega, by go_num, rfl, HN2⟩
          case measure => simp [intOf]; omega
    · obtain rfl : N = i := by omega
      have hd0 : L.drop N = [] := List.drop_eq_nil_of_le (by rw [HN.out, HT0.out.like.1]; exact Nat.le_refl _)
      have HD := Lib.hid hd0
      have hfz : wr.frozen? ⟨rb, 2, none⟩ = false := by simp [World.frozen?, Tr.blk]
      have hbox := range_kept HT.out.2.2.2 hb hwl
      have HBOX := Lib.hid hbox
      have HTR := Lib.hid Tr
      have HLEN := Lib.hid hlen
      clear hd0 Tr hb hbox
      cases dd with
      | true =>
        have hL : L' = goP p d false L := by
          have h := HSS.out.2.2
          rw [HD.out] at h
          simpa [goP] using h
        have HLL := Lib.hid hL
        clear hL
        obtain ⟨ao1, c1, hv1, _, _⟩ := atRow_lies (Z := Nothing) HO.out (fun _ _ h => h.elim)
        subst hv1
        go_wp2
        (try simp only [Exit.inBlock, Exit.then]); refine bodyPost_end (results_none rfl _ _ _) rfl ?_
        exact ⟨rfl, put_fin HTR.out (HT.out.2.1.trans (HSS.out.1.mono (Nat.le_of_lt hwl))) HO.out (Nat.le_of_lt hwl) HZ.out HZR.out (HLL.out ▸ HSS.out.2.1)⟩
      | false =>
        have hL : L' ++ [(p, d)] = goP p d false L := by
          have h := HSS.out.2.2
          rw [HD.out] at h
          simpa [goP] using h
        have HLL := Lib.hid hL
        clear hL
        go_wp2_with (first
          | (refine wpList_load_mid rfl 39 (.tmp 5) rfl w.heap.size 0 rfl [.slice a n c, .int .u32 v1, .int .u32 v2, .int .u32 v3, .int .i64 v4, .int .u32 v5, .int .u64 v6, .int .u64 v7, .int .u64 v8] _ HBOX.out Tryz.underlying39 rfl HSZN.out ?_)
          | (at_builtin; refine wpList_append_new rfl (.tmp 60) (.tmp 64) 54 rfl w1.heap.size 53 i0 (.agg #[.string ⟨#[]⟩, .slice none 0 0, .int .u32 0, .int .u32 0, .int .u32 0, .int .i64 0, .int .u32 0, .int .u64 0, .int .u64 0, .int .u64 0]) 10 96 Tryz.underlying54 hi0 hz0 hz1 hz2 rfl (by decide) _ _ _ rfl (HO.out.alloc _) ⟨wr.heap.size, 0, none⟩ 1 1 [.string (bs p), .slice a n c, .int .u32 v1, .int .u32 v2, .int .u32 v3, .int .i64 v4, .int .u32 v5, .int .u64 v6, .int .u64 v7, .int .u64 v8] rfl rfl (atE_cells _ _ _ _ _ _ _ _ _ _ wr) (by intro u hu; simp at hu; rcases hu with rfl | rfl | rfl | rfl | rfl | rfl | rfl | rfl | rfl | rfl <;> rfl) (by unfold maxLen; omega) (by omega) (by simp; omega) ?_; intro vq2 w2 hown2 hgrow2 hwh2; have hst := PtSt.app (r := ⟨p, ⟨a, n, c, ⟨v1, v2, v3, v4, v5, v6, v7, v8⟩⟩⟩) HSS.out.1 HO.out hown2 hgrow2 rfl rfl; have T2 := HT.out.1.below hst.1; have q22 := T2.c2; rw [← HN.out] at q22; have hfz2 : w2.frozen? ⟨rb, 2, none⟩ = false := (by simp [World.frozen?, T2.blk]); have HTR2 := Lib.hid T2; clear T2 hown2 hgrow2 hwh2; obtain ⟨ao1, c1, hv1, _, _⟩ := atRow_lies (Z := Nothing) hst.2 (fun _ _ h => h.elim); subst hv1; have HST := Lib.hid hst; clear hst))
        (try simp only [Exit.inBlock, Exit.then]); refine bodyPost_end (results_none rfl _ _ _) rfl ?_
        exact ⟨rfl, put_fin HTR2.out (HT.out.2.1.trans (HST.out.1.mono (Nat.le_of_lt hwl))) (by have h3 := HST.out.2; simp only [List.length_append, List.length_cons, List.length_nil, Nat.zero_add] at h3 ⊢; exact h3) (Nat.le_of_lt hwl) HZ.out HZR.out (HLL.out ▸ likeA_snoc HSS.out.2.1 (r := ⟨p, ⟨a, n, c, ⟨v1, v2, v3, v4, v5, v6, v7, v8⟩⟩⟩) (x := (p, d)) rfl HR0.out)⟩
end
end Go.Proofs.YtkhoeiapfoaapaaGreatDoor
