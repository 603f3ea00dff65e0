/-
  The document's tree: New and Node, walked. The document's tree: put, walked. The document's tree: Kids, walked.
-/
import Derived.Test.YtnclkfhdpkkakaaGreatDoorQ17
import Derived.Test.YtnclkfhdpkkakaaGreatDoorQ20
import Derived.Test.YtnclkfhdpkkakaaGreatDoorQ19
import Derived.Test.YtnclkfhdpkkakaaGreatDoorQ1
import Derived.Deep.AppendLies
import Derived.Deep.Onto
import Derived.Laws.OwnMore
namespace Go.Proofs.YtnclkfhdpkkakaaGreatDoor
set_option linter.unusedVariables false
set_option linter.unusedSimpArgs false
set_option linter.unusedVariables false
set_option linter.unusedSimpArgs false
open Go Go.RowKit Go.Shelf Go.MapKept Go.ChangeMaps Go.Maps Go.Sort
set_option maxRecDepth 100000 in
set_option maxHeartbeats 8000000 in
theorem rfNew_any (root : Bytes) (hl : root.length ≤ 1000) (w : World) (Z : Nat → Prop) (hZ : ∀ k, w.heap.size ≤ k → ¬ Z k) :
  Calls Tryz.prog 29 #[.string (bs root)] w fun e w' => ∃ rb ao c R, e = .returned (.tuple #[.pointer (some ⟨rb, 0, none⟩), .bool (partsL root).isSome]) ∧ RefAt w' Z rb root 0 ao c R [(root, zNd)] ∧ w.heap.size ≤ rb ∧ Below w.heap.size w w' := by
 have h1 := refParts_any root (by rw [size_bs]; omega) w
 obtain ⟨ok, hok⟩ : ∃ ok, ok = (partsL root).isSome := ⟨_, rfl⟩
 rw [← hok] at h1 ⊢
 clear hok
 go_enter Tryz.func29, Tryz.ntmps29
 go_wp2_with fail
 refine h1.mono ?_
 rintro e w1 ⟨v, rfl, B1⟩
 have HB := Lib.hid B1
 clear B1 h1
 go_wp2
 refine bodyPost_ret (results_tmp2 rfl _ _ _) rfl ?_
 obtain ⟨w2, hw2⟩ : ∃ w2, w2 = w1.alloc (.cells #[.string (bs root), .slice none 0 0, .int .u32 0, .int .u32 0, .int .u32 0, .int .i64 0, .int .u32 0, .int .u64 0, .int .u64 0, .int .u64 0] 103) := ⟨_, rfl⟩
 subst hw2
 have hs := HB.out.size
 have hB3 : Below w1.heap.size w1 ((w1.alloc (.cells #[.string (bs root), .slice none 0 0, .int .u32 0, .int .u32 0, .int .u32 0, .int .i64 0, .int .u32 0, .int .u64 0, .int .u64 0, .int .u64 0] 103)).alloc (.cells #[.string (bs root), .int .u64 0, .slice (some ⟨w1.heap.size, 0, none⟩) 1 1] 106)) := belowA (belowA (Below.refl _ w1) _) _
 refine ⟨w1.heap.size + 1, some ⟨w1.heap.size, 0, none⟩, 1, [⟨root, zRaw⟩], by first | rfl | simp, ⟨?_, ?_, ?_, by simp⟩, by omega, ?_⟩
 ·have := heap_alloc_new (w1.alloc (.cells #[.string (bs root), .slice none 0 0, .int .u32 0, .int .u32 0, .int .u32 0, .int .i64 0, .int .u32 0, .int .u64 0, .int .u64 0, .int .u64 0] 103)) (.cells #[.string (bs root), .int .u64 0, .slice (some ⟨w1.heap.size, 0, none⟩) 1 1] 106)
  rw [World.size_alloc] at this
  exact this
 ·intro k r hk
  have hk0 : k = 0 := by have := (List.getElem?_eq_some_iff.1 hk).1; simp at this; exact this
  subst hk0
  simp at hk
  subst hk
  refine ⟨w1.heap.size, 0, rfl, hZ _ hs, by simp; omega, fun j u hu => ?_⟩
  rw [show 0 + 0 * 10 + j = j by omega]
  rw [cell_of_row _ _ j _ 103 (0, 0) (heap_alloc_old _ _ (by simp)|>.trans (heap_alloc_new w1 _))]
  simpa [RawA.cells, Raw.cells, Nums.cells, zRaw, zNums] using hu
 ·refine ⟨rfl, fun k r x h1 h2 => ?_⟩
  have hk0 : k = 0 := by have := (List.getElem?_eq_some_iff.1 h1).1; simp at this; exact this
  subst hk0
  simp at h1 h2
  subst h1 h2
  exact ⟨rfl, zReads _ _⟩
 ·exact HB.out.trans (hB3.mono hs)
set_option maxRecDepth 100000 in
set_option maxHeartbeats 8000000 in
theorem rfNode_same {w : World} {lo lo' : Nat → Prop} {r r' : Raw} {d : Nd} (h : Reads w lo r d) (h' : Reads w lo' r' d) :
  Calls Tryz.prog 20 #[r.val, r'.val] w fun e w' => e = .returned (.bool true) ∧ Below w.heap.size w w' := by
 obtain ⟨a, n, c, u⟩ := r
 obtain ⟨a', n', c', u'⟩ := r'
 have e1 : u = d.num := h.num
 have e2 : u' = d.num := h'.num
 subst e1 e2
 generalize hu : d.num = u at *
 obtain ⟨v1, v2, v3, v4, v5, v6, v7, v8⟩ := u
 unfold Raw.val Raw.cells Nums.cells
 dsimp only
 obtain ⟨w2, hw2⟩ : ∃ w2, w2 = (w.alloc (.cells #[.slice a n c, .int .u32 v1, .int .u32 v2, .int .u32 v3, .int .i64 v4, .int .u32 v5, .int .u64 v6, .int .u64 v7, .int .u64 v8] 39)).alloc (.cells #[.slice a' n' c', .int .u32 v1, .int .u32 v2, .int .u32 v3, .int .i64 v4, .int .u32 v5, .int .u64 v6, .int .u64 v7, .int .u64 v8] 39) := ⟨_, rfl⟩
 have hb : Below w.heap.size w w2 := by rw [hw2]; exact belowA (belowA (Below.refl _ w) _) _
 have q1 := conv_len h.len (h.data.below hb) h.nil
 have q2 := conv_len h'.len (h'.data.below hb) h'.nil
 have t0 : ((bs d.data).toList == (bs d.data).toList) = true := by simp
 have HB := Lib.hid hb
 rw [hw2] at q1 q2
 have HW := Lib.hid hw2
 clear h h' hb hw2 hu
 go_enter Tryz.func20, Tryz.ntmps20
 go_wp2
 go_ret
 rw [← HW.out]
 exact ⟨rfl, HB.out⟩
end Go.Proofs.YtnclkfhdpkkakaaGreatDoor
namespace Go.Proofs.YtnclkfhdpkkakaaGreatDoor
set_option linter.unusedVariables false
set_option linter.unusedSimpArgs false
set_option linter.unusedVariables false
set_option linter.unusedSimpArgs false
open Go Go.RowKit Go.Shelf Go.MapKept Go.ChangeMaps Go.Maps Go.Sort
theorem infoAt : (Tryz.prog.info? 103).map (fun i => (i.zero, i.size, i.bytes)) = some (some (.agg #[.string ⟨#[]⟩, .slice none 0 0, .int .u32 0, .int .u32 0, .int .u32 0, .int .i64 0, .int .u32 0, .int .u64 0, .int .u64 0, .int .u64 0]), 10, 96) := by kernel_rfl
theorem flatA_at : ∀ (L : List RawA) (k : Nat) (r : RawA), L[k]? = some r → ∀ j u, r.cells[j]? = some u → (L.flatMap RawA.cells)[k * 10 + j]? = some u
 | [], k, r, h, j, u, hu => by simp at h
 | x :: L, 0, r, h, j, u, hu => by
  simp at h
  subst h
  rw [List.flatMap_cons, Nat.zero_mul, Nat.zero_add, List.getElem?_append_left (List.getElem?_eq_some_iff.1 hu).1]
  exact hu
 | x :: L, k + 1, r, h, j, u, hu => by
  have h' : L[k]? = some r := by simpa using h
  rw [List.flatMap_cons, List.getElem?_append_right (by rw [rawA_len]; omega), rawA_len, show (k + 1) * 10 + j - 10 = k * 10 + j by omega]
  exact flatA_at L k r h' j u hu
theorem goP_cons (p : Bytes) (d : Nd) (done : Bool) (y : Bytes × Nd) (L : List (Bytes × Nd)) : goP p d done (y :: L) = (if !done && decide (p ≤ y.1) then [(p, d)] else []) ++ ((if y.1 = p then [] else [y]) ++ goP p d (done || decide (p ≤ y.1)) L) := rfl
theorem atE_cells (c0 c1 c2 c3 c4 c5 c6 c7 c8 c9 : Value) (w : World) : ∀ j u, [c0, c1, c2, c3, c4, c5, c6, c7, c8, c9][j]? = some u → (w.alloc (.cells #[c0, c1, c2, c3, c4, c5, c6, c7, c8, c9] 103)).cell? ((⟨w.heap.size, 0, none⟩ : Addr).add j) = some u := fun j u hu => by
 rw [Addr.add_mid, Nat.zero_add, cell_of_row _ _ j _ 103 (0, 0) (heap_alloc_new w _)]
 simpa using hu
theorem likeA_snoc {w : World} {Z : Nat → Prop} {R : List RawA} {L : List (Bytes × Nd)} (h : LikeA w Z R L) {r : RawA} {x : Bytes × Nd} (h1 : r.path = x.1) (h2 : Reads w (fun k => ¬ Z k) r.node x.2) : LikeA w Z (R ++ [r]) (L ++ [x]) := by
 refine ⟨by simp [h.1], fun k r' x' g1 g2 => ?_⟩
 have hl := h.1
 by_cases hlt : k < R.length
 ·rw [List.getElem?_append_left hlt] at g1
  rw [List.getElem?_append_left (by omega)] at g2
  exact h.2 k r' x' g1 g2
 ·have hk0 : k = R.length := by have := (List.getElem?_eq_some_iff.1 g1).1; simp at this; omega
  subst hk0
  rw [List.getElem?_append_right (Nat.le_refl _), Nat.sub_self] at g1
  rw [List.getElem?_append_right (by omega), ← hl, Nat.sub_self] at g2
  simp at g1 g2
  subst g1 g2
  exact ⟨h1, h2⟩
theorem atRow_lies {w : World} {base : Nat} {v : Value} {R : List RawA} {Z : Nat → Prop} (h : w.ownsRow base 103 10 v R.length (R.flatMap RawA.cells)) (hz : ∀ k, base ≤ k → ¬ Z k) :
  ∃ ao c, v = .slice ao R.length c ∧ AtsAt w w.heap.size Z ao R ∧ R.length ≤ c := by
 rcases h.2 with ⟨h1, h0⟩ | ⟨g, cap, cur, h1, hbg, hg, hnc, _⟩
 ·have : R = [] := List.eq_nil_of_length_eq_zero h0
  subst this
  exact ⟨none, 0, h1, fun k r hk => by simp at hk, by simp⟩
 ·refine ⟨some ⟨g, 0, none⟩, cap, h1, fun k r hk => ⟨g, 0, rfl, hz g hbg, (h.lt g (by rw [h1]; rfl)).2, fun j u hu => ?_⟩, hnc⟩
  have := h.cells (g := g) (by rw [h1]; rfl) (k * 10 + j) u (flatA_at R k r hk j u hu)
  rw [Addr.add_lit, Nat.zero_add] at this
  rw [show 0 + k * 10 + j = k * 10 + j by omega]
  exact this
def PtSt (w w1 : World) (Z : Nat → Prop) (p : Bytes) (d : Nd) (L : List (Bytes × Nd)) (i : Nat) (dd : Bool) (v : Value) (wr : World) : Prop :=
 Below w1.heap.size w1 wr ∧ ∃ R' L', wr.ownsRow w1.heap.size 103 10 v R'.length (R'.flatMap RawA.cells) ∧ LikeA w Z R' L' ∧ L' ++ goP p d dd (L.drop i) = goP p d false L ∧ R'.length ≤ i + dd.toNat
theorem PtSt.app {w1 wr wx w' : World} {v v' : Value} {R' : List RawA} {r : RawA} {cs : List Value}
  (hb : Below w1.heap.size w1 wr) (hown : wr.ownsRow w1.heap.size 103 10 v R'.length (R'.flatMap RawA.cells))
  (hown' : w'.ownsRow w1.heap.size 103 10 v' (R'.length + 1) (R'.flatMap RawA.cells ++ cs)) (hg : wx.grownBy w' v.ownBlock) (hx : wx = wr.alloc (.cells cs.toArray 103)) (hcs : cs = r.cells) :
  Below w1.heap.size w1 w' ∧ w'.ownsRow w1.heap.size 103 10 v' (R' ++ [r]).length ((R' ++ [r]).flatMap RawA.cells) := by
 subst hx hcs
 refine ⟨(belowA hb _).grown hg (by have := hb.size; simp; omega) (fun g hg => (hown.lt g hg).1), ?_⟩
 rw [List.length_append, List.length_singleton, List.flatMap_append]
 simpa using hown'
theorem put_fin {w wr : World} {Z : Nat → Prop} {rb base : Nat} {root : Bytes} {cnt : Int} {ao : Option Addr} {c : Nat} {R R' : List RawA} {L L' : List (Bytes × Nd)} {v : Value}
  (T : RefAt wr Z rb root cnt ao c R L) (hb : Below w.heap.size w wr) (hown : wr.ownsRow base 103 10 v R'.length (R'.flatMap RawA.cells)) (hbase : w.heap.size ≤ base) (hZ : ∀ k, w.heap.size ≤ k → ¬ Z k) (hzr : Z rb) (hlike : LikeA w Z R' L') :
  (∃ ao' c' R'', RefAt (wr.setCell ⟨rb, 2, none⟩ v) Z rb root cnt ao' c' R'' L') ∧ Kept (· = rb) w (wr.setCell ⟨rb, 2, none⟩ v) := by
 obtain ⟨ao', c', rfl, hat, hc⟩ := atRow_lies hown (fun k hk => hZ k (Nat.le_trans hbase hk))
 have hk : Kept (· = rb) wr (wr.setCell ⟨rb, 2, none⟩ (.slice ao' R'.length c')) := Kept.setCell (S := (· = rb)) (p := ⟨rb, 2, none⟩) (Kept.refl _ wr) rfl _
 have hz : ∀ k, k = rb → Z k := fun k e => by rw [e]; exact hzr
 have hbk : Kept (· = rb) w wr := Kept.ofBelow hb
 refine ⟨⟨ao', c', R', ⟨?_, hat.kept hk hz, (hlike.kept hbk hz).kept hk hz, hc⟩⟩, hbk.trans hk⟩
 simp [World.setCell, Array.getElem?_modify, T.blk]
section
variable {w : World} {Z : Nat → Prop} {rb : Nat} {root : Bytes} {cnt : Int} {ao : Option Addr} {c0 : Nat} {R : List RawA} {L : List (Bytes × Nd)}
set_option maxRecDepth 100000 in
set_option maxHeartbeats 8000000 in
theorem RefAt.put (T : RefAt w Z rb root cnt ao c0 R L) (hl : R.length ≤ 1000) (p : Bytes) (r0 : Raw) (d : Nd) (hr : Reads w (fun k => ¬ Z k) r0 d) (hZ : ∀ k, w.heap.size ≤ k → ¬ Z k) (hzr : Z rb) :
  Calls Tryz.prog 84 #[.pointer (some ⟨rb, 0, none⟩), .string (bs p), r0.val] w fun e w' => e = .returned (.tuple #[]) ∧ (∃ ao' c' R', RefAt w' Z rb root cnt ao' c' R' (goP p d false L)) ∧ Kept (· = rb) w w' := by
 obtain ⟨i0, hi0, hz0, hz1, hz2⟩ := info_parts infoAt
 obtain ⟨a, n, c, ⟨v1, v2, v3, v4, v5, v6, v7, v8⟩⟩ := r0
 unfold Raw.val Raw.cells Nums.cells
 dsimp only
 obtain ⟨w1, hw1⟩ : ∃ w1, w1 = w.alloc (.cells #[.slice a n c, .int .u32 v1, .int .u32 v2, .int .u32 v3, .int .i64 v4, .int .u32 v5, .int .u64 v6, .int .u64 v7, .int .u64 v8] 39) := ⟨_, rfl⟩
 have hb1 : Below w.heap.size w w1 := by rw [hw1]; exact belowA (Below.refl _ w) _
 have hs1 : w1.heap.size = w.heap.size + 1 := by rw [hw1]; simp
 have hbox : w1.rangeAt w.heap.size 0 [.slice a n c, .int .u32 v1, .int .u32 v2, .int .u32 v3, .int .i64 v4, .int .u32 v5, .int .u64 v6, .int .u64 v7, .int .u64 v8] := fun j u hu => by
  rw [hw1, Nat.zero_add, cell_of_row _ _ j _ 39 (0, 0) (heap_alloc_new w _)]
  simpa using hu
 have T1 := T.below hb1
 have HT := Lib.hid (And.intro T1 (And.intro hb1 (And.intro hs1 hbox)))
 have HR0 := Lib.hid hr
 have HZ := Lib.hid hZ
 have HZR := Lib.hid hzr
 have HSZN : Hid ((Tryz.prog.info? 39).map (·.size) = some 9) := Lib.hid (by kernel_rfl)
 have HSZA : Hid ((Tryz.prog.info? 103).map (·.size) = some 10) := Lib.hid (by kernel_rfl)
 have hwl : w.heap.size < w1.heap.size := by omega
 obtain ⟨N, hN⟩ : ∃ N, N = R.length := ⟨_, rfl⟩
 rw [← hN] at hl
 have HN := Lib.hid hN
 have HT0 := Lib.hid T
 clear hN T T1 hb1 hs1 hbox hr hZ hzr
 go_enter Tryz.func84, Tryz.ntmps84
 go_wp2
 rw [← hw1]
 clear hw1
 go_loopw [6, 7, 8] (fun v dn ci wr => ∃ (i : Nat) (dd : Bool), i ≤ N ∧ ci = .int .i64 i ∧ dn = .bool dd ∧ Hid (PtSt w w1 Z p d L i dd v wr)) (fun _ _ ci _ => N - (intOf ci).toNat)
 case atStart => exact ⟨0, false, by omega, rfl, rfl, Lib.hid ⟨Below.refl _ w1, [], [], World.ownsRow_nil _ _ _ _, ⟨rfl, fun k r x h => by simp at h⟩, rfl, by simp⟩⟩
 case round =>
  obtain ⟨i, dd, hi, rfl, rfl, HS⟩ := hrel
  obtain ⟨hb, R', L', hown, hlike, heq, hlen⟩ := HS.out
  have hbs := hb.size
  have hlen1 : R'.length ≤ i + 1 := by cases dd <;> simp at hlen <;> omega
  have Tr := HT.out.1.below hb
  have q2 := Tr.c2
  rw [← HN.out] at q2
  have HO := Lib.hid hown
  have HSS := Lib.hid (And.intro hb (And.intro hlike heq))
  clear hown hlike heq HS
  by_cases hlt : i < N
  ·obtain ⟨r, x, b, off, hr, hx, rfl, hbl, _, hp, hrd, hrg⟩ := Tr.node (i := i) (by rw [← HN.out]; exact hlt)
   obtain ⟨rx, x0, b', off', hr', hx', hao', _, _, hp', hrd', _⟩ := HT0.out.node (i := i) (by rw [← HN.out]; exact hlt)
   rw [hr] at hr'
   rw [hx] at hx'
   cases hao'
   cases hr'
   cases hx'
   obtain ⟨xp, xa, xn, xc, ⟨u1, u2, u3, u4, u5, u6, u7, u8⟩⟩ := r
   dsimp only at hp
   subst hp
   obtain ⟨xk, xd⟩ := x
   dsimp only at hrd'
   have hdrop : L.drop i = (xk, xd) :: L.drop (i + 1) := by
    have hx2 := List.getElem?_eq_some_iff.1 hx
    rw [List.drop_eq_getElem_cons hx2.1, hx2.2]
   have HD := Lib.hid hdrop
   have HXR0 := Lib.hid (And.intro hr hrd')
   have k0 : wr.cell? ⟨b, off + i * 10, none⟩ = some (.string (bs xk)) := hrg 0 _ rfl
   have hbox := range_kept HT.out.2.2.2 hb hwl
   have HBOX := Lib.hid hbox
   have HXR := Lib.hid hrg
   clear hdrop hr hx hrd hrd' hrg hbox Tr hb
   have HLEN := Lib.hid hlen
   cases dd with
   | false =>
    by_cases hle : p ≤ xk
    ·by_cases he : xk = p
     ·have t1 : (!Op.bytesLess (bs xk).toList (bs p).toList) = true := by
       rw [toList_bs, toList_bs, bytesLess_eq]
       simpa using hle
      have t2 : ((bs xk).toList == (bs p).toList) = true := by
       rw [toList_bs, toList_bs]
       simpa using he
      have t3 : ((bs xk).toList != (bs p).toList) = false := by simp only [bne, t2]; rfl
      have HE := Lib.hid he
      have HLE := Lib.hid hle
      clear he hle
      have hnx := fun (x2 : Value) (y2 : World) (h1 : y2.ownsRow w1.heap.size 103 10 x2 (R'.length + 1) (R'.flatMap RawA.cells ++ [.string (bs p), .slice a n c, .int .u32 v1, .int .u32 v2, .int .u32 v3, .int .i64 v4, .int .u32 v5, .int .u64 v6, .int .u64 v7, .int .u64 v8])) h2 => PtSt.app (r := ⟨p, ⟨a, n, c, ⟨v1, v2, v3, v4, v5, v6, v7, v8⟩⟩⟩) HSS.out.1 HO.out h1 h2 rfl rfl
      have HNX := Lib.hid hnx
      clear hnx
      go_wp2_with (first
       | (refine wpList_load_mid rfl 39 (.tmp 5) rfl w.heap.size 0 rfl [.slice a n c, .int .u32 v1, .int .u32 v2, .int .u32 v3, .int .i64 v4, .int .u32 v5, .int .u64 v6, .int .u64 v7, .int .u64 v8] _ HBOX.out Tryz.underlying39 rfl HSZN.out ?_)
       | (at_builtin; refine wpList_append_new rfl (.tmp 32) (.tmp 36) 104 rfl w1.heap.size 103 i0 (.agg #[.string ⟨#[]⟩, .slice none 0 0, .int .u32 0, .int .u32 0, .int .u32 0, .int .i64 0, .int .u32 0, .int .u64 0, .int .u64 0, .int .u64 0]) 10 96 Tryz.underlying104 hi0 hz0 hz1 hz2 rfl (by decide) _ _ _ rfl (HO.out.alloc _) ⟨wr.heap.size, 0, none⟩ 1 1 [.string (bs p), .slice a n c, .int .u32 v1, .int .u32 v2, .int .u32 v3, .int .i64 v4, .int .u32 v5, .int .u64 v6, .int .u64 v7, .int .u64 v8] rfl rfl (atE_cells _ _ _ _ _ _ _ _ _ _ wr) (by intro u hu; simp at hu; rcases hu with rfl | rfl | rfl | rfl | rfl | rfl | rfl | rfl | rfl | rfl <;> rfl) (by unfold maxLen; omega) (by omega) (by simp; omega) ?_; intro vq2 w2 hown2 hgrow2 hwh2; have hst := HNX.out _ _ hown2 hgrow2; have T2 := HT.out.1.below hst.1; have q22 := T2.c2; rw [← HN.out] at q22; have hxr2 : w2.rangeAt b (off + i * 10) [.string (bs xk), .slice xa xn xc, .int .u32 u1, .int .u32 u2, .int .u32 u3, .int .i64 u4, .int .u32 u5, .int .u64 u6, .int .u64 u7, .int .u64 u8] := (by obtain ⟨b2, of2, e2, _, _, h2⟩ := T2.at_ i _ HXR0.out.1; cases e2; exact h2); have k02 : w2.cell? ⟨b, off + i * 10, none⟩ = some (.string (bs xk)) := hxr2 0 _ rfl; have HXR2 := Lib.hid hxr2; have HST := Lib.hid hst; have hs2 := hst.1.size; have hlen2 : (R' ++ [(⟨p, ⟨a, n, c, ⟨v1, v2, v3, v4, v5, v6, v7, v8⟩⟩⟩ : RawA)]).length ≤ i + 2 := (by simp; omega); clear hst T2 hxr2 hown2 hgrow2 hwh2))
      have HN2 : Hid (PtSt w w1 Z p d L (i + 1) true _ _) := Lib.hid ⟨HST.out.1, _, _, HST.out.2, (likeA_snoc HSS.out.2.1 (r := ⟨p, ⟨a, n, c, ⟨v1, v2, v3, v4, v5, v6, v7, v8⟩⟩⟩) (x := (p, d)) rfl HR0.out), by
       have h := HSS.out.2.2
       rw [HD.out, goP_cons] at h
       rw [decide_eq_true HLE.out] at h
       rw [if_pos HE.out] at h
       simpa using h, by have := HLEN.out; simp at this ⊢; omega⟩
      go_roundw
      case rel => exact ⟨i + 1, true, by omega, by go_num, rfl, HN2⟩
      case measure => simp [intOf]; omega
     ·have t1 : (!Op.bytesLess (bs xk).toList (bs p).toList) = true := by
       rw [toList_bs, toList_bs, bytesLess_eq]
       simpa using hle
      have t2 : ((bs xk).toList == (bs p).toList) = false := by
       rw [toList_bs, toList_bs]
       simpa using he
      have t3 : ((bs xk).toList != (bs p).toList) = true := by simp only [bne, t2]; rfl
      have HE := Lib.hid he
      have HLE := Lib.hid hle
      clear he hle
      have hnx := fun (x2 : Value) (y2 : World) (h1 : y2.ownsRow w1.heap.size 103 10 x2 (R'.length + 1) (R'.flatMap RawA.cells ++ [.string (bs p), .slice a n c, .int .u32 v1, .int .u32 v2, .int .u32 v3, .int .i64 v4, .int .u32 v5, .int .u64 v6, .int .u64 v7, .int .u64 v8])) h2 => PtSt.app (r := ⟨p, ⟨a, n, c, ⟨v1, v2, v3, v4, v5, v6, v7, v8⟩⟩⟩) HSS.out.1 HO.out h1 h2 rfl rfl
      have HNX := Lib.hid hnx
      clear hnx
      go_wp2_with (first
       | (refine wpList_load_mid rfl 39 (.tmp 5) rfl w.heap.size 0 rfl [.slice a n c, .int .u32 v1, .int .u32 v2, .int .u32 v3, .int .i64 v4, .int .u32 v5, .int .u64 v6, .int .u64 v7, .int .u64 v8] _ HBOX.out Tryz.underlying39 rfl HSZN.out ?_)
       | (at_builtin; refine wpList_append_new rfl (.tmp 32) (.tmp 36) 104 rfl w1.heap.size 103 i0 (.agg #[.string ⟨#[]⟩, .slice none 0 0, .int .u32 0, .int .u32 0, .int .u32 0, .int .i64 0, .int .u32 0, .int .u64 0, .int .u64 0, .int .u64 0]) 10 96 Tryz.underlying104 hi0 hz0 hz1 hz2 rfl (by decide) _ _ _ rfl (HO.out.alloc _) ⟨wr.heap.size, 0, none⟩ 1 1 [.string (bs p), .slice a n c, .int .u32 v1, .int .u32 v2, .int .u32 v3, .int .i64 v4, .int .u32 v5, .int .u64 v6, .int .u64 v7, .int .u64 v8] rfl rfl (atE_cells _ _ _ _ _ _ _ _ _ _ wr) (by intro u hu; simp at hu; rcases hu with rfl | rfl | rfl | rfl | rfl | rfl | rfl | rfl | rfl | rfl <;> rfl) (by unfold maxLen; omega) (by omega) (by simp; omega) ?_; intro vq2 w2 hown2 hgrow2 hwh2; have hst := HNX.out _ _ hown2 hgrow2; have T2 := HT.out.1.below hst.1; have q22 := T2.c2; rw [← HN.out] at q22; have hxr2 : w2.rangeAt b (off + i * 10) [.string (bs xk), .slice xa xn xc, .int .u32 u1, .int .u32 u2, .int .u32 u3, .int .i64 u4, .int .u32 u5, .int .u64 u6, .int .u64 u7, .int .u64 u8] := (by obtain ⟨b2, of2, e2, _, _, h2⟩ := T2.at_ i _ HXR0.out.1; cases e2; exact h2); have k02 : w2.cell? ⟨b, off + i * 10, none⟩ = some (.string (bs xk)) := hxr2 0 _ rfl; have HXR2 := Lib.hid hxr2; have HST := Lib.hid hst; have hs2 := hst.1.size; have hlen2 : (R' ++ [(⟨p, ⟨a, n, c, ⟨v1, v2, v3, v4, v5, v6, v7, v8⟩⟩⟩ : RawA)]).length ≤ i + 2 := (by simp; omega); clear hst T2 hxr2 hown2 hgrow2 hwh2)
       | (refine wpList_load_mid rfl 103 (.tmp 54) rfl b (off + i * 10) rfl [.string (bs xk), .slice xa xn xc, .int .u32 u1, .int .u32 u2, .int .u32 u3, .int .i64 u4, .int .u32 u5, .int .u64 u6, .int .u64 u7, .int .u64 u8] _ HXR2.out Tryz.underlying103 rfl HSZA.out ?_)
       | (at_builtin; refine wpList_append_new rfl (.tmp 48) (.tmp 56) 104 rfl w1.heap.size 103 i0 (.agg #[.string ⟨#[]⟩, .slice none 0 0, .int .u32 0, .int .u32 0, .int .u32 0, .int .i64 0, .int .u32 0, .int .u64 0, .int .u64 0, .int .u64 0]) 10 96 Tryz.underlying104 hi0 hz0 hz1 hz2 rfl (by decide) _ _ _ rfl (HST.out.2.alloc _) ⟨w2.heap.size, 0, none⟩ 1 1 [.string (bs xk), .slice xa xn xc, .int .u32 u1, .int .u32 u2, .int .u32 u3, .int .i64 u4, .int .u32 u5, .int .u64 u6, .int .u64 u7, .int .u64 u8] rfl rfl (atE_cells _ _ _ _ _ _ _ _ _ _ w2) (by intro u hu; simp at hu; rcases hu with rfl | rfl | rfl | rfl | rfl | rfl | rfl | rfl | rfl | rfl <;> rfl) (by unfold maxLen; omega) (by omega) (by simp; omega) ?_; intro vq3 w3 hown3 hgrow3 hwh3))
      have hst3 := PtSt.app HST.out.1 HST.out.2 (r := ⟨xk, ⟨xa, xn, xc, ⟨u1, u2, u3, u4, u5, u6, u7, u8⟩⟩⟩) hown3 hgrow3 rfl rfl
      have HST3 := Lib.hid hst3
      clear hst3 hown3 hgrow3 hwh3
      have HN2 : Hid (PtSt w w1 Z p d L (i + 1) true _ _) := Lib.hid ⟨HST3.out.1, _, _, HST3.out.2, (likeA_snoc (likeA_snoc HSS.out.2.1 (r := ⟨p, ⟨a, n, c, ⟨v1, v2, v3, v4, v5, v6, v7, v8⟩⟩⟩) (x := (p, d)) rfl HR0.out) (r := ⟨xk, ⟨xa, xn, xc, ⟨u1, u2, u3, u4, u5, u6, u7, u8⟩⟩⟩) (x := (xk, xd)) rfl HXR0.out.2), by
       have h := HSS.out.2.2
       rw [HD.out, goP_cons] at h
       rw [decide_eq_true HLE.out] at h
       rw [if_neg HE.out] at h
       simpa using h, by have := HLEN.out; simp at this ⊢; omega⟩
      go_roundw
      case rel => exact ⟨i + 1, true, by omega, by go_num, rfl, HN2⟩
      case measure => simp [intOf]; omega
    ·have he : ¬ xk = p := fun e => hle (e ▸ List.le_refl _)
     have t1 : (!Op.bytesLess (bs xk).toList (bs p).toList) = false := by
      rw [toList_bs, toList_bs, bytesLess_eq]
      simpa using hle
     have t2 : ((bs xk).toList == (bs p).toList) = false := by
      rw [toList_bs, toList_bs]
      simpa using he
     have t3 : ((bs xk).toList != (bs p).toList) = true := by simp only [bne, t2]; rfl
     have HE := Lib.hid he
     have HLE := Lib.hid hle
     clear he hle
     go_wp2_with (first
      | (refine wpList_load_mid rfl 103 (.tmp 54) rfl b (off + i * 10) rfl [.string (bs xk), .slice xa xn xc, .int .u32 u1, .int .u32 u2, .int .u32 u3, .int .i64 u4, .int .u32 u5, .int .u64 u6, .int .u64 u7, .int .u64 u8] _ HXR.out Tryz.underlying103 rfl HSZA.out ?_)
      | (at_builtin; refine wpList_append_new rfl (.tmp 48) (.tmp 56) 104 rfl w1.heap.size 103 i0 (.agg #[.string ⟨#[]⟩, .slice none 0 0, .int .u32 0, .int .u32 0, .int .u32 0, .int .i64 0, .int .u32 0, .int .u64 0, .int .u64 0, .int .u64 0]) 10 96 Tryz.underlying104 hi0 hz0 hz1 hz2 rfl (by decide) _ _ _ rfl (HO.out.alloc _) ⟨wr.heap.size, 0, none⟩ 1 1 [.string (bs xk), .slice xa xn xc, .int .u32 u1, .int .u32 u2, .int .u32 u3, .int .i64 u4, .int .u32 u5, .int .u64 u6, .int .u64 u7, .int .u64 u8] rfl rfl (atE_cells _ _ _ _ _ _ _ _ _ _ wr) (by intro u hu; simp at hu; rcases hu with rfl | rfl | rfl | rfl | rfl | rfl | rfl | rfl | rfl | rfl <;> rfl) (by unfold maxLen; omega) (by omega) (by simp; omega) ?_; intro vq3 w3 hown3 hgrow3 hwh3))
     have hst3 := PtSt.app HSS.out.1 HO.out (r := ⟨xk, ⟨xa, xn, xc, ⟨u1, u2, u3, u4, u5, u6, u7, u8⟩⟩⟩) hown3 hgrow3 rfl rfl
     have HST3 := Lib.hid hst3
     clear hst3 hown3 hgrow3 hwh3
     have HN2 : Hid (PtSt w w1 Z p d L (i + 1) false _ _) := Lib.hid ⟨HST3.out.1, _, _, HST3.out.2, (likeA_snoc HSS.out.2.1 (r := ⟨xk, ⟨xa, xn, xc, ⟨u1, u2, u3, u4, u5, u6, u7, u8⟩⟩⟩) (x := (xk, xd)) rfl HXR0.out.2), by
      have h := HSS.out.2.2
      rw [HD.out, goP_cons] at h
      rw [decide_eq_false HLE.out] at h
      rw [if_neg HE.out] at h
      simpa using h, by have := HLEN.out; simp at this ⊢; omega⟩
     go_roundw
     case rel => exact ⟨i + 1, false, by omega, by go_num, rfl, HN2⟩
     case measure => simp [intOf]; omega
   | true =>
    by_cases he : xk = p
    ·have t2 : ((bs xk).toList == (bs p).toList) = true := by
      rw [toList_bs, toList_bs]
      simpa using he
     have t3 : ((bs xk).toList != (bs p).toList) = false := by simp only [bne, t2]; rfl
     have HE := Lib.hid he
     clear he
     go_wp2
     have HN2 : Hid (PtSt w w1 Z p d L (i + 1) true _ _) := Lib.hid ⟨HSS.out.1, _, _, HO.out, HSS.out.2.1, by
      have h := HSS.out.2.2
      rw [HD.out, goP_cons] at h
      rw [if_pos HE.out] at h
      simpa using h, by have := HLEN.out; simp at this ⊢; omega⟩
     go_roundw
     case rel => exact ⟨i + 1, true, by omega, by go_num, rfl, HN2⟩
     case measure => simp [intOf]; omega
    ·have t2 : ((bs xk).toList == (bs p).toList) = false := by
      rw [toList_bs, toList_bs]
      simpa using he
     have t3 : ((bs xk).toList != (bs p).toList) = true := by simp only [bne, t2]; rfl
     have HE := Lib.hid he
     clear he
     go_wp2_with (first
      | (refine wpList_load_mid rfl 103 (.tmp 54) rfl b (off + i * 10) rfl [.string (bs xk), .slice xa xn xc, .int .u32 u1, .int .u32 u2, .int .u32 u3, .int .i64 u4, .int .u32 u5, .int .u64 u6, .int .u64 u7, .int .u64 u8] _ HXR.out Tryz.underlying103 rfl HSZA.out ?_)
      | (at_builtin; refine wpList_append_new rfl (.tmp 48) (.tmp 56) 104 rfl w1.heap.size 103 i0 (.agg #[.string ⟨#[]⟩, .slice none 0 0, .int .u32 0, .int .u32 0, .int .u32 0, .int .i64 0, .int .u32 0, .int .u64 0, .int .u64 0, .int .u64 0]) 10 96 Tryz.underlying104 hi0 hz0 hz1 hz2 rfl (by decide) _ _ _ rfl (HO.out.alloc _) ⟨wr.heap.size, 0, none⟩ 1 1 [.string (bs xk), .slice xa xn xc, .int .u32 u1, .int .u32 u2, .int .u32 u3, .int .i64 u4, .int .u32 u5, .int .u64 u6, .int .u64 u7, .int .u64 u8] rfl rfl (atE_cells _ _ _ _ _ _ _ _ _ _ wr) (by intro u hu; simp at hu; rcases hu with rfl | rfl | rfl | rfl | rfl | rfl | rfl | rfl | rfl | rfl <;> rfl) (by unfold maxLen; omega) (by omega) (by simp; omega) ?_; intro vq3 w3 hown3 hgrow3 hwh3))
     have hst3 := PtSt.app HSS.out.1 HO.out (r := ⟨xk, ⟨xa, xn, xc, ⟨u1, u2, u3, u4, u5, u6, u7, u8⟩⟩⟩) hown3 hgrow3 rfl rfl
     have HST3 := Lib.hid hst3
     clear hst3 hown3 hgrow3 hwh3
     have HN2 : Hid (PtSt w w1 Z p d L (i + 1) true _ _) := Lib.hid ⟨HST3.out.1, _, _, HST3.out.2, (likeA_snoc HSS.out.2.1 (r := ⟨xk, ⟨xa, xn, xc, ⟨u1, u2, u3, u4, u5, u6, u7, u8⟩⟩⟩) (x := (xk, xd)) rfl HXR0.out.2), by
      have h := HSS.out.2.2
      rw [HD.out, goP_cons] at h
      rw [if_neg HE.out] at h
      simpa using h, by have := HLEN.out; simp at this ⊢; omega⟩
     go_roundw
     case rel => exact ⟨i + 1, true, by omega, by go_num, rfl, HN2⟩
     case measure => simp [intOf]; omega
  ·obtain rfl : N = i := by omega
   have hd0 : L.drop N = [] := List.drop_eq_nil_of_le (by rw [HN.out, HT0.out.like.1]; exact Nat.le_refl _)
   have HD := Lib.hid hd0
   have hfz : wr.frozen? ⟨rb, 2, none⟩ = false := by simp [World.frozen?, Tr.blk]
   have hbox := range_kept HT.out.2.2.2 hb hwl
   have HBOX := Lib.hid hbox
   have HTR := Lib.hid Tr
   have HLEN := Lib.hid hlen
   clear hd0 Tr hb hbox
   cases dd with
   | true =>
    have hL : L' = goP p d false L := by
     have h := HSS.out.2.2
     rw [HD.out] at h
     simpa [goP] using h
    have HLL := Lib.hid hL
    clear hL
    obtain ⟨ao1, c1, hv1, _, _⟩ := atRow_lies (Z := Nothing) HO.out (fun _ _ h => h.elim)
    subst hv1
    go_wp2
    (try simp only [Exit.inBlock, Exit.then]); refine bodyPost_end (results_none rfl _ _ _) rfl ?_
    exact ⟨rfl, put_fin HTR.out (HT.out.2.1.trans (HSS.out.1.mono (Nat.le_of_lt hwl))) HO.out (Nat.le_of_lt hwl) HZ.out HZR.out (HLL.out ▸ HSS.out.2.1)⟩
   | false =>
    have hL : L' ++ [(p, d)] = goP p d false L := by
     have h := HSS.out.2.2
     rw [HD.out] at h
     simpa [goP] using h
    have HLL := Lib.hid hL
    clear hL
    go_wp2_with (first
     | (refine wpList_load_mid rfl 39 (.tmp 5) rfl w.heap.size 0 rfl [.slice a n c, .int .u32 v1, .int .u32 v2, .int .u32 v3, .int .i64 v4, .int .u32 v5, .int .u64 v6, .int .u64 v7, .int .u64 v8] _ HBOX.out Tryz.underlying39 rfl HSZN.out ?_)
     | (at_builtin; refine wpList_append_new rfl (.tmp 60) (.tmp 64) 104 rfl w1.heap.size 103 i0 (.agg #[.string ⟨#[]⟩, .slice none 0 0, .int .u32 0, .int .u32 0, .int .u32 0, .int .i64 0, .int .u32 0, .int .u64 0, .int .u64 0, .int .u64 0]) 10 96 Tryz.underlying104 hi0 hz0 hz1 hz2 rfl (by decide) _ _ _ rfl (HO.out.alloc _) ⟨wr.heap.size, 0, none⟩ 1 1 [.string (bs p), .slice a n c, .int .u32 v1, .int .u32 v2, .int .u32 v3, .int .i64 v4, .int .u32 v5, .int .u64 v6, .int .u64 v7, .int .u64 v8] rfl rfl (atE_cells _ _ _ _ _ _ _ _ _ _ wr) (by intro u hu; simp at hu; rcases hu with rfl | rfl | rfl | rfl | rfl | rfl | rfl | rfl | rfl | rfl <;> rfl) (by unfold maxLen; omega) (by omega) (by simp; omega) ?_; intro vq2 w2 hown2 hgrow2 hwh2; have hst := PtSt.app (r := ⟨p, ⟨a, n, c, ⟨v1, v2, v3, v4, v5, v6, v7, v8⟩⟩⟩) HSS.out.1 HO.out hown2 hgrow2 rfl rfl; have T2 := HT.out.1.below hst.1; have q22 := T2.c2; rw [← HN.out] at q22; have hfz2 : w2.frozen? ⟨rb, 2, none⟩ = false := (by simp [World.frozen?, T2.blk]); have HTR2 := Lib.hid T2; clear T2 hown2 hgrow2 hwh2; obtain ⟨ao1, c1, hv1, _, _⟩ := atRow_lies (Z := Nothing) hst.2 (fun _ _ h => h.elim); subst hv1; have HST := Lib.hid hst; clear hst))
    (try simp only [Exit.inBlock, Exit.then]); refine bodyPost_end (results_none rfl _ _ _) rfl ?_
    exact ⟨rfl, put_fin HTR2.out (HT.out.2.1.trans (HST.out.1.mono (Nat.le_of_lt hwl))) (by have h3 := HST.out.2; simp only [List.length_append, List.length_cons, List.length_nil, Nat.zero_add] at h3 ⊢; exact h3) (Nat.le_of_lt hwl) HZ.out HZR.out (HLL.out ▸ likeA_snoc HSS.out.2.1 (r := ⟨p, ⟨a, n, c, ⟨v1, v2, v3, v4, v5, v6, v7, v8⟩⟩⟩) (x := (p, d)) rfl HR0.out)⟩
end
end Go.Proofs.YtnclkfhdpkkakaaGreatDoor
namespace Go.Proofs.YtnclkfhdpkkakaaGreatDoor
set_option linter.unusedVariables false
set_option linter.unusedSimpArgs false
set_option linter.unusedVariables false
set_option linter.unusedSimpArgs false
open Go Go.RowKit Go.Shelf Go.MapKept Go.ChangeMaps Go.Maps Go.Sort
theorem own_below2 {w w' : World} {base size n : Nat} {e : TypeId} {v : Value} {xs : List Value} (h : w.ownsRow base e size v n xs) (hb : Below w.heap.size w w') : w'.ownsRow base e size v n xs :=
 h.kept (row := none) ⟨hb.os, hb.tape, hb.output, hb.size, fun i hi _ => hb.block i hi⟩ (by cases v.ownBlock <;> simp)
def kidsTo (root p : Bytes) (L : List (Bytes × Nd)) (i : Nat) : List Bytes := (((L.take i).map (·.1)).filter (kidB root p)).map baseL
theorem kidsTo_succ {root p : Bytes} {L : List (Bytes × Nd)} {i : Nat} {x : Bytes × Nd} (h : L[i]? = some x) : kidsTo root p L (i + 1) = if kidB root p x.1 = true then kidsTo root p L i ++ [baseL x.1] else kidsTo root p L i := by
 unfold kidsTo
 rw [List.take_add_one, h]
 by_cases hk : kidB root p x.1 = true
 ·rw [if_pos hk]
  simp [hk]
 ·rw [if_neg hk]
  simp [hk]
theorem kidsTo_len {root p : Bytes} {L : List (Bytes × Nd)} {i : Nat} : (kidsTo root p L i).length ≤ i := by
 unfold kidsTo
 rw [List.length_map]
 have h1 := (List.filter_sublist (p := kidB root p) (l := (L.take i).map (·.1))).length_le
 simp only [List.length_map, List.length_take] at h1
 omega
def SrtSt (w : World) (g n cap : Nat) (K0 K : List Bytes) (wr : World) : Prop := Below w.heap.size w wr ∧ w.heap.size ≤ g ∧ wr.ownsRow w.heap.size 9 1 (.slice (some ⟨g, 0, none⟩) n cap) n (K.map sv) ∧ K.Perm K0 ∧ K.length = n
theorem SrtSt.cell {w wr : World} {g n cap : Nat} {K0 K : List Bytes} (h : SrtSt w g n cap K0 K wr) {j : Nat} {x : Bytes} (hx : K[j]? = some x) : wr.cell? ⟨g, j, none⟩ = some (.string (bs x)) := by
 obtain ⟨_, _, h3, _, h5⟩ := h
 have hj := (List.getElem?_eq_some_iff.1 hx).1
 rw [h3.cellAt j (by omega), List.getElem?_map, hx]
 rfl
theorem SrtSt.frozen {w wr : World} {g n cap : Nat} {K0 K : List Bytes} (h : SrtSt w g n cap K0 K wr) (j : Nat) : wr.frozen? ⟨g, j, none⟩ = false := h.2.2.1.frozenAt j
theorem below_stored {w wr : World} {g j : Nat} (hb : Below w.heap.size w wr) (hg : w.heap.size ≤ g) (v : Value) : Below w.heap.size w (wr.setCell ⟨g, j, none⟩ v) := hb.setCell hg v
theorem SrtSt.drewN {w wr : World} {g n cap : Nat} {K0 K : List Bytes} (h : SrtSt w g n cap K0 K wr) (q : Nat) : SrtSt w g n cap K0 K (wr.drewN q) := ⟨belowN h.1 q, h.2⟩
theorem SrtSt.drew {w wr : World} {g n cap : Nat} {K0 K : List Bytes} (h : SrtSt w g n cap K0 K wr) : SrtSt w g n cap K0 K wr.drew := h.drewN 1
theorem SrtSt.frozen2 {w wr : World} {g n cap : Nat} {K0 K : List Bytes} (h : SrtSt w g n cap K0 K wr) (j k : Nat) (v : Value) : (wr.setCell ⟨g, j, none⟩ v).frozen? ⟨g, k, none⟩ = false := (h.2.2.1.stored j v).1.frozenAt k
theorem SrtSt.swap {w wr : World} {g n cap : Nat} {K0 K : List Bytes} (h : SrtSt w g n cap K0 K wr) {i k : Nat} {x y : Bytes} (hx : K[i]? = some x) (hy : K[k]? = some y) :
  SrtSt w g n cap K0 (swapL K i k x y) ((wr.setCell ⟨g, i, none⟩ (.string (bs y))).setCell ⟨g, k, none⟩ (.string (bs x))) := by
 have hp := swapL_perm hx hy
 obtain ⟨h1, h2, h3, h4, h5⟩ := h
 refine ⟨below_stored (below_stored h1 h2 _) h2 _, h2, ?_, hp.trans h4, by rw [hp.length_eq]; exact h5⟩
 have e : (swapL K i k x y).map sv = ((K.map sv).set i (.string (bs y))).set k (.string (bs x)) := by
  unfold swapL
  rw [List.map_set, List.map_set]
  rfl
 rw [e]
 exact ((h3.stored i (.string (bs y))).1.stored k (.string (bs x))).1
def StrNew (n : Nat) (w : World) (a : Option Addr) (K : List Bytes) : Prop := ∀ k p, K[k]? = some p → ∃ b off, a = some ⟨b, off, none⟩ ∧ n ≤ b ∧ b < w.heap.size ∧ w.cell? ⟨b, off + k, none⟩ = some (.string (bs p))
theorem StrNew.sl {n : Nat} {w : World} {a : Option Addr} {K : List Bytes} (h : StrNew n w a K) : StrSl w w.heap.size a K := fun k p hk => by
 obtain ⟨b, off, h1, _, h3, h4⟩ := h k p hk
 exact ⟨b, off, h1, h3, h4⟩
section
variable {w : World} {Z : Nat → Prop} {rb : Nat} {root : Bytes} {cnt : Int} {ao : Option Addr} {c0 : Nat} {R : List RawA} {L : List (Bytes × Nd)}
def KdSt (w : World) (root p : Bytes) (L : List (Bytes × Nd)) (i : Nat) (v : Value) (wr : World) : Prop := Below w.heap.size w wr ∧ wr.ownsRow w.heap.size 9 1 v (kidsTo root p L i).length ((kidsTo root p L i).map sv)
set_option maxRecDepth 100000 in
set_option maxHeartbeats 8000000 in
theorem RefAt.kids (T : RefAt w Z rb root cnt ao c0 R L) (hl : R.length ≤ 1000) (hv : ∀ x ∈ L, x.1.length ≤ 1000 ∧ ∃ P, partsL x.1 = some P) (p : Bytes) :
  Calls Tryz.prog 79 #[.pointer (some ⟨rb, 0, none⟩), .string (bs p)] w fun e w' => ∃ a c K, e = .returned (.slice a K.length c) ∧ StrNew w.heap.size w' a K ∧ K.Pairwise (· ≤ ·) ∧ K.Perm (kidsTo root p L L.length) ∧ Below w.heap.size w w' := by
 obtain ⟨i0, hi0, hz0, hz1, hz2⟩ := info_parts infoStr
 have HT := Lib.hid T
 have HV := Lib.hid hv
 obtain ⟨N, hN⟩ : ∃ N, N = R.length := ⟨_, rfl⟩
 rw [← hN] at hl
 have HN := Lib.hid hN
 clear T hv hN
 go_enter Tryz.func79, Tryz.ntmps79
 go_wp2
 go_loopw [5, 6] (fun v ci wr => ∃ i : Nat, i ≤ N ∧ ci = .int .i64 i ∧ Hid (KdSt w root p L i v wr)) (fun _ ci _ => N - (intOf ci).toNat)
 case atStart => exact ⟨0, by omega, rfl, Lib.hid ⟨Below.refl _ w, World.ownsRow_nil _ _ _ _⟩⟩
 case round =>
  obtain ⟨i, hi, rfl, HS⟩ := hrel
  have Tr := HT.out.below HS.out.1
  have q2 := Tr.c2
  rw [← HN.out] at q2
  by_cases hlt : i < N
  ·obtain ⟨r, x, b, off, hr, hx, rfl, hbl, _, hp, _, hrg⟩ := Tr.node (i := i) (by rw [← HN.out]; exact hlt)
   have q0 := Tr.c0
   have k0 : wr.cell? ⟨b, off + i * 10, none⟩ = some (.string (bs r.path)) := hrg 0 _ rfl
   rw [hp] at k0
   have HX := Lib.hid hx
   obtain ⟨hvl, P, hP⟩ := HV.out x (List.mem_of_getElem? hx)
   have HP := Lib.hid (And.intro hvl hP)
   clear hr hx hp hrg Tr hvl hP
   by_cases e1 : x.1 = root
   ·have t1 : ((bs x.1).toList == (bs root).toList) = true := by rw [e1]; simp
    have hk : ¬ kidB root p x.1 = true := by unfold kidB; simp [e1]
    have HK := Lib.hid hk
    clear e1 hk
    go_wp2
    have HS2 : Hid (KdSt w root p L (i + 1) _ _) := Lib.hid (by
     have h := HS.out
     unfold KdSt at h ⊢
     rw [kidsTo_succ HX.out, if_neg HK.out]
     exact h)
    go_roundw
    case rel => exact ⟨i + 1, by omega, by go_num, HS2⟩
    case measure => simp [intOf]; omega
   ·have t1 : ((bs x.1).toList == (bs root).toList) = false := by rw [toList_bs, toList_bs]; simpa using e1
    by_cases e2 : x.1 = p
    ·have t2 : ((bs x.1).toList == (bs p).toList) = true := by rw [e2]; simp
     have hk : ¬ kidB root p x.1 = true := by unfold kidB; simp [e2]
     have HK := Lib.hid hk
     clear e1 e2 hk
     go_wp2
     have HS2 : Hid (KdSt w root p L (i + 1) _ _) := Lib.hid (by
      have h := HS.out
      unfold KdSt at h ⊢
      rw [kidsTo_succ HX.out, if_neg HK.out]
      exact h)
     go_roundw
     case rel => exact ⟨i + 1, by omega, by go_num, HS2⟩
     case measure => simp [intOf]; omega
    ·have t2 : ((bs x.1).toList == (bs p).toList) = false := by rw [toList_bs, toList_bs]; simpa using e2
     have HE := Lib.hid (And.intro e1 e2)
     clear e1 e2
     go_wp2_with fail
     refine (rfParent_any x.1 P HP.out.2 HP.out.1 wr).mono ?_
     rintro e w2 ⟨rfl, B2⟩
     have hb2 := HS.out.1.trans (B2.mono HS.out.1.size)
     have hown2 := own_below2 HS.out.2 B2
     have HS2 := Lib.hid (And.intro hb2 hown2)
     clear B2 hb2 hown2
     by_cases e3 : parentL x.1 = p
     ·have t3 : ((bs (parentL x.1)).toList == (bs p).toList) = true := by rw [e3]; simp
      have hk : kidB root p x.1 = true := by unfold kidB; simp [HE.out.1, HE.out.2, e3]
      have HK := Lib.hid (And.intro hk e3)
      clear e3 hk
      go_wp2_with fail
      refine (refParts_some x.1 P HP.out.2 w2).mono ?_
      rintro e w3 ⟨v3, rfl, ho3, B3⟩
      have hP0 : P ≠ [] := fun h0 => HE.out.2 (by
       have hq := HP.out.2
       rw [h0] at hq
       rw [← HK.out.2]
       unfold parentL
       rw [hq]
       simp)
      rcases ownS_form ho3 with ⟨rfl, h2⟩ | ⟨g, cap, rfl, hc, hb, hg, hat⟩
      ·exact absurd h2 hP0
      ·obtain ⟨n, hn⟩ : ∃ n, n = P.length := ⟨_, rfl⟩
       obtain ⟨m, hm⟩ : ∃ m, n = m + 1 := ⟨n - 1, by have := List.length_pos_iff.2 hP0; omega⟩
       have hPl := partsL_len HP.out.2
       obtain ⟨y, hy⟩ : ∃ y, P[m]? = some y := ⟨_, List.getElem?_eq_getElem (by omega)⟩
       have hbase : baseL x.1 = y := by
        unfold baseL
        rw [HP.out.2]
        simp only [List.getLast?_eq_getElem?]
        rw [show P.length - 1 = m by omega, hy]
        rfl
       have k3 : w3.cell? ⟨g, m, none⟩ = some (.string (bs y)) := by
        have := hat m y hy
        rw [Nat.zero_add] at this
        exact this
       have hw : wrap64 ((n : Int) - 1) = (m : Int) := by
        unfold wrap64
        omega
       have hO3 := own_below2 HS2.out.2 B3
       have hb3 := HS2.out.1.trans (B3.mono HS2.out.1.size)
       have HO3 := Lib.hid (And.intro hO3 (And.intro hb3 hbase))
       have hs3 := hb3.size
       have hkl := kidsTo_len (root := root) (p := p) (L := L) (i := i)
       rw [← hn] at hc ⊢
       have hmn : m < n := by omega
       clear ho3 B3 hat hy hbase hO3 hb3 hn hm hP0
       go_wp2_with (at_builtin; refine wpList_append_new rfl (.tmp 52) (.tmp 59) 40 rfl w.heap.size 9 i0 (.string ByteArray.empty) 1 16 Tryz.underlying40 hi0 hz0 hz1 hz2 rfl (by decide) _ _ _ rfl (HO3.out.1.alloc _) ⟨w3.heap.size, 0, none⟩ 1 1 [sv y] rfl rfl (cell_one_new _ _ _) (sv_one [y]) (by unfold maxLen; omega) (by omega) (by simp; omega) ?_; intro vq4 w4 hown4 hgrow4 hwh4)
       have hb4 := (belowA HO3.out.2.1 (.cells #[.string (bs y)] 9)).grown hgrow4 (by simp; omega) (fun g hg => (HO3.out.1.lt g hg).1)
       have HS4 : Hid (KdSt w root p L (i + 1) vq4 w4) := Lib.hid ⟨hb4, by
        rw [kidsTo_succ HX.out, if_pos HK.out.1, HO3.out.2.2]
        rw [List.length_append, List.map_append]
        exact hown4⟩
       clear hb4 hown4 hgrow4 hwh4
       go_roundw
       case rel => exact ⟨i + 1, by omega, by go_num, HS4⟩
       case measure => simp [intOf]; omega
     ·have t3 : ((bs (parentL x.1)).toList == (bs p).toList) = false := by rw [toList_bs, toList_bs]; simpa using e3
      have hk : ¬ kidB root p x.1 = true := by unfold kidB; simp [e3]
      have HK := Lib.hid hk
      clear e3 hk
      go_wp2
      have HS3 : Hid (KdSt w root p L (i + 1) _ _) := Lib.hid (by
       have h := HS2.out
       unfold KdSt
       rw [kidsTo_succ HX.out, if_neg HK.out]
       exact h)
      go_roundw
      case rel => exact ⟨i + 1, by omega, by go_num, HS3⟩
      case measure => simp [intOf]; omega
  ·obtain rfl : N = i := by omega
   have hNL : N = L.length := by rw [HN.out]; exact HT.out.like.1
   obtain ⟨K0, hK0⟩ : ∃ K0, K0 = kidsTo root p L N := ⟨_, rfl⟩
   have hS0 := HS.out
   unfold KdSt at hS0
   rw [← hK0] at hS0
   rw [hNL] at hK0
   have HK0 := Lib.hid hK0
   have hkl := kidsTo_len (root := root) (p := p) (L := L) (i := L.length)
   rw [← hK0, ← hNL] at hkl
   rcases hS0.2.2 with ⟨h1, h0⟩ | ⟨g, cap, cur, h1, hbg, hg, hnc, hcm, _⟩
   ·subst h1
    have hb0 := Lib.hid (And.intro hS0.1 h0)
    clear hS0 h0 hK0 hNL Tr
    go_wp2
    go_loopw [10] (fun ci wr' => ci = .int .i64 0 ∧ wr' = wr) (fun ci _ => 0)
    case atStart => exact ⟨rfl, rfl⟩
    case round =>
     obtain ⟨rfl, rfl⟩ := hrel
     go_wp2
     go_ret
     have hn0 := List.eq_nil_of_length_eq_zero hb0.out.2
     refine ⟨none, 0, [], rfl, (fun k p h => by simp at h), List.Pairwise.nil, ?_, hb0.out.1⟩
     rw [← HK0.out, hn0]
   ·obtain ⟨n, hn⟩ : ∃ n, n = K0.length := ⟨_, rfl⟩
    rw [← hn] at hS0 hkl h1
    subst h1
    have hst : SrtSt w g n cap K0 K0 wr := ⟨hS0.1, hbg, hS0.2, List.Perm.refl _, hn.symm⟩
    have HST := Lib.hid hst
    have hgl : w.heap.size ≤ g := hbg
    rw [← hn] at hnc
    clear hst hS0 hK0 hNL Tr hg hn hbg
    go_wp2
    go_loopw [10, 11, 12] (fun ci _ _ wr' => ∃ (i : Nat) (K : List Bytes), i ≤ n ∧ ci = .int .i64 i ∧ Hid (SrtSt w g n cap K0 K wr' ∧ Upto K i)) (fun ci _ _ _ => n - (intOf ci).toNat)
    case atStart => exact ⟨0, K0, by omega, rfl, Lib.hid ⟨HST.out, upto_zero _⟩⟩
    case round =>
     obtain ⟨i, K, hi, rfl, HU⟩ := hrel
     by_cases hin : i < n
     ·go_wp2
      go_loopw [11, 12] (fun ck _ wr2 => ∃ (k : Nat) (K' : List Bytes), i < k ∧ k ≤ n ∧ ck = .int .i64 k ∧ Hid (SrtSt w g n cap K0 K' wr2 ∧ UptoK K' i k)) (fun ck _ _ => n - (intOf ck).toNat)
      case atStart => exact ⟨i + 1, K, by omega, by omega, by go_num, Lib.hid ⟨HU.out.1, uptoK_start HU.out.2⟩⟩
      case round =>
       obtain ⟨k, K', hik, hk, rfl, HV2⟩ := hrel
       have hlen : K'.length = n := HV2.out.1.2.2.2.2
       by_cases hkn : k < n
       ·obtain ⟨x, hx⟩ : ∃ x, K'[i]? = some x := ⟨_, List.getElem?_eq_getElem (by omega)⟩
        obtain ⟨y, hy⟩ : ∃ y, K'[k]? = some y := ⟨_, List.getElem?_eq_getElem (by omega)⟩
        have hd := HV2.out.1.drew
        have k1 := HV2.out.1.cell hx
        have k2 := HV2.out.1.cell hy
        have f1 := HV2.out.1.frozen i
        have f2 := HV2.out.1.frozen2 i k (.string (bs y))
        have HXY := Lib.hid (And.intro hx hy)
        clear hx hy hlen hd
        have hnc2 : k < cap := by omega
        by_cases hlt : y < x
        ·have t1 : Op.bytesLess (bs y).toList (bs x).toList = true := by
          rw [toList_bs, toList_bs, bytesLess_eq]
          simpa using hlt
         have HLT := Lib.hid hlt
         clear hlt
         go_wp2_with fail
         go_region
         go_wp2
         go_roundw
         case rel => exact ⟨k + 1, _, by omega, by omega, by go_num, Lib.hid ⟨HV2.out.1.drew.swap HXY.out.1 HXY.out.2, uptoK_swap HV2.out.2 hik HXY.out.1 HXY.out.2 HLT.out⟩⟩
         case measure => simp [intOf]; omega
        ·have t1 : Op.bytesLess (bs y).toList (bs x).toList = false := by
          rw [toList_bs, toList_bs, bytesLess_eq]
          simpa using hlt
         have HLT := Lib.hid hlt
         clear hlt
         go_wp2_with fail
         go_region
         go_wp2
         go_roundw
         case rel => exact ⟨k + 1, K', by omega, by omega, by go_num, Lib.hid ⟨HV2.out.1.drew, uptoK_keep HV2.out.2 HXY.out.1 HXY.out.2 (List.not_lt.1 HLT.out)⟩⟩
         case measure => simp [intOf]; omega
       ·obtain rfl : n = k := by omega
        have HLEN := Lib.hid hlen
        clear hlen
        go_wp2
        go_roundw
        case rel => exact ⟨i + 1, K', by omega, by go_num, Lib.hid ⟨HV2.out.1, uptoK_end HV2.out.2 (Nat.le_of_eq HLEN.out)⟩⟩
        case measure => simp [intOf]; omega
     ·obtain rfl : n = i := by omega
      go_wp2
      go_ret
      obtain ⟨⟨h1, h2, h3, h4, h5⟩, h6⟩ := HU.out
      refine ⟨some ⟨g, 0, none⟩, cap, K, by rw [h5]; rfl, fun j x hx => ⟨g, 0, rfl, h2, (h3.lt g rfl).2, ?_⟩, upto_sorted (by rw [h5]; exact h6), ?_, h1⟩
      ·rw [Nat.zero_add]
       exact HU.out.1.cell hx
      ·rw [← HK0.out]; exact h4
end
end Go.Proofs.YtnclkfhdpkkakaaGreatDoor
