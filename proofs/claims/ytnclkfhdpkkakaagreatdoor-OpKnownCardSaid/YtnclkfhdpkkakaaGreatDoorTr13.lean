/-
  put, walked.
-/
import Derived.Test.YtnclkfhdpkkakaaGreatDoorTr12
import Derived.Deep.RegionHeld3
import Derived.Deep.DeepCutAuto
namespace Go.Proofs.YtnclkfhdpkkakaaGreatDoor
set_option linter.unusedVariables false
set_option linter.unusedSimpArgs false
set_option linter.unusedVariables false
set_option linter.unusedSimpArgs false
open Go Go.RowKit Go.Shelf Go.MapKept Go.ChangeMaps Go.Maps Go.Sort

theorem parentL_len (p : Bytes) (hp : p.length ≤ 1000) : (parentL p).length ≤ 1000 := by
  unfold parentL
  split
  · simp
  · rename_i L hL
    split
    · exact hp
    · have := take_len64 hL (L.length - 1)
      rw [← List.dropLast_eq_take] at this
      omega
theorem Kept.ofBelow {S : Nat → Prop} {a b : World} (h : Below a.heap.size a b) : Kept S a b := ⟨h.os, h.tape, h.output, h.size, fun k hk _ => h.block k hk⟩
theorem neq_of {a b : Bytes} {r : Bool} (h : decide (a = b) = r) : ((bs a).toList == (bs b).toList) = r ∧ (!((bs a).toList == (bs b).toList)) = !r := by
  rw [eq_bs, h]
  exact ⟨rfl, rfl⟩
/-- Nine cells of a row. -/
theorem nine {w : World} {B : Nat} {u0 u1 u2 u3 u4 u5 u6 u7 u8 : Value} {t : TypeId} (h : w.heap[B]? = some (.cells #[u0, u1, u2, u3, u4, u5, u6, u7, u8] t (0, 0))) :
    w.cell? ⟨B, 0, none⟩ = some u0 ∧ w.cell? ⟨B, 1, none⟩ = some u1 ∧ w.cell? ⟨B, 2, none⟩ = some u2 ∧ w.cell? ⟨B, 3, none⟩ = some u3 ∧ w.cell? ⟨B, 4, none⟩ = some u4 ∧ w.cell? ⟨B, 5, none⟩ = some u5 ∧ w.cell? ⟨B, 6, none⟩ = some u6 ∧ w.cell? ⟨B, 7, none⟩ = some u7 ∧ w.cell? ⟨B, 8, none⟩ = some u8 :=
  ⟨cell_of_row _ _ 0 _ t (0, 0) h, cell_of_row _ _ 1 _ t (0, 0) h, cell_of_row _ _ 2 _ t (0, 0) h, cell_of_row _ _ 3 _ t (0, 0) h, cell_of_row _ _ 4 _ t (0, 0) h, cell_of_row _ _ 5 _ t (0, 0) h, cell_of_row _ _ 6 _ t (0, 0) h, cell_of_row _ _ 7 _ t (0, 0) h, cell_of_row _ _ 8 _ t (0, 0) h⟩
theorem drewA1 {W w5 : World} (h : Below W.drew.heap.size W.drew w5) : Below W.heap.size W w5 := ⟨h.os, h.tape, h.output, h.size, h.block⟩
theorem drewA2 {W w5 : World} {o : Obj} (h : Below (W.drew.alloc o).heap.size (W.drew.alloc o) w5) : Below W.heap.size W w5 := by
  have h1 : Below W.heap.size W (W.drew.alloc o) := (Below.refl _ W).drew.alloc (Nat.le_refl _) _
  exact h1.trans (h.mono h1.size)
theorem nineA {W w5 : World} {u0 u1 u2 u3 u4 u5 u6 u7 u8 : Value} {t : TypeId} (h : Below (W.drew.alloc (.cells #[u0, u1, u2, u3, u4, u5, u6, u7, u8] t)).heap.size (W.drew.alloc (.cells #[u0, u1, u2, u3, u4, u5, u6, u7, u8] t)) w5) :
    w5.heap[W.heap.size]? = some (.cells #[u0, u1, u2, u3, u4, u5, u6, u7, u8] t (0, 0)) :=
  (h.block W.heap.size (by rw [World.size_alloc]; exact Nat.lt_succ_self W.heap.size)).trans (heap_alloc_new W.drew _)
theorem below_setAt {B : Nat} {W w5 : World} (h : Below B W w5) (j : Nat) (v : Value) : Below B W (w5.setCell ⟨B, j, none⟩ v) := h.setCell (Nat.le_refl _) v
theorem frozen0 {w : World} {B : Nat} {cs : Array Value} {t : TypeId} (h : w.heap[B]? = some (.cells cs t (0, 0))) : ∀ j, w.frozen? ⟨B, j, none⟩ = false := fun j => by simp [World.frozen?, h]
/-- Whether there is a parent. -/
def CutP (w2 : World) (r2 : Bool) (t10 : Value) (wc : World) : Prop := t10 = .bool r2 ∧ Below w2.heap.size w2 wc
/-- Whether a node may be put; what is there then. -/
def putE (root : Bytes) (M : List (Bytes × Nd)) (p : Bytes) : Int := if p ≠ root ∧ (getA (parentL p) M).isSome = false then 31 else if (getA p M).isSome = false ∧ 48 ≤ M.length then 36 else 0
def putM (root : Bytes) (M : List (Bytes × Nd)) (p : Bytes) (d : Nd) : List (Bytes × Nd) := if putE root M p = 0 then putA p d M else M
/-- The old data's blocks, and the new ones. -/
abbrev Plus (lo : Nat → Prop) (n : Nat) : Nat → Prop := fun k => lo k ∨ n ≤ k
/-- The tree behind a put. -/
def PutPost (lo : Nat → Prop) (b mb : Nat) (root : Bytes) (at_ : Int) (M : List (Bytes × Nd)) (w : World) (x : Int) (e : Ending) (w' : World) : Prop :=
  e = .returned (.int .i64 x) ∧ TreeAt w' (Plus lo w.heap.size) b mb root at_ M ∧ Kept (· = mb) w w'
section
variable {w : World} {lo : Nat → Prop} {b mb : Nat} {root : Bytes} {at_ : Int} {M : List (Bytes × Nd)}
theorem TreeAt.wide (T : TreeAt w lo b mb root at_ M) {lo' : Nat → Prop} (h : ∀ k, lo k → lo' k) : TreeAt w lo' b mb root at_ M := by
  obtain ⟨m, h1, h2⟩ := T.map
  exact ⟨T.blk, m, h1, h2.imp fun _ _ hr => hr.mono h⟩
/-- The store of a node that was made behind w. -/
theorem TreeAt.setAt (T : TreeAt w lo b mb root at_ M) (p : Bytes) (hp : p.length ≤ 1000) {w7 : World} (B7 : Below w.heap.size w w7) (r : Raw) (d : Nd) (R7 : Reads w7 (From w.heap.size) r d) :
    ∃ o, (Instr.mapUpdate 84 (.map (some mb)) (.string (bs p)) r.val).run Tryz.prog w7 = .ok () (setBlock w7 mb o) ∧
      Hid (TreeAt (setBlock w7 mb o) (Plus lo w.heap.size) b mb root at_ (putA p d M) ∧ Kept (· = mb) w (setBlock w7 mb o)) := by
  have T7 := T.below B7
  obtain ⟨m, hm, hl⟩ := T7.map
  obtain ⟨lk, hlk⟩ := sv_key (p := p) (by unfold maxLen; omega)
  obtain ⟨o, ho⟩ := hm.update keyStr sv_inj Tryz.underlying84 r hlk
  obtain ⟨h1, h2⟩ := ho w7 rfl
  have hk : Kept (· = mb) w7 (setBlock w7 mb o) := kept_setBlock hm.lt o
  refine ⟨o, h1, Lib.hid ⟨?_, (Kept.ofBelow B7).trans hk⟩⟩
  have hl2 : Like w7 (Plus lo w.heap.size) m M := hl.imp fun _ _ h => h.mono fun k hk => .inl hk
  exact (T7.wide (lo' := Plus lo w.heap.size) (fun k hk => .inl hk)).setMap hk h2 (hl2.put p (R7.mono fun k hk => .inr hk)) T7.ne
set_option maxRecDepth 100000 in
set_option maxHeartbeats 8000000 in
theorem TreeAt.put_any (T : TreeAt w lo b mb root at_ M) (hmx : MaxInt w) (p : Bytes) (hp : p.length ≤ 1000) (r : Raw) (d : Nd) {lr : Nat → Prop} (hr : Reads w lr r d) (hdl : d.data.length ≤ 1000000) :
    Calls Tryz.prog 37 #[.pointer (some ⟨b, 0, none⟩), .string (bs p), r.val] w (PutPost lo b mb root at_ (putM root M p d) w (putE root M p)) := by
  obtain ⟨r1, hroot⟩ : ∃ r1, decide (p = root) = r1 := ⟨_, rfl⟩
  obtain ⟨r2, hpar⟩ : ∃ r2, (getA (parentL p) M).isSome = r2 := ⟨_, rfl⟩
  obtain ⟨r3, his⟩ : ∃ r3, (getA p M).isSome = r3 := ⟨_, rfl⟩
  have hE : putE root M p = if r1 = false ∧ r2 = false then 31 else if r3 = false ∧ 48 ≤ M.length then 36 else 0 := by
    unfold putE
    rw [hpar, his, ← hroot]
    simp
  unfold putM
  rw [hE]
  clear hE
  obtain ⟨rp, hrp, hq⟩ := T.look (p := p) (by unfold maxLen; omega)
  have hpl := parentL_len p hp
  obtain ⟨rq, hrq, hqq⟩ := T.look (p := parentL p) (by unfold maxLen; omega)
  have hbl : b < w.heap.size := lt_of_block T.blk
  obtain ⟨c0, c1, c2⟩ := T.cells
  obtain ⟨a, n, c, ⟨v1, v2, v3, v4, v5, v6, v7, v8⟩⟩ := r
  obtain ⟨a1, n1, c1', ⟨x1, x2, x3, x4, x5, x6, x7, x8⟩⟩ := rp
  obtain ⟨a2, n2, c2', ⟨y1, y2, y3, y4, y5, y6, y7, y8⟩⟩ := rq
  obtain ⟨w1, hw1⟩ : ∃ w1, w1 = w.alloc (.cells #[.slice a n c, .int .u32 v1, .int .u32 v2, .int .u32 v3, .int .i64 v4, .int .u32 v5, .int .u64 v6, .int .u64 v7, .int .u64 v8] 39) := ⟨_, rfl⟩
  have hb1 : Below w.heap.size w w1 := by rw [hw1]; exact belowA (Below.refl _ w) _
  have hs1 : w1.heap.size = w.heap.size + 1 := by rw [hw1]; simp
  have g1 : w1.heap[w.heap.size]? = some (.cells #[.slice a n c, .int .u32 v1, .int .u32 v2, .int .u32 v3, .int .i64 v4, .int .u32 v5, .int .u64 v6, .int .u64 v7, .int .u64 v8] 39 (0, 0)) := by rw [hw1]; exact heap_alloc_new w _
  have T1 := T.below hb1
  have hmb1 : w1.heap[mb]? = w.heap[mb]? := by obtain ⟨m0, hm0, _⟩ := T.map; exact hb1.block _ hm0.lt
  have q1 := hq w1 hmb1
  unfold Raw.val Raw.cells Nums.cells at q1 hqq
  unfold Raw.val Raw.cells Nums.cells
  dsimp only at q1 hqq ⊢
  have c01 : w1.cell? ⟨b, 0, none⟩ = some (.string (bs root)) := T1.cells.1
  have c21 : w1.cell? ⟨b, 2, none⟩ = some (.map (some mb)) := T1.cells.2.2
  obtain ⟨w2, hw2⟩ : ∃ w2, w2 = w1.alloc (.cells #[.slice a1 n1 c1', .int .u32 x1, .int .u32 x2, .int .u32 x3, .int .i64 x4, .int .u32 x5, .int .u64 x6, .int .u64 x7, .int .u64 x8] 39) := ⟨_, rfl⟩
  have hb12 : Below w1.heap.size w1 w2 := by rw [hw2]; exact belowA (Below.refl _ w1) _
  have hb2 : Below w.heap.size w w2 := hb1.trans (hb12.mono hb1.size)
  have g2 : w2.heap[w.heap.size]? = some (.cells #[.slice a n c, .int .u32 v1, .int .u32 v2, .int .u32 v3, .int .i64 v4, .int .u32 v5, .int .u64 v6, .int .u64 v7, .int .u64 v8] 39 (0, 0)) := (hb12.block _ (by omega)).trans g1
  have T2 := T.below hb2
  have e0 : w2.cell? ⟨b, 0, none⟩ = some (.string (bs root)) := T2.cells.1
  have e2 : w2.cell? ⟨b, 2, none⟩ = some (.map (some mb)) := T2.cells.2.2
  have hbl2 : b < w2.heap.size := lt_of_block T2.blk
  have HQQ := Lib.hid hqq
  have HPAR := Lib.hid (always_parent (hmx.kept hb2) p hp)
  have hmb2 : w2.heap[mb]? = w.heap[mb]? := by obtain ⟨m0, hm0, _⟩ := T.map; exact hb2.block _ hm0.lt
  have hmbl : mb < w2.heap.size := by obtain ⟨m0, hm0, _⟩ := T2.map; exact hm0.lt
  have HMB2 := Lib.hid hmb2
  have HB2 := Lib.hid hb2
  have HT := Lib.hid T
  have HG2 := Lib.hid g2
  have HW1 := Lib.hid hw1
  have HW2 := Lib.hid hw2
  have HR := Lib.hid hr
  obtain ⟨ne1, ne2⟩ := neq_of hroot
  rw [hw1] at q1
  rw [his] at q1
  rw [hpar] at HQQ
  clear his hpar hq hqq hw1 hw2 hb1 hb12 hb2 hs1 g1 g2 T1 T2 hmb1 hmb2 T hrp hrq hr hpl hmx c1 hroot c01 c21
  go_enter Tryz.func37, Tryz.ntmps37
  go_wp2_with fail
  rw [← HW1.out, ← HW2.out]
  clear c0 c2 q1
  go_cut [10] (fun t10 wc => CutP w2 r2 t10 wc)
  case first =>
    go_region_with (go_at_call 47; refine (HPAR.out _ (by first | exact (Below.refl _ _).drew | exact (Below.refl _ _).drew.alloc (Nat.le_refl _) _)).mono ?_; rintro e w5 ⟨rfl, B5⟩; have B5w : Below w2.heap.size w2 w5 := (by first | exact drewA1 B5 | exact drewA2 B5); have ct : w5.cell? ⟨b, 2, none⟩ = some (.map (some mb)) := (B5w.cell (p := ⟨b, 2, none⟩) hbl2).trans e2; have hbl5 := Nat.lt_of_lt_of_le hbl2 B5w.size; have hm5 : w5.heap[mb]? = w.heap[mb]? := (B5w.block mb hmbl).trans HMB2.out; have q5 := HQQ.out w5 hm5; have q6 := (fun o => HQQ.out (w5.alloc o) ((heap_alloc_old _ _ (Nat.lt_of_lt_of_le hmbl B5w.size)).trans hm5)); (first | (have hn9 := nineA B5; obtain ⟨k0, k1, k2, k3, k4, k5, k6, k7, k8⟩ := nine hn9; have kf := frozen0 hn9; clear hn9) | skip))
    all_goals
      have X5 := Lib.hid B5w
      clear B5 B5w hm5 q5 q6 ct
      go_wp2
      go_meet
      case rel =>
        refine ⟨rfl, ?_⟩
        have hs5 := X5.out.size
        repeat (first | (with_reducible exact X5.out) | (with_reducible refine below_setAt ?_ _ _) | (with_reducible refine Below.alloc ?_ hs5 _))
  case rest =>
    obtain ⟨rfl, hb26⟩ := hcut
    have hb06 : Below w.heap.size w wc := HB2.out.trans (hb26.mono HB2.out.size)
    have f0 : wc.cell? ⟨b, 0, none⟩ = some (.string (bs root)) := (hb26.cell (p := ⟨b, 0, none⟩) hbl2).trans e0
    have f2 : wc.cell? ⟨b, 2, none⟩ = some (.map (some mb)) := (hb26.cell (p := ⟨b, 2, none⟩) hbl2).trans e2
    have HT6 := Lib.hid (HT.out.below hb06)
    have hlt26 : w.heap.size < w2.heap.size := lt_of_block HG2.out
    have HG6 := Lib.hid ((hb26.block _ hlt26).trans HG2.out)
    have HB6 := Lib.hid hb06
    have HR6 := Lib.hid (HR.out.below hb06)
    clear hb26 hb06 e0 e2
    have HMl := Lib.hid HT6.out.map
    obtain ⟨m6, hm6, hl6⟩ := HMl.out
    have ql := fun ty => hm6.run_len Tryz.underlying84 ty
    rw [hl6.len] at ql
    clear HMl hm6 hl6
    have hcase : (r1 = false ∧ r2 = false) ∨ ((r1 = true ∨ r1 = false ∧ r2 = true) ∧ r3 = false ∧ 48 ≤ M.length) ∨ ((r1 = true ∨ r1 = false ∧ r2 = true) ∧ r3 = true) ∨ ((r1 = true ∨ r1 = false ∧ r2 = true) ∧ r3 = false ∧ M.length < 48) := by
      cases r1 <;> cases r2 <;> cases r3 <;> simp <;> omega
    rcases hcase with ⟨rfl, rfl⟩ | ⟨hr, rfl, hf⟩ | ⟨hr, rfl⟩ | ⟨hr, rfl, hf⟩
    · simp only [Bool.not_false, Bool.not_true] at ne2
      go_wp2
      go_ret
      exact ⟨rfl, by simpa using HT6.out.wide (fun k h => .inl h), Kept.ofBelow HB6.out⟩
    · have hfd : decide ((48 : Int) ≤ (M.length : Int)) = true := by simpa using (by omega : (48 : Int) ≤ (M.length : Int))
      have HF := Lib.hid hf
      clear hf
      rcases hr with rfl | ⟨rfl, rfl⟩
      all_goals
        simp only [Bool.not_false, Bool.not_true] at ne2
        go_wp2
        go_ret
        exact ⟨by simp [HF.out], by simpa [HF.out] using HT6.out.wide (fun k h => .inl h), Kept.ofBelow HB6.out⟩
    · rcases hr with rfl | ⟨rfl, rfl⟩
      all_goals
        simp only [Bool.not_false, Bool.not_true] at ne2
        go_wp2_with fail
        obtain ⟨k0, k1, k2, k3, k4, k5, k6, k7, k8⟩ := nine HG6.out
        have hbl6 : b < wc.heap.size := lt_of_block HT6.out.blk
        have hlt6 : w.heap.size < wc.heap.size := lt_of_block HG6.out
        have HOWN := Lib.hid (own_any wc.drew lr ⟨a, n, c, ⟨v1, v2, v3, v4, v5, v6, v7, v8⟩⟩ d ⟨HR6.out.num, HR6.out.len, HR6.out.data, HR6.out.nil⟩ hdl)
        have HHP := Lib.hid hp
        clear hp hdl ql ne1 ne2 f0
        go_region_with (go_at_call 38; refine HOWN.out.mono ?_; rintro e w7 ⟨r9, rfl, R7, B7, _⟩; have B7w := drewA1 B7; have j2 : w7.cell? ⟨b, 2, none⟩ = some (.map (some mb)) := (B7w.cell (p := ⟨b, 2, none⟩) hbl6).trans f2; obtain ⟨o7, q7, HX⟩ := HT6.out.setAt p HHP.out B7w r9 d R7; clear R7 B7w)
        all_goals
          clear B7 q7 j2
          go_wp2
          go_ret
          exact ⟨rfl, by simpa using HX.out.1.wide (fun k h => h.imp_right (Nat.le_trans HB6.out.size)), (Kept.ofBelow HB6.out).trans HX.out.2⟩
    · have hfd : decide ((48 : Int) ≤ (M.length : Int)) = false := by simpa using (by omega : (M.length : Int) < 48)
      have HF := Lib.hid hf
      have hn48 : ¬ 48 ≤ M.length := by omega
      have HF2 := Lib.hid hn48
      clear hf hn48
      rcases hr with rfl | ⟨rfl, rfl⟩
      all_goals
        simp only [Bool.not_false, Bool.not_true] at ne2
        go_wp2_with fail
        obtain ⟨k0, k1, k2, k3, k4, k5, k6, k7, k8⟩ := nine HG6.out
        have hbl6 : b < wc.heap.size := lt_of_block HT6.out.blk
        have hlt6 : w.heap.size < wc.heap.size := lt_of_block HG6.out
        have HOWN := Lib.hid (own_any wc.drew lr ⟨a, n, c, ⟨v1, v2, v3, v4, v5, v6, v7, v8⟩⟩ d ⟨HR6.out.num, HR6.out.len, HR6.out.data, HR6.out.nil⟩ hdl)
        have HHP := Lib.hid hp
        clear hp hdl ql ne1 ne2 f0
        go_region_with (go_at_call 38; refine HOWN.out.mono ?_; rintro e w7 ⟨r9, rfl, R7, B7, _⟩; have B7w := drewA1 B7; have j2 : w7.cell? ⟨b, 2, none⟩ = some (.map (some mb)) := (B7w.cell (p := ⟨b, 2, none⟩) hbl6).trans f2; obtain ⟨o7, q7, HX⟩ := HT6.out.setAt p HHP.out B7w r9 d R7; clear R7 B7w)
        all_goals
          clear B7 q7 j2
          go_wp2
          go_ret
          exact ⟨by simp [HF2.out], by simpa [HF2.out] using HX.out.1.wide (fun k h => h.imp_right (Nat.le_trans HB6.out.size)), (Kept.ofBelow HB6.out).trans HX.out.2⟩
end
end Go.Proofs.YtnclkfhdpkkakaaGreatDoor
