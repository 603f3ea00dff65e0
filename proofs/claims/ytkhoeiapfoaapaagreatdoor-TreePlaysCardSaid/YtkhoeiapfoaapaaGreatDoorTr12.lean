/-
  gone, walked.
-/
import Derived.Test.YtkhoeiapfoaapaaGreatDoorTr11
namespace Go.Proofs.YtkhoeiapfoaapaaGreatDoor
set_option linter.unusedVariables false
set_option linter.unusedSimpArgs false
set_option linter.unusedVariables false
set_option linter.unusedSimpArgs false
open Go Go.RowKit Go.Shelf Go.MapKept Go.ChangeMaps Go.Maps Go.Sort

theorem ByteSl.map {w w' : World} {lo : Nat → Prop} {hi mb : Nat} {a : Option Addr} {D : Bytes} (h : ByteSl w lo hi a D) {es : Array MapEntry} {c : Nat} (hmb : w.heap[mb]? = some (.map es c)) (hk : Kept (· = mb) w w') (hw : hi ≤ w.heap.size) : ByteSl w' lo hi a D := fun j x hj => by
  obtain ⟨b, off, h1, h2, h3, h4⟩ := h j x hj
  refine ⟨b, off, h1, h2, h3, (hk.cell (p := ⟨b, off + j, none⟩) (Nat.lt_of_lt_of_le h3 hw) (fun e => ?_)).trans h4⟩
  have e : b = mb := e
  subst e
  simp [World.cell?, hmb] at h4
theorem Reads.map {w w' : World} {lo : Nat → Prop} {mb : Nat} {r : Raw} {d : Nd} (h : Reads w lo r d) {es : Array MapEntry} {c : Nat} (hmb : w.heap[mb]? = some (.map es c)) (hk : Kept (· = mb) w w') : Reads w' lo r d :=
  ⟨h.num, h.len, (h.data.map hmb hk (Nat.le_refl _)).mono (fun _ h => h) hk.size, h.nil⟩
/-- Whether a node may go; what is left. -/
def goneE (root : Bytes) (M : List (Bytes × Nd)) (p : Bytes) : Int := if p = root then 30 else if (getA p M).isSome = false then 31 else if 0 < (kidsS root M p).length then 33 else 0
def goneM (root : Bytes) (M : List (Bytes × Nd)) (p : Bytes) : List (Bytes × Nd) := if goneE root M p = 0 then delA p M else M
section
variable {w : World} {lo : Nat → Prop} {b mb : Nat} {root : Bytes} {at_ : Int} {M : List (Bytes × Nd)}
/-- The tree stands where its map's block is put anew. -/
theorem TreeAt.setMap (T : TreeAt w lo b mb root at_ M) {m : List (Bytes × Raw)} {M' : List (Bytes × Nd)} {w' : World} (hk : Kept (· = mb) w w') (hm : HasMap Tryz.prog 9 sv Raw.val w' mb m) (hl : Like w lo m M') (hbm : b ≠ mb) : TreeAt w' lo b mb root at_ M' := by
  obtain ⟨m0, hm0, _⟩ := T.map
  obtain ⟨es, c, he, _⟩ := hm0
  exact ⟨(hk.block b (lt_of_block T.blk) hbm).trans T.blk, m, hm, hl.imp fun r d h => h.map he hk⟩
theorem TreeAt.ne (T : TreeAt w lo b mb root at_ M) : b ≠ mb := fun e => by
  obtain ⟨m0, hm0, _⟩ := T.map
  obtain ⟨es, c, he, _⟩ := hm0
  have := T.blk
  rw [e, he] at this
  cases this
def GonePost (T' : Prop) (e : Ending) (x : Int) (K : Prop) : Prop := e = .returned (.int .i64 x) ∧ T' ∧ K
set_option maxRecDepth 100000 in
set_option maxHeartbeats 4000000 in
theorem TreeAt.gone_any (T : TreeAt w lo b mb root at_ M) (hM : M.length ≤ 1000) (hmx : MaxInt w) (hkl : ∀ x ∈ M, x.1.length ≤ 1000) (p : Bytes) (hp : p.length ≤ 1000) :
    Calls Tryz.prog 22 #[.pointer (some ⟨b, 0, none⟩), .string (bs p)] w fun e w' => e = .returned (.int .i64 (goneE root M p)) ∧ TreeAt w' lo b mb root at_ (goneM root M p) ∧ Kept (· = mb) w w' := by
  obtain ⟨r, hr, hq⟩ := T.look (p := p) (by unfold maxLen; omega)
  have q := hq w rfl
  have hbl : b < w.heap.size := lt_of_block T.blk
  obtain ⟨c0, c1, c2⟩ := T.cells
  obtain ⟨a, n, c, ⟨v1, v2, v3, v4, v5, v6, v7, v8⟩⟩ := r
  unfold Raw.val Raw.cells Nums.cells at q
  dsimp only at q
  obtain ⟨w2, hw2⟩ : ∃ w2, w2 = w.alloc (.cells #[.slice a n c, .int .u32 v1, .int .u32 v2, .int .u32 v3, .int .i64 v4, .int .u32 v5, .int .u64 v6, .int .u64 v7, .int .u64 v8] 39) := ⟨_, rfl⟩
  have hb2 : Below w.heap.size w w2 := by rw [hw2]; exact belowA (Below.refl _ w) _
  have hk2 : Kept (· = mb) w w2 := by rw [hw2]; exact (Kept.refl _ w).alloc _
  have HW2 := Lib.hid hw2
  have d0 : w2.cell? ⟨b, 0, none⟩ = some (.string (bs root)) := (hb2.cell (p := ⟨b, 0, none⟩) hbl).trans c0
  have d2 : w2.cell? ⟨b, 2, none⟩ = some (.map (some mb)) := (hb2.cell (p := ⟨b, 2, none⟩) hbl).trans c2
  have HT := Lib.hid T
  have HT2 := Lib.hid (T.below hb2)
  have HK2 := Lib.hid hk2
  have HM2 := Lib.hid (hmx.kept hb2)
  have t1 := eq_bs p root
  unfold goneM goneE
  clear hq hr hw2 hb2 hk2 hmx T
  by_cases h1 : p = root
  · rw [if_pos h1]
    rw [show decide (p = root) = true by simpa using h1] at t1
    clear h1
    go_enter Tryz.func22, Tryz.ntmps22
    go_wp2_with fail
    rw [← HW2.out]
    go_wp2
    go_ret
    exact ⟨rfl, by simpa using HT2.out, HK2.out⟩
  · rw [if_neg h1]
    rw [show decide (p = root) = false by simpa using h1] at t1
    clear h1
    cases hs : (getA p M).isSome with
    | false =>
      rw [hs] at q
      rw [if_pos rfl]
      have HS := Lib.hid hs
      clear hs
      go_enter Tryz.func22, Tryz.ntmps22
      go_wp2_with fail
      rw [← HW2.out]
      go_wp2
      go_ret
      exact ⟨rfl, by simpa using HT2.out, HK2.out⟩
    | true =>
      rw [hs] at q
      rw [if_neg (by simp)]
      have HS := Lib.hid hs
      have HKIDS := Lib.hid (HT2.out.kids_any hM HM2.out hkl p)
      have hkn : (kidsS root M p).length ≤ 1000 := by
        have h1 : (kidsS root M p).length = _ := (sortS_perm _).length_eq
        have h2 := kids_len root M p
        omega
      have HMM := Lib.hid (And.intro hM hkl)
      clear hs hM hkl
      generalize kidsS root M p = ks at *
      by_cases h0 : 0 < ks.length
      · rw [if_pos h0]
        have h0d : decide ((0 : Int) < (ks.length : Int)) = true := by simpa using h0
        go_enter Tryz.func22, Tryz.ntmps22
        go_wp2_with fail
        rw [← HW2.out]
        go_wp2_with fail
        refine HKIDS.out.mono ?_
        rintro e w3 ⟨v, rfl, hR, B3⟩
        obtain ⟨a3, c3, rfl, _⟩ := hR.form
        have HX := Lib.hid (And.intro hR B3)
        clear hR B3
        go_wp2
        go_ret
        obtain ⟨hR, B3⟩ := HX.out
        refine ⟨rfl, by simpa using HT2.out.below B3, HK2.out.trans ⟨B3.os, B3.tape, B3.output, B3.size, fun k hk _ => B3.block k hk⟩⟩
      · rw [if_neg h0]
        have h0d : decide ((0 : Int) < (ks.length : Int)) = false := by simpa using h0
        go_enter Tryz.func22, Tryz.ntmps22
        go_wp2_with fail
        rw [← HW2.out]
        go_wp2_with fail
        refine HKIDS.out.mono ?_
        rintro e w3 ⟨v, rfl, hR, B3⟩
        obtain ⟨a3, c3, rfl, _⟩ := hR.form
        have hT3 := HT2.out.below B3
        obtain ⟨e0, e1, e2⟩ := hT3.cells
        obtain ⟨m3, hm3, hl3⟩ := hT3.map
        obtain ⟨lk, hlk⟩ := sv_key (p := p) (by unfold maxLen; omega)
        obtain ⟨o, ho⟩ := hm3.drop keyStr sv_inj Tryz.underlying46 hlk
        have qd := fun ty => (ho w3 ty rfl).1
        have hd := (ho w3 0 rfl).2
        unfold sv at qd
        have hks : Kept (· = mb) w3 (setBlock w3 mb o) := kept_setBlock hm3.lt o
        have hT4 := hT3.setMap hks hd (hl3.del p) hT3.ne
        have hk3 : Kept (· = mb) w (setBlock w3 mb o) := (HK2.out.trans ⟨B3.os, B3.tape, B3.output, B3.size, fun k hk _ => B3.block k hk⟩).trans hks
        have HX := Lib.hid (And.intro hT4 hk3)
        clear hR B3 hT3 e0 e1 hm3 hl3 hlk ho hd hks hT4 hk3
        go_wp2
        go_ret
        obtain ⟨hT4, hk3⟩ := HX.out
        exact ⟨rfl, by simpa using hT4, hk3⟩
end
end Go.Proofs.YtkhoeiapfoaapaaGreatDoor
