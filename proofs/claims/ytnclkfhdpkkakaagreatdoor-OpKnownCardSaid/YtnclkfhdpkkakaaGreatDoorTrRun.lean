/-
  The reference's Texts: are two lists of texts the same?, walked.
  A tree in a run: one bundle; its methods.
-/
import Derived.Test.YtnclkfhdpkkakaaGreatDoorRowsOpen
import Derived.Test.YtnclkfhdpkkakaaGreatDoorExt
import Derived.Test.YtnclkfhdpkkakaaGreatDoorTrSame
import Derived.Laws.IdiomStrings
import Derived.Laws.BytesArg
namespace Go.Proofs.YtnclkfhdpkkakaaGreatDoor
set_option linter.unusedVariables false
set_option linter.unusedSimpArgs false
open Go.RowKit

set_option maxRecDepth 100000 in
set_option maxHeartbeats 2000000 in
theorem texts_any (a b : Option Addr) (c d B1 B2 : Nat) (L M : List Bytes) (w : World) (hl : L.length ≤ 1000) (hm : M.length ≤ 1000) (S1 : StrSl w B1 a L) (S2 : StrSl w B2 b M) :
    Calls Tryz.prog 24 #[.slice a L.length c, .slice b M.length d] w fun e w' => e = .returned (.bool (decide (L = M))) ∧ ∃ q, w' = w.drewN q := by
  obtain ⟨R, hR⟩ : ∃ R, R = decide (L = M) := ⟨_, rfl⟩
  rw [← hR]
  have HR := Lib.hid hR
  have X1 := Lib.hid S1
  have X2 := Lib.hid S2
  clear hR S1 S2
  obtain ⟨n, hn⟩ : ∃ n, n = L.length := ⟨_, rfl⟩
  obtain ⟨k, hk⟩ : ∃ k, k = M.length := ⟨_, rfl⟩
  have HN := Lib.hid hn
  have HK := Lib.hid hk
  rw [← hn] at hl ⊢
  rw [← hk] at hm ⊢
  clear hn hk
  by_cases hle : n = k
  · have HE := Lib.hid hle
    have t0 : ((n : Int) != (k : Int)) = false := by rw [hle]; simp
    clear hle
    go_enter Tryz.func24, Tryz.ntmps24
    go_wp2
    go_loopw [5] (fun i wr => ∃ m : Nat, m ≤ n ∧ i = .int .i64 m ∧ Hid (L.take m = M.take m) ∧ ∃ q, wr = w.drewN q) (fun i _ => n - (intOf i).toNat)
    case atStart => exact ⟨0, by omega, rfl, Lib.hid rfl, 0, rfl⟩
    case round =>
      obtain ⟨m, hm, rfl, HT0, q, rfl⟩ := hrel
      by_cases hlt : m < n
      · have hlt2 : m < k := by rw [← HE.out]; exact hlt
        obtain ⟨x, hx⟩ : ∃ x, L[m]? = some x := ⟨_, List.getElem?_eq_getElem (by rw [← HN.out]; exact hlt)⟩
        obtain ⟨y, hy⟩ : ∃ y, M[m]? = some y := ⟨_, List.getElem?_eq_getElem (by rw [← HK.out]; exact hlt2)⟩
        obtain ⟨g, off, rfl, _, hc1⟩ := X1.out m x hx
        obtain ⟨g2, off2, rfl, _, hc2⟩ := X2.out m y hy
        have HT := Lib.hid (take_step L M m x y hx hy HT0.out)
        by_cases hxy : x = y
        · subst hxy
          have HE2 := Lib.hid (HT.out.2 rfl)
          have ht : ((bs x).toList == (bs x).toList) = true := by simp
          clear hx hy HT
          go_wp2
          go_quiet (fail)
          go_wp2
          go_roundw
          case rel => exact ⟨m + 1, by omega, by go_num, HE2, _, rfl⟩
          case measure => simp [intOf]; omega
        · have ht : ((bs x).toList == (bs y).toList) = false := by
            rw [toList_bs, toList_bs]
            simpa using hxy
          have hrf : R = false := by
            rw [HR.out]
            have : ¬ L = M := fun e => by
              apply hxy
              rw [e, hy] at hx
              exact (Option.some.inj hx).symm
            simp [this]
          subst hrf
          clear hx hy HT hxy
          go_wp2
          go_quiet (fail)
          go_wp2
          go_ret
          exact ⟨rfl, _, World.drewN_drewN _ _ _⟩
      · obtain rfl : m = n := by omega
        have hrt : R = true := by
          rw [HR.out]
          have h1 := HT0.out
          rw [HN.out, List.take_length, ← HN.out, HE.out, HK.out, List.take_length] at h1
          simp [h1]
        subst hrt
        go_wp2
        go_ret
        exact ⟨rfl, _, rfl⟩
  · have t0 : ((n : Int) != (k : Int)) = true := by
      rw [bne_iff_ne]
      omega
    have hrf : R = false := by
      rw [HR.out]
      have : ¬ L = M := fun e => hle (by rw [HN.out, HK.out, e])
      simp [this]
    subst hrf
    clear hle
    go_enter Tryz.func24, Tryz.ntmps24
    go_wp2
    go_ret
    exact ⟨rfl, 0, rfl⟩
end Go.Proofs.YtnclkfhdpkkakaaGreatDoor

namespace Go.Proofs.YtnclkfhdpkkakaaGreatDoor
set_option linter.unusedVariables false
set_option linter.unusedSimpArgs false
set_option linter.unusedVariables false
set_option linter.unusedSimpArgs false
open Go Go.RowKit Go.Shelf Go.MapKept Go.ChangeMaps Go.Maps Go.Sort

/-- 'string(b)'. -/
theorem conv_any {w : World} {lo : Nat → Prop} {hi : Nat} {a : Option Addr} {D : Bytes} {c : Nat} (h : ByteSl w lo hi a D) (hn : a = none → D = [] ∧ c = 0) : (convert 23 9 (.slice a D.length c)).run Tryz.prog w = .ok (.string (bs D)) w := by
  cases a with
  | none =>
    obtain ⟨rfl, rfl⟩ := hn rfl
    exact run_convert_bytes_nil w 23 5 Tryz.underlying23 Tryz.underlying5 0 0 9 Tryz.underlying9
  | some ad =>
    refine run_convert_bytes_back w 23 9 5 ad c D Tryz.underlying23 Tryz.underlying5 Tryz.underlying9 fun j hj => ?_
    obtain ⟨b, off, e, _, _, h4⟩ := h j D[j] (List.getElem?_eq_getElem hj)
    cases e
    rw [Addr.add_mid]
    exact h4
theorem RowC.sl {w : World} {base : Nat} {a : Option Addr} {n c : Nat} {L : List Bytes} (h : RowC w base (.slice a n c) L) : n = L.length ∧ StrSl w w.heap.size a L := by
  rcases h with ⟨h1, rfl⟩ | ⟨g, cap, h1, h2, h3, h4, h5⟩
  · cases h1
    exact ⟨rfl, StrSl.nil _ _ _⟩
  · cases h1
    refine ⟨rfl, fun k p hk => ⟨g, 0, rfl, h3, ?_⟩⟩
    rw [Nat.zero_add]
    exact h5 k p hk
/-- A tree, in a call that began at w0. -/
structure TR (w0 w : World) (b : Nat) (root : Bytes) (at_ : Int) (M : List (Bytes × Nd)) : Prop where
  tree : ∃ lo mb, TreeAt w lo b mb root at_ M
  bl : Below w0.heap.size w0 w
  hb : w0.heap.size ≤ b
  fit : Fit M
  rl : root.length ≤ 1000
  hm : MaxInt w0
/-- What a tree is behind effects. -/
def atA (root : Bytes) (at_ : Int) (M : List (Bytes × Nd)) (E : List Eff) : Int := if (applyA root M E).1 = 0 then at_ + 1 else at_
def nodesA (root : Bytes) (M : List (Bytes × Nd)) (E : List Eff) : List (Bytes × Nd) := if (applyA root M E).1 = 0 then (applyA root M E).2 else M
theorem Fit.nodes {root : Bytes} {M : List (Bytes × Nd)} {E : List Eff} (h : Fit M) (hE : ∀ e ∈ E, FitE e) : Fit (nodesA root M E) := by
  unfold nodesA
  split
  · exact h.all hE
  · exact h
section
variable {w0 w : World} {b b2 : Nat} {root root2 : Bytes} {at_ at2 : Int} {M M2 : List (Bytes × Nd)}
theorem TR.lt (R : TR w0 w b root at_ M) : b < w.heap.size := by
  obtain ⟨lo, mb, T⟩ := R.tree
  exact lt_of_block T.blk
theorem TR.max (R : TR w0 w b root at_ M) : MaxInt w := R.hm.kept R.bl
theorem TR.below (R : TR w0 w b root at_ M) {w' : World} (hb : Below w.heap.size w w') : TR w0 w' b root at_ M := by
  obtain ⟨lo, mb, T⟩ := R.tree
  exact ⟨⟨lo, mb, T.below hb⟩, R.bl.trans (hb.mono R.bl.size), R.hb, R.fit, R.rl, R.hm⟩
theorem TR.short (R : TR w0 w b root at_ M) : M.length ≤ 1000 := Nat.le_trans R.fit.len (by omega)
/-- Another tree is turned. -/
theorem TR.other (R : TR w0 w b root at_ M) (R2 : TR w0 w b2 root2 at2 M2) (hne : b ≠ b2) {w' : World} (hk : Kept (· = b2) w w') : TR w0 w' b root at_ M := by
  obtain ⟨lo, mb, T⟩ := R.tree
  obtain ⟨lo2, mb2, T2⟩ := R2.tree
  obtain ⟨m, hm, hl⟩ := T.map
  have hbm : mb ≠ b2 := fun e => by
    obtain ⟨es, c, h1, _⟩ := hm
    rw [e, T2.blk] at h1
    cases h1
  exact ⟨⟨lo, mb, ⟨(hk.block b (lt_of_block T.blk) hne).trans T.blk, m, hm.of_block (hk.block _ hm.lt hbm), hl.imp fun r d h => h.turn T2.blk hk⟩⟩, R.bl.trans (hk.below R.bl.size (fun k h => by have := R2.hb; omega)), R.hb, R.fit, R.rl, R.hm⟩
theorem TR.new (hb : Below w0.heap.size w0 w) (hm : MaxInt w0) (hl : root.length ≤ 1000) (h : (partsL root).isSome = true) :
    Calls Tryz.prog 27 #[.string (bs root)] w fun e w' => ∃ b, e = .returned (.tuple #[.pointer (some ⟨b, 0, none⟩), .int .i64 0]) ∧ TR w0 w' b root 0 [(root, zNd)] ∧ w.heap.size ≤ b ∧ Below w.heap.size w w' :=
  (new_yes root w (hm.kept hb) hl h).mono fun e w' ⟨b, mb, he, T, h1, h2, h3, h4⟩ => ⟨b, he, ⟨⟨_, mb, T⟩, hb.trans (h4.mono hb.size), Nat.le_trans hb.size h1, ⟨by simp, by simpa using hl, by simp [zNd]⟩, hl, hm⟩, h1, h4⟩
theorem TR.clone (R : TR w0 w b root at_ M) :
    Calls Tryz.prog 23 #[.pointer (some ⟨b, 0, none⟩)] w fun e w' => ∃ b', e = .returned (.pointer (some ⟨b', 0, none⟩)) ∧ TR w0 w' b' root at_ M ∧ w.heap.size ≤ b' ∧ Below w.heap.size w w' := by
  obtain ⟨lo, mb, T⟩ := R.tree
  exact T.clone_any.mono fun e w' ⟨b', mb', he, T', h1, h2, h3, h4⟩ => ⟨b', he, ⟨⟨lo, mb', T'⟩, R.bl.trans (h4.mono R.bl.size), Nat.le_trans R.bl.size h1, R.fit, R.rl, R.hm⟩, h1, h4⟩
theorem TR.at_any (R : TR w0 w b root at_ M) : Calls Tryz.prog 17 #[.pointer (some ⟨b, 0, none⟩)] w fun e w' => e = .returned (.int .u64 at_) ∧ w = w' := by
  obtain ⟨lo, mb, T⟩ := R.tree
  exact T.at_any.mono fun e w' ⟨h1, h2⟩ => ⟨h1, h2.symm⟩
theorem TR.get (R : TR w0 w b root at_ M) (p : Bytes) (hp : p.length ≤ maxLen) :
    Calls Tryz.prog 19 #[.pointer (some ⟨b, 0, none⟩), .string (bs p)] w fun e w' => ∃ r : Raw, e = .returned (.tuple #[r.val, .bool (getA p M).isSome]) ∧ Reads w' (From w.heap.size) r ((getA p M).getD zNd) ∧ Below w.heap.size w w' ∧ Free w.heap.size w' r.a := by
  obtain ⟨lo, mb, T⟩ := R.tree
  exact T.get_any p hp R.fit.data
theorem TR.paths (R : TR w0 w b root at_ M) :
    Calls Tryz.prog 26 #[.pointer (some ⟨b, 0, none⟩)] w fun e w' => ∃ a c, e = .returned (.slice a M.length c) ∧ StrSl w' w'.heap.size a (keysS M) ∧ Below w.heap.size w w' := by
  obtain ⟨lo, mb, T⟩ := R.tree
  refine (T.paths_any R.short R.fit.path).mono ?_
  rintro e w' ⟨v, rfl, hr, hb⟩
  obtain ⟨a, c, rfl, _⟩ := hr.c.form
  exact ⟨a, c, by rw [keysS_len], hr.c.sl.2, hb⟩
theorem TR.kids (R : TR w0 w b root at_ M) (p : Bytes) :
    Calls Tryz.prog 28 #[.pointer (some ⟨b, 0, none⟩), .string (bs p)] w fun e w' => ∃ a c, e = .returned (.slice a (kidsS root M p).length c) ∧ StrSl w' w'.heap.size a (kidsS root M p) ∧ Below w.heap.size w w' := by
  obtain ⟨lo, mb, T⟩ := R.tree
  refine (T.kids_any R.short R.max R.fit.path p).mono ?_
  rintro e w' ⟨v, rfl, hr, hb⟩
  obtain ⟨a, c, rfl, _⟩ := hr.form
  exact ⟨a, c, rfl, hr.sl.2, hb⟩
theorem TR.apply (R : TR w0 w b root at_ M) (h0 : 0 ≤ at_) (h1 : at_ ≤ 1000000000) (ao : Option Addr) (cap : Nat) (L : List RawE) (E : List Eff) {lr : Nat → Prop}
    (hL : LikeE w lr L E) (hA : EffsAt w w.heap.size ao L) (hE : ∀ e ∈ E, FitE e) (hbig : L.length ≤ 1000000) :
    Calls Tryz.prog 18 #[.pointer (some ⟨b, 0, none⟩), .slice ao L.length cap] w fun e w' => e = .returned (.int .i64 (applyA root M E).1) ∧ TR w0 w' b root (atA root at_ M E) (nodesA root M E) ∧ Kept (· = b) w w' := by
  obtain ⟨lo, mb, T⟩ := R.tree
  refine (T.apply_any R.max R.fit R.rl h0 h1 ao cap L E hL hA hE hbig).mono ?_
  rintro e w' ⟨mb', rfl, T', hk⟩
  exact ⟨rfl, ⟨⟨_, mb', T'⟩, R.bl.trans (hk.below R.bl.size (fun k h => by have := R.hb; omega)), R.hb, R.fit.nodes hE, R.rl, R.hm⟩, hk⟩
theorem TR.same (R : TR w0 w b root at_ M) (R2 : TR w0 w b2 root2 at2 M2) :
    Calls Tryz.prog 31 #[.pointer (some ⟨b, 0, none⟩), .pointer (some ⟨b2, 0, none⟩)] w fun e w' => e = .returned (.bool (sameT root at_ M root2 at2 M2)) ∧ Below w.heap.size w w' := by
  obtain ⟨lo, mb, T⟩ := R.tree
  obtain ⟨lo2, mb2, T2⟩ := R2.tree
  exact T.same_any T2 R.fit R2.fit
end
/-! effects that the call has built -/
theorem effs_one (w : World) (r : RawE) : EffsAt (w.alloc (.cells r.cells.toArray 88)) (w.alloc (.cells r.cells.toArray 88)).heap.size (some ⟨w.heap.size, 0, none⟩) [r] := by
  intro k q hk
  have hk0 : k = 0 := by have := (List.getElem?_eq_some_iff.1 hk).1; simp at this; exact this
  subst hk0
  simp at hk
  subst hk
  refine ⟨w.heap.size, 0, rfl, by simp, fun j v hv => ?_⟩
  rw [show 0 + 0 * 11 + j = j by omega, cell_of_row _ _ j _ 88 (0, 0) (heap_alloc_new w _)]
  simpa using hv
theorem rawE_len (r : RawE) : r.cells.length = 11 := rfl
theorem effs_two (w : World) (r s : RawE) : EffsAt (w.alloc (.cells (r.cells ++ s.cells).toArray 88)) (w.alloc (.cells (r.cells ++ s.cells).toArray 88)).heap.size (some ⟨w.heap.size, 0, none⟩) [r, s] := by
  intro k q hk
  rcases (show k = 0 ∨ k = 1 by have := (List.getElem?_eq_some_iff.1 hk).1; simp at this; omega) with rfl | rfl
  · simp at hk
    subst hk
    refine ⟨w.heap.size, 0, rfl, by simp, fun j v hv => ?_⟩
    rw [show 0 + 0 * 11 + j = j by omega, cell_of_row _ _ j _ 88 (0, 0) (heap_alloc_new w _)]
    have hj := (List.getElem?_eq_some_iff.1 hv).1
    simpa [List.getElem?_append_left hj] using hv
  · simp at hk
    subst hk
    refine ⟨w.heap.size, 0, rfl, by simp, fun j v hv => ?_⟩
    rw [show 0 + 1 * 11 + j = 11 + j by omega, cell_of_row _ _ (11 + j) _ 88 (0, 0) (heap_alloc_new w _)]
    have : (r.cells ++ s.cells)[11 + j]? = some v := by rw [List.getElem?_append_right (by rw [rawE_len]; omega), rawE_len, show 11 + j - 11 = j by omega]; exact hv
    simpa using this
theorem like_one {w : World} {lo : Nat → Prop} {r : RawE} {e : Eff} (h : ReadsE w lo r e) : LikeE w lo [r] [e] := ⟨rfl, fun k r' e' h1 h2 => by
  have hk0 : k = 0 := by have := (List.getElem?_eq_some_iff.1 h1).1; simp at this; exact this
  subst hk0
  simp at h1 h2
  subst h1 h2
  exact h⟩
theorem like_two {w : World} {lo : Nat → Prop} {r s : RawE} {e f : Eff} (h : ReadsE w lo r e) (g : ReadsE w lo s f) : LikeE w lo [r, s] [e, f] := ⟨rfl, fun k r' e' h1 h2 => by
  rcases (show k = 0 ∨ k = 1 by have := (List.getElem?_eq_some_iff.1 h1).1; simp at this; omega) with rfl | rfl
  · simp at h1 h2
    subst h1 h2
    exact h
  · simp at h1 h2
    subst h1 h2
    exact g⟩
end Go.Proofs.YtnclkfhdpkkakaaGreatDoor
