/-
  BallotCommits, walked.
-/
import Derived.Test.YtoddbmbifgoliaaRefC
import Derived.Below
import Derived.ProofKit
import Derived.OwnWalk
import Derived.Outline
namespace Go.Proofs.Ytoddbmbifgoliaa
open Go.RowKit
theorem info3 : (Try.prog.info? 3).map (fun i => (i.zero, i.size, i.bytes)) = some (some (.int .i64 0), 1, 8) := by kernel_rfl

theorem fits_get {L : List Int} {j : Nat} {u : Value} (h : (L.map (Value.int .i64))[j]? = some u) : j < L.length ∧ u = .int .i64 (L.getD j 0) := by
  obtain ⟨hj, rfl⟩ := List.getElem?_eq_some_iff.1 h
  have hj' : j < L.length := by simpa using hj
  exact ⟨hj', by simp [List.getD_eq_getElem?_getD, List.getElem?_eq_getElem hj']⟩
theorem owned_form {w : World} {base : Nat} {v : Value} {n : Nat} {L : List Int} (h : w.ownsRow base 3 1 v n (L.map (Value.int .i64))) (hn : 0 < L.length) :
    ∃ g cap, v = .slice (some ⟨g, 0, none⟩) L.length cap ∧ base ≤ g ∧ g < w.heap.size ∧ ∀ j, j < L.length → w.cell? ⟨g, j, none⟩ = some (.int .i64 (L.getD j 0)) := by
  have hl : L.length = n := by have := h.1; simpa using this
  subst hl
  obtain ⟨hx, ⟨rfl, h0⟩ | ⟨g, cap, cur, rfl, hbg, hg, hnc, hcm, hsz, htk⟩⟩ := h
  · omega
  · refine ⟨g, cap, rfl, hbg, (Array.getElem?_eq_some_iff.1 hg).1, fun j hj => ?_⟩
    have hcs := World.ownsRow.cells (w := w) (base := base) (e := 3) (size := 1) ⟨hx, .inr ⟨g, cap, cur, rfl, hbg, hg, hnc, hcm, hsz, htk⟩⟩ (g := g) rfl j (.int .i64 (L.getD j 0)) (by simp [List.getD_eq_getElem?_getD, List.getElem?_eq_getElem hj])
    rw [Addr.add_lit] at hcs
    simpa using hcs

set_option maxRecDepth 100000 in
set_option maxHeartbeats 4000000 in
theorem commits_some (b off c : Nat) (L : List Int) (w : World) (hbig : L.length ≤ 200) (hpos : 0 < L.length) (hc : ∀ j, j < L.length → w.cell? ⟨b, off + j, none⟩ = some (.int .i64 (L.getD j 0)))
    (hcommit : ∀ (g cap : Nat) (W : World), (∀ j, j < L.length → W.cell? ⟨g, j, none⟩ = some (.int .i64 (L.getD j 0))) → Calls Try.prog 15 #[.slice (some ⟨g, 0, none⟩) L.length cap] W fun e w' => e = .returned (.int .i64 (midOf L)) ∧ Below W.heap.size W w')
    (hcounts : ∀ w, Calls Try.prog 14 #[] w fun e w' => e = .returned (.bool true) ∧ Below w.heap.size w w') :
    Calls Try.prog 4 #[.slice (some ⟨b, off, none⟩) L.length c] w fun e w' => e = .returned (.bool true) ∧ Below w.heap.size w w' := by
  have hb : b < w.heap.size := World.block_lt_of_cell? w _ (hc 0 hpos)
  have HC := Lib.hid hc
  clear hc
  obtain ⟨i0, hi, hz0, hz1, hz2⟩ := info_parts info3
  have hR : ∀ W : World, (∀ j, j < L.length → W.cell? ⟨b, off + j, none⟩ = some (.int .i64 (L.getD j 0))) → Calls Try.prog 16 #[.slice (some ⟨b, off, none⟩) L.length c] W fun e w' => e = .returned (.int .i64 (midOf L)) ∧ ∃ q, w' = W.drewN q :=
    fun W h => by rw [← fold_mid L hpos]; exact refCommit_some b off c L W (by omega) h
  have HM := Lib.hid hcommit
  have HR := Lib.hid hR
  clear hcommit hR
  generalize midOf L = v at *
  have hlp : ∀ j u, (L.map (Value.int .i64))[j]? = some u → (w.alloc (.cells #[] 3)).cell? ((⟨b, off, none⟩ : Addr).add j) = some u := by
    intro j u hu
    obtain ⟨hj, rfl⟩ := fits_get hu
    rw [Addr.add_lit]
    exact (World.cell?_alloc_past _ _ _ (by simpa using hb)).trans (HC.out j hj)
  have HL := Lib.hid hlp
  clear hlp
  have HN := Lib.hid (show (L.map (Value.int .i64)).length = L.length * 1 by simp)
  have h63 : 0 + L.length ≤ maxLen := by unfold maxLen; omega
  have hby : (0 + L.length) * 8 ≤ 140737488355328 := by omega
  go_enter Try.func4, Try.ntmps4
  go_wp2_with (at_builtin; refine wpList_append_own _ rfl _ _ 29 rfl w.heap.size 3 i0 (.int .i64 0) 1 8 Try.underlying29 hi hz0 hz1 hz2 rfl (by decide) _ _ _ rfl (World.ownsRow_made w #[] 0 (Nat.le_refl _) (by decide) rfl) ⟨b, off, none⟩ L.length c (L.map (Value.int .i64)) rfl HN.out HL.out (ints_oneCell .i64 L) h63 hby (by simp) ?_; intro v1 w1 hown hgrow _)
  obtain ⟨g, cap, hv, hbg, hgl, hcells⟩ := owned_form (w := w1) (base := w.heap.size) (n := 0 + L.length) (by simpa using hown) hpos
  rw [hv]
  clear hown hv
  have hBel : Below w.heap.size w w1 := ((Below.refl _ w).alloc (Nat.le_refl _) _).grown hgrow (by simp) (fun k hk => by cases hk; exact Nat.le_refl _)
  have HA := Lib.hid hcells
  have HB := Lib.hid hBel
  clear hcells hBel hgrow
  refine (HM.out g cap w1 HA.out).mono ?_
  rintro e w2 ⟨rfl, B2⟩
  have HA2 := Lib.hid (show ∀ j, j < L.length → w2.cell? ⟨g, j, none⟩ = some (.int .i64 (L.getD j 0)) from fun j hj => (B2.cell (p := ⟨g, j, none⟩) hgl).trans (HA.out j hj))
  have HB2 := Lib.hid (HB.out.trans (B2.mono HB.out.size))
  have HC2 := Lib.hid (show ∀ j, j < L.length → w2.cell? ⟨b, off + j, none⟩ = some (.int .i64 (L.getD j 0)) from fun j hj => (HB2.out.cell (p := ⟨b, off + j, none⟩) hb).trans (HC.out j hj))
  clear HA HB HC HM HL B2 HN
  obtain ⟨N, hN⟩ : ∃ N, N = L.length := ⟨_, rfl⟩
  rw [← hN] at hbig hpos HC2 HA2 HR ⊢
  clear hN h63 hby
  go_wp2_with fail
  go_loopw [5] (fun i wr => ∃ k : Nat, k ≤ N ∧ i = .int .i64 k ∧ ∃ q, wr = w2.drewN q) (fun i _ => N - (intOf i).toNat)
  case atStart => exact ⟨0, by omega, rfl, 0, rfl⟩
  case round =>
    obtain ⟨k, hk, rfl, q, rfl⟩ := hrel
    by_cases hlt : k < N
    · have hx := HC2.out k hlt
      have hy := HA2.out k hlt
      generalize L.getD k 0 = x at *
      have ht : (x != x) = false := by simp
      go_wp2
      go_quiet (fail)
      go_wp2
      go_roundw
      case rel => exact ⟨k + 1, by omega, by go_num, _, rfl⟩
      case measure => simp [intOf]; omega
    · obtain rfl : k = N := by omega
      go_wp2_with fail
      refine (HR.out (w2.drewN q) (fun j hj => HC2.out j hj)).mono ?_
      rintro e w3 ⟨rfl, q3, rfl⟩
      go_wp2_with fail
      refine (hcounts _).mono ?_
      rintro e w4 ⟨rfl, B4⟩
      go_wp2_with fail
      go_ret
      have B5 : Below w2.heap.size w2 w4 := ⟨B4.os, B4.tape, B4.output, B4.size, B4.block⟩
      exact ⟨rfl, HB2.out.trans (B5.mono HB2.out.size)⟩
theorem owned_zero {w : World} {base : Nat} {v : Value} {xs : List Value} (h : w.ownsRow base 3 1 v 0 xs) : ∃ ao c, v = .slice ao 0 c := by
  obtain ⟨_, ⟨rfl, _⟩ | ⟨g, cap, _, rfl, _⟩⟩ := h
  · exact ⟨_, _, rfl⟩
  · exact ⟨_, _, rfl⟩

set_option maxRecDepth 100000 in
set_option maxHeartbeats 4000000 in
theorem commits_empty (a : Addr) (c : Nat) (w : World)
    (hcommit : ∀ (a : Option Addr) (cap : Nat) (W : World), Calls Try.prog 15 #[.slice a 0 cap] W fun e w' => e = .returned (.int .i64 0) ∧ Below W.heap.size W w')
    (hcounts : ∀ w, Calls Try.prog 14 #[] w fun e w' => e = .returned (.bool true) ∧ Below w.heap.size w w') :
    Calls Try.prog 4 #[.slice (some a) 0 c] w fun e w' => e = .returned (.bool true) ∧ Below w.heap.size w w' := by
  obtain ⟨i0, hi, hz0, hz1, hz2⟩ := info_parts info3
  go_enter Try.func4, Try.ntmps4
  go_wp2_with (at_builtin; refine wpList_append_own _ rfl _ _ 29 rfl w.heap.size 3 i0 (.int .i64 0) 1 8 Try.underlying29 hi hz0 hz1 hz2 rfl (by decide) _ _ _ rfl (World.ownsRow_made w #[] 0 (Nat.le_refl _) (by decide) rfl) a 0 c [] rfl rfl (by simp) (by simp) (by decide) (by decide) (by simp) ?_; intro v1 w1 hown hgrow _)
  obtain ⟨ao', c', hv⟩ := owned_zero hown
  rw [hv]
  clear hown hv
  have HB := Lib.hid (show Below w.heap.size w w1 from ((Below.refl _ w).alloc (Nat.le_refl _) _).grown hgrow (by simp) (fun k hk => by cases hk; exact Nat.le_refl _))
  clear hgrow
  refine (hcommit ao' c' w1).mono ?_
  rintro e w2 ⟨rfl, B2⟩
  have HB2 := Lib.hid (HB.out.trans (B2.mono HB.out.size))
  clear HB B2
  go_wp2_with fail
  go_loopw [5] (fun i wr => i = .int .i64 0 ∧ wr = w2) (fun _ _ => 0)
  case atStart => exact ⟨rfl, rfl⟩
  case round =>
    obtain ⟨rfl, rfl⟩ := hrel
    go_wp2_with fail
    refine (refCommit_none _ _ _).mono ?_
    rintro e w3 ⟨rfl, rfl⟩
    go_wp2_with fail
    refine (hcounts _).mono ?_
    rintro e w4 ⟨rfl, B4⟩
    go_wp2_with fail
    go_ret
    exact ⟨rfl, HB2.out.trans (B4.mono HB2.out.size)⟩
set_option maxRecDepth 100000 in
set_option maxHeartbeats 4000000 in
theorem commits_nil (w : World)
    (hcommit : ∀ (a : Option Addr) (cap : Nat) (W : World), Calls Try.prog 15 #[.slice a 0 cap] W fun e w' => e = .returned (.int .i64 0) ∧ Below W.heap.size W w')
    (hcounts : ∀ w, Calls Try.prog 14 #[] w fun e w' => e = .returned (.bool true) ∧ Below w.heap.size w w') :
    Calls Try.prog 4 #[.slice none 0 0] w fun e w' => e = .returned (.bool true) ∧ Below w.heap.size w w' := by
  go_enter Try.func4, Try.ntmps4
  go_wp2_with fail
  have HB := Lib.hid ((Below.refl _ w).alloc (Nat.le_refl _) (.cells #[] 3))
  refine (hcommit _ _ _).mono ?_
  rintro e w2 ⟨rfl, B2⟩
  have HB2 := Lib.hid (HB.out.trans (B2.mono HB.out.size))
  clear HB B2
  go_wp2_with fail
  go_loopw [5] (fun i wr => i = .int .i64 0 ∧ wr = w2) (fun _ _ => 0)
  case atStart => exact ⟨rfl, rfl⟩
  case round =>
    obtain ⟨rfl, rfl⟩ := hrel
    go_wp2_with fail
    refine (refCommit_none _ _ _).mono ?_
    rintro e w3 ⟨rfl, rfl⟩
    go_wp2_with fail
    refine (hcounts _).mono ?_
    rintro e w4 ⟨rfl, B4⟩
    go_wp2_with fail
    go_ret
    exact ⟨rfl, HB2.out.trans (B4.mono HB2.out.size)⟩
end Go.Proofs.Ytoddbmbifgoliaa
