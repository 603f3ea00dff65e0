/-
  WatchKnown, walked.
-/
import Derived.Test.YtfbimhbdifmeoaaDoorWtOnce
namespace Go.Proofs.YtfbimhbdifmeoaaDoor
set_option linter.unusedVariables false
set_option linter.unusedSimpArgs false
open Go Go.RowKit Go.Shelf

set_option maxRecDepth 100000 in
theorem touch_nil (w : World) : Calls Tryd.prog 12 #[.pointer none, .slice none 0 0] w fun e w' => e = .returned (.slice none 0 0) ∧ Below w.heap.size w w' := by
  go_enter Tryd.func12, Tryd.ntmps12
  go_wp2
  go_ret
  exact ⟨rfl, (Below.refl _ w).alloc (Nat.le_refl _) _⟩
/-! plain -/
def kw (i : Nat) : Ev := ⟨0, i, [47], true⟩
def ks (n : Nat) : List Ev := (List.range n).map kw
theorem ok_root : (partsL [47]).isSome = true := by rw [partsL_eq]; decide +kernel
theorem no_a : (partsL [97]).isSome = false := by rw [partsL_eq]; decide +kernel
theorem par_x : parentL [47, 120] = [47] := by unfold parentL; rw [partsL_eq]; decide +kernel
theorem ks_len (n : Nat) : (ks n).length = n := by simp [ks]
theorem ks_not (n i : Nat) (h : n ≤ i) : (ks n).contains (kw i) = false := by
  rw [← Bool.not_eq_true, List.contains_iff_mem]
  intro hm
  obtain ⟨j, hj, e⟩ := List.mem_map.1 hm
  simp [kw] at e hj
  omega
theorem ks_has (n i : Nat) (h : i < n) : (ks n).contains (kw i) = true := by
  rw [List.contains_iff_mem]
  exact List.mem_map.2 ⟨i, by simpa using h, rfl⟩
theorem ks_add (n : Nat) (h : n < 16) : addE (ks n) (kw n) = 0 ∧ addL (ks n) (kw n) = ks (n + 1) := by
  unfold addE addL
  rw [show (kw n).path = [47] from rfl, ok_root, ks_not n n (Nat.le_refl _), ks_len]
  refine ⟨by simp; omega, ?_⟩
  simp only [if_true, Bool.false_eq_true, if_false]
  rw [if_neg (by omega)]
  simp [ks, List.range_succ]
def kx : Ev := ⟨1, 2, [47], true⟩
theorem kx_add : addE (ks 16) kx = 4 ∧ addL (ks 16) kx = ks 16 := by
  unfold addE addL
  have : (ks 16).contains kx = false := by decide +kernel
  rw [show kx.path = [47] from rfl, ok_root, this, ks_len]
  simp
theorem k3_add : addE (ks 16) (kw 3) = 0 ∧ addL (ks 16) (kw 3) = ks 16 := by
  unfold addE addL
  rw [show (kw 3).path = [47] from rfl, ok_root, ks_has 16 3 (by omega)]
  simp
theorem ka_add : addE [] ⟨1, 2, [97], true⟩ = 30 ∧ addL [] ⟨1, 2, [97], true⟩ = [] := by
  unfold addE addL
  rw [no_a]
  simp
theorem tk1 (i : Nat) : touchB (kw i) [47] = false := by unfold touchB; simp [kw]
theorem tk2 (i : Nat) : touchB (kw i) [47, 97, 47, 98] = false := by unfold touchB; rw [par_ab]; simp [kw]
theorem tk3 (i : Nat) : touchB (kw i) [47, 120] = true := by unfold touchB; rw [par_x]; simp [kw]
theorem out_ks (P : List Bytes) (b : Bool) (h : ∀ i, hitB P (kw i) = b) (n : Nat) : outL P (ks n) = (if b then ks n else []) ∧ leftL P (ks n) = (if b then [] else ks n) := by
  unfold outL leftL
  have hh : ∀ e ∈ ks n, hitB P e = b := fun e he => by
    obtain ⟨j, _, rfl⟩ := List.mem_map.1 he
    exact h j
  cases b with
  | true =>
    refine ⟨by rw [if_pos rfl, List.filter_eq_self]; exact hh, ?_⟩
    rw [if_pos rfl, List.filter_eq_nil_iff]
    intro e he
    simp [hh e he]
  | false =>
    refine ⟨?_, ?_⟩
    · rw [if_neg (by simp), List.filter_eq_nil_iff]
      intro e he
      simp [hh e he]
    · rw [if_neg (by simp), List.filter_eq_self]
      intro e he
      simp [hh e he]
theorem hk1 (i : Nat) : hitB [[47]] (kw i) = false := by simp [hitB, tk1]
theorem hk2 (i : Nat) : hitB [[47, 97, 47, 98]] (kw i) = false := by simp [hitB, tk2]
theorem hk3 (i : Nat) : hitB [[47, 120], [47, 97]] (kw i) = true := by simp [hitB, tk3]
/-- Two effects in a new row. -/
theorem effs_two (W : World) (p q : Bytes) (r1 r2 : List Value) (h1 : r1.length = 10) (h2 : r2.length = 10) : EffsAt (W.alloc (.cells ((.string (bs p) :: r1) ++ (.string (bs q) :: r2)).toArray 56)) (W.alloc (.cells ((.string (bs p) :: r1) ++ (.string (bs q) :: r2)).toArray 56)).heap.size (some ⟨W.heap.size, 0, none⟩) [p, q] := by
  intro k x hk
  match k, hk with
  | 0, hk =>
    simp at hk
    subst hk
    refine ⟨_, _, r1, rfl, by simp, h1, ?_⟩
    rw [Nat.zero_mul, Nat.add_zero]
    refine range_new (Below.refl _ _) 0 _ ?_
    rw [List.drop_zero, List.toList_toArray, List.take_left' rfl]
  | 1, hk =>
    simp at hk
    subst hk
    refine ⟨_, _, r2, rfl, by simp, h2, ?_⟩
    refine range_new (Below.refl _ _) (0 + 1 * 11) _ ?_
    rw [List.toList_toArray, List.drop_left' (by simp [h1]), List.take_length]
  | k + 2, hk => simp at hk
set_option maxRecDepth 100000 in
set_option maxHeartbeats 8000000 in
theorem known_true (w : World) (hm : MaxInt w) : Calls Tryd.prog 6 #[] w (LawEnd w) := by
  have HM := Lib.hid hm
  clear hm
  go_enter Tryd.func6, Tryd.ntmps6
  go_wp2_with fail
  refine (new_any w).mono ?_
  rintro e w1 ⟨rfl, hw1⟩
  have S0 := One.new hw1
  have hs1 : w1.heap.size = w.heap.size + 1 := by rw [hw1]; simp
  have HS1' := Lib.hid hs1
  clear hw1 hs1
  go_wp2_with fail
  obtain ⟨w2, hw2⟩ : ∃ w2, w2 = w1.alloc (.cells #[.int .i64 1, .int .u32 2] 32) := ⟨_, rfl⟩
  have hB2 : Below w1.heap.size w1 w2 := by rw [hw2]; exact belowA (Below.refl _ w1) _
  have S1 := (S0.other hB2).from (by
    obtain ⟨r, hT, hr⟩ := S0.ex
    have hTT := hT.below hB2
    refine ⟨r, hTT, ?_⟩
    cases r with
    | none => rfl
    | some g => have := (hT.rowlt g rfl).2; have := (hr g rfl).1; omega)
  have hbox : ∀ W, Kept (· = w.heap.size) w2 W → W.cell? ⟨w1.heap.size, 0, none⟩ = some (.int .i64 1) ∧ W.cell? ⟨w1.heap.size, 1, none⟩ = some (.int .u32 2) := fun W hW => by
    have h0 : w2.cell? ⟨w1.heap.size, 0, none⟩ = some (.int .i64 1) := by rw [hw2]; exact (new_cell (Below.refl _ _) 0 _ rfl).1
    have h1 : w2.cell? ⟨w1.heap.size, 1, none⟩ = some (.int .u32 2) := by rw [hw2]; exact (new_cell (Below.refl _ _) 1 _ rfl).1
    have hlt : w1.heap.size < w2.heap.size := by rw [hw2]; simp
    have hne : ¬ (w1.heap.size = w.heap.size) := by have := HS1'.out; omega
    exact ⟨(hW.cell (p := ⟨w1.heap.size, 0, none⟩) hlt hne).trans h0, (hW.cell (p := ⟨w1.heap.size, 1, none⟩) hlt hne).trans h1⟩
  have HBOX := Lib.hid hbox
  rw [← hw2]
  clear hw2 hbox S0 hB2
  have HS1 := Lib.hid S1
  clear S1 HS1'
  obtain ⟨q0, q1⟩ := HBOX.out _ HS1.out.kept
  have HN1 := Lib.hid (add_nil ⟨1, 2, [47, 97], true⟩ w2)
  go_wp2_with fail
  refine HN1.out.mono ?_
  rintro e w3 ⟨rfl, B3⟩
  have HS2 := Lib.hid (HS1.out.other B3)
  clear q0 q1 HN1 B3
  have HN2 := Lib.hid (len_nil w3)
  go_wp2_with fail
  refine HN2.out.mono ?_
  rintro e w4 ⟨rfl, rfl⟩
  clear HN2
  have HN3 := Lib.hid (touch_nil w4)
  go_wp2_with fail
  refine HN3.out.mono ?_
  rintro e w5 ⟨rfl, B5⟩
  have HS3 := Lib.hid (HS2.out.other B5)
  clear HN3 B5
  obtain ⟨q0, q1⟩ := HBOX.out _ HS3.out.kept
  have A4 := HS3.out.add HM.out (x := ⟨1, 2, [97], true⟩) (by decide) (by decide)
  rw [ka_add.1, ka_add.2] at A4
  have HA4 := Lib.hid A4
  clear A4
  go_wp2_with fail
  refine HA4.out.mono ?_
  rintro e w6 ⟨rfl, S6, _⟩
  have HS6 := Lib.hid S6
  clear S6 HA4 q0 q1
  go_wp2_with fail
  obtain ⟨w7, hw7⟩ : ∃ w7, w7 = w6 := ⟨_, rfl⟩
  subst hw7
  go_loopw [4] (fun i wr => ∃ n : Nat, n ≤ 16 ∧ i = .int .i64 n ∧ Hid (One ZNo w w2 wr w.heap.size (ks n))) (fun i _ => 16 - (intOf i).toNat)
  case atStart => exact ⟨0, by omega, rfl, HS6⟩
  case round =>
    obtain ⟨n, hn, rfl, HS⟩ := hrel
    by_cases hlt : n < 16
    · have A := HS.out.add HM.out (x := kw n) (by rw [ks_len]; omega) (by simp [kw])
      rw [(ks_add n hlt).1, (ks_add n hlt).2] at A
      have A : Calls Tryd.prog 10 #[.pointer (some ⟨w.heap.size, 0, none⟩), .agg #[.int .i64 0, .int .u32 n], .string ⟨#[47]⟩, .bool true] wr fun en w' => en = .returned (.int .i64 0) ∧ One ZNo w w2 w' w.heap.size (ks (n + 1)) ∧ Kept (fun k => ¬ ZNo k) wr w' := A
      have HA := Lib.hid A
      have s1 : IntKind.u32.wrap (n : Int) = (n : Int) := by unfold IntKind.wrap; simp [IntKind.signed, IntKind.bits]; omega
      clear A
      go_wp2_with fail
      refine HA.out.mono ?_
      rintro e wn ⟨rfl, SN, _⟩
      have HSN := Lib.hid SN
      clear SN HA s1
      go_wp2
      go_roundw
      case rel => exact ⟨n + 1, by omega, by go_num, HSN⟩
      case measure => simp [intOf]; omega
    · obtain rfl : n = 16 := by omega
      obtain ⟨q0, q1⟩ := HBOX.out _ HS.out.kept
      have A := HS.out.add HM.out (x := kx) (by rw [ks_len]; omega) (by decide)
      rw [kx_add.1, kx_add.2] at A
      have HA := Lib.hid A
      clear A
      go_wp2_with fail
      refine HA.out.mono ?_
      rintro e v1 ⟨rfl, SN, _⟩
      have HS1 := Lib.hid SN
      clear SN HA q0 q1
      have A := HS1.out.add HM.out (x := kw 3) (by rw [ks_len]; omega) (by decide)
      rw [k3_add.1, k3_add.2] at A
      have A : Calls Tryd.prog 10 #[.pointer (some ⟨w.heap.size, 0, none⟩), .agg #[.int .i64 0, .int .u32 3], .string ⟨#[47]⟩, .bool true] v1 fun en w' => en = .returned (.int .i64 0) ∧ One ZNo w w2 w' w.heap.size (ks 16) ∧ Kept (fun k => ¬ ZNo k) v1 w' := A
      have HA := Lib.hid A
      clear A
      go_wp2_with fail
      refine HA.out.mono ?_
      rintro e v2 ⟨rfl, SN, _⟩
      have HS2 := Lib.hid SN
      clear SN HA
      have T := (HS2.out.other (belowA (Below.refl _ v2) (.cells #[.string ⟨#[47]⟩, .bool false, .slice none 0 0, .int .u32 0, .int .u32 0, .int .u32 0, .int .i64 0, .int .u32 0, .int .u64 0, .int .u64 0, .int .u64 0] 56))).touch HM.out (P := [[47]]) (ao := some ⟨v2.heap.size, 0, none⟩) (c := 1) (by rw [ks_len]; omega) (by decide) (by decide) (effs_one v2 [47] [.bool false, .slice none 0 0, .int .u32 0, .int .u32 0, .int .u32 0, .int .i64 0, .int .u32 0, .int .u64 0, .int .u64 0, .int .u64 0] rfl)
      simp only [(out_ks [[47]] false hk1 16).1, (out_ks [[47]] false hk1 16).2] at T
      simp only [Bool.false_eq_true, if_false] at T
      have HT := Lib.hid T
      clear T
      go_wp2_with fail
      refine HT.out.mono ?_
      rintro e v3 ⟨a3, c3, rfl, O3, S3, K3⟩
      have HS3 := Lib.hid S3
      have HO3 := Lib.hid O3
      clear S3 O3 K3 HT
      have T := (HS3.out.other (belowA (Below.refl _ v3) (.cells #[.string ⟨#[47, 97, 47, 98]⟩, .bool false, .slice none 0 0, .int .u32 0, .int .u32 0, .int .u32 0, .int .i64 0, .int .u32 0, .int .u64 0, .int .u64 0, .int .u64 0] 56))).touch HM.out (P := [[47, 97, 47, 98]]) (ao := some ⟨v3.heap.size, 0, none⟩) (c := 1) (by rw [ks_len]; omega) (by decide) (by decide) (effs_one v3 [47, 97, 47, 98] [.bool false, .slice none 0 0, .int .u32 0, .int .u32 0, .int .u32 0, .int .i64 0, .int .u32 0, .int .u64 0, .int .u64 0, .int .u64 0] rfl)
      simp only [(out_ks [[47, 97, 47, 98]] false hk2 16).1, (out_ks [[47, 97, 47, 98]] false hk2 16).2] at T
      simp only [Bool.false_eq_true, if_false] at T
      have HT := Lib.hid T
      clear T
      go_wp2_with fail
      refine HT.out.mono ?_
      rintro e v4 ⟨a4, c4, rfl, O4, S4, K4⟩
      have HS4 := Lib.hid S4
      have HO4 := Lib.hid O4
      clear S4 O4 K4 HT
      have T := (HS4.out.other (belowA (Below.refl _ v4) (.cells #[.string ⟨#[47, 120]⟩, .bool false, .slice none 0 0, .int .u32 0, .int .u32 0, .int .u32 0, .int .i64 0, .int .u32 0, .int .u64 0, .int .u64 0, .int .u64 0, .string ⟨#[47, 97]⟩, .bool false, .slice none 0 0, .int .u32 0, .int .u32 0, .int .u32 0, .int .i64 0, .int .u32 0, .int .u64 0, .int .u64 0, .int .u64 0] 56))).touch HM.out (P := [[47, 120], [47, 97]]) (ao := some ⟨v4.heap.size, 0, none⟩) (c := 2) (by rw [ks_len]; omega) (by decide) (by decide) (effs_two v4 [47, 120] [47, 97] [.bool false, .slice none 0 0, .int .u32 0, .int .u32 0, .int .u32 0, .int .i64 0, .int .u32 0, .int .u64 0, .int .u64 0, .int .u64 0] [.bool false, .slice none 0 0, .int .u32 0, .int .u32 0, .int .u32 0, .int .i64 0, .int .u32 0, .int .u64 0, .int .u64 0, .int .u64 0] rfl rfl)
      simp only [(out_ks [[47, 120], [47, 97]] true hk3 16).1, (out_ks [[47, 120], [47, 97]] true hk3 16).2] at T
      simp only [if_true] at T
      rw [ks_len] at T
      have HT := Lib.hid T
      clear T
      go_wp2_with fail
      refine HT.out.mono ?_
      rintro e v5 ⟨a5, c5, rfl, O5, S5, K5⟩
      have HS5 := Lib.hid S5
      have HO5 := Lib.hid O5
      clear S5 O5 K5 HT
      obtain ⟨ga, rfl, _, hga, hra⟩ := HO5.out 3 (kw 3) rfl
      have y1 : v5.cell? ⟨ga, 13, none⟩ = some (.int .u32 3) := hra 1 _ rfl
      have HL := Lib.hid HS5.out.len
      clear hra
      go_wp2_with fail
      refine HL.out.mono ?_
      rintro e v6 ⟨rfl, rfl⟩
      clear HL y1
      have HGO := Lib.hid (goes_true v6 (HM.out.kept HS5.out.below))
      go_wp2_with fail
      refine HGO.out.mono ?_
      rintro e v7 ⟨rfl, Bz⟩
      go_wp2
      go_ret
      exact ⟨rfl, HS5.out.below.trans (Bz.mono HS5.out.below.size)⟩
end Go.Proofs.YtfbimhbdifmeoaaDoor
