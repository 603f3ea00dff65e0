/-
  The reference's rune1, walked: it is Go's decoding.
-/
import Derived.Test.YtnclkfhdpkkakaaGreatDoorPathSplit2
namespace Go.Proofs.YtnclkfhdpkkakaaGreatDoor
set_option linter.unusedVariables false
set_option linter.unusedSimpArgs false
open Go.RowKit

def contB (s : ByteArray) (j : Nat) : Bool := decide (j < s.size) && (s.get! j).toNat / 64 == 2
def runeVal (s : ByteArray) (i : Nat) (v0 : Int) : Nat → Int
  | 0 => v0
  | k + 1 => runeVal s i v0 k * 64 + ((s.get! (i + (k + 1))).toNat % 64 : Nat)
def runeOf (s : ByteArray) (i : Nat) : Nat × Nat := if (Utf8.decode s i).1 = 65533 ∧ (Utf8.decode s i).2 = 1 then (0, 0) else ((Utf8.decode s i).2, (Utf8.decode s i).1)

theorem and192 (b : UInt8) : (bits BinOp.and IntKind.u8 (b.toNat : Int) 192 != 128) = !(b.toNat / 64 == 2) := by
  have h : ∀ n : Fin 256, (bits BinOp.and IntKind.u8 (n.val : Int) 192 != 128) = !(n.val / 64 == 2) := by decide +kernel
  exact h ⟨b.toNat, b.toNat_lt⟩
theorem get_elem (s : ByteArray) (j : Nat) (h : j < s.size) : s.get! j = s[j]'h := by
  have := get_at s j h
  simpa using this
theorem runeVal_bd (s : ByteArray) (i : Nat) (v0 : Int) (h0 : 0 ≤ v0) (h1 : v0 ≤ 31) : ∀ k, k ≤ 3 → 0 ≤ runeVal s i v0 k ∧ runeVal s i v0 k ≤ 10000000 := by
  have hm : ∀ j, ((s.get! j).toNat % 64 : Nat) ≤ 63 := fun j => by omega
  have a0 : runeVal s i v0 0 = v0 := rfl
  have a1 : runeVal s i v0 1 = v0 * 64 + ((s.get! (i + 1)).toNat % 64 : Nat) := rfl
  have a2 : runeVal s i v0 2 = runeVal s i v0 1 * 64 + ((s.get! (i + 2)).toNat % 64 : Nat) := rfl
  have a3 : runeVal s i v0 3 = runeVal s i v0 2 * 64 + ((s.get! (i + 3)).toNat % 64 : Nat) := rfl
  have m1 := hm (i + 1)
  have m2 := hm (i + 2)
  have m3 := hm (i + 3)
  intro k hk
  rcases (show k = 0 ∨ k = 1 ∨ k = 2 ∨ k = 3 by omega) with rfl | rfl | rfl | rfl <;> omega

section
variable (s : ByteArray) (i : Nat)
theorem dec_unfold : Utf8.decode s i =
    if (s.get! i).toNat < 0x80 then ((s.get! i).toNat, 1)
    else if ((s.get! i).toNat / 32 == 6 && contB s (i + 1)) = true then
      (if ((s.get! i).toNat % 32) * 64 + (s.get! (i + 1)).toNat % 64 ≥ 0x80 then (((s.get! i).toNat % 32) * 64 + (s.get! (i + 1)).toNat % 64, 2) else (65533, 1))
    else if ((s.get! i).toNat / 16 == 14 && contB s (i + 1) && contB s (i + 2)) = true then
      (if (decide (((s.get! i).toNat % 16) * 4096 + ((s.get! (i + 1)).toNat % 64) * 64 + (s.get! (i + 2)).toNat % 64 ≥ 0x800) && Utf8.valid (((s.get! i).toNat % 16) * 4096 + ((s.get! (i + 1)).toNat % 64) * 64 + (s.get! (i + 2)).toNat % 64 : Nat)) = true
        then (((s.get! i).toNat % 16) * 4096 + ((s.get! (i + 1)).toNat % 64) * 64 + (s.get! (i + 2)).toNat % 64, 3) else (65533, 1))
    else if ((s.get! i).toNat / 8 == 30 && contB s (i + 1) && contB s (i + 2) && contB s (i + 3)) = true then
      (if (decide (((s.get! i).toNat % 8) * 262144 + ((s.get! (i + 1)).toNat % 64) * 4096 + ((s.get! (i + 2)).toNat % 64) * 64 + (s.get! (i + 3)).toNat % 64 ≥ 0x10000) && Utf8.valid (((s.get! i).toNat % 8) * 262144 + ((s.get! (i + 1)).toNat % 64) * 4096 + ((s.get! (i + 2)).toNat % 64) * 64 + (s.get! (i + 3)).toNat % 64 : Nat)) = true
        then (((s.get! i).toNat % 8) * 262144 + ((s.get! (i + 1)).toNat % 64) * 4096 + ((s.get! (i + 2)).toNat % 64) * 64 + (s.get! (i + 3)).toNat % 64, 4) else (65533, 1))
    else (65533, 1) := rfl

theorem dec_err (h : Utf8.decode s i = (65533, 1)) : runeOf s i = (0, 0) := by simp [runeOf, h]
theorem dec_ok (c n : Nat) (h : Utf8.decode s i = (c, n)) (hn : n ≠ 1 ∨ c ≠ 65533) : runeOf s i = (n, c) := by
  unfold runeOf
  rw [h]
  rw [if_neg]
  rintro ⟨rfl, rfl⟩
  rcases hn with h | h <;> exact h rfl

theorem rune_low (h : (s.get! i).toNat < 128) : runeOf s i = (1, (s.get! i).toNat) := by
  refine dec_ok s i _ _ ?_ (.inr (by omega))
  rw [dec_unfold, if_pos h]
theorem rune_no (h1 : 128 ≤ (s.get! i).toNat) (h : (s.get! i).toNat < 192 ∨ 248 ≤ (s.get! i).toNat) : runeOf s i = (0, 0) := by
  apply dec_err
  rw [dec_unfold, if_neg (by omega), if_neg, if_neg, if_neg]
  all_goals
    simp only [Bool.and_eq_true, beq_iff_eq, not_and]
    intros
    omega

theorem two_fail (h1 : 192 ≤ (s.get! i).toNat) (h2 : (s.get! i).toNat < 224) (hj : contB s (i + 1) = false) : runeOf s i = (0, 0) := by
  apply dec_err
  have e1 : ((s.get! i).toNat / 16 == 14) = false := by simp; omega
  have e2 : ((s.get! i).toNat / 8 == 30) = false := by simp; omega
  rw [dec_unfold, if_neg (by omega), hj, e1, e2]
  simp
theorem two_done (h1 : 192 ≤ (s.get! i).toNat) (h2 : (s.get! i).toNat < 224) (hj : contB s (i + 1) = true) (V : Int) (hV : V = runeVal s i ((s.get! i).toNat - 192 : Int) 1) :
    (128 ≤ V ∧ V ≤ 1114111 ∧ ¬ (55296 ≤ V ∧ V < 57344) → runeOf s i = (2, V.toNat)) ∧ (¬ (128 ≤ V ∧ V ≤ 1114111 ∧ ¬ (55296 ≤ V ∧ V < 57344)) → runeOf s i = (0, 0)) := by
  have e1 : ((s.get! i).toNat / 32 == 6) = true := by simp; omega
  have a1 : V = ((s.get! i).toNat - 192 : Int) * 64 + ((s.get! (i + 1)).toNat % 64 : Nat) := hV
  have hd : Utf8.decode s i = if V.toNat ≥ 128 then (V.toNat, 2) else (65533, 1) := by
    rw [dec_unfold, if_neg (by omega), e1, hj]
    have : ((s.get! i).toNat % 32) * 64 + (s.get! (i + 1)).toNat % 64 = V.toNat := by omega
    rw [this]
    simp
  refine ⟨fun h => dec_ok s i _ _ (hd.trans (if_pos (by omega))) (.inl (by decide)), fun h => dec_err s i (hd.trans (if_neg (by omega)))⟩
theorem valid_iff (c : Nat) (V : Int) (h : V = c) : Utf8.valid (c : Int) = decide (V ≤ 1114111 ∧ (V < 55296 ∨ 57344 ≤ V)) := by
  subst h
  unfold Utf8.valid
  rw [Bool.eq_iff_iff]
  simp
  omega
theorem three_fail (h1 : 224 ≤ (s.get! i).toNat) (h2 : (s.get! i).toNat < 240) (hj : contB s (i + 1) = false ∨ contB s (i + 2) = false) : runeOf s i = (0, 0) := by
  apply dec_err
  have e1 : ((s.get! i).toNat / 32 == 6) = false := by simp; omega
  have e2 : ((s.get! i).toNat / 8 == 30) = false := by simp; omega
  rw [dec_unfold, if_neg (by omega), e1, e2]
  rcases hj with hj | hj <;> rw [hj] <;> simp
theorem three_done (h1 : 224 ≤ (s.get! i).toNat) (h2 : (s.get! i).toNat < 240) (hj : contB s (i + 1) = true) (hj2 : contB s (i + 2) = true) (V : Int) (hV : V = runeVal s i ((s.get! i).toNat - 224 : Int) 2) :
    (2048 ≤ V ∧ V ≤ 1114111 ∧ ¬ (55296 ≤ V ∧ V < 57344) → runeOf s i = (3, V.toNat)) ∧ (¬ (2048 ≤ V ∧ V ≤ 1114111 ∧ ¬ (55296 ≤ V ∧ V < 57344)) → runeOf s i = (0, 0)) := by
  have e0 : ((s.get! i).toNat / 32 == 6) = false := by simp; omega
  have e1 : ((s.get! i).toNat / 16 == 14) = true := by simp; omega
  have a1 : V = (((s.get! i).toNat - 224 : Int) * 64 + ((s.get! (i + 1)).toNat % 64 : Nat)) * 64 + ((s.get! (i + 2)).toNat % 64 : Nat) := hV
  have hc : ((s.get! i).toNat % 16) * 4096 + ((s.get! (i + 1)).toNat % 64) * 64 + (s.get! (i + 2)).toNat % 64 = V.toNat := by omega
  have hd : Utf8.decode s i = if V.toNat ≥ 2048 ∧ (V ≤ 1114111 ∧ (V < 55296 ∨ 57344 ≤ V)) then (V.toNat, 3) else (65533, 1) := by
    rw [dec_unfold, if_neg (by omega), e0, e1, hj, hj2, hc, valid_iff V.toNat V (by omega)]
    simp
  refine ⟨fun h => dec_ok s i _ _ (hd.trans (if_pos (by omega))) (.inl (by decide)), fun h => dec_err s i (hd.trans (if_neg (by omega)))⟩
theorem four_fail (h1 : 240 ≤ (s.get! i).toNat) (h2 : (s.get! i).toNat < 248) (hj : contB s (i + 1) = false ∨ contB s (i + 2) = false ∨ contB s (i + 3) = false) : runeOf s i = (0, 0) := by
  apply dec_err
  have e1 : ((s.get! i).toNat / 32 == 6) = false := by simp; omega
  have e2 : ((s.get! i).toNat / 16 == 14) = false := by simp; omega
  rw [dec_unfold, if_neg (by omega), e1, e2]
  rcases hj with hj | hj | hj <;> rw [hj] <;> simp
theorem four_done (h1 : 240 ≤ (s.get! i).toNat) (h2 : (s.get! i).toNat < 248) (hj : contB s (i + 1) = true) (hj2 : contB s (i + 2) = true) (hj3 : contB s (i + 3) = true) (V : Int) (hV : V = runeVal s i ((s.get! i).toNat - 240 : Int) 3) :
    (65536 ≤ V ∧ V ≤ 1114111 ∧ ¬ (55296 ≤ V ∧ V < 57344) → runeOf s i = (4, V.toNat)) ∧ (¬ (65536 ≤ V ∧ V ≤ 1114111 ∧ ¬ (55296 ≤ V ∧ V < 57344)) → runeOf s i = (0, 0)) := by
  have e0 : ((s.get! i).toNat / 32 == 6) = false := by simp; omega
  have e1 : ((s.get! i).toNat / 16 == 14) = false := by simp; omega
  have e2 : ((s.get! i).toNat / 8 == 30) = true := by simp; omega
  have a1 : V = ((((s.get! i).toNat - 240 : Int) * 64 + ((s.get! (i + 1)).toNat % 64 : Nat)) * 64 + ((s.get! (i + 2)).toNat % 64 : Nat)) * 64 + ((s.get! (i + 3)).toNat % 64 : Nat) := hV
  have hc : ((s.get! i).toNat % 8) * 262144 + ((s.get! (i + 1)).toNat % 64) * 4096 + ((s.get! (i + 2)).toNat % 64) * 64 + (s.get! (i + 3)).toNat % 64 = V.toNat := by omega
  have hd : Utf8.decode s i = if V.toNat ≥ 65536 ∧ (V ≤ 1114111 ∧ (V < 55296 ∨ 57344 ≤ V)) then (V.toNat, 4) else (65533, 1) := by
    rw [dec_unfold, if_neg (by omega), e0, e1, e2, hj, hj2, hj3, hc, valid_iff V.toNat V (by omega)]
    simp
  refine ⟨fun h => dec_ok s i _ _ (hd.trans (if_pos (by omega))) (.inl (by decide)), fun h => dec_err s i (hd.trans (if_neg (by omega)))⟩
end

theorem cont_true (s : ByteArray) (j : Nat) (h : j < s.size) (b : Bool) (hb : contB s j = b) : (bits BinOp.and IntKind.u8 ((s[j]'h).toNat : Int) 192 != 128) = !b := by
  rw [and192, ← get_elem s j h]
  rw [← hb]
  simp [contB, h]
theorem cont_out (s : ByteArray) (j : Nat) (h : ¬ j < s.size) : contB s j = false := by simp [contB, h]
theorem val_succ (s : ByteArray) (i k : Nat) (v0 : Int) (hk : 1 ≤ k) (h : i + k < s.size) : runeVal s i v0 (k + 1 - 1) = runeVal s i v0 (k - 1) * 64 + ((s[i + k]'h).toNat : Int) % 64 := by
  obtain ⟨m, rfl⟩ : ∃ m, k = m + 1 := ⟨k - 1, by omega⟩
  show runeVal s i v0 m * 64 + ((s.get! (i + (m + 1))).toNat % 64 : Nat) = _
  rw [get_elem s _ h]
  simp
def RuneEnd (s : ByteArray) (i : Nat) (w : World) (e : Ending) (w' : World) : Prop := e = .returned (.tuple #[.int .i64 ((runeOf s i).1 : Nat), .int .i64 ((runeOf s i).2 : Nat)]) ∧ w = w'
theorem rune_end0 {s : ByteArray} {i : Nat} {w : World} (h : runeOf s i = (0, 0)) : RuneEnd s i w (.returned (.tuple #[.int .i64 0, .int .i64 0])) w := ⟨by rw [h]; rfl, rfl⟩
theorem rune_endN {s : ByteArray} {i n : Nat} {V : Int} {w : World} (h : runeOf s i = (n, V.toNat)) (hV : 0 ≤ V) : RuneEnd s i w (.returned (.tuple #[.int .i64 n, .int .i64 V])) w := ⟨by rw [h]; simp [Int.toNat_of_nonneg hV], rfl⟩

set_option maxRecDepth 100000 in
set_option maxHeartbeats 4000000 in
theorem rune_ascii (s : ByteArray) (i : Nat) (h : i < s.size) (hs : s.size ≤ 1000000) (h1 : ((s[i]'h).toNat : Int) < 128) (w : World) : Calls Tryz.prog 107 #[.string s, .int .i64 i] w (RuneEnd s i w) := by
  have hr := rune_low s i (by rw [get_elem s i h]; omega)
  rw [get_elem s i h] at hr
  have HR := Lib.hid hr
  clear hr
  go_enter Tryz.func107, Tryz.ntmps107
  go_wp2
  go_ret2
  exact ⟨by rw [HR.out]; rfl, rfl⟩
set_option maxRecDepth 100000 in
set_option maxHeartbeats 4000000 in
theorem rune_none (s : ByteArray) (i : Nat) (h : i < s.size) (hs : s.size ≤ 1000000) (h1 : 128 ≤ ((s[i]'h).toNat : Int)) (hb : ((s[i]'h).toNat : Int) ≤ 255) (h2 : ((s[i]'h).toNat : Int) < 192 ∨ 248 ≤ ((s[i]'h).toNat : Int)) (w : World) : Calls Tryz.prog 107 #[.string s, .int .i64 i] w (RuneEnd s i w) := by
  have HR := Lib.hid (rune_no s i (by rw [get_elem s i h]; omega) (by rw [get_elem s i h]; omega))
  rcases h2 with h2 | h2
  all_goals
    go_enter Tryz.func107, Tryz.ntmps107
    go_wp2
    go_ret2
    exact rune_end0 HR.out
set_option maxRecDepth 100000 in
set_option maxHeartbeats 4000000 in
theorem rune_two (s : ByteArray) (i : Nat) (h : i < s.size) (hs : s.size ≤ 1000000) (h1 : 192 ≤ ((s[i]'h).toNat : Int)) (h2 : ((s[i]'h).toNat : Int) < 224) (w : World) : Calls Tryz.prog 107 #[.string s, .int .i64 i] w (RuneEnd s i w) := by
  have g1 : 192 ≤ (s.get! i).toNat := by rw [get_elem s i h]; omega
  have g2 : (s.get! i).toNat < 224 := by rw [get_elem s i h]; omega
  obtain ⟨v0, hv0⟩ : ∃ v0, v0 = ((s[i]'h).toNat : Int) - 192 := ⟨_, rfl⟩
  have hv0' : v0 = ((s.get! i).toNat : Int) - 192 := by rw [get_elem s i h]; exact hv0
  have HV0 := Lib.hid hv0'
  have HV1 := Lib.hid hv0
  have hbd := runeVal_bd s i v0 (by omega) (by omega)
  have HB := Lib.hid hbd
  have G1 := Lib.hid g1
  have G2 := Lib.hid g2
  clear hv0 hv0' hbd g1 g2
  go_enter Tryz.func107, Tryz.ntmps107
  go_wp2
  rw [← HV1.out]
  go_loop [8, 10] (fun v kk => ∃ k : Nat, 1 ≤ k ∧ k ≤ 2 ∧ kk = .int .i64 k ∧ v = .int .i64 (runeVal s i v0 (k - 1)) ∧ Hid (∀ j, 1 ≤ j → j < k → contB s (i + j) = true)) (fun _ kk => 2 - (intOf kk).toNat)
  case atStart => exact ⟨1, by omega, by omega, rfl, rfl, Lib.hid (fun j a b => by omega)⟩
  case round =>
    obtain ⟨k, hk1, hk2, rfl, rfl, HG⟩ := hrel
    obtain ⟨b1, b2⟩ := HB.out (k - 1) (by omega)
    by_cases hlt : k < 2
    · by_cases hik : i + k < s.size
      · have HS := Lib.hid (val_succ s i k v0 hk1 hik)
        cases hcb : contB s (i + k) with
        | true =>
          have hbt := cont_true s (i + k) hik true hcb
          rw [Bool.not_true] at hbt
          have HC := Lib.hid hcb
          clear hcb
          have hb : ((s[i + k]'hik).toNat : Int) ≤ 255 := by have := (s[i + k]'hik).toNat_lt; omega
          generalize runeVal s i v0 (k - 1) = v at *
          go_wp2
          go_round
          case rel =>
            refine ⟨k + 1, by omega, by omega, by go_num, by rw [HS.out], Lib.hid fun j a b => ?_⟩
            by_cases e : j = k
            · subst e; exact HC.out
            · exact HG.out j a (by omega)
          case measure => simp [intOf]; omega
        | false =>
          have hbt := cont_true s (i + k) hik false hcb
          rw [Bool.not_false] at hbt
          have hf := hcb
          have HR := Lib.hid (two_fail s i G1.out G2.out (by have hk : k = 1 := (by omega); subst hk; exact hf))
          clear hcb hf
          go_wp2
          go_ret2
          exact rune_end0 HR.out
      · have hf := cont_out s (i + k) hik
        have HR := Lib.hid (two_fail s i G1.out G2.out (by have hk : k = 1 := (by omega); subst hk; exact hf))
        clear hf
        go_wp2
        go_ret2
        exact rune_end0 HR.out
    · obtain rfl : k = 2 := by omega
      have hd := two_done s i G1.out G2.out (HG.out 1 (by omega) (by omega)) (runeVal s i v0 (2 - 1)) (congrArg (fun v => runeVal s i v (2 - 1)) HV0.out)
      have HD := Lib.hid hd
      clear hd
      generalize runeVal s i v0 (2 - 1) = V at *
      by_cases c1 : V < 128
      · have HR := Lib.hid (HD.out.2 (by omega))
        go_wp2
        go_ret2
        exact rune_end0 HR.out
      · by_cases c2 : 1114111 < V
        · have HR := Lib.hid (HD.out.2 (by omega))
          go_wp2
          go_ret2
          exact rune_end0 HR.out
        · by_cases c3 : 55296 ≤ V
          · by_cases c4 : V < 57344
            · have HR := Lib.hid (HD.out.2 (by omega))
              go_wp2
              go_ret2
              exact rune_end0 HR.out
            · have HR := Lib.hid (HD.out.1 (by omega))
              go_wp2
              go_ret2
              exact rune_endN HR.out b1
          · have HR := Lib.hid (HD.out.1 (by omega))
            go_wp2
            go_ret2
            exact rune_endN HR.out b1
set_option maxRecDepth 100000 in
set_option maxHeartbeats 4000000 in
theorem rune_three (s : ByteArray) (i : Nat) (h : i < s.size) (hs : s.size ≤ 1000000) (h1 : 224 ≤ ((s[i]'h).toNat : Int)) (h2 : ((s[i]'h).toNat : Int) < 240) (w : World) : Calls Tryz.prog 107 #[.string s, .int .i64 i] w (RuneEnd s i w) := by
  have g1 : 224 ≤ (s.get! i).toNat := by rw [get_elem s i h]; omega
  have g2 : (s.get! i).toNat < 240 := by rw [get_elem s i h]; omega
  obtain ⟨v0, hv0⟩ : ∃ v0, v0 = ((s[i]'h).toNat : Int) - 224 := ⟨_, rfl⟩
  have hv0' : v0 = ((s.get! i).toNat : Int) - 224 := by rw [get_elem s i h]; exact hv0
  have HV0 := Lib.hid hv0'
  have HV1 := Lib.hid hv0
  have hbd := runeVal_bd s i v0 (by omega) (by omega)
  have HB := Lib.hid hbd
  have G1 := Lib.hid g1
  have G2 := Lib.hid g2
  clear hv0 hv0' hbd g1 g2
  go_enter Tryz.func107, Tryz.ntmps107
  go_wp2
  rw [← HV1.out]
  go_loop [8, 10] (fun v kk => ∃ k : Nat, 1 ≤ k ∧ k ≤ 3 ∧ kk = .int .i64 k ∧ v = .int .i64 (runeVal s i v0 (k - 1)) ∧ Hid (∀ j, 1 ≤ j → j < k → contB s (i + j) = true)) (fun _ kk => 3 - (intOf kk).toNat)
  case atStart => exact ⟨1, by omega, by omega, rfl, rfl, Lib.hid (fun j a b => by omega)⟩
  case round =>
    obtain ⟨k, hk1, hk2, rfl, rfl, HG⟩ := hrel
    obtain ⟨b1, b2⟩ := HB.out (k - 1) (by omega)
    by_cases hlt : k < 3
    · by_cases hik : i + k < s.size
      · have HS := Lib.hid (val_succ s i k v0 hk1 hik)
        cases hcb : contB s (i + k) with
        | true =>
          have hbt := cont_true s (i + k) hik true hcb
          rw [Bool.not_true] at hbt
          have HC := Lib.hid hcb
          clear hcb
          have hb : ((s[i + k]'hik).toNat : Int) ≤ 255 := by have := (s[i + k]'hik).toNat_lt; omega
          generalize runeVal s i v0 (k - 1) = v at *
          go_wp2
          go_round
          case rel =>
            refine ⟨k + 1, by omega, by omega, by go_num, by rw [HS.out], Lib.hid fun j a b => ?_⟩
            by_cases e : j = k
            · subst e; exact HC.out
            · exact HG.out j a (by omega)
          case measure => simp [intOf]; omega
        | false =>
          have hbt := cont_true s (i + k) hik false hcb
          rw [Bool.not_false] at hbt
          have hf := hcb
          have HR := Lib.hid (three_fail s i G1.out G2.out (by rcases (show k = 1 ∨ k = 2 by omega) with rfl | rfl <;> first | exact .inl hf | exact .inr hf))
          clear hcb hf
          go_wp2
          go_ret2
          exact rune_end0 HR.out
      · have hf := cont_out s (i + k) hik
        have HR := Lib.hid (three_fail s i G1.out G2.out (by rcases (show k = 1 ∨ k = 2 by omega) with rfl | rfl <;> first | exact .inl hf | exact .inr hf))
        clear hf
        go_wp2
        go_ret2
        exact rune_end0 HR.out
    · obtain rfl : k = 3 := by omega
      have hd := three_done s i G1.out G2.out (HG.out 1 (by omega) (by omega)) (HG.out 2 (by omega) (by omega)) (runeVal s i v0 (3 - 1)) (congrArg (fun v => runeVal s i v (3 - 1)) HV0.out)
      have HD := Lib.hid hd
      clear hd
      generalize runeVal s i v0 (3 - 1) = V at *
      by_cases c1 : V < 2048
      · have HR := Lib.hid (HD.out.2 (by omega))
        go_wp2
        go_ret2
        exact rune_end0 HR.out
      · by_cases c2 : 1114111 < V
        · have HR := Lib.hid (HD.out.2 (by omega))
          go_wp2
          go_ret2
          exact rune_end0 HR.out
        · by_cases c3 : 55296 ≤ V
          · by_cases c4 : V < 57344
            · have HR := Lib.hid (HD.out.2 (by omega))
              go_wp2
              go_ret2
              exact rune_end0 HR.out
            · have HR := Lib.hid (HD.out.1 (by omega))
              go_wp2
              go_ret2
              exact rune_endN HR.out b1
          · have HR := Lib.hid (HD.out.1 (by omega))
            go_wp2
            go_ret2
            exact rune_endN HR.out b1
set_option maxRecDepth 100000 in
set_option maxHeartbeats 4000000 in
theorem rune_four (s : ByteArray) (i : Nat) (h : i < s.size) (hs : s.size ≤ 1000000) (h1 : 240 ≤ ((s[i]'h).toNat : Int)) (h2 : ((s[i]'h).toNat : Int) < 248) (w : World) : Calls Tryz.prog 107 #[.string s, .int .i64 i] w (RuneEnd s i w) := by
  have g1 : 240 ≤ (s.get! i).toNat := by rw [get_elem s i h]; omega
  have g2 : (s.get! i).toNat < 248 := by rw [get_elem s i h]; omega
  obtain ⟨v0, hv0⟩ : ∃ v0, v0 = ((s[i]'h).toNat : Int) - 240 := ⟨_, rfl⟩
  have hv0' : v0 = ((s.get! i).toNat : Int) - 240 := by rw [get_elem s i h]; exact hv0
  have HV0 := Lib.hid hv0'
  have HV1 := Lib.hid hv0
  have hbd := runeVal_bd s i v0 (by omega) (by omega)
  have HB := Lib.hid hbd
  have G1 := Lib.hid g1
  have G2 := Lib.hid g2
  clear hv0 hv0' hbd g1 g2
  go_enter Tryz.func107, Tryz.ntmps107
  go_wp2
  rw [← HV1.out]
  go_loop [8, 10] (fun v kk => ∃ k : Nat, 1 ≤ k ∧ k ≤ 4 ∧ kk = .int .i64 k ∧ v = .int .i64 (runeVal s i v0 (k - 1)) ∧ Hid (∀ j, 1 ≤ j → j < k → contB s (i + j) = true)) (fun _ kk => 4 - (intOf kk).toNat)
  case atStart => exact ⟨1, by omega, by omega, rfl, rfl, Lib.hid (fun j a b => by omega)⟩
  case round =>
    obtain ⟨k, hk1, hk2, rfl, rfl, HG⟩ := hrel
    obtain ⟨b1, b2⟩ := HB.out (k - 1) (by omega)
    by_cases hlt : k < 4
    · by_cases hik : i + k < s.size
      · have HS := Lib.hid (val_succ s i k v0 hk1 hik)
        cases hcb : contB s (i + k) with
        | true =>
          have hbt := cont_true s (i + k) hik true hcb
          rw [Bool.not_true] at hbt
          have HC := Lib.hid hcb
          clear hcb
          have hb : ((s[i + k]'hik).toNat : Int) ≤ 255 := by have := (s[i + k]'hik).toNat_lt; omega
          generalize runeVal s i v0 (k - 1) = v at *
          go_wp2
          go_round
          case rel =>
            refine ⟨k + 1, by omega, by omega, by go_num, by rw [HS.out], Lib.hid fun j a b => ?_⟩
            by_cases e : j = k
            · subst e; exact HC.out
            · exact HG.out j a (by omega)
          case measure => simp [intOf]; omega
        | false =>
          have hbt := cont_true s (i + k) hik false hcb
          rw [Bool.not_false] at hbt
          have hf := hcb
          have HR := Lib.hid (four_fail s i G1.out G2.out (by rcases (show k = 1 ∨ k = 2 ∨ k = 3 by omega) with rfl | rfl | rfl <;> first | exact .inl hf | exact .inr (.inl hf) | exact .inr (.inr hf)))
          clear hcb hf
          go_wp2
          go_ret2
          exact rune_end0 HR.out
      · have hf := cont_out s (i + k) hik
        have HR := Lib.hid (four_fail s i G1.out G2.out (by rcases (show k = 1 ∨ k = 2 ∨ k = 3 by omega) with rfl | rfl | rfl <;> first | exact .inl hf | exact .inr (.inl hf) | exact .inr (.inr hf)))
        clear hf
        go_wp2
        go_ret2
        exact rune_end0 HR.out
    · obtain rfl : k = 4 := by omega
      have hd := four_done s i G1.out G2.out (HG.out 1 (by omega) (by omega)) (HG.out 2 (by omega) (by omega)) (HG.out 3 (by omega) (by omega)) (runeVal s i v0 (4 - 1)) (congrArg (fun v => runeVal s i v (4 - 1)) HV0.out)
      have HD := Lib.hid hd
      clear hd
      generalize runeVal s i v0 (4 - 1) = V at *
      by_cases c1 : V < 65536
      · have HR := Lib.hid (HD.out.2 (by omega))
        go_wp2
        go_ret2
        exact rune_end0 HR.out
      · by_cases c2 : 1114111 < V
        · have HR := Lib.hid (HD.out.2 (by omega))
          go_wp2
          go_ret2
          exact rune_end0 HR.out
        · by_cases c3 : 55296 ≤ V
          · by_cases c4 : V < 57344
            · have HR := Lib.hid (HD.out.2 (by omega))
              go_wp2
              go_ret2
              exact rune_end0 HR.out
            · have HR := Lib.hid (HD.out.1 (by omega))
              go_wp2
              go_ret2
              exact rune_endN HR.out b1
          · have HR := Lib.hid (HD.out.1 (by omega))
            go_wp2
            go_ret2
            exact rune_endN HR.out b1

theorem rune_any (s : ByteArray) (i : Nat) (h : i < s.size) (hs : s.size ≤ 1000000) (w : World) : Calls Tryz.prog 107 #[.string s, .int .i64 i] w (RuneEnd s i w) := by
  have hb : ((s[i]'h).toNat : Int) ≤ 255 := by have := (s[i]'h).toNat_lt; omega
  by_cases h1 : ((s[i]'h).toNat : Int) < 128
  · exact rune_ascii s i h hs h1 w
  · by_cases h2 : ((s[i]'h).toNat : Int) < 192
    · exact rune_none s i h hs (by omega) hb (.inl h2) w
    · by_cases h3 : ((s[i]'h).toNat : Int) < 224
      · exact rune_two s i h hs (by omega) h3 w
      · by_cases h4 : ((s[i]'h).toNat : Int) < 240
        · exact rune_three s i h hs (by omega) h4 w
        · by_cases h5 : ((s[i]'h).toNat : Int) < 248
          · exact rune_four s i h hs (by omega) h5 w
          · exact rune_none s i h hs (by omega) hb (.inr (by omega)) w
end Go.Proofs.YtnclkfhdpkkakaaGreatDoor
