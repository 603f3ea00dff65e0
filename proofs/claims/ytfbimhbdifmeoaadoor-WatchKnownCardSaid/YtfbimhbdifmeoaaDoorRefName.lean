/-
  The reference's Name, walked: it is the program's.
-/
import Derived.Test.YtfbimhbdifmeoaaDoorRefRune
namespace Go.Proofs.YtfbimhbdifmeoaaDoor
set_option linter.unusedVariables false
set_option linter.unusedSimpArgs false
open Go.RowKit

theorem width_le (s : ByteArray) (i : Nat) : (Utf8.decode s i).2 ≤ 4 := by
  simp only [Utf8.decode]
  repeat' split
  all_goals simp
theorem bad_err : badB 65533 = true := by decide

set_option maxRecDepth 100000 in
set_option maxHeartbeats 4000000 in
theorem refName_walk (s : ByteArray) (r : Bool) (hs : s.size ≤ 1000) (hd : isDot s = false) (hr : goodFrom s s.size 0 = r) (w : World) :
    Calls Tryd.prog 29 #[.string s] w fun e w' => e = .returned (.bool r) ∧ w = w' := by
  have h0 : s.toList.isEmpty = false ∧ (s.toList == [46]) = false ∧ (s.toList == [46, 46]) = false := by
    simp only [isDot, Bool.or_eq_false_iff] at hd
    exact ⟨hd.1.1, hd.1.2, hd.2⟩
  obtain ⟨h0, h1, h2⟩ := h0
  have HR := Lib.hid hr
  clear hr hd
  go_enter Tryd.func29, Tryd.ntmps29
  go_wp2
  go_loop [3] (fun i => ∃ pos b : Nat, i = .int .i64 pos ∧ pos ≤ 1010 ∧ Hid (goodFrom s b pos = r) ∧ s.size ≤ pos + b) (fun i => s.size - (intOf i).toNat)
  case atStart => exact ⟨0, s.size, rfl, by omega, HR, by omega⟩
  case round =>
    obtain ⟨pos, b, rfl, hp0, H, hb⟩ := hrel
    clear HR
    by_cases hp : pos < s.size
    · have hle := decode_le s pos
      have hwd := width_pos s pos hp
      have hw4 := width_le s pos
      have hrune := rune_any s pos hp (by omega) w
      unfold RuneEnd runeOf at hrune
      obtain ⟨b, rfl⟩ : ∃ b', b = b' + 1 := ⟨b - 1, by omega⟩
      have H2 := Lib.hid (good_succ s b pos hp ▸ H.out)
      clear H
      generalize (Utf8.decode s pos).1 = c at *
      generalize (Utf8.decode s pos).2 = wd at *
      by_cases herr : c = 65533 ∧ wd = 1
      · rw [if_pos herr] at hrune
        have hr : r = false := by have := H2.out; rw [herr.1, bad_err] at this; simpa using this.symm
        subst hr
        clear H2 herr
        go_wp2_with (go_at_call 39; refine hrune.mono ?_; rintro e w1 ⟨rfl, rfl⟩)
        go_ret
        exact ⟨rfl, rfl⟩
      · rw [if_neg herr] at hrune
        have t0 : ((wd : Int) == 0) = false := by simp; omega
        clear herr
        cases hbad : badB c with
        | true =>
          have hr : r = false := by have := H2.out; rw [hbad] at this; simpa using this.symm
          subst hr
          rcases bad_cases hbad with rfl | ⟨g1, g2⟩ | rfl | rfl
          · clear hbad H2
            go_wp2_with (go_at_call 39; refine hrune.mono ?_; rintro e w1 ⟨rfl, rfl⟩)
            go_ret
            exact ⟨rfl, rfl⟩
          · clear hbad H2
            have t1 : ((c : Int) == 47) = false := by simp; omega
            go_wp2_with (go_at_call 39; refine hrune.mono ?_; rintro e w1 ⟨rfl, rfl⟩)
            go_ret
            exact ⟨rfl, rfl⟩
          · clear hbad H2
            go_wp2_with (go_at_call 39; refine hrune.mono ?_; rintro e w1 ⟨rfl, rfl⟩)
            go_ret
            exact ⟨rfl, rfl⟩
          · clear hbad H2
            go_wp2_with (go_at_call 39; refine hrune.mono ?_; rintro e w1 ⟨rfl, rfl⟩)
            go_ret
            exact ⟨rfl, rfl⟩
        | false =>
          obtain ⟨g1, g2, g3, g4⟩ := good_not hbad
          have H3 : Hid (goodFrom s b (pos + wd) = r) := Lib.hid (by have := H2.out; rw [hbad] at this; simpa using this)
          clear hbad H2
          have t1 : ((c : Int) == 47) = false := by simp; omega
          have t3 : ((c : Int) == 127) = false := by simp; omega
          have t4 : ((c : Int) == 65533) = false := by simp; omega
          go_wp2_with (go_at_call 39; refine hrune.mono ?_; rintro e w1 ⟨rfl, rfl⟩)
          go_round
          case rel => exact ⟨pos + wd, b, by go_num, by omega, H3, by omega⟩
          case measure => simp [intOf]; omega
    · have hr : r = true := by rw [← H.out]; exact good_end s b pos hp
      subst hr
      clear H
      go_wp2
      go_ret
      exact ⟨rfl, rfl⟩

set_option maxRecDepth 100000 in
theorem refName_dot (s : ByteArray) (hd : isDot s = true) (w : World) : Calls Tryd.prog 29 #[.string s] w fun e w' => e = .returned (.bool false) ∧ w = w' := by
  have hc : s.toList.isEmpty = true ∨ (s.toList.isEmpty = false ∧ (s.toList == [46]) = true) ∨ (s.toList.isEmpty = false ∧ (s.toList == [46]) = false ∧ (s.toList == [46, 46]) = true) := by
    simp only [isDot, Bool.or_eq_true] at hd
    cases h0 : s.toList.isEmpty <;> cases h1 : (s.toList == [46]) <;> simp_all
  clear hd
  rcases hc with h0 | ⟨h0, h1⟩ | ⟨h0, h1, h2⟩
  all_goals
    go_enter Tryd.func29, Tryd.ntmps29
    go_wp2
    go_ret
    exact ⟨rfl, rfl⟩
theorem refName_any (s : ByteArray) (hs : s.size ≤ 1000) (w : World) : Calls Tryd.prog 29 #[.string s] w fun e w' => e = .returned (.bool (nameB s)) ∧ w = w' := by
  cases hd : isDot s with
  | true =>
    have : nameB s = false := by simp [nameB, hd]
    rw [this]
    exact refName_dot s hd w
  | false =>
    have : nameB s = goodFrom s s.size 0 := by simp [nameB, hd]
    rw [this]
    exact refName_walk s _ hs hd rfl w
end Go.Proofs.YtfbimhbdifmeoaaDoor
