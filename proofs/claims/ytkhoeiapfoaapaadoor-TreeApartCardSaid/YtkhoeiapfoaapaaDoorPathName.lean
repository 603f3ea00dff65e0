/-
  The program's path.Name, walked: the document's names.
-/
import Derived.Test.YtkhoeiapfoaapaaDoorChecked
import Derived.Test.YtkhoeiapfoaapaaDoorPathPlain
import Derived.WalkKit
import Derived.Lib.Hide
import Derived.Laws.RangeString
import Derived.Laws.RangeAny
import Derived.Outline
namespace Go.Proofs.YtkhoeiapfoaapaaDoor
set_option linter.unusedVariables false
set_option linter.unusedSimpArgs false
open Go.RowKit

theorem below_iter (w : World) (s : ByteArray) (pos : Nat) : Below w.heap.size w (w.iter s pos) := (Below.refl _ w).alloc (Nat.le_refl _) _
theorem bad_cases {c : Nat} (h : badB c = true) : c = 47 ∨ (c < 32 ∧ ¬ c = 47) ∨ (c = 127) ∨ (c = 65533) := by
  simp [badB] at h
  omega
theorem good_not {c : Nat} (h : badB c = false) : ¬ c = 47 ∧ ¬ c < 32 ∧ ¬ c = 127 ∧ ¬ c = 65533 := by
  simp [badB] at h
  omega

set_option maxRecDepth 100000 in
set_option maxHeartbeats 4000000 in
theorem name_walk (s : ByteArray) (r : Bool) (hd : isDot s = false) (hr : goodFrom s s.size 0 = r) (w : World) :
    Calls Tryd.prog 37 #[.string s] w fun e w' => e = .returned (.int .i64 (if r then 0 else 30)) ∧ Below w.heap.size w w' := by
  have h0 : s.toList.isEmpty = false ∧ (s.toList == [46]) = false ∧ (s.toList == [46, 46]) = false := by
    simp only [isDot, Bool.or_eq_false_iff] at hd
    exact ⟨hd.1.1, hd.1.2, hd.2⟩
  obtain ⟨h0, h1, h2⟩ := h0
  have HR := Lib.hid hr
  clear hr hd
  go_enter Tryd.func37, Tryd.ntmps37
  go_wp2
  go_loopw [4] (fun _ w' => ∃ pos b : Nat, w' = w.iter s pos ∧ Hid (goodFrom s b pos = r) ∧ s.size ≤ pos + b) (fun _ w' => s.size - w'.iterPos w.heap.size)
  case atStart => exact ⟨0, s.size, rfl, HR, by omega⟩
  case round =>
    obtain ⟨pos, b, rfl, H, hb⟩ := hrel
    clear HR
    by_cases hp : pos < s.size
    · have hnx : ∀ ty, (Instr.next (.pointer (some ⟨w.heap.size, 0, none⟩)) true ty).run Tryd.prog (w.iter s pos) = _ := fun ty => run_next_any w s pos ty hp
      have hle := decode_le s pos
      have hwd := width_pos s pos hp
      obtain ⟨b, rfl⟩ : ∃ b', b = b' + 1 := ⟨b - 1, by omega⟩
      have H2 := Lib.hid (good_succ s b pos hp ▸ H.out)
      clear H
      generalize (Utf8.decode s pos).1 = c at *
      generalize (Utf8.decode s pos).2 = wd at *
      cases hbad : badB c with
      | true =>
        have hr : r = false := by have := H2.out; rw [hbad] at this; simpa using this.symm
        subst hr
        rcases bad_cases hbad with rfl | ⟨g1, g2⟩ | rfl | rfl
        · clear hbad H2
          go_wp2
          go_ret
          exact ⟨rfl, below_iter w s _⟩
        · clear hbad H2
          have t1 : ((c : Int) == 47) = false := by simp; omega
          go_wp2
          go_ret
          exact ⟨rfl, below_iter w s _⟩
        · clear hbad H2
          go_wp2
          go_ret
          exact ⟨rfl, below_iter w s _⟩
        · clear hbad H2
          go_wp2
          go_ret
          exact ⟨rfl, below_iter w s _⟩
      | false =>
        obtain ⟨g1, g2, g3, g4⟩ := good_not hbad
        have H3 : Hid (goodFrom s b (pos + wd) = r) := Lib.hid (by have := H2.out; rw [hbad] at this; simpa using this)
        clear hbad H2
        have t1 : ((c : Int) == 47) = false := by simp; omega
        have t3 : ((c : Int) == 127) = false := by simp; omega
        have t4 : ((c : Int) == 65533) = false := by simp; omega
        go_wp2
        go_roundw
        case rel => exact ⟨pos + wd, b, rfl, H3, by omega⟩
        case measure =>
          simp
          omega
    · have hnx : ∀ ty, (Instr.next (.pointer (some ⟨w.heap.size, 0, none⟩)) true ty).run Tryd.prog (w.iter s pos) = _ := fun ty => run_next_end w s pos ty hp
      have hr : r = true := by rw [← H.out]; exact good_end s b pos hp
      subst hr
      clear H
      go_wp2
      go_ret
      exact ⟨rfl, below_iter w s _⟩

set_option maxRecDepth 100000 in
theorem name_dot (s : ByteArray) (hd : isDot s = true) (w : World) : Calls Tryd.prog 37 #[.string s] w fun e w' => e = .returned (.int .i64 30) ∧ Below w.heap.size w w' := by
  have hc : s.toList.isEmpty = true ∨ (s.toList.isEmpty = false ∧ (s.toList == [46]) = true) ∨ (s.toList.isEmpty = false ∧ (s.toList == [46]) = false ∧ (s.toList == [46, 46]) = true) := by
    simp only [isDot, Bool.or_eq_true] at hd
    cases h0 : s.toList.isEmpty <;> cases h1 : (s.toList == [46]) <;> simp_all
  clear hd
  rcases hc with h0 | ⟨h0, h1⟩ | ⟨h0, h1, h2⟩
  all_goals
    go_enter Tryd.func37, Tryd.ntmps37
    go_wp2
    go_ret
    exact ⟨rfl, Below.refl _ _⟩

theorem name_any (s : ByteArray) (w : World) : Calls Tryd.prog 37 #[.string s] w fun e w' => e = .returned (.int .i64 (if nameB s then 0 else 30)) ∧ Below w.heap.size w w' := by
  cases hd : isDot s with
  | true =>
    have : nameB s = false := by simp [nameB, hd]
    rw [this]
    exact name_dot s hd w
  | false =>
    have : nameB s = goodFrom s s.size 0 := by simp [nameB, hd]
    rw [this]
    exact name_walk s _ hd rfl w
theorem name_ok (s : ByteArray) (h : nameB s = true) (w : World) : Calls Tryd.prog 37 #[.string s] w fun e w' => e = .returned (.int .i64 0) ∧ Below w.heap.size w w' := by
  have := name_any s w
  rw [h] at this
  exact this
theorem name_bad (s : ByteArray) (h : nameB s = false) (w : World) : Calls Tryd.prog 37 #[.string s] w fun e w' => e = .returned (.int .i64 30) ∧ Below w.heap.size w w' := by
  have := name_any s w
  rw [h] at this
  exact this

theorem closure_any (s : ByteArray) (w : World) : Calls Tryd.prog 53 #[.string s] w fun e w' => e = .returned (.bool (!nameB s)) ∧ Below w.heap.size w w' := by
  cases h : nameB s with
  | true =>
    go_enter Tryd.func53, Tryd.ntmps53
    go_wp2_with (go_at_call 37; refine (name_ok s h _).mono ?_; rintro e w1 ⟨rfl, B1⟩)
    go_ret
    exact ⟨rfl, B1⟩
  | false =>
    go_enter Tryd.func53, Tryd.ntmps53
    go_wp2_with (go_at_call 37; refine (name_bad s h _).mono ?_; rintro e w1 ⟨rfl, B1⟩)
    go_ret
    exact ⟨rfl, B1⟩
end Go.Proofs.YtkhoeiapfoaapaaDoor
