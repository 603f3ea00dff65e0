/-
  BallotOrder, walked.
-/
import Derived.Test.YtoddbmbifgoliaaCounts
namespace Go.Proofs.Ytoddbmbifgoliaa
open Go.RowKit Go.Shelf Go.Lib Go.Sort

def I64 (n : Int) : Prop := -9223372036854775808 ≤ n ∧ n ≤ 9223372036854775807

theorem better_self (c l : Int) : betterB c l c l = false := by simp [betterB]
theorem better_two (c l d m : Int) : (betterB c l d m && betterB d m c l) = false := by
  unfold betterB
  by_cases h1 : d < c
  · have : ¬ c < d := by omega
    have h2 : ¬ d = c := by omega
    simp [h1, this, h2]
  · by_cases h2 : c = d
    · subst h2
      by_cases h3 : m < l
      · have : ¬ l < m := by omega
        simp [h3, this]
      · simp [h3]
    · simp [h1, h2]
theorem better_one (c l d m : Int) : ((betterB c l d m || betterB d m c l) == (c == d && l == m)) = false := by
  unfold betterB
  by_cases h1 : d < c
  · have : ¬ c = d := by omega
    simp [h1, this]
  · by_cases h2 : c = d
    · subst h2
      by_cases h3 : m < l
      · have : ¬ l = m := by omega
        simp [h3, this]
      · by_cases h4 : l < m
        · have : ¬ l = m := by omega
          simp [h4, this]
        · have : l = m := by omega
          simp [this]
    · have : c < d := by omega
      simp [this, h2]
theorem better_trans (c l d m e n : Int) (h1 : betterB c l d m = true) (h2 : betterB d m e n = true) : betterB c l e n = true := by
  unfold betterB at *
  simp only [Bool.or_eq_true, Bool.and_eq_true, decide_eq_true_eq, beq_iff_eq] at *
  omega

set_option maxRecDepth 100000 in
set_option maxHeartbeats 8000000 in
theorem ordered_core (c d e l m n : Int) (hl : I64 l) (hm : I64 m) (hn : I64 n) (x y z v p q : Bool) (hx : betterB c l d m = x) (hy : betterB d m c l = y) (hz : betterB d m e n = z) (hv : betterB c l e n = v)
    (hp : (c == d) = p) (hq : (l == m) = q) (h1 : (x && y) = false) (h2 : ((x || y) == (p && q)) = false) (h3 : (!x || !z || v) = true) (w : World) :
    Calls Try.prog 7 #[.int .u64 c, .int .u64 d, .int .u64 e, .int .i64 l, .int .i64 m, .int .i64 n] w fun x w' => x = .returned (.bool true) ∧ Below w.heap.size w w' := by
  have bx := better_any c l d m hl.1 hl.2 hm.1 hm.2
  have byy := better_any d m c l hm.1 hm.2 hl.1 hl.2
  have bz := better_any d m e n hm.1 hm.2 hn.1 hn.2
  have bv := better_any c l e n hl.1 hl.2 hn.1 hn.2
  have bs := better_any c l c l hl.1 hl.2 hl.1 hl.2
  rw [hx] at bx
  rw [hy] at byy
  rw [hz] at bz
  rw [hv] at bv
  rw [better_self] at bs
  clear hx hy hz hv
  cases x <;> cases y <;> cases p <;> cases q <;> first
    | (exfalso; revert h1 h2; decide)
    | (cases z <;> cases v <;> first
        | (exfalso; revert h3; decide)
        | (clear h1 h2 h3
           go_enter Try.func7, Try.ntmps7
           go_wp2_with fail
           refine (bx _).mono ?_
           rintro r w1 ⟨rfl, B1⟩
           have C1 := Lib.hid B1
           clear B1
           go_wp2_with fail
           refine (byy _).mono ?_
           rintro r w2 ⟨rfl, B2⟩
           have C2 := Lib.hid (C1.out.trans (B2.mono C1.out.size))
           clear B2 C1
           go_wp2_with fail
           refine (bz _).mono ?_
           rintro r w3 ⟨rfl, B3⟩
           have C3 := Lib.hid (C2.out.trans (B3.mono C2.out.size))
           clear B3 C2
           go_wp2_with fail
           refine (bs _).mono ?_
           rintro r w4 ⟨rfl, B4⟩
           have C4 := Lib.hid (C3.out.trans (B4.mono C3.out.size))
           clear B4 C3
           go_wp2_with (first
             | (go_at_call 13; refine (bv _).mono ?_; rintro r w5 ⟨rfl, B5⟩)
             | (go_at_call 14; refine (counts_true _).mono ?_; rintro r w6 ⟨rfl, B6⟩)
             | fail)
           go_ret
           first
             | exact ⟨rfl, C4.out.trans (B6.mono C4.out.size)⟩
             | exact ⟨rfl, C4.out.trans ((B5.mono C4.out.size).trans (B6.mono (Nat.le_trans C4.out.size B5.size)))⟩))


theorem ordered (c d e l m n : Int) (hl : I64 l) (hm : I64 m) (hn : I64 n) (w : World) :
    Calls Try.prog 7 #[.int .u64 c, .int .u64 d, .int .u64 e, .int .i64 l, .int .i64 m, .int .i64 n] w fun x w' => x = .returned (.bool true) ∧ Below w.heap.size w w' := by
  refine ordered_core c d e l m n hl hm hn _ _ _ _ _ _ rfl rfl rfl rfl rfl rfl (better_two c l d m) (better_one c l d m) ?_ w
  cases hx : betterB c l d m
  · simp
  · cases hz : betterB d m e n
    · simp
    · simp [better_trans c l d m e n hx hz]
end Go.Proofs.Ytoddbmbifgoliaa
