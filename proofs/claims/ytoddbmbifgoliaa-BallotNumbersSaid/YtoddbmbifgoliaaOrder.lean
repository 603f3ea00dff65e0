/-
  The ballot's order of two pairs, and Better.
-/
import Derived.Test.YtoddbmbifgoliaaSmall
import Derived.BigQuiet
import Derived.Below
import Derived.Laws.StructEq
import Derived.Deep.LoopGhost
namespace Go.Proofs.Ytoddbmbifgoliaa
open Go.RowKit Go.Lib

theorem eq38_in (D : Nat) (hD : ∀ (a b : Int) (w : World), (Op.equalIn D 22 (.int .u64 a) (.int .u64 b)).run Try.prog w = .ok (a == b) w) (a0 a1 b0 b1 : Int) (w : World) :
    (Op.equalIn (D + 1) 38 (.agg #[.int .u64 a0, .int .u64 a1]) (.agg #[.int .u64 b0, .int .u64 b1])).run Try.prog w = .ok (a0 == b0 && a1 == b1) w := by
  have u := Try.underlying38
  have hz := Try.sizeOf22
  have hg := Try.isAgg22
  simp only [Op.equalIn, Sem.run_bind, run_underlying u, Result.andThen_ok, hz]
  simp [List.range', part, hg, hD]
  by_cases h0 : a0 = b0 <;> by_cases h1 : a1 = b1 <;> simp [h0, h1]
theorem eq38 (a0 a1 b0 b1 : Int) (w : World) : (binOp .eql 38 (.agg #[.int .u64 a0, .int .u64 a1]) (.agg #[.int .u64 b0, .int .u64 b1])).run Try.prog w = .ok (.bool (a0 == b0 && a1 == b1)) w := by
  rw [run_eql_struct, show (10000 : Nat) = 9998 + 1 + 1 from rfl, eq38_in _ (fun a b w => run_equalIn_int w 9998 22 .u64 .u64 a b Try.underlying22)]
  rfl
theorem guard38 : Try.prog.eqGuardType Try.prog.depth 38 = false := by kernel_rfl

theorem two_boxes (w : World) (a0 a1 b0 b1 : Value) : ∃ W1, (w.alloc (.cells #[a0, a1] 38)).alloc (.cells #[b0, b1] 38) = W1 ∧ Below w.heap.size w W1 ∧
    W1.cell? ⟨w.heap.size, 0, none⟩ = some a0 ∧ W1.cell? ⟨w.heap.size, 1, none⟩ = some a1 ∧ W1.cell? ⟨w.heap.size + 1, 0, none⟩ = some b0 ∧ W1.cell? ⟨w.heap.size + 1, 1, none⟩ = some b1 := by
  refine ⟨_, rfl, ((Below.refl _ w).alloc (Nat.le_refl _) _).alloc (by simp) _, ?_, ?_, ?_, ?_⟩
  · exact (World.cell?_alloc_past _ _ _ (by simp)).trans (World.cell?_alloc_at _ _ _ _ rfl)
  · exact (World.cell?_alloc_past _ _ _ (by simp)).trans (World.cell?_alloc_at _ _ _ _ rfl)
  · exact (World.cell?_alloc_at _ _ _ _ (by simp)).trans rfl
  · exact (World.cell?_alloc_at _ _ _ _ (by simp)).trans rfl

set_option maxHeartbeats 1000000 in
theorem order_same (a b : Int) (w : World) :
    Calls Try.prog 17 #[.agg #[.int .u64 a, .int .u64 b], .agg #[.int .u64 a, .int .u64 b]] w fun e w' => e = .returned (.int .i64 0) ∧ Below w.heap.size w w' := by
  have hq := eq38 a b a b
  simp only [BEq.rfl, Bool.and_self] at hq
  have hg := guard38
  go_enter Try.func17, Try.ntmps17
  go_wp2
  go_ret
  exact ⟨rfl, ((Below.refl _ w).alloc (Nat.le_refl _) _).alloc (by simp) _⟩

set_option maxHeartbeats 1000000 in
theorem order_first (a0 a1 b0 b1 r : Int) (c : Bool) (h : (a0 == b0) = false) (hc : decide (a0 < b0) = c) (hr : r = if c then -1 else 1) (w : World) :
    Calls Try.prog 17 #[.agg #[.int .u64 a0, .int .u64 a1], .agg #[.int .u64 b0, .int .u64 b1]] w fun e w' => e = .returned (.int .i64 r) ∧ Below w.heap.size w w' := by
  have hq := eq38 a0 a1 b0 b1
  rw [h, Bool.false_and] at hq
  have hg := guard38
  have hn : (a0 != b0) = true := by simpa using h
  obtain ⟨W1, hW, hB, c0, c1, d0, d1⟩ := two_boxes w (.int .u64 a0) (.int .u64 a1) (.int .u64 b0) (.int .u64 b1)
  have HW := Lib.hid hW
  clear hW
  cases c <;> simp only [if_true, Bool.false_eq_true, if_false] at hr <;> subst hr
  all_goals
    go_enter Try.func17, Try.ntmps17
    go_wp2
    rw [HW.out]
    go_loopw [10] (fun i wr => i = .int .i64 0 ∧ wr = W1) (fun _ _ => 0)
    case atStart => exact ⟨rfl, rfl⟩
    case round =>
      obtain ⟨rfl, rfl⟩ := hrel
      go_wp2
      go_quiet (fail)
      go_wp2
      go_quiet (fail)
      go_wp2
      go_ret
      exact ⟨rfl, hB.trans ⟨rfl, rfl, rfl, Nat.le_refl _, fun _ _ => rfl⟩⟩

set_option maxHeartbeats 1000000 in
theorem order_second (a a1 b1 r : Int) (c : Bool) (h : (a1 == b1) = false) (hc : decide (a1 < b1) = c) (hr : r = if c then -1 else 1) (w : World) :
    Calls Try.prog 17 #[.agg #[.int .u64 a, .int .u64 a1], .agg #[.int .u64 a, .int .u64 b1]] w fun e w' => e = .returned (.int .i64 r) ∧ Below w.heap.size w w' := by
  have hq := eq38 a a1 a b1
  rw [h, Bool.and_false] at hq
  have hg := guard38
  have hn : (a1 != b1) = true := by simpa using h
  have hn0 : (a != a) = false := by simp
  obtain ⟨W1, hW, hB, c0, c1, d0, d1⟩ := two_boxes w (.int .u64 a) (.int .u64 a1) (.int .u64 a) (.int .u64 b1)
  have HW := Lib.hid hW
  clear hW
  cases c <;> simp only [if_true, Bool.false_eq_true, if_false] at hr <;> subst hr
  all_goals
    go_enter Try.func17, Try.ntmps17
    go_wp2
    rw [HW.out]
    go_loopw [10] (fun i wr => ∃ k : Nat, k ≤ 1 ∧ i = .int .i64 k ∧ ∃ q, wr = W1.drewN q) (fun i _ => 2 - (intOf i).toNat)
    case atStart => exact ⟨0, by omega, rfl, 0, rfl⟩
    case round =>
      obtain ⟨k, hk, rfl, q, rfl⟩ := hrel
      rcases Nat.eq_zero_or_pos k with rfl | hk0
      · go_wp2
        go_quiet (fail)
        go_wp2
        go_roundw
        case rel => exact ⟨1, by omega, rfl, _, rfl⟩
        case measure => simp [intOf]
      · obtain rfl : k = 1 := by omega
        go_wp2
        go_quiet (fail)
        go_wp2
        go_quiet (fail)
        go_wp2
        go_ret
        exact ⟨rfl, hB.trans ⟨rfl, rfl, rfl, Nat.le_refl _, fun _ _ => rfl⟩⟩

def betterB (c l d m : Int) : Bool := decide (d < c) || (c == d && decide (m < l))
def ordOf (a0 a1 b0 b1 : Int) : Int := if a0 = b0 then (if a1 = b1 then 0 else if a1 < b1 then -1 else 1) else if a0 < b0 then -1 else 1
theorem order_any (a0 a1 b0 b1 : Int) (w : World) :
    Calls Try.prog 17 #[.agg #[.int .u64 a0, .int .u64 a1], .agg #[.int .u64 b0, .int .u64 b1]] w fun e w' => e = .returned (.int .i64 (ordOf a0 a1 b0 b1)) ∧ Below w.heap.size w w' := by
  unfold ordOf
  by_cases h : a0 = b0
  · subst h
    rw [if_pos rfl]
    by_cases h1 : a1 = b1
    · subst h1
      rw [if_pos rfl]
      exact order_same a0 a1 w
    · rw [if_neg h1]
      exact order_second a0 a1 b1 _ _ (by simpa using h1) rfl (by by_cases g : a1 < b1 <;> simp [g]) w
  · rw [if_neg h]
    exact order_first a0 a1 b0 b1 _ _ (by simpa using h) rfl (by by_cases g : a0 < b0 <;> simp [g]) w

set_option maxHeartbeats 1000000 in
theorem better_any (c l d m : Int) (l1 : -9223372036854775808 ≤ l) (l2 : l ≤ 9223372036854775807) (m1 : -9223372036854775808 ≤ m) (m2 : m ≤ 9223372036854775807) (w : World) :
    Calls Try.prog 13 #[.int .u64 c, .int .i64 l, .int .u64 d, .int .i64 m] w fun e w' => e = .returned (.bool (betterB c l d m)) ∧ Below w.heap.size w w' := by
  have hl : IntKind.u64.wrap (IntKind.u64.wrap l + 9223372036854775808) = l + 9223372036854775808 := by
    simp [IntKind.wrap, IntKind.signed, IntKind.bits, IntKind.min, IntKind.max]; omega
  have hm : IntKind.u64.wrap (IntKind.u64.wrap m + 9223372036854775808) = m + 9223372036854775808 := by
    simp [IntKind.wrap, IntKind.signed, IntKind.bits, IntKind.min, IntKind.max]; omega
  have ho := order_any c (l + 9223372036854775808) d (m + 9223372036854775808)
  have hb : decide (0 < ordOf c (l + 9223372036854775808) d (m + 9223372036854775808)) = betterB c l d m := by
    unfold ordOf betterB
    by_cases h1 : c = d
    · by_cases h2 : l = m
      · simp [h1, h2]
      · by_cases h3 : l < m
        · have : ¬ m < l := by omega
          simp [h1, h2, h3, this]
        · have : m < l := by omega
          simp [h1, h2, h3, this]
    · by_cases h2 : c < d
      · have : ¬ d < c := by omega
        simp [h1, h2, this]
      · have : d < c := by omega
        simp [h1, h2, this]
  rw [← hb]
  have HL := Lib.hid hl
  have HM := Lib.hid hm
  clear hl hm hb
  generalize ordOf c (l + 9223372036854775808) d (m + 9223372036854775808) = r at *
  go_enter Try.func13, Try.ntmps13
  go_wp2_with fail
  rw [HL.out, HM.out]
  refine (ho _).mono ?_
  rintro e w1 ⟨rfl, B1⟩
  go_wp2
  go_ret
  exact ⟨rfl, B1⟩
end Go.Proofs.Ytoddbmbifgoliaa
