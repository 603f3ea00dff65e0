/-
  PathOrder, walked: Under is an order.
-/
import Derived.Test.YtebicmdbhhhofaaDoorLater
namespace Go.Proofs.YtebicmdbhhhofaaDoor
set_option linter.unusedVariables false
set_option linter.unusedSimpArgs false
open Go.RowKit

theorem under_iff (p q : Bytes) : underB p q = true ↔ ∃ L M, partsL p = some L ∧ partsL q = some M ∧ M <+: L := by
  unfold underB
  constructor
  · intro h
    cases h1 : partsL p with
    | none => rw [h1] at h; cases h
    | some L =>
      cases h2 : partsL q with
      | none => rw [h1, h2] at h; cases h
      | some M =>
        rw [h1, h2] at h
        simp only [Bool.and_eq_true, decide_eq_true_eq] at h
        exact ⟨L, M, rfl, rfl, by rw [← h.2]; exact List.take_prefix _ _⟩
  · rintro ⟨L, M, h1, h2, h3⟩
    rw [h1, h2]
    simp only [Bool.and_eq_true, decide_eq_true_eq]
    exact ⟨h3.length_le, List.prefix_iff_eq_take.1 h3 |>.symm⟩
theorem under_both {a b : Bytes} (h1 : underB a b = true) (h2 : underB b a = true) : a = b := by
  obtain ⟨L, M, e1, e2, e3⟩ := (under_iff a b).1 h1
  obtain ⟨M', L', e4, e5, e6⟩ := (under_iff b a).1 h2
  rw [e2] at e4
  rw [e1] at e5
  cases e4
  cases e5
  have : M = L := e3.eq_of_length (Nat.le_antisymm e3.length_le e6.length_le)
  rw [← ofL_parts e1, ← ofL_parts e2, this]
theorem under_trans {a b c : Bytes} (h1 : underB a b = true) (h2 : underB b c = true) : underB a c = true := by
  obtain ⟨L, M, e1, e2, e3⟩ := (under_iff a b).1 h1
  obtain ⟨M', K, e4, e5, e6⟩ := (under_iff b c).1 h2
  rw [e2] at e4
  cases e4
  exact (under_iff a c).2 ⟨L, K, e1, e5, e6.trans e3⟩
theorem under_one {a b c : Bytes} (h1 : underB a b = true) (h2 : underB a c = true) (h3 : underB b c = false) : underB c b = true := by
  obtain ⟨L, M, e1, e2, e3⟩ := (under_iff a b).1 h1
  obtain ⟨L', K, e4, e5, e6⟩ := (under_iff a c).1 h2
  rw [e1] at e4
  cases e4
  rcases List.prefix_or_prefix_of_prefix e3 e6 with h | h
  · exact (under_iff c b).2 ⟨K, M, e5, e2, h⟩
  · have := (under_iff b c).2 ⟨M, K, e2, e5, h⟩
    rw [h3] at this
    cases this

set_option maxRecDepth 100000 in
set_option maxHeartbeats 4000000 in
theorem order_core (a b c : Bytes) (ha : a.length ≤ 200) (hb : b.length ≤ 200) (hc : c.length ≤ 200) (w : World) (hm : MaxInt w) :
    Calls Tryd.prog 4 #[.string (bs a), .string (bs b), .string (bs c)] w fun e w' => e = .returned (.bool true) ∧ Below w.heap.size w w' := by
  have C1 := Lib.hid (later_under w hm a b (by omega) (by omega))
  have C2 := Lib.hid (later_under w hm b c (by omega) (by omega))
  have C3 := Lib.hid (later_under w hm b a (by omega) (by omega))
  have C4 := Lib.hid (later_under w hm a c (by omega) (by omega))
  have C5 := Lib.hid (later_under w hm c b (by omega) (by omega))
  have CG := Lib.hid (later_goes w hm)
  have s1 : (bs a).size ≤ 200 := by rw [size_bs]; exact ha
  have s2 : (bs b).size ≤ 200 := by rw [size_bs]; exact hb
  have s3 : (bs c).size ≤ 200 := by rw [size_bs]; exact hc
  have F1 := @under_both a b
  have F2 := @under_trans a b c
  have F3 := @under_one a b c
  clear hm
  generalize underB a b = x at *
  generalize underB b c = y at *
  generalize underB b a = z at *
  generalize underB a c = u at *
  generalize underB c b = t at *
  have hab : x = true → z = true → ((bs a).toList == (bs b).toList) = true := fun h1 h2 => by rw [F1 h1 h2]; simp
  have B0 := Lib.hid (Below.refl w.heap.size w)
  clear F1
  cases x with
  | false =>
    clear F2 F3 hab
    go_enter Tryd.func4, Tryd.ntmps4
    go_wp2_with fail
    refine (C1.out _ B0.out).mono ?_
    rintro e w1 ⟨rfl, B1⟩
    have X1 := Lib.hid B1
    clear B1
    go_wp2_with fail
    refine (C2.out _ X1.out).mono ?_
    rintro e w2 ⟨rfl, B2⟩
    have X2 := Lib.hid B2
    clear B2
    go_wp2_with fail
    refine (C3.out _ X2.out).mono ?_
    rintro e w3 ⟨rfl, B3⟩
    have X3 := Lib.hid B3
    clear B3
    go_wp2_with fail
    refine (CG.out _ X3.out).mono ?_
    rintro e w4 ⟨rfl, B4⟩
    have X4 := Lib.hid B4
    clear B4
    go_wp2
    go_ret
    exact ⟨rfl, X4.out⟩
  | true =>
    have hb1 := hab rfl
    clear hab
    cases z with
    | true =>
      have hb2 := hb1 rfl
      clear hb1
      cases y with
      | true =>
        obtain rfl := F2 rfl rfl
        clear F2 F3
        go_enter Tryd.func4, Tryd.ntmps4
        go_wp2_with fail
        refine (C1.out _ B0.out).mono ?_
        rintro e w1 ⟨rfl, B1⟩
        have X1 := Lib.hid B1
        clear B1
        go_wp2_with fail
        refine (C2.out _ X1.out).mono ?_
        rintro e w2 ⟨rfl, B2⟩
        have X2 := Lib.hid B2
        clear B2
        go_wp2_with fail
        refine (C3.out _ X2.out).mono ?_
        rintro e w3 ⟨rfl, B3⟩
        have X3 := Lib.hid B3
        clear B3
        go_wp2_with fail
        refine (C4.out _ X3.out).mono ?_
        rintro e w4 ⟨rfl, B4⟩
        have X4 := Lib.hid B4
        clear B4
        go_wp2_with fail
        refine (C4.out _ X4.out).mono ?_
        rintro e w5 ⟨rfl, B5⟩
        have X5 := Lib.hid B5
        clear B5
        go_wp2_with fail
        refine (CG.out _ X5.out).mono ?_
        rintro e w6 ⟨rfl, B6⟩
        have X6 := Lib.hid B6
        clear B6
        go_wp2
        go_ret
        exact ⟨rfl, X6.out⟩
      | false =>
        cases u with
        | true =>
          obtain rfl := F3 rfl rfl rfl
          clear F2 F3
          go_enter Tryd.func4, Tryd.ntmps4
          go_wp2_with fail
          refine (C1.out _ B0.out).mono ?_
          rintro e w1 ⟨rfl, B1⟩
          have X1 := Lib.hid B1
          clear B1
          go_wp2_with fail
          refine (C2.out _ X1.out).mono ?_
          rintro e w2 ⟨rfl, B2⟩
          have X2 := Lib.hid B2
          clear B2
          go_wp2_with fail
          refine (C3.out _ X2.out).mono ?_
          rintro e w3 ⟨rfl, B3⟩
          have X3 := Lib.hid B3
          clear B3
          go_wp2_with fail
          refine (C4.out _ X3.out).mono ?_
          rintro e w4 ⟨rfl, B4⟩
          have X4 := Lib.hid B4
          clear B4
          go_wp2_with fail
          refine (C5.out _ X4.out).mono ?_
          rintro e w5 ⟨rfl, B5⟩
          have X5 := Lib.hid B5
          clear B5
          go_wp2_with fail
          refine (CG.out _ X5.out).mono ?_
          rintro e w6 ⟨rfl, B6⟩
          have X6 := Lib.hid B6
          clear B6
          go_wp2
          go_ret
          exact ⟨rfl, X6.out⟩
        | false =>
          clear F2 F3
          go_enter Tryd.func4, Tryd.ntmps4
          go_wp2_with fail
          refine (C1.out _ B0.out).mono ?_
          rintro e w1 ⟨rfl, B1⟩
          have X1 := Lib.hid B1
          clear B1
          go_wp2_with fail
          refine (C2.out _ X1.out).mono ?_
          rintro e w2 ⟨rfl, B2⟩
          have X2 := Lib.hid B2
          clear B2
          go_wp2_with fail
          refine (C3.out _ X2.out).mono ?_
          rintro e w3 ⟨rfl, B3⟩
          have X3 := Lib.hid B3
          clear B3
          go_wp2_with fail
          refine (C4.out _ X3.out).mono ?_
          rintro e w4 ⟨rfl, B4⟩
          have X4 := Lib.hid B4
          clear B4
          go_wp2_with fail
          refine (CG.out _ X4.out).mono ?_
          rintro e w5 ⟨rfl, B5⟩
          have X5 := Lib.hid B5
          clear B5
          go_wp2
          go_ret
          exact ⟨rfl, X5.out⟩
    | false =>
      clear hb1
      cases y with
      | true =>
        obtain rfl := F2 rfl rfl
        clear F2 F3
        go_enter Tryd.func4, Tryd.ntmps4
        go_wp2_with fail
        refine (C1.out _ B0.out).mono ?_
        rintro e w1 ⟨rfl, B1⟩
        have X1 := Lib.hid B1
        clear B1
        go_wp2_with fail
        refine (C2.out _ X1.out).mono ?_
        rintro e w2 ⟨rfl, B2⟩
        have X2 := Lib.hid B2
        clear B2
        go_wp2_with fail
        refine (C3.out _ X2.out).mono ?_
        rintro e w3 ⟨rfl, B3⟩
        have X3 := Lib.hid B3
        clear B3
        go_wp2_with fail
        refine (C4.out _ X3.out).mono ?_
        rintro e w4 ⟨rfl, B4⟩
        have X4 := Lib.hid B4
        clear B4
        go_wp2_with fail
        refine (C4.out _ X4.out).mono ?_
        rintro e w5 ⟨rfl, B5⟩
        have X5 := Lib.hid B5
        clear B5
        go_wp2_with fail
        refine (CG.out _ X5.out).mono ?_
        rintro e w6 ⟨rfl, B6⟩
        have X6 := Lib.hid B6
        clear B6
        go_wp2
        go_ret
        exact ⟨rfl, X6.out⟩
      | false =>
        cases u with
        | true =>
          obtain rfl := F3 rfl rfl rfl
          clear F2 F3
          go_enter Tryd.func4, Tryd.ntmps4
          go_wp2_with fail
          refine (C1.out _ B0.out).mono ?_
          rintro e w1 ⟨rfl, B1⟩
          have X1 := Lib.hid B1
          clear B1
          go_wp2_with fail
          refine (C2.out _ X1.out).mono ?_
          rintro e w2 ⟨rfl, B2⟩
          have X2 := Lib.hid B2
          clear B2
          go_wp2_with fail
          refine (C3.out _ X2.out).mono ?_
          rintro e w3 ⟨rfl, B3⟩
          have X3 := Lib.hid B3
          clear B3
          go_wp2_with fail
          refine (C4.out _ X3.out).mono ?_
          rintro e w4 ⟨rfl, B4⟩
          have X4 := Lib.hid B4
          clear B4
          go_wp2_with fail
          refine (C5.out _ X4.out).mono ?_
          rintro e w5 ⟨rfl, B5⟩
          have X5 := Lib.hid B5
          clear B5
          go_wp2_with fail
          refine (CG.out _ X5.out).mono ?_
          rintro e w6 ⟨rfl, B6⟩
          have X6 := Lib.hid B6
          clear B6
          go_wp2
          go_ret
          exact ⟨rfl, X6.out⟩
        | false =>
          clear F2 F3
          go_enter Tryd.func4, Tryd.ntmps4
          go_wp2_with fail
          refine (C1.out _ B0.out).mono ?_
          rintro e w1 ⟨rfl, B1⟩
          have X1 := Lib.hid B1
          clear B1
          go_wp2_with fail
          refine (C2.out _ X1.out).mono ?_
          rintro e w2 ⟨rfl, B2⟩
          have X2 := Lib.hid B2
          clear B2
          go_wp2_with fail
          refine (C3.out _ X2.out).mono ?_
          rintro e w3 ⟨rfl, B3⟩
          have X3 := Lib.hid B3
          clear B3
          go_wp2_with fail
          refine (C4.out _ X3.out).mono ?_
          rintro e w4 ⟨rfl, B4⟩
          have X4 := Lib.hid B4
          clear B4
          go_wp2_with fail
          refine (CG.out _ X4.out).mono ?_
          rintro e w5 ⟨rfl, B5⟩
          have X5 := Lib.hid B5
          clear B5
          go_wp2
          go_ret
          exact ⟨rfl, X5.out⟩

set_option maxRecDepth 100000 in
theorem order_long (a b c : Bytes) (h : 200 < a.length ∨ 200 < b.length ∨ 200 < c.length) (m1 : (bs a).size ≤ 9223372036854775807) (m2 : (bs b).size ≤ 9223372036854775807) (m3 : (bs c).size ≤ 9223372036854775807) (w : World) :
    Calls Tryd.prog 4 #[.string (bs a), .string (bs b), .string (bs c)] w fun e w' => e = .returned (.bool true) ∧ Below w.heap.size w w' := by
  rw [← size_bs, ← size_bs b, ← size_bs c] at h
  rcases (show 200 < (bs a).size ∨ ((bs a).size ≤ 200 ∧ 200 < (bs b).size) ∨ ((bs a).size ≤ 200 ∧ (bs b).size ≤ 200 ∧ 200 < (bs c).size) by omega) with g | ⟨g1, g2⟩ | ⟨g1, g2, g3⟩
  all_goals
    clear h
    go_enter Tryd.func4, Tryd.ntmps4
    go_wp2
    go_ret
    exact ⟨rfl, Below.refl _ _⟩
end Go.Proofs.YtebicmdbhhhofaaDoor
