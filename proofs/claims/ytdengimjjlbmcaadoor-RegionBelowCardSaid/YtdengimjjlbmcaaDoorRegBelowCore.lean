/-
  RegionBelow, walked.
-/
import Derived.Test.YtdengimjjlbmcaaDoorRegLongest
import Derived.Test.YtdengimjjlbmcaaDoorRegKnown
namespace Go.Proofs.YtdengimjjlbmcaaDoor
set_option linter.unusedVariables false
set_option linter.unusedSimpArgs false
open Go.RowKit

/-! plain -/
theorem ops_three (W : World) (p q r : Bytes) : OpsAt (W.alloc (.cells (opCells p ++ opCells q ++ opCells r).toArray 32)) (W.alloc (.cells (opCells p ++ opCells q ++ opCells r).toArray 32)).heap.size (some ⟨W.heap.size, 0, none⟩) [p, q, r] := by
  intro k x hk
  refine ⟨_, _, ⟨0, none, 0, 0, 0, false, false, none, 0, 0⟩, rfl, by simp, ?_⟩
  match k, hk with
  | 0, hk => cases hk; exact range_new (Below.refl _ _) _ _ rfl
  | 1, hk => cases hk; exact range_new (Below.refl _ _) _ _ rfl
  | 2, hk => cases hk; exact range_new (Below.refl _ _) _ _ rfl
  | k + 3, hk => simp at hk
theorem under_trans {p q r : Bytes} (h1 : underB p q = true) (h2 : underB q r = true) : underB p r = true := by
  obtain ⟨A, B, ha, hb, hp⟩ := under_some h1
  obtain ⟨B', C, hb', hc, hq⟩ := under_some h2
  rw [hb] at hb'
  cases hb'
  exact (under_parts ha hc).2 (hq.trans hp)
/-- What Join comes to. -/
theorem joinV_cases (p nm : Bytes) : (∃ k, k ≠ 0 ∧ joinV p nm = .tuple #[.string (bs []), .int .i64 k]) ∨ ∃ q, joinV p nm = .tuple #[.string (bs q), .int .i64 0] ∧ underB q p = true ∧ q.length ≤ 64 := by
  unfold joinV
  cases h : partsL p with
  | none => exact .inl ⟨30, by omega, rfl⟩
  | some L =>
    dsimp only
    cases ho : okName nm with
    | false => exact .inl ⟨30, by omega, rfl⟩
    | true =>
      rw [if_pos rfl]
      unfold joinVal
      cases hj : joinErr L nm with
      | true => exact .inl ⟨3, by omega, rfl⟩
      | false =>
        have hlen : (ofL (L ++ [nm])).length ≤ 64 := by
          unfold joinErr joinL at hj
          simpa using hj
        refine .inr ⟨joinL L nm, by simp, ?_, hlen⟩
        have hq : partsL (joinL L nm) = some (L ++ [nm]) := parts_of (L ++ [nm]) (fun x hx => by
          rcases List.mem_append.1 hx with hx | hx
          · exact parts_good h x hx
          · simp at hx; subst hx; exact ho) hlen
        exact (under_parts hq h).2 (List.prefix_append _ _)
theorem allV_three (L : List Bytes) (p q : Bytes) {i : Nat} (hi : ofB L p = (i : Int)) : allV L [] [p, q, p] = if ofB L q = (i : Int) then ((i : Int), 0) else (0, 60) := by
  unfold allV
  rw [if_neg (by simp), allAt_cons, hi]
  by_cases h : ofB L q = (i : Int)
  · simp [h, hi]
  · have hne : (ofB L q != (i : Int)) = true := by simpa using h
    simp [h, hi]
set_option maxRecDepth 100000 in
set_option maxHeartbeats 4000000 in
/-- Where nothing is looked at: the example alone. -/
theorem regBelow_out (ao : Option Addr) (c : Nat) (L : List Bytes) (p : Bytes)  (nm : Bytes) (hnm : nm.length ≤ maxLen) (w : World) (hm : MaxInt w) (hbig : L.length ≤ maxLen) (hL : ∀ r ∈ L, r.length ≤ maxLen) (hpm : p.length ≤ maxLen) (hc : StrSl w w.heap.size ao L)
    (hg : longB L = true ∨ 200 < p.length ∨ 60 < nm.length ∨ checkL L ≠ 0) : Calls Tryd.prog 8 #[.slice ao L.length c, .string (bs p), .string (bs nm)] w (LawEnd w) := by
  have c0 := long_any ao c L w hbig hL hc
  have CG := Lib.hid (later_finds w hm)
  have B0 := Lib.hid (Below.refl w.heap.size w)
  have hps : (bs p).size ≤ 9223372036854775807 := by rw [size_bs]; unfold maxLen at hpm; omega
  cases hl : longB L with
  | true =>
    rw [hl] at c0
    have C0 := Lib.hid c0
    clear hl c0 hg hm hbig hL hpm hc
    obtain ⟨N, hN⟩ : ∃ N, N = L.length := ⟨_, rfl⟩
    rw [← hN] at C0 ⊢
    clear hN
    go_enter Tryd.func8, Tryd.ntmps8
    go_wp2_with fail
    refine C0.out.mono ?_
    rintro e w1 ⟨rfl, rfl⟩
    go_wp2_with fail
    refine (CG.out _ B0.out).mono ?_
    rintro e w1 ⟨rfl, B1⟩
    have X1 := Lib.hid B1
    clear B1
    go_wp2
    go_ret
    exact ⟨rfl, X1.out⟩
  | false =>
    rw [hl] at c0
    obtain ⟨h20, h200⟩ := longB_no hl
    have C0 := Lib.hid c0
    clear c0
    by_cases hp : 200 < p.length
    · have d1 : decide (200 < ((bs p).size : Int)) = true := by rw [size_bs]; simp; omega
      clear hl hg hm hbig hL hpm hc hp h20 h200
      obtain ⟨N, hN⟩ : ∃ N, N = L.length := ⟨_, rfl⟩
      rw [← hN] at C0 ⊢
      clear hN
      go_enter Tryd.func8, Tryd.ntmps8
      go_wp2_with fail
      refine C0.out.mono ?_
      rintro e w1 ⟨rfl, rfl⟩
      go_wp2_with fail
      refine (CG.out _ B0.out).mono ?_
      rintro e w1 ⟨rfl, B1⟩
      have X1 := Lib.hid B1
      clear B1
      go_wp2
      go_ret
      exact ⟨rfl, X1.out⟩
    · have d1 : decide (200 < ((bs p).size : Int)) = false := by rw [size_bs]; simp; omega
      have hnz : (bs nm).size ≤ 9223372036854775807 := by rw [size_bs]; unfold maxLen at hnm; omega
      by_cases h60 : 60 < nm.length
      · have d5 : decide (60 < ((bs nm).size : Int)) = true := by rw [size_bs]; simp; omega
        clear hl hg hm hbig hL hpm hc hp h20 h200 h60 hnm
        obtain ⟨N, hN⟩ : ∃ N, N = L.length := ⟨_, rfl⟩
        rw [← hN] at C0 ⊢
        clear hN
        go_enter Tryd.func8, Tryd.ntmps8
        go_wp2_with fail
        refine C0.out.mono ?_
        rintro e w1 ⟨rfl, rfl⟩
        go_wp2_with fail
        refine (CG.out _ B0.out).mono ?_
        rintro e w1 ⟨rfl, B1⟩
        have X1 := Lib.hid B1
        clear B1
        go_wp2
        go_ret
        exact ⟨rfl, X1.out⟩
      · have d5 : decide (60 < ((bs nm).size : Int)) = false := by rw [size_bs]; simp; omega
        have hck : checkL L ≠ 0 := by
          rcases hg with h | h | h | h
          · rw [hl] at h; cases h
          · exact absurd h hp
          · exact absurd h h60
          · exact h
        have c1 := later_gCheck hm ao c L (by omega) (fun r hr => Nat.le_trans (h200 r hr) (by omega)) hc
        generalize checkL L = k at *
        have d2 : (k != 0) = true := by simpa using hck
        have C1 := Lib.hid c1
        clear hl hg hm h60 hnm hbig hL hpm hc hp h20 h200 hck c1
        obtain ⟨N, hN⟩ : ∃ N, N = L.length := ⟨_, rfl⟩
        rw [← hN] at C0 C1 ⊢
        clear hN
        go_enter Tryd.func8, Tryd.ntmps8
        go_wp2_with fail
        refine C0.out.mono ?_
        rintro e w1 ⟨rfl, rfl⟩
        go_wp2_with fail
        refine (C1.out _ B0.out).mono ?_
        rintro e w1 ⟨rfl, B1⟩
        have X1 := Lib.hid B1
        clear B1
        go_wp2_with fail
        refine (CG.out _ X1.out).mono ?_
        rintro e w2 ⟨rfl, B2⟩
        have X2 := Lib.hid B2
        clear B2
        go_wp2
        go_ret
        exact ⟨rfl, X2.out⟩
set_option maxRecDepth 100000 in
set_option maxHeartbeats 8000000 in
theorem regBelow_in (ao : Option Addr) (c : Nat) (L : List Bytes) (p nm : Bytes) (w : World) (hm : MaxInt w) (hc : StrSl w w.heap.size ao L)
    (hl : longB L = false) (hp : p.length ≤ 200) (hn : nm.length ≤ 60) (hck : checkL L = 0) : Calls Tryd.prog 8 #[.slice ao L.length c, .string (bs p), .string (bs nm)] w (LawEnd w) := by
  obtain ⟨h20, h200⟩ := longB_no hl
  have h1000 : ∀ r ∈ L, r.length ≤ 1000 := fun r hr => Nat.le_trans (h200 r hr) (by omega)
  have c0 := long_any ao c L w (by unfold maxLen; omega) (fun r hr => Nat.le_trans (h200 r hr) (by unfold maxLen; omega)) hc
  have c1 := later_gCheck hm ao c L (by omega) h1000 hc
  have c2 := fun (x : Bytes) (hx : x.length ≤ 1000) => always_gOf hm ao c L (by omega) h1000 hc x hx
  have c3 := fun (x y : Bytes) (hx : x.length ≤ 1000) (hy : y.length ≤ 1000) => always_under hm x y hx hy
  have c4 := later_join w hm p nm (by omega) (by omega)
  have c5 := fun (q : Bytes) (hq : q.length ≤ 1000) (W : World) (hW : Below w.heap.size w W) => always_gAll (hm.kept hW) ao c L (by omega) h1000 ((hc.kept hW).mono hW.size) (.int .u8 7) (.slice none 0 0) (.int .i64 0) (.bool false) (.bool false) (some ⟨W.heap.size, 0, none⟩) 3 [] [p, q, p] (by simp) (by simp) (fun r hr => by simp at hr; rcases hr with rfl | rfl | rfl <;> omega)
  rw [hl] at c0
  rw [hck] at c1
  have hps : (bs p).size ≤ 9223372036854775807 := by rw [size_bs]; omega
  have hnz : (bs nm).size ≤ 9223372036854775807 := by rw [size_bs]; omega
  have d1 : decide (200 < ((bs p).size : Int)) = false := by rw [size_bs]; simp; omega
  have d5 : decide (60 < ((bs nm).size : Int)) = false := by rw [size_bs]; simp; omega
  have CG := Lib.hid (later_finds w hm)
  have CGA := Lib.hid (show Always w 14 #[] (.bool true) from fun W hW => finds_true W (hm.kept hW))
  have B0 := Lib.hid (Below.refl w.heap.size w)
  have hcs := ofB_cases L p
  have HALLV := Lib.hid (fun (q : Bytes) (i : Nat) (hi : ofB L p = (i : Int)) => allV_three L p q hi)
  obtain ⟨N, hN⟩ : ∃ N, N = L.length := ⟨_, rfl⟩
  have HN := Lib.hid hN
  rw [← hN] at c0 c1 c2 c5 h20 hcs ⊢
  have C0 := Lib.hid c0
  have C1 := Lib.hid c1
  have C2 := Lib.hid c2
  have C3 := Lib.hid c3
  have C5 := Lib.hid c5
  have HC := Lib.hid hc
  have HM := Lib.hid hm
  have HL := Lib.hid h1000
  have HP : Hid (p.length ≤ 1000) := Lib.hid (by omega)
  rcases joinV_cases p nm with ⟨je, hje, hj⟩ | ⟨q, hj, hqp, hql⟩
  · rw [hj] at c4
    have C4 := Lib.hid c4
    have dj : (je != 0) = true := by simpa using hje
    have K2 := Lib.hid (C2.out p HP.out).later
    generalize ofB L p = s at K2
    clear c0 c1 c2 c3 c4 c5 hN hc h200 h1000 hl hm hck hp hn hcs hj hje
    go_enter Tryd.func8, Tryd.ntmps8
    go_wp2_with fail
    refine C0.out.mono ?_
    rintro e w1 ⟨rfl, rfl⟩
    go_wp2_with fail
    refine (C1.out _ B0.out).mono ?_
    rintro e w1 ⟨rfl, B1⟩
    have X1 := Lib.hid B1
    clear B1
    go_wp2_with fail
    refine (C4.out _ X1.out).mono ?_
    rintro e w2 ⟨rfl, B2⟩
    have X2 := Lib.hid B2
    clear B2
    go_wp2_with fail
    refine (K2.out _ X2.out).mono ?_
    rintro e w3 ⟨rfl, B3⟩
    have X3 := Lib.hid B3
    clear B3
    go_wp2_with fail
    refine (CG.out _ X3.out).mono ?_
    rintro e w4 ⟨rfl, B4⟩
    have X4 := Lib.hid B4
    clear B4
    go_wp2
    go_ret
    exact ⟨rfl, X4.out⟩
  · rw [hj] at c4
    have C4 := Lib.hid c4
    rcases hcs with ⟨hs, hno⟩ | ⟨i0, r, hi0, hr, hur, hs, hall⟩
    · have K2 := Lib.hid (C2.out p HP.out).later
      rw [hs] at K2
      clear c0 c1 c2 c3 c4 c5 hN hc h200 h1000 hl hm hck hp hn hj hno hs
      go_enter Tryd.func8, Tryd.ntmps8
      go_wp2_with fail
      refine C0.out.mono ?_
      rintro e w1 ⟨rfl, rfl⟩
      go_wp2_with fail
      refine (C1.out _ B0.out).mono ?_
      rintro e w1 ⟨rfl, B1⟩
      have X1 := Lib.hid B1
      clear B1
      go_wp2_with fail
      refine (C4.out _ X1.out).mono ?_
      rintro e w2 ⟨rfl, B2⟩
      have X2 := Lib.hid B2
      clear B2
      go_wp2_with fail
      refine (K2.out _ X2.out).mono ?_
      rintro e w3 ⟨rfl, B3⟩
      have X3 := Lib.hid B3
      clear B3
      go_wp2_with fail
      refine (CG.out _ X3.out).mono ?_
      rintro e w4 ⟨rfl, B4⟩
      have X4 := Lib.hid B4
      clear B4
      go_wp2
      go_ret
      exact ⟨rfl, X4.out⟩
    · have huq := under_trans hqp hur
      rcases ofB_cases L q with ⟨_, hno⟩ | ⟨k0, x, hk0, hx, hux, hsq, hallq⟩
      · rw [hno i0 r hr] at huq
        cases huq
      · have hxr := hallq i0 r hr huq
        rw [← HN.out] at hk0
        have hql1 : q.length ≤ 1000 := by omega
        have K2 := Lib.hid (C2.out p HP.out).later
        have K6 := Lib.hid (C2.out q hql1).later
        have k3 := C3.out x r (HL.out x (List.mem_of_getElem? hx)) (HL.out r (List.mem_of_getElem? hr))
        have hav := HALLV.out q i0 hs
        rw [hsq] at hav K6
        rw [hs] at K2
        rw [hxr] at k3
        have K3 := Lib.hid k3
        obtain ⟨b, off, rfl, hb, hcx⟩ := HC.out k0 x hx
        obtain ⟨b', off', e, _, hcr⟩ := HC.out i0 r hr
        simp at e
        obtain ⟨rfl, rfl⟩ := e
        have HCX := Lib.hid hcx
        have HCR := Lib.hid hcr
        have di : decide ((i0 : Int) < 0) = false := by simp
        have dk : decide ((k0 : Int) < 0) = false := by simp
        have dk2 : decide (N ≤ k0) = false := by rw [decide_eq_false_iff_not]; omega
        have HBL := Lib.hid hb
        by_cases hik : k0 = i0
        · subst hik
          rw [if_pos rfl] at hav
          obtain rfl : x = r := by rw [hx] at hr; cases hr; rfl
          have e1 : ((k0 : Int) == (k0 : Int)) = true := by simp
          have k5 : ∀ W, Below w.heap.size w W → Calls Tryd.prog 15 #[.slice (some ⟨b, off, none⟩) N c, .agg #[.int .u8 7, .string ⟨#[]⟩, .slice none 0 0, .int .i64 0, .bool false, .bool false, .slice (some ⟨W.heap.size, 0, none⟩) 3 3]]
              (W.alloc (.cells #[.int .u8 0, .string (bs p), .slice none 0 0, .int .i64 0, .bool false, .bool false, .slice none 0 0, .int .u8 0, .string (bs q), .slice none 0 0, .int .i64 0, .bool false, .bool false, .slice none 0 0, .int .u8 0, .string (bs p), .slice none 0 0, .int .i64 0, .bool false, .bool false, .slice none 0 0] 32)) fun e w' => e = .returned (.tuple #[.int .i64 (k0 : Int), .int .i64 0]) ∧ Below w.heap.size w w' := fun W hW => by
            have hW2 : Below w.heap.size w (W.alloc (.cells #[.int .u8 0, .string (bs p), .slice none 0 0, .int .i64 0, .bool false, .bool false, .slice none 0 0, .int .u8 0, .string (bs q), .slice none 0 0, .int .i64 0, .bool false, .bool false, .slice none 0 0, .int .u8 0, .string (bs p), .slice none 0 0, .int .i64 0, .bool false, .bool false, .slice none 0 0] 32)) := belowA hW _
            have h := always_gAll (w := W.alloc (.cells #[.int .u8 0, .string (bs p), .slice none 0 0, .int .i64 0, .bool false, .bool false, .slice none 0 0, .int .u8 0, .string (bs q), .slice none 0 0, .int .i64 0, .bool false, .bool false, .slice none 0 0, .int .u8 0, .string (bs p), .slice none 0 0, .int .i64 0, .bool false, .bool false, .slice none 0 0] 32)) (HM.out.kept hW2) (some ⟨b, off, none⟩) c L (by rw [← HN.out]; omega) HL.out ((HC.out.kept hW2).mono hW2.size) (.int .u8 7) (.slice none 0 0) (.int .i64 0) (.bool false) (.bool false)
              (some ⟨W.heap.size, 0, none⟩) 3 [] [p, q, p] (by simp) (by simp) (fun y hy => by simp at hy; rcases hy with rfl | rfl | rfl <;> omega) (ops_three W p q p) _ (Below.refl _ _)
            rw [hav, ← HN.out] at h
            exact h.mono fun e w' ⟨he, hb9⟩ => ⟨he, hW2.trans (hb9.mono hW2.size)⟩
          have K5 := Lib.hid k5
          clear c0 c1 c2 c3 c4 c5 hN hc h200 h1000 hl hm hck hp hn hj hs hsq hall hallq hr hx hur hux huq hxr hcx hcr hav k3 k5 hqp hql hql1
          go_enter Tryd.func8, Tryd.ntmps8
          go_wp2_with fail
          refine C0.out.mono ?_
          rintro e w1 ⟨rfl, rfl⟩
          go_wp2_with fail
          refine (C1.out _ B0.out).mono ?_
          rintro e wa1 ⟨rfl, Ba1⟩
          have Xa1 := Lib.hid Ba1
          clear Ba1
          go_wp2_with fail
          refine (C4.out _ Xa1.out).mono ?_
          rintro e wa2 ⟨rfl, Ba2⟩
          have Xa2 := Lib.hid Ba2
          clear Ba2
          go_wp2_with fail
          refine (K2.out _ Xa2.out).mono ?_
          rintro e wa3 ⟨rfl, Ba3⟩
          have Xa3 := Lib.hid Ba3
          clear Ba3
          go_wp2_with fail
          refine (K6.out _ Xa3.out).mono ?_
          rintro e wa4 ⟨rfl, Ba4⟩
          have Xa4 := Lib.hid Ba4
          clear Ba4
          go_wp2_with fail
          refine (K5.out _ Xa4.out).mono ?_
          rintro e w5 ⟨rfl, B5⟩
          have X5 := Lib.hid B5
          clear B5
          go_wp2_with fail
          have f1 : ∀ o, (Wext w5 o).cell? ⟨b, off + k0, none⟩ = some (.string (bs x)) := fun o => ((X5.out.trans ((Wext.below w5 o).mono X5.out.size)).cell (p := ⟨b, off + k0, none⟩) HBL.out).trans HCX.out
          have KU := Lib.hid (K3.out.ext X5.out)
          have KF := Lib.hid (CGA.out.ext X5.out)
          refine wp_region_ext (by kernel_rfl) (by kernel_rfl) ?_
          repeat (go_big_quiet_step (first | (go_at_call 17; exact KU.out _) | (go_at_call 14; exact KF.out _)))
          refine wpQuiet_nil ?_
          intro w' hw'
          obtain ⟨oq, hw''⟩ := hw'
          subst hw''
          go_wp2
          go_ret
          exact ⟨rfl, X5.out.trans ((Wext.below w5 oq).mono X5.out.size)⟩
        · have hne : ¬ ((k0 : Int) = (i0 : Int)) := by omega
          rw [if_neg hne] at hav
          have e1 : ((k0 : Int) == (i0 : Int)) = false := by rw [beq_eq_false_iff_ne]; omega
          have e2 : (k0 == i0) = false := by simpa using hik
          have k5 : ∀ W, Below w.heap.size w W → Calls Tryd.prog 15 #[.slice (some ⟨b, off, none⟩) N c, .agg #[.int .u8 7, .string ⟨#[]⟩, .slice none 0 0, .int .i64 0, .bool false, .bool false, .slice (some ⟨W.heap.size, 0, none⟩) 3 3]]
              (W.alloc (.cells #[.int .u8 0, .string (bs p), .slice none 0 0, .int .i64 0, .bool false, .bool false, .slice none 0 0, .int .u8 0, .string (bs q), .slice none 0 0, .int .i64 0, .bool false, .bool false, .slice none 0 0, .int .u8 0, .string (bs p), .slice none 0 0, .int .i64 0, .bool false, .bool false, .slice none 0 0] 32)) fun e w' => e = .returned (.tuple #[.int .i64 0, .int .i64 60]) ∧ Below w.heap.size w w' := fun W hW => by
            have hW2 : Below w.heap.size w (W.alloc (.cells #[.int .u8 0, .string (bs p), .slice none 0 0, .int .i64 0, .bool false, .bool false, .slice none 0 0, .int .u8 0, .string (bs q), .slice none 0 0, .int .i64 0, .bool false, .bool false, .slice none 0 0, .int .u8 0, .string (bs p), .slice none 0 0, .int .i64 0, .bool false, .bool false, .slice none 0 0] 32)) := belowA hW _
            have h := always_gAll (w := W.alloc (.cells #[.int .u8 0, .string (bs p), .slice none 0 0, .int .i64 0, .bool false, .bool false, .slice none 0 0, .int .u8 0, .string (bs q), .slice none 0 0, .int .i64 0, .bool false, .bool false, .slice none 0 0, .int .u8 0, .string (bs p), .slice none 0 0, .int .i64 0, .bool false, .bool false, .slice none 0 0] 32)) (HM.out.kept hW2) (some ⟨b, off, none⟩) c L (by rw [← HN.out]; omega) HL.out ((HC.out.kept hW2).mono hW2.size) (.int .u8 7) (.slice none 0 0) (.int .i64 0) (.bool false) (.bool false)
              (some ⟨W.heap.size, 0, none⟩) 3 [] [p, q, p] (by simp) (by simp) (fun y hy => by simp at hy; rcases hy with rfl | rfl | rfl <;> omega) (ops_three W p q p) _ (Below.refl _ _)
            rw [hav, ← HN.out] at h
            exact h.mono fun e w' ⟨he, hb9⟩ => ⟨he, hW2.trans (hb9.mono hW2.size)⟩
          have K5 := Lib.hid k5
          clear c0 c1 c2 c3 c4 c5 hN hc h200 h1000 hl hm hck hp hn hj hs hsq hall hallq hr hx hur hux huq hxr hcx hcr hav k3 k5 hqp hql hql1
          go_enter Tryd.func8, Tryd.ntmps8
          go_wp2_with fail
          refine C0.out.mono ?_
          rintro e w1 ⟨rfl, rfl⟩
          go_wp2_with fail
          refine (C1.out _ B0.out).mono ?_
          rintro e wa1 ⟨rfl, Ba1⟩
          have Xa1 := Lib.hid Ba1
          clear Ba1
          go_wp2_with fail
          refine (C4.out _ Xa1.out).mono ?_
          rintro e wa2 ⟨rfl, Ba2⟩
          have Xa2 := Lib.hid Ba2
          clear Ba2
          go_wp2_with fail
          refine (K2.out _ Xa2.out).mono ?_
          rintro e wa3 ⟨rfl, Ba3⟩
          have Xa3 := Lib.hid Ba3
          clear Ba3
          go_wp2_with fail
          refine (K6.out _ Xa3.out).mono ?_
          rintro e wa4 ⟨rfl, Ba4⟩
          have Xa4 := Lib.hid Ba4
          clear Ba4
          go_wp2_with fail
          refine (K5.out _ Xa4.out).mono ?_
          rintro e w5 ⟨rfl, B5⟩
          have X5 := Lib.hid B5
          clear B5
          go_wp2_with fail
          have f1 : ∀ o, (Wext w5 o).cell? ⟨b, off + k0, none⟩ = some (.string (bs x)) := fun o => ((X5.out.trans ((Wext.below w5 o).mono X5.out.size)).cell (p := ⟨b, off + k0, none⟩) HBL.out).trans HCX.out
          have f2 : ∀ o, (Wext w5 o).cell? ⟨b, off + i0, none⟩ = some (.string (bs r)) := fun o => ((X5.out.trans ((Wext.below w5 o).mono X5.out.size)).cell (p := ⟨b, off + i0, none⟩) HBL.out).trans HCR.out
          have KU := Lib.hid (K3.out.ext X5.out)
          have KF := Lib.hid (CGA.out.ext X5.out)
          refine wp_region_ext (by kernel_rfl) (by kernel_rfl) ?_
          repeat (go_big_quiet_step (first | (go_at_call 17; exact KU.out _) | (go_at_call 14; exact KF.out _)))
          refine wpQuiet_nil ?_
          intro w' hw'
          obtain ⟨oq, hw''⟩ := hw'
          subst hw''
          go_wp2
          go_ret
          exact ⟨rfl, X5.out.trans ((Wext.below w5 oq).mono X5.out.size)⟩
theorem regBelow_any (ao : Option Addr) (c : Nat) (L : List Bytes) (p nm : Bytes) (w : World) (hm : MaxInt w) (hbig : L.length ≤ maxLen) (hL : ∀ r ∈ L, r.length ≤ maxLen) (hpm : p.length ≤ maxLen) (hnm : nm.length ≤ maxLen) (hc : StrSl w w.heap.size ao L) :
    Calls Tryd.prog 8 #[.slice ao L.length c, .string (bs p), .string (bs nm)] w (LawEnd w) := by
  by_cases hg : longB L = true ∨ 200 < p.length ∨ 60 < nm.length ∨ checkL L ≠ 0
  · exact regBelow_out ao c L p nm hnm w hm hbig hL hpm hc hg
  · have h1 : longB L = false := by
      cases h : longB L with
      | true => exact absurd (.inl h) hg
      | false => rfl
    have h2 : ¬ 200 < p.length := fun h => hg (.inr (.inl h))
    have h3 : ¬ 60 < nm.length := fun h => hg (.inr (.inr (.inl h)))
    have h4 : checkL L = 0 := by
      by_cases h : checkL L = 0
      · exact h
      · exact absurd (.inr (.inr (.inr h))) hg
    exact regBelow_in ao c L p nm w hm hc h1 (by omega) (by omega) h4
end Go.Proofs.YtdengimjjlbmcaaDoor
