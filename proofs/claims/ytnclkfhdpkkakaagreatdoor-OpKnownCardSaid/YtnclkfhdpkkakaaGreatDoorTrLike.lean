/-
  slices.Equal at bytes, walked.
  like, walked.
-/
import Derived.Test.YtnclkfhdpkkakaaGreatDoorTr8
import Derived.Laws.StructEq
namespace Go.Proofs.YtnclkfhdpkkakaaGreatDoor
set_option linter.unusedVariables false
set_option linter.unusedSimpArgs false
set_option linter.unusedVariables false
set_option linter.unusedSimpArgs false
open Go Go.RowKit Go.Shelf

theorem take_stepB (L M : Bytes) (k : Nat) (x y : UInt8) (hx : L[k]? = some x) (hy : M[k]? = some y) (hk : L.take k = M.take k) : (L.take (k + 1) = M.take (k + 1)) ↔ x = y := by
  rw [List.take_add_one, List.take_add_one, hx, hy, hk]
  simp

set_option maxRecDepth 100000 in
set_option maxHeartbeats 2000000 in
theorem equalB_any (a b : Option Addr) (c d B1 B2 : Nat) (lo1 lo2 : Nat → Prop) (L M : Bytes) (w : World) (hl : L.length ≤ 1000000) (hm : M.length ≤ 1000000) (S1 : ByteSl w lo1 B1 a L) (S2 : ByteSl w lo2 B2 b M) :
    Calls Tryz.prog 81 #[.slice a L.length c, .slice b M.length d] w fun e w' => e = .returned (.bool (decide (L = M))) ∧ ∃ q, w' = w.drewN q := by
  obtain ⟨R, hR⟩ : ∃ R, R = decide (L = M) := ⟨_, rfl⟩
  rw [← hR]
  have HR := Lib.hid hR
  have X1 := Lib.hid S1
  have X2 := Lib.hid S2
  clear hR S1 S2
  obtain ⟨n, hn⟩ : ∃ n, n = L.length := ⟨_, rfl⟩
  obtain ⟨k, hk⟩ : ∃ k, k = M.length := ⟨_, rfl⟩
  have HN := Lib.hid hn
  have HK := Lib.hid hk
  rw [← hn] at hl ⊢
  rw [← hk] at hm ⊢
  clear hn hk
  by_cases hle : n = k
  · have HE := Lib.hid hle
    have t0 : ((n : Int) != (k : Int)) = false := by rw [hle]; simp
    clear hle
    go_enter Tryz.func81, Tryz.ntmps81
    go_wp2
    go_loopw [5, 13] (fun _ i wr => ∃ m : Nat, m ≤ n ∧ i = .int .i64 m ∧ Hid (L.take m = M.take m) ∧ ∃ q, wr = w.drewN q) (fun _ i _ => n - (intOf i).toNat)
    case atStart => exact ⟨0, by omega, rfl, Lib.hid rfl, 0, rfl⟩
    case round =>
      obtain ⟨m, hm, rfl, HT0, q, rfl⟩ := hrel
      by_cases hlt : m < n
      · have hlt2 : m < k := by rw [← HE.out]; exact hlt
        obtain ⟨x, hx⟩ : ∃ x, L[m]? = some x := ⟨_, List.getElem?_eq_getElem (by rw [← HN.out]; exact hlt)⟩
        obtain ⟨y, hy⟩ : ∃ y, M[m]? = some y := ⟨_, List.getElem?_eq_getElem (by rw [← HK.out]; exact hlt2)⟩
        obtain ⟨g, off, rfl, _, _, hc1⟩ := X1.out m x hx
        obtain ⟨g2, off2, rfl, _, _, hc2⟩ := X2.out m y hy
        have HT := Lib.hid (take_stepB L M m x y hx hy HT0.out)
        by_cases hxy : x = y
        · subst hxy
          have HE2 := Lib.hid (HT.out.2 rfl)
          have ht : (((x.toNat : Nat) : Int) != ((x.toNat : Nat) : Int)) = false := by simp
          clear hx hy HT
          go_wp2
          go_quiet (fail)
          go_wp2
          go_roundw
          case rel => exact ⟨m + 1, by omega, by go_num, HE2, _, rfl⟩
          case measure => simp [intOf]; omega
        · have ht : (((x.toNat : Nat) : Int) != ((y.toNat : Nat) : Int)) = true := by
            have : x.toNat ≠ y.toNat := fun e => hxy (UInt8.toNat_inj.1 e)
            simp
            omega
          have hrf : R = false := by
            rw [HR.out]
            have : ¬ L = M := fun e => by
              apply hxy
              rw [e, hy] at hx
              exact (Option.some.inj hx).symm
            simp [this]
          subst hrf
          clear hx hy HT hxy
          go_wp2
          go_quiet (fail)
          go_wp2
          go_ret
          exact ⟨rfl, _, World.drewN_drewN _ _ _⟩
      · obtain rfl : m = n := by omega
        have hrt : R = true := by
          rw [HR.out]
          have h1 := HT0.out
          rw [HN.out, List.take_length, ← HN.out, HE.out, HK.out, List.take_length] at h1
          simp [h1]
        subst hrt
        go_wp2
        go_ret
        exact ⟨rfl, _, rfl⟩
  · have t0 : ((n : Int) != (k : Int)) = true := by
      rw [bne_iff_ne]
      omega
    have hrf : R = false := by
      rw [HR.out]
      have : ¬ L = M := fun e => hle (by rw [HN.out, HK.out, e])
      simp [this]
    subst hrf
    clear hle
    go_enter Tryz.func81, Tryz.ntmps81
    go_wp2
    go_ret
    exact ⟨rfl, 0, rfl⟩
end Go.Proofs.YtnclkfhdpkkakaaGreatDoor

namespace Go.Proofs.YtnclkfhdpkkakaaGreatDoor
set_option linter.unusedVariables false
set_option linter.unusedSimpArgs false
set_option linter.unusedVariables false
set_option linter.unusedSimpArgs false
open Go Go.RowKit Go.Shelf Go.MapKept Go.ChangeMaps

theorem fieldsS : (Tryz.prog.fieldsOf 29).toList = [⟨"Site", 3, 0, false, "", "", 0⟩, ⟨"N", 27, 1, false, "", "", 8⟩] := by kernel_rfl
theorem eqSess (s n s' n' : Int) (w : World) : (_root_.Go.binOp BinOp.eql 29 (.agg #[.int .i64 s, .int .u32 n]) (.agg #[.int .i64 s', .int .u32 n']) : Sem Value).run Tryz.prog w = Result.ok (Value.bool (decide (s = s' ∧ n = n'))) w := by
  rw [run_eql_struct, run_equalIn_agg _ _ _ _ _ (by kernel_rfl) (by kernel_rfl), fieldsS]
  have e3 := fun w : World => run_equalIn_int (P := Tryz.prog) w 9998 3 .i64 .i64 s s' Tryz.underlying3
  have e4 := fun w : World => run_equalIn_int (P := Tryz.prog) w 9998 27 .u32 .u32 n n' Tryz.underlying27
  simp [Op.eqFields, Sem.run_bind, part, e3, e4]
  by_cases h1 : s = s' <;> by_cases h2 : n = n' <;> simp [h1, h2]
set_option maxRecDepth 100000 in
set_option maxHeartbeats 8000000 in
theorem like_any (w : World) (lo1 lo2 : Nat → Prop) (r s : Raw) (d e : Nd) (h1 : Reads w lo1 r d) (h2 : Reads w lo2 s e) (hl1 : d.data.length ≤ 1000000) (hl2 : e.data.length ≤ 1000000) :
    Calls Tryz.prog 55 #[r.val, s.val] w fun en w' => en = .returned (.bool (decide (d = e))) ∧ Below w.heap.size w w' := by
  obtain ⟨a, n, c, u⟩ := r
  obtain ⟨D, u'⟩ := d
  obtain ⟨p1, p2, p3, p4⟩ := h1
  obtain ⟨a2, n2, cx, y⟩ := s
  obtain ⟨E, y'⟩ := e
  obtain ⟨q1, q2, q3, q4⟩ := h2
  dsimp only at p1 p2 p3 p4 q1 q2 q3 q4 hl1 hl2
  subst p1 q1
  obtain ⟨v1, v2, v3, v4, v5, v6, v7, v8⟩ := u
  obtain ⟨x1, x2, x3, x4, x5, x6, x7, x8⟩ := y
  unfold Raw.val Raw.cells Nums.cells
  dsimp only
  subst p2 q2
  obtain ⟨R, hR⟩ : ∃ R, R = decide ((⟨D, ⟨v1, v2, v3, v4, v5, v6, v7, v8⟩⟩ : Nd) = ⟨E, ⟨x1, x2, x3, x4, x5, x6, x7, x8⟩⟩) := ⟨_, rfl⟩
  rw [← hR]
  have HR := Lib.hid hR
  clear hR
  obtain ⟨w2, hw2⟩ : ∃ w2, w2 = (w.alloc (.cells #[.slice a D.length c, .int .u32 v1, .int .u32 v2, .int .u32 v3, .int .i64 v4, .int .u32 v5, .int .u64 v6, .int .u64 v7, .int .u64 v8] 39)).alloc (.cells #[.slice a2 E.length cx, .int .u32 x1, .int .u32 x2, .int .u32 x3, .int .i64 x4, .int .u32 x5, .int .u64 x6, .int .u64 x7, .int .u64 x8] 39) := ⟨_, rfl⟩
  have hb2 : Below w.heap.size w w2 := by rw [hw2]; exact belowA (belowA (Below.refl _ w) _) _
  have hc := equalB_any a a2 c cx w2.heap.size w2.heap.size lo1 lo2 D E w2 hl1 hl2 ((p3.below hb2).mono (fun _ h => h) hb2.size) ((q3.below hb2).mono (fun _ h => h) hb2.size)
  have hs := eqSess v4 v5 x4 x5
  have HB2 := Lib.hid hb2
  obtain ⟨N, hN⟩ : ∃ N, N = D.length := ⟨_, rfl⟩
  obtain ⟨M, hM⟩ : ∃ M, M = E.length := ⟨_, rfl⟩
  rw [← hN, ← hM] at hc hw2 ⊢
  clear p3 p4 q3 q4 hb2 hN hM hl1 hl2
  have k1 : ∀ i v, (#[.slice a N c, .int .u32 v1, .int .u32 v2, .int .u32 v3, .int .i64 v4, .int .u32 v5, .int .u64 v6, .int .u64 v7, .int .u64 v8] : Array Value)[i]? = some v → w2.cell? ⟨w.heap.size, i, none⟩ = some v := fun i v hv => by
    rw [hw2]
    exact (cell_of_row _ _ i _ 39 (0, 0) ((heap_alloc_old _ _ (by simp)).trans (heap_alloc_new w _))).trans hv
  have k2 : ∀ i v, (#[.slice a2 M cx, .int .u32 x1, .int .u32 x2, .int .u32 x3, .int .i64 x4, .int .u32 x5, .int .u64 x6, .int .u64 x7, .int .u64 x8] : Array Value)[i]? = some v → w2.cell? ⟨w.heap.size + 1, i, none⟩ = some v := fun i v hv => by
    have h := heap_alloc_new (w.alloc (.cells #[.slice a N c, .int .u32 v1, .int .u32 v2, .int .u32 v3, .int .i64 v4, .int .u32 v5, .int .u64 v6, .int .u64 v7, .int .u64 v8] 39)) (.cells #[.slice a2 M cx, .int .u32 x1, .int .u32 x2, .int .u32 x3, .int .i64 x4, .int .u32 x5, .int .u64 x6, .int .u64 x7, .int .u64 x8] 39)
    rw [World.size_alloc] at h
    rw [hw2]
    exact (cell_of_row _ _ i _ 39 (0, 0) h).trans hv
  have fa1 : ∀ q, (w2.drewN q).cell? ⟨w.heap.size, 1, none⟩ = some (.int .u32 v1) := fun q => k1 1 _ rfl
  have fb1 : ∀ q, (w2.drewN q).cell? ⟨w.heap.size + 1, 1, none⟩ = some (.int .u32 x1) := fun q => k2 1 _ rfl
  have fa2 : ∀ q, (w2.drewN q).cell? ⟨w.heap.size, 2, none⟩ = some (.int .u32 v2) := fun q => k1 2 _ rfl
  have fb2 : ∀ q, (w2.drewN q).cell? ⟨w.heap.size + 1, 2, none⟩ = some (.int .u32 x2) := fun q => k2 2 _ rfl
  have fa3 : ∀ q, (w2.drewN q).cell? ⟨w.heap.size, 3, none⟩ = some (.int .u32 v3) := fun q => k1 3 _ rfl
  have fb3 : ∀ q, (w2.drewN q).cell? ⟨w.heap.size + 1, 3, none⟩ = some (.int .u32 x3) := fun q => k2 3 _ rfl
  have fa4 : ∀ q, (w2.drewN q).cell? ⟨w.heap.size, 4, none⟩ = some (.int .i64 v4) := fun q => k1 4 _ rfl
  have fb4 : ∀ q, (w2.drewN q).cell? ⟨w.heap.size + 1, 4, none⟩ = some (.int .i64 x4) := fun q => k2 4 _ rfl
  have fa5 : ∀ q, (w2.drewN q).cell? ⟨w.heap.size, 5, none⟩ = some (.int .u32 v5) := fun q => k1 5 _ rfl
  have fb5 : ∀ q, (w2.drewN q).cell? ⟨w.heap.size + 1, 5, none⟩ = some (.int .u32 x5) := fun q => k2 5 _ rfl
  have fa6 : ∀ q, (w2.drewN q).cell? ⟨w.heap.size, 6, none⟩ = some (.int .u64 v6) := fun q => k1 6 _ rfl
  have fb6 : ∀ q, (w2.drewN q).cell? ⟨w.heap.size + 1, 6, none⟩ = some (.int .u64 x6) := fun q => k2 6 _ rfl
  have fa7 : ∀ q, (w2.drewN q).cell? ⟨w.heap.size, 7, none⟩ = some (.int .u64 v7) := fun q => k1 7 _ rfl
  have fb7 : ∀ q, (w2.drewN q).cell? ⟨w.heap.size + 1, 7, none⟩ = some (.int .u64 x7) := fun q => k2 7 _ rfl
  have fa8 : ∀ q, (w2.drewN q).cell? ⟨w.heap.size, 8, none⟩ = some (.int .u64 v8) := fun q => k1 8 _ rfl
  have fb8 : ∀ q, (w2.drewN q).cell? ⟨w.heap.size + 1, 8, none⟩ = some (.int .u64 x8) := fun q => k2 8 _ rfl
  have HW2 := Lib.hid hw2
  clear k1 k2 hw2
  by_cases gD : D = E
  · rw [decide_eq_true gD] at hc
    by_cases g1 : v1 = x1
    · have f1 : (v1 == x1) = true := by simpa using g1
      by_cases g2 : v2 = x2
      · have f2 : (v2 == x2) = true := by simpa using g2
        by_cases g3 : v3 = x3
        · have f3 : (v3 == x3) = true := by simpa using g3
          by_cases g4 : v4 = x4 ∧ v5 = x5
          · rw [show (decide (v4 = x4 ∧ v5 = x5)) = true from decide_eq_true g4] at hs
            by_cases g5 : v6 = x6
            · have f5 : (v6 == x6) = true := by simpa using g5
              by_cases g6 : v7 = x7
              · have f6 : (v7 == x7) = true := by simpa using g6
                by_cases g7 : v8 = x8
                · have f7 : (v8 == x8) = true := by simpa using g7
                  have hv : R = true := by rw [HR.out]; simp [gD, g1, g2, g3, g4, g5, g6, g7]
                  subst hv
                  have HC := Lib.hid hc
                  clear hc
                  clear gD g1 g2 g3 g4 g5 g6 g7
                  go_enter Tryz.func55, Tryz.ntmps55
                  go_wp2_with fail
                  rw [← HW2.out]
                  refine HC.out.mono ?_
                  rintro en w3 ⟨rfl, qn, rfl⟩
                  go_wp2
                  go_ret
                  exact ⟨rfl, HB2.out.trans ⟨rfl, rfl, rfl, Nat.le_refl _, fun _ _ => rfl⟩⟩
                · have f7 : (v8 == x8) = false := by simpa using g7
                  have hv : R = false := by
                    rw [HR.out]
                    refine decide_eq_false (fun h => ?_)
                    simp only [Nd.mk.injEq, Nums.mk.injEq] at h
                    obtain ⟨h0, h1, h2, h3, h4a, h4b, h5, h6, h7⟩ := h
                    exact g7 h7
                  subst hv
                  have HC := Lib.hid hc
                  clear hc
                  clear gD g1 g2 g3 g4 g5 g6 g7
                  go_enter Tryz.func55, Tryz.ntmps55
                  go_wp2_with fail
                  rw [← HW2.out]
                  refine HC.out.mono ?_
                  rintro en w3 ⟨rfl, qn, rfl⟩
                  go_wp2
                  go_ret
                  exact ⟨rfl, HB2.out.trans ⟨rfl, rfl, rfl, Nat.le_refl _, fun _ _ => rfl⟩⟩
              · have f6 : (v7 == x7) = false := by simpa using g6
                have hv : R = false := by
                  rw [HR.out]
                  refine decide_eq_false (fun h => ?_)
                  simp only [Nd.mk.injEq, Nums.mk.injEq] at h
                  obtain ⟨h0, h1, h2, h3, h4a, h4b, h5, h6, h7⟩ := h
                  exact g6 h6
                subst hv
                have HC := Lib.hid hc
                clear hc
                clear gD g1 g2 g3 g4 g5 g6
                go_enter Tryz.func55, Tryz.ntmps55
                go_wp2_with fail
                rw [← HW2.out]
                refine HC.out.mono ?_
                rintro en w3 ⟨rfl, qn, rfl⟩
                go_wp2
                go_ret
                exact ⟨rfl, HB2.out.trans ⟨rfl, rfl, rfl, Nat.le_refl _, fun _ _ => rfl⟩⟩
            · have f5 : (v6 == x6) = false := by simpa using g5
              have hv : R = false := by
                rw [HR.out]
                refine decide_eq_false (fun h => ?_)
                simp only [Nd.mk.injEq, Nums.mk.injEq] at h
                obtain ⟨h0, h1, h2, h3, h4a, h4b, h5, h6, h7⟩ := h
                exact g5 h5
              subst hv
              have HC := Lib.hid hc
              clear hc
              clear gD g1 g2 g3 g4 g5
              go_enter Tryz.func55, Tryz.ntmps55
              go_wp2_with fail
              rw [← HW2.out]
              refine HC.out.mono ?_
              rintro en w3 ⟨rfl, qn, rfl⟩
              go_wp2
              go_ret
              exact ⟨rfl, HB2.out.trans ⟨rfl, rfl, rfl, Nat.le_refl _, fun _ _ => rfl⟩⟩
          · rw [show (decide (v4 = x4 ∧ v5 = x5)) = false from decide_eq_false g4] at hs
            have hv : R = false := by
              rw [HR.out]
              refine decide_eq_false (fun h => ?_)
              simp only [Nd.mk.injEq, Nums.mk.injEq] at h
              obtain ⟨h0, h1, h2, h3, h4a, h4b, h5, h6, h7⟩ := h
              exact g4 ⟨h4a, h4b⟩
            subst hv
            have HC := Lib.hid hc
            clear hc
            clear gD g1 g2 g3 g4
            go_enter Tryz.func55, Tryz.ntmps55
            go_wp2_with fail
            rw [← HW2.out]
            refine HC.out.mono ?_
            rintro en w3 ⟨rfl, qn, rfl⟩
            go_wp2
            go_ret
            exact ⟨rfl, HB2.out.trans ⟨rfl, rfl, rfl, Nat.le_refl _, fun _ _ => rfl⟩⟩
        · have f3 : (v3 == x3) = false := by simpa using g3
          have hv : R = false := by
            rw [HR.out]
            refine decide_eq_false (fun h => ?_)
            simp only [Nd.mk.injEq, Nums.mk.injEq] at h
            obtain ⟨h0, h1, h2, h3, h4a, h4b, h5, h6, h7⟩ := h
            exact g3 h3
          subst hv
          have HC := Lib.hid hc
          clear hc
          clear gD g1 g2 g3
          go_enter Tryz.func55, Tryz.ntmps55
          go_wp2_with fail
          rw [← HW2.out]
          refine HC.out.mono ?_
          rintro en w3 ⟨rfl, qn, rfl⟩
          go_wp2
          go_ret
          exact ⟨rfl, HB2.out.trans ⟨rfl, rfl, rfl, Nat.le_refl _, fun _ _ => rfl⟩⟩
      · have f2 : (v2 == x2) = false := by simpa using g2
        have hv : R = false := by
          rw [HR.out]
          refine decide_eq_false (fun h => ?_)
          simp only [Nd.mk.injEq, Nums.mk.injEq] at h
          obtain ⟨h0, h1, h2, h3, h4a, h4b, h5, h6, h7⟩ := h
          exact g2 h2
        subst hv
        have HC := Lib.hid hc
        clear hc
        clear gD g1 g2
        go_enter Tryz.func55, Tryz.ntmps55
        go_wp2_with fail
        rw [← HW2.out]
        refine HC.out.mono ?_
        rintro en w3 ⟨rfl, qn, rfl⟩
        go_wp2
        go_ret
        exact ⟨rfl, HB2.out.trans ⟨rfl, rfl, rfl, Nat.le_refl _, fun _ _ => rfl⟩⟩
    · have f1 : (v1 == x1) = false := by simpa using g1
      have hv : R = false := by
        rw [HR.out]
        refine decide_eq_false (fun h => ?_)
        simp only [Nd.mk.injEq, Nums.mk.injEq] at h
        obtain ⟨h0, h1, h2, h3, h4a, h4b, h5, h6, h7⟩ := h
        exact g1 h1
      subst hv
      have HC := Lib.hid hc
      clear hc
      clear gD g1
      go_enter Tryz.func55, Tryz.ntmps55
      go_wp2_with fail
      rw [← HW2.out]
      refine HC.out.mono ?_
      rintro en w3 ⟨rfl, qn, rfl⟩
      go_wp2
      go_ret
      exact ⟨rfl, HB2.out.trans ⟨rfl, rfl, rfl, Nat.le_refl _, fun _ _ => rfl⟩⟩
  · rw [decide_eq_false gD] at hc
    have hv : R = false := by
      rw [HR.out]
      refine decide_eq_false (fun h => ?_)
      simp only [Nd.mk.injEq, Nums.mk.injEq] at h
      obtain ⟨h0, h1, h2, h3, h4a, h4b, h5, h6, h7⟩ := h
      exact gD h0
    subst hv
    have HC := Lib.hid hc
    clear hc
    clear gD
    go_enter Tryz.func55, Tryz.ntmps55
    go_wp2_with fail
    rw [← HW2.out]
    refine HC.out.mono ?_
    rintro en w3 ⟨rfl, qn, rfl⟩
    go_wp2
    go_ret
    exact ⟨rfl, HB2.out.trans ⟨rfl, rfl, rfl, Nat.le_refl _, fun _ _ => rfl⟩⟩
end Go.Proofs.YtnclkfhdpkkakaaGreatDoor
