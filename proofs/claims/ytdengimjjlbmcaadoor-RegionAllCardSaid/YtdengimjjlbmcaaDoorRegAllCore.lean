/-
  RegionAll, walked.
-/
import Derived.Test.YtdengimjjlbmcaaDoorRegLongest
import Derived.Test.YtdengimjjlbmcaaDoorOpOpen
namespace Go.Proofs.YtdengimjjlbmcaaDoor
set_option linter.unusedVariables false
set_option linter.unusedSimpArgs false
open Go.RowKit

set_option maxRecDepth 100000 in
set_option maxHeartbeats 8000000 in
theorem regAll_core (kd vr : Int) (da po ao : Option Addr) (dn dc pc c : Nat) (sq ep : Bool) (L Q : List Bytes) (p : Bytes) (w : World) (hm : MaxInt w) (hbig : L.length ≤ maxLen) (hL : ∀ r ∈ L, r.length ≤ maxLen) (hpm : p.length ≤ maxLen) (hc : StrSl w w.heap.size ao L)
    (hQn : Q.length ≤ maxLen) (hQl : ∀ r ∈ Q, r.length ≤ maxLen) (hq : OpsAt w w.heap.size po Q) :
    Calls Tryd.prog 4 #[.slice ao L.length c, .agg #[.int .u8 kd, .string (bs p), .slice da dn dc, .int .i64 vr, .bool sq, .bool ep, .slice po Q.length pc]] w (LawEnd w) := by
  have c0 := fun (W : World) (hW : Below w.heap.size w W) => long_any ao c L W hbig hL ((hc.kept hW).mono hW.size)
  have CG := Lib.hid (later_finds w hm)
  have hps : (bs p).size ≤ 9223372036854775807 := by rw [size_bs]; unfold maxLen at hpm; omega
  obtain ⟨M, hM⟩ : ∃ M, M = Q.length := ⟨_, rfl⟩
  have HMQ := Lib.hid hM
  obtain ⟨N, hN⟩ : ∃ N, N = L.length := ⟨_, rfl⟩
  have HN := Lib.hid hN
  have hMb : M ≤ 9223372036854775807 := by rw [hM]; unfold maxLen at hQn; exact hQn
  rw [← hN] at c0 ⊢
  rw [← hM] at ⊢
  clear hM hN
  obtain ⟨A, hA⟩ : ∃ A, A = w.alloc (.cells #[.int .u8 kd, .string (bs p), .slice da dn dc, .int .i64 vr, .bool sq, .bool ep, .slice po M pc] 32) := ⟨_, rfl⟩
  have hwA : Below w.heap.size w A := by rw [hA]; exact belowA (Below.refl _ w) _
  have hbox : ∀ W, Below A.heap.size A W → ∀ j v, #[Value.int .u8 kd, .string (bs p), .slice da dn dc, .int .i64 vr, .bool sq, .bool ep, .slice po M pc][j]? = some v → W.cell? ⟨w.heap.size, j, none⟩ = some v := fun W hW j v hv => (new_cell (hA ▸ hW) j v hv).1
  have HBX := Lib.hid hbox
  have HWA := Lib.hid hwA
  have b1 : A.cell? ⟨w.heap.size, 1, none⟩ = some (.string (bs p)) := hbox A (Below.refl _ _) 1 _ rfl
  have b6 : A.cell? ⟨w.heap.size, 6, none⟩ = some (.slice po M pc) := hbox A (Below.refl _ _) 6 _ rfl
  have C0 := Lib.hid (c0 A hwA)
  clear hbox c0 hwA
  cases hl : longB L with
  | true =>
    rw [hl] at C0
    clear hl hm hbig hL hpm hc hQn hQl hq
    go_enter Tryd.func4, Tryd.ntmps4
    go_wp2_with fail
    rw [← hA]
    refine C0.out.mono ?_
    rintro e w1 ⟨rfl, rfl⟩
    clear hA
    go_wp2
    go_ret
    exact ⟨rfl, HWA.out⟩
  | false =>
    rw [hl] at C0
    obtain ⟨h20, h200⟩ := longB_no hl
    by_cases hp : 200 < p.length
    · have d1 : decide (200 < ((bs p).size : Int)) = true := by rw [size_bs]; simp; omega
      clear hl hm hbig hL hpm hc hQn hQl hq hp h20 h200
      go_enter Tryd.func4, Tryd.ntmps4
      go_wp2_with fail
      rw [← hA]
      refine C0.out.mono ?_
      rintro e w1 ⟨rfl, rfl⟩
      clear hA
      go_wp2
      go_ret
      exact ⟨rfl, HWA.out⟩
    · have d1 : decide (200 < ((bs p).size : Int)) = false := by rw [size_bs]; simp; omega
      by_cases hq10 : 10 < M
      · have d2 : decide (10 < (M : Int)) = true := by simp; omega
        clear hl hm hbig hL hpm hc hQn hQl hq hp h20 h200
        go_enter Tryd.func4, Tryd.ntmps4
        go_wp2_with fail
        rw [← hA]
        refine C0.out.mono ?_
        rintro e w1 ⟨rfl, rfl⟩
        clear hA
        go_wp2
        go_ret
        exact ⟨rfl, HWA.out⟩
      · have d2 : decide (10 < (M : Int)) = false := by simp; omega
        have h1000 : ∀ r ∈ L, r.length ≤ 1000 := fun r hr => Nat.le_trans (h200 r hr) (by omega)
        have c1 := fun (hql : ∀ r ∈ Q, r.length ≤ 1000) => always_gAll hm ao c L (by omega) h1000 hc (.int .u8 kd) (.slice da dn dc) (.int .i64 vr) (.bool sq) (.bool ep) po pc p Q (by omega) (by rw [← HMQ.out]; omega) hql hq
        have c2 := fun (hql : ∀ r ∈ Q, r.length ≤ 1000) => always_rgAll ao c L (by omega) h1000 hc (.int .u8 kd) (.slice da dn dc) (.int .i64 vr) (.bool sq) (.bool ep) po pc p Q (by omega) (by rw [← HMQ.out]; omega) hql hq
        rw [← HMQ.out, ← HN.out] at c1 c2
        generalize allV L p Q = V at c1 c2
        obtain ⟨v1, v2⟩ := V
        have C1 := Lib.hid c1
        have C2 := Lib.hid c2
        have HQ := Lib.hid hq
        have HQM := Lib.hid hQl
        have e1 : (v1 == v1) = true := by simp
        have e2 : (v2 == v2) = true := by simp
        clear c1 c2 hl hm hbig hL hpm hc hQn hQl hq hp h20 h200 h1000
        go_enter Tryd.func4, Tryd.ntmps4
        go_wp2_with fail
        rw [← hA]
        refine C0.out.mono ?_
        rintro e w1 ⟨rfl, rfl⟩
        clear hA
        go_wp2
        clear d1 d2
        go_loop [5] (fun i => ∃ k : Nat, k ≤ M ∧ i = .int .i64 k ∧ Hid (∀ j r, j < k → Q[j]? = some r → r.length ≤ 200)) (fun i => M - (intOf i).toNat)
        case atStart => exact ⟨0, by omega, rfl, Lib.hid (fun _ _ h => absurd h (Nat.not_lt_zero _))⟩
        case round =>
          obtain ⟨k, hk, rfl, HG⟩ := hrel
          by_cases hlt : k < M
          · obtain ⟨r, hr⟩ : ∃ r, Q[k]? = some r := ⟨_, List.getElem?_eq_getElem (by rw [← HMQ.out]; exact hlt)⟩
            obtain ⟨b, off, rw0, rfl, hb, hrg⟩ := HQ.out k r hr
            have hcell : A.cell? ⟨b, off + k * 7 + 1, none⟩ = some (.string (bs r)) := range_kept hrg HWA.out hb 1 _ rfl
            have hrl := HQM.out r (List.mem_of_getElem? hr)
            unfold maxLen at hrl
            have HR := Lib.hid hr
            have hsz : (bs r).size ≤ 9223372036854775807 := by rw [size_bs]; omega
            by_cases h200 : 200 < r.length
            · have d1 : decide (200 < ((bs r).size : Int)) = true := by rw [size_bs]; simp; omega
              clear hr h200 hrg
              go_wp2
              go_ret
              exact ⟨rfl, HWA.out⟩
            · have d1 : decide (200 < ((bs r).size : Int)) = false := by rw [size_bs]; simp; omega
              have H200 := Lib.hid h200
              clear hr h200 hrg
              go_wp2
              go_round
              case rel =>
                refine ⟨k + 1, by omega, by go_num, Lib.hid fun j x hj hx => ?_⟩
                by_cases e : j = k
                · subst e
                  rw [HR.out] at hx
                  cases hx
                  have := H200.out
                  omega
                · exact HG.out j x (by omega) hx
              case measure => simp [intOf]; omega
          · obtain rfl : k = M := by omega
            have hql : ∀ r ∈ Q, r.length ≤ 1000 := fun r hr => by
              obtain ⟨j, hj⟩ := List.getElem?_of_mem hr
              have := HG.out j r (by rw [HMQ.out]; exact (List.getElem?_eq_some_iff.1 hj).1) hj
              omega
            have K1 := Lib.hid (C1.out hql)
            have K2 := Lib.hid (C2.out hql)
            have b0 : A.cell? ⟨w.heap.size, 0, none⟩ = some (.int .u8 kd) := HBX.out A (Below.refl _ _) 0 _ rfl
            have b2 : A.cell? ⟨w.heap.size, 2, none⟩ = some (.slice da dn dc) := HBX.out A (Below.refl _ _) 2 _ rfl
            have b3 : A.cell? ⟨w.heap.size, 3, none⟩ = some (.int .i64 vr) := HBX.out A (Below.refl _ _) 3 _ rfl
            have b4 : A.cell? ⟨w.heap.size, 4, none⟩ = some (.bool sq) := HBX.out A (Below.refl _ _) 4 _ rfl
            have b5 : A.cell? ⟨w.heap.size, 5, none⟩ = some (.bool ep) := HBX.out A (Below.refl _ _) 5 _ rfl
            clear hql
            go_wp2_with fail
            refine (K1.out _ HWA.out).mono ?_
            rintro e w2 ⟨rfl, B2⟩
            have HB2 := Lib.hid B2
            have b0 := HBX.out w2 B2 0 _ rfl
            have b1 := HBX.out w2 B2 1 _ rfl
            have b2 := HBX.out w2 B2 2 _ rfl
            have b3 := HBX.out w2 B2 3 _ rfl
            have b4 := HBX.out w2 B2 4 _ rfl
            have b5 := HBX.out w2 B2 5 _ rfl
            have b6 := HBX.out w2 B2 6 _ rfl
            have HW2 := Lib.hid (HWA.out.trans (B2.mono HWA.out.size))
            clear B2
            go_wp2_with fail
            refine (K2.out _ HW2.out).mono ?_
            rintro e w3 ⟨rfl, B3⟩
            have HW3 := Lib.hid (HW2.out.trans (B3.mono HW2.out.size))
            clear B3
            go_wp2_with fail
            refine (CG.out _ HW3.out).mono ?_
            rintro e w4 ⟨rfl, B4⟩
            go_wp2
            go_ret
            exact ⟨rfl, B4⟩
end Go.Proofs.YtdengimjjlbmcaaDoor
