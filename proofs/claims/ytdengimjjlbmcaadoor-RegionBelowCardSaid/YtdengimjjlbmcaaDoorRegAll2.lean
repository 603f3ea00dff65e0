/-
  The document's All, walked; and 'long'.
-/
import Derived.Test.YtdengimjjlbmcaaDoorRegAll
namespace Go.Proofs.YtdengimjjlbmcaaDoor
set_option linter.unusedVariables false
set_option linter.unusedSimpArgs false
open Go.RowKit

/-- The answer so far. -/
def refAt (L : List Bytes) (p : Bytes) (Q : List Bytes) (j : Nat) (s : Int) : Prop := (j = 0 ∧ s = ofB L p) ∨ (0 < j ∧ ∀ i q, i < j → Q[i]? = some q → ofB L q = s)
theorem allAt_cons (L : List Bytes) (x : Bytes) (P : List Bytes) : allAt L (x :: P) = if ofB L x < 0 ∨ (x :: P).any (fun y => ofB L y != ofB L x) = true then (0, 60) else (ofB L x, 0) := rfl
theorem allV_no {L Q : List Bytes} {p q x : Bytes} {j : Nat} (h0 : Q[0]? = some x) (hj : Q[j]? = some q) (hne : ofB L q ≠ ofB L x) : allV L p Q = (0, 60) := by
  cases Q with
  | nil => simp at h0
  | cons y Q =>
    simp at h0
    subst h0
    unfold allV
    have hany : (y :: Q).any (fun z => ofB L z != ofB L y) = true := by
      rw [List.any_eq_true]
      exact ⟨q, List.mem_of_getElem? hj, by simpa using hne⟩
    rw [if_neg (by simp), allAt_cons, if_pos (Or.inr hany)]
theorem allV_end {L Q : List Bytes} {p : Bytes} {s : Int} (h : refAt L p Q Q.length s) : allV L p Q = if s < 0 then (0, 60) else (s, 0) := by
  unfold allV
  rcases h with ⟨h0, h1⟩ | ⟨h0, h1⟩
  · obtain rfl : Q = [] := List.eq_nil_of_length_eq_zero h0
    subst h1
    rw [if_pos rfl]
    unfold allAt
    simp
  · cases Q with
    | nil => simp at h0
    | cons y Q =>
      rw [if_neg (by simp)]
      have hy := h1 0 y h0 rfl
      have hany : (y :: Q).any (fun z => ofB L z != ofB L y) = false := by
        rw [List.any_eq_false]
        intro z hz
        obtain ⟨i, hi⟩ := List.getElem?_of_mem hz
        rw [h1 i z (List.getElem?_eq_some_iff.1 hi).1 hi, hy]
        simp
      rw [allAt_cons, hany, hy]
      simp

set_option maxRecDepth 100000 in
set_option maxHeartbeats 8000000 in
theorem refAll_any (k0 k2 k3 k4 k5 : Value) (ao po : Option Addr) (c pc : Nat) (L Q : List Bytes) (p : Bytes) (w : World) (hbig : L.length ≤ 1000) (hp : p.length ≤ 1000) (hL : ∀ r ∈ L, r.length ≤ 1000) (hc : StrSl w w.heap.size ao L)
    (hQn : Q.length ≤ 1000) (hQl : ∀ r ∈ Q, r.length ≤ 1000) (hq : OpsAt w w.heap.size po Q) :
    Calls Tryd.prog 16 #[.slice ao L.length c, .agg #[k0, .string (bs p), k2, k3, k4, k5, .slice po Q.length pc]] w (AllEnd (allV L p Q) w) := by
  have hof := fun (x : Bytes) (hx : x.length ≤ 1000) (W : World) (hW : Below w.heap.size w W) => refOf_region ao c L x W hbig hx hL ((hc.kept hW).mono hW.size)
  obtain ⟨N, hN⟩ : ∃ N, N = L.length := ⟨_, rfl⟩
  obtain ⟨M, hM⟩ : ∃ M, M = Q.length := ⟨_, rfl⟩
  have HMQ := Lib.hid hM
  rw [← hN] at hbig hof ⊢
  rw [← hM] at hQn ⊢
  have HOF := Lib.hid hof
  have HP := Lib.hid hp
  have HQ := Lib.hid hq
  have HQL := Lib.hid hQl
  clear hof hN hM hq hQl hL hc hp
  have HB1 := Lib.hid (belowA (Below.refl _ w) (.cells #[k0, .string (bs p), k2, k3, k4, k5, .slice po M pc] 32))
  have hbox : ∀ W, Below (w.alloc (.cells #[k0, .string (bs p), k2, k3, k4, k5, .slice po M pc] 32)).heap.size (w.alloc (.cells #[k0, .string (bs p), k2, k3, k4, k5, .slice po M pc] 32)) W → W.cell? ⟨w.heap.size, 6, none⟩ = some (.slice po M pc) := fun W hW => (new_cell hW 6 _ rfl).1
  have HBX := Lib.hid hbox
  clear hbox
  go_enter Tryd.func16, Tryd.ntmps16
  go_wp2_with fail
  generalize hW1 : w.alloc (.cells #[k0, .string (bs p), k2, k3, k4, k5, .slice po M pc] 32) = W1 at *
  clear hW1
  refine (HOF.out p HP.out _ HB1.out).mono ?_
  rintro e w1 ⟨rfl, B1⟩
  have HB2 := Lib.hid B1
  clear B1
  have hst : refAt L p Q 0 (ofB L p) := .inl ⟨rfl, rfl⟩
  have HST := Lib.hid hst
  clear hst
  generalize hs0 : ofB L p = s0 at HST ⊢
  clear hs0
  go_wp2
  go_loopw [6, 7] (fun a i wr => ∃ (k : Nat) (s : Int), k ≤ M ∧ i = .int .i64 k ∧ a = .int .i64 s ∧ Hid (refAt L p Q k s) ∧ Hid (Below W1.heap.size W1 wr)) (fun _ i _ => M - (intOf i).toNat)
  case atStart => exact ⟨0, s0, by omega, rfl, rfl, HST, HB2⟩
  case round =>
    obtain ⟨k, s, hk, rfl, rfl, HR, HB⟩ := hrel
    have hbx := HBX.out wr HB.out
    by_cases hlt : k < M
    · obtain ⟨q, hqk⟩ : ∃ q, Q[k]? = some q := ⟨_, List.getElem?_eq_getElem (by rw [← HMQ.out]; exact hlt)⟩
      obtain ⟨b, off, r, rfl, hb, hrg⟩ := HQ.out k q hqk
      have hrw := range_kept hrg (HB1.out.trans (HB.out.mono HB1.out.size)) hb
      have h1 : wr.cell? ⟨b, off + k * 7 + 1, none⟩ = some (.string (bs q)) := hrw 1 _ rfl
      have hql := HQL.out q (List.mem_of_getElem? hqk)
      have hcall := HOF.out q hql wr (HB1.out.trans (HB.out.mono HB1.out.size))
      have HQK := Lib.hid hqk
      clear hrg hrw hqk hql
      generalize hsq : ofB L q = sq at *
      have HSQ := Lib.hid hsq
      have HCALL := Lib.hid hcall
      clear hsq hcall
      by_cases hk0 : k = 0
      · subst hk0
        go_wp2_with fail
        refine HCALL.out.mono ?_
        rintro e w2 ⟨rfl, B2⟩
        have HB3 := Lib.hid (HB.out.trans (B2.mono HB.out.size))
        have d1 : (sq != sq) = false := by simp
        clear B2
        go_wp2
        go_roundw
        case rel =>
          refine ⟨1, sq, by omega, by go_num, rfl, Lib.hid (.inr ⟨by omega, fun i x hi hx => ?_⟩), HB3⟩
          obtain rfl : i = 0 := by omega
          rw [HQK.out] at hx
          cases hx
          exact HSQ.out
        case measure => simp [intOf]; omega
      · have d0 : ((k : Int) == 0) = false := by rw [beq_eq_false_iff_ne]; omega
        have hkp : 0 < k := by omega
        by_cases hss : sq = s
        · subst hss
          have d1 : (sq != sq) = false := by simp
          go_wp2_with fail
          refine HCALL.out.mono ?_
          rintro e w2 ⟨rfl, B2⟩
          have HB3 := Lib.hid (HB.out.trans (B2.mono HB.out.size))
          clear B2
          go_wp2
          go_roundw
          case rel =>
            refine ⟨k + 1, sq, by omega, by go_num, rfl, Lib.hid (.inr ⟨by omega, fun i x hi hx => ?_⟩), HB3⟩
            rcases HR.out with ⟨h0, _⟩ | ⟨_, hall⟩
            · omega
            · by_cases e : i = k
              · subst e
                rw [HQK.out] at hx
                cases hx
                exact HSQ.out
              · exact hall i x (by omega) hx
          case measure => simp [intOf]; omega
        · have d1 : (sq != s) = true := by simpa using hss
          have HV : Hid (allV L p Q = (0, 60)) := Lib.hid (by
            rcases HR.out with ⟨h0, _⟩ | ⟨_, hall⟩
            · omega
            · obtain ⟨x, hx⟩ : ∃ x, Q[0]? = some x := ⟨_, List.getElem?_eq_getElem (by rw [← HMQ.out]; omega)⟩
              exact allV_no hx HQK.out (by rw [HSQ.out, hall 0 x hkp hx]; exact hss))
          go_wp2_with fail
          refine HCALL.out.mono ?_
          rintro e w2 ⟨rfl, B2⟩
          have HB3 := Lib.hid (HB1.out.trans ((HB.out.trans (B2.mono HB.out.size)).mono HB1.out.size))
          clear B2
          go_wp2
          go_ret2
          exact ⟨by rw [HV.out]; rfl, HB3.out⟩
    · obtain rfl : k = M := by omega
      have HV := Lib.hid (allV_end (by rw [← HMQ.out]; exact HR.out))
      have HB3 := Lib.hid (HB1.out.trans (HB.out.mono HB1.out.size))
      by_cases hs : s < 0
      · have d0 : decide (s < 0) = true := by simpa using hs
        have HW : Hid (allV L p Q = (0, 60)) := Lib.hid (by rw [HV.out, if_pos hs])
        go_wp2
        go_ret2
        exact ⟨by rw [HW.out]; rfl, HB3.out⟩
      · have d0 : decide (s < 0) = false := by simpa using hs
        have HW : Hid (allV L p Q = (s, 0)) := Lib.hid (by rw [HV.out, if_neg hs])
        go_wp2
        go_ret2
        exact ⟨by rw [HW.out]; rfl, HB3.out⟩

/-- More than a statement looks at? -/
def longB (L : List Bytes) : Bool := decide (20 < L.length) || L.any fun r => decide (200 < r.length)
theorem longB_no {L : List Bytes} (h : longB L = false) : L.length ≤ 20 ∧ ∀ r ∈ L, r.length ≤ 200 := by
  unfold longB at h
  simp only [Bool.or_eq_false_iff, decide_eq_false_iff_not, List.any_eq_false, decide_eq_true_eq] at h
  exact ⟨by omega, fun r hr => by have := h.2 r hr; omega⟩
set_option maxRecDepth 100000 in
set_option maxHeartbeats 2000000 in
theorem long_any (ao : Option Addr) (c : Nat) (L : List Bytes) (w : World) (hbig : L.length ≤ maxLen) (hL : ∀ r ∈ L, r.length ≤ maxLen) (hc : StrSl w w.heap.size ao L) :
    Calls Tryd.prog 9 #[.slice ao L.length c] w fun e w' => e = .returned (.bool (longB L)) ∧ w = w' := by
  have HC := Lib.hid hc
  have HL := Lib.hid hL
  unfold maxLen at hbig
  clear hc hL
  obtain ⟨N, hN⟩ : ∃ N, N = L.length := ⟨_, rfl⟩
  have HN := Lib.hid hN
  have hlb : longB L = (decide (20 < N) || L.any fun r => decide (200 < r.length)) := by unfold longB; rw [hN]
  have HLB := Lib.hid hlb
  rw [← hN] at hbig ⊢
  clear hN hlb
  by_cases h20 : 20 < N
  · have d0 : decide (20 < (N : Int)) = true := by simp; omega
    have HV : Hid (longB L = true) := Lib.hid (by rw [HLB.out]; simp [h20])
    go_enter Tryd.func9, Tryd.ntmps9
    go_wp2
    go_ret
    exact ⟨by rw [HV.out]; rfl, rfl⟩
  · have d0 : decide (20 < (N : Int)) = false := by simp; omega
    go_enter Tryd.func9, Tryd.ntmps9
    go_wp2
    clear d0
    go_loop [3] (fun i => ∃ k : Nat, k ≤ N ∧ i = .int .i64 k ∧ Hid (∀ j r, j < k → L[j]? = some r → r.length ≤ 200)) (fun i => N - (intOf i).toNat)
    case atStart => exact ⟨0, by omega, rfl, Lib.hid (fun _ _ h => absurd h (Nat.not_lt_zero _))⟩
    case round =>
      obtain ⟨k, hk, rfl, HG⟩ := hrel
      by_cases hlt : k < N
      · obtain ⟨r, hr⟩ : ∃ r, L[k]? = some r := ⟨_, List.getElem?_eq_getElem (by rw [← HN.out]; exact hlt)⟩
        obtain ⟨b, off, rfl, hb, hcell⟩ := HC.out k r hr
        have hrl := HL.out r (List.mem_of_getElem? hr)
        unfold maxLen at hrl
        have HR := Lib.hid hr
        have hsz : (bs r).size ≤ 9223372036854775807 := by rw [size_bs]; omega
        by_cases h200 : 200 < r.length
        · have d1 : decide (200 < ((bs r).size : Int)) = true := by rw [size_bs]; simp; omega
          have HV : Hid (longB L = true) := Lib.hid (by
            rw [HLB.out, List.any_eq_true.2 ⟨r, List.mem_of_getElem? HR.out, by simpa using h200⟩]
            simp)
          clear hr h200
          go_wp2
          go_ret
          exact ⟨by rw [HV.out]; rfl, rfl⟩
        · have d1 : decide (200 < ((bs r).size : Int)) = false := by rw [size_bs]; simp; omega
          have H200 := Lib.hid h200
          clear hr h200
          go_wp2
          go_round
          case rel =>
            refine ⟨k + 1, by omega, by go_num, Lib.hid fun j x hj hx => ?_⟩
            by_cases e : j = k
            · subst e
              rw [HR.out] at hx
              cases hx
              have := H200.out
              omega
            · exact HG.out j x (by omega) hx
          case measure => simp [intOf]; omega
      · obtain rfl : k = N := by omega
        have HV : Hid (longB L = false) := Lib.hid (by
          rw [HLB.out]
          simp only [Bool.or_eq_false_iff, decide_eq_false_iff_not, List.any_eq_false, decide_eq_true_eq]
          refine ⟨h20, fun r hr => ?_⟩
          obtain ⟨j, hj⟩ := List.getElem?_of_mem hr
          have := HG.out j r (by rw [HN.out]; exact (List.getElem?_eq_some_iff.1 hj).1) hj
          omega)
        go_wp2
        go_ret
        exact ⟨by rw [HV.out]; rfl, rfl⟩
end Go.Proofs.YtdengimjjlbmcaaDoor
