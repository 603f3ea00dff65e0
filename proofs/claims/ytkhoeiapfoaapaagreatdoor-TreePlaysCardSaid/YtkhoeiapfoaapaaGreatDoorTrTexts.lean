/-
  The reference's Texts: are two lists of texts the same?, walked.
-/
import Derived.Test.YtkhoeiapfoaapaaGreatDoorRowsOpen
import Derived.Test.YtkhoeiapfoaapaaGreatDoorExt
namespace Go.Proofs.YtkhoeiapfoaapaaGreatDoor
set_option linter.unusedVariables false
set_option linter.unusedSimpArgs false
open Go.RowKit

set_option maxRecDepth 100000 in
set_option maxHeartbeats 2000000 in
theorem texts_any (a b : Option Addr) (c d B1 B2 : Nat) (L M : List Bytes) (w : World) (hl : L.length ≤ 1000) (hm : M.length ≤ 1000) (S1 : StrSl w B1 a L) (S2 : StrSl w B2 b M) :
    Calls Tryz.prog 17 #[.slice a L.length c, .slice b M.length d] w fun e w' => e = .returned (.bool (decide (L = M))) ∧ ∃ q, w' = w.drewN q := by
  obtain ⟨R, hR⟩ : ∃ R, R = decide (L = M) := ⟨_, rfl⟩
  rw [← hR]
  have HR := Lib.hid hR
  have X1 := Lib.hid S1
  have X2 := Lib.hid S2
  clear hR S1 S2
  obtain ⟨n, hn⟩ : ∃ n, n = L.length := ⟨_, rfl⟩
  obtain ⟨k, hk⟩ : ∃ k, k = M.length := ⟨_, rfl⟩
  have HN := Lib.hid hn
  have HK := Lib.hid hk
  rw [← hn] at hl ⊢
  rw [← hk] at hm ⊢
  clear hn hk
  by_cases hle : n = k
  · have HE := Lib.hid hle
    have t0 : ((n : Int) != (k : Int)) = false := by rw [hle]; simp
    clear hle
    go_enter Tryz.func17, Tryz.ntmps17
    go_wp2
    go_loopw [5] (fun i wr => ∃ m : Nat, m ≤ n ∧ i = .int .i64 m ∧ Hid (L.take m = M.take m) ∧ ∃ q, wr = w.drewN q) (fun i _ => n - (intOf i).toNat)
    case atStart => exact ⟨0, by omega, rfl, Lib.hid rfl, 0, rfl⟩
    case round =>
      obtain ⟨m, hm, rfl, HT0, q, rfl⟩ := hrel
      by_cases hlt : m < n
      · have hlt2 : m < k := by rw [← HE.out]; exact hlt
        obtain ⟨x, hx⟩ : ∃ x, L[m]? = some x := ⟨_, List.getElem?_eq_getElem (by rw [← HN.out]; exact hlt)⟩
        obtain ⟨y, hy⟩ : ∃ y, M[m]? = some y := ⟨_, List.getElem?_eq_getElem (by rw [← HK.out]; exact hlt2)⟩
        obtain ⟨g, off, rfl, _, hc1⟩ := X1.out m x hx
        obtain ⟨g2, off2, rfl, _, hc2⟩ := X2.out m y hy
        have HT := Lib.hid (take_step L M m x y hx hy HT0.out)
        by_cases hxy : x = y
        · subst hxy
          have HE2 := Lib.hid (HT.out.2 rfl)
          have ht : ((bs x).toList == (bs x).toList) = true := by simp
          clear hx hy HT
          go_wp2
          go_quiet (fail)
          go_wp2
          go_roundw
          case rel => exact ⟨m + 1, by omega, by go_num, HE2, _, rfl⟩
          case measure => simp [intOf]; omega
        · have ht : ((bs x).toList == (bs y).toList) = false := by
            rw [toList_bs, toList_bs]
            simpa using hxy
          have hrf : R = false := by
            rw [HR.out]
            have : ¬ L = M := fun e => by
              apply hxy
              rw [e, hy] at hx
              exact (Option.some.inj hx).symm
            simp [this]
          subst hrf
          clear hx hy HT hxy
          go_wp2
          go_quiet (fail)
          go_wp2
          go_ret
          exact ⟨rfl, _, World.drewN_drewN _ _ _⟩
      · obtain rfl : m = n := by omega
        have hrt : R = true := by
          rw [HR.out]
          have h1 := HT0.out
          rw [HN.out, List.take_length, ← HN.out, HE.out, HK.out, List.take_length] at h1
          simp [h1]
        subst hrt
        go_wp2
        go_ret
        exact ⟨rfl, _, rfl⟩
  · have t0 : ((n : Int) != (k : Int)) = true := by
      rw [bne_iff_ne]
      omega
    have hrf : R = false := by
      rw [HR.out]
      have : ¬ L = M := fun e => hle (by rw [HN.out, HK.out, e])
      simp [this]
    subst hrf
    clear hle
    go_enter Tryz.func17, Tryz.ntmps17
    go_wp2
    go_ret
    exact ⟨rfl, 0, rfl⟩
end Go.Proofs.YtkhoeiapfoaapaaGreatDoor
