/-
  slices.Equal at bytes, walked.
-/
import Derived.Test.YtkhoeiapfoaapaaDoorTr7
namespace Go.Proofs.YtkhoeiapfoaapaaDoor
set_option linter.unusedVariables false
set_option linter.unusedSimpArgs false
set_option linter.unusedVariables false
set_option linter.unusedSimpArgs false
open Go Go.RowKit Go.Shelf

theorem take_stepB (L M : Bytes) (k : Nat) (x y : UInt8) (hx : L[k]? = some x) (hy : M[k]? = some y) (hk : L.take k = M.take k) : (L.take (k + 1) = M.take (k + 1)) ↔ x = y := by
  rw [List.take_add_one, List.take_add_one, hx, hy, hk]
  simp

set_option maxRecDepth 100000 in
set_option maxHeartbeats 2000000 in
theorem equalB_any (a b : Option Addr) (c d B1 B2 : Nat) (lo1 lo2 : Nat → Prop) (L M : Bytes) (w : World) (hl : L.length ≤ 1000000) (hm : M.length ≤ 1000000) (S1 : ByteSl w lo1 B1 a L) (S2 : ByteSl w lo2 B2 b M) :
    Calls Tryd.prog 56 #[.slice a L.length c, .slice b M.length d] w fun e w' => e = .returned (.bool (decide (L = M))) ∧ ∃ q, w' = w.drewN q := by
  obtain ⟨R, hR⟩ : ∃ R, R = decide (L = M) := ⟨_, rfl⟩
  rw [← hR]
  have HR := Lib.hid hR
  have X1 := Lib.hid S1
  have X2 := Lib.hid S2
  clear hR S1 S2
  obtain ⟨n, hn⟩ : ∃ n, n = L.length := ⟨_, rfl⟩
  obtain ⟨k, hk⟩ : ∃ k, k = M.length := ⟨_, rfl⟩
  have HN := Lib.hid hn
  have HK := Lib.hid hk
  rw [← hn] at hl ⊢
  rw [← hk] at hm ⊢
  clear hn hk
  by_cases hle : n = k
  · have HE := Lib.hid hle
    have t0 : ((n : Int) != (k : Int)) = false := by rw [hle]; simp
    clear hle
    go_enter Tryd.func56, Tryd.ntmps56
    go_wp2
    go_loopw [5, 13] (fun _ i wr => ∃ m : Nat, m ≤ n ∧ i = .int .i64 m ∧ Hid (L.take m = M.take m) ∧ ∃ q, wr = w.drewN q) (fun _ i _ => n - (intOf i).toNat)
    case atStart => exact ⟨0, by omega, rfl, Lib.hid rfl, 0, rfl⟩
    case round =>
      obtain ⟨m, hm, rfl, HT0, q, rfl⟩ := hrel
      by_cases hlt : m < n
      · have hlt2 : m < k := by rw [← HE.out]; exact hlt
        obtain ⟨x, hx⟩ : ∃ x, L[m]? = some x := ⟨_, List.getElem?_eq_getElem (by rw [← HN.out]; exact hlt)⟩
        obtain ⟨y, hy⟩ : ∃ y, M[m]? = some y := ⟨_, List.getElem?_eq_getElem (by rw [← HK.out]; exact hlt2)⟩
        obtain ⟨g, off, rfl, _, _, hc1⟩ := X1.out m x hx
        obtain ⟨g2, off2, rfl, _, _, hc2⟩ := X2.out m y hy
        have HT := Lib.hid (take_stepB L M m x y hx hy HT0.out)
        by_cases hxy : x = y
        · subst hxy
          have HE2 := Lib.hid (HT.out.2 rfl)
          have ht : (((x.toNat : Nat) : Int) != ((x.toNat : Nat) : Int)) = false := by simp
          clear hx hy HT
          go_wp2
          go_quiet (fail)
          go_wp2
          go_roundw
          case rel => exact ⟨m + 1, by omega, by go_num, HE2, _, rfl⟩
          case measure => simp [intOf]; omega
        · have ht : (((x.toNat : Nat) : Int) != ((y.toNat : Nat) : Int)) = true := by
            have : x.toNat ≠ y.toNat := fun e => hxy (UInt8.toNat_inj.1 e)
            simp
            omega
          have hrf : R = false := by
            rw [HR.out]
            have : ¬ L = M := fun e => by
              apply hxy
              rw [e, hy] at hx
              exact (Option.some.inj hx).symm
            simp [this]
          subst hrf
          clear hx hy HT hxy
          go_wp2
          go_quiet (fail)
          go_wp2
          go_ret
          exact ⟨rfl, _, World.drewN_drewN _ _ _⟩
      · obtain rfl : m = n := by omega
        have hrt : R = true := by
          rw [HR.out]
          have h1 := HT0.out
          rw [HN.out, List.take_length, ← HN.out, HE.out, HK.out, List.take_length] at h1
          simp [h1]
        subst hrt
        go_wp2
        go_ret
        exact ⟨rfl, _, rfl⟩
  · have t0 : ((n : Int) != (k : Int)) = true := by
      rw [bne_iff_ne]
      omega
    have hrf : R = false := by
      rw [HR.out]
      have : ¬ L = M := fun e => hle (by rw [HN.out, HK.out, e])
      simp [this]
    subst hrf
    clear hle
    go_enter Tryd.func56, Tryd.ntmps56
    go_wp2
    go_ret
    exact ⟨rfl, 0, rfl⟩
end Go.Proofs.YtkhoeiapfoaapaaDoor
