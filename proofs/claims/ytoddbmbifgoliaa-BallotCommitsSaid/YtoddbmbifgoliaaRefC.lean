/-
  The reference's Commit, walked: two loops.
-/
import Derived.Test.YtoddbmbifgoliaaSmall
import Derived.Test.YtoddbmbifgoliaaMid
import Derived.Deep.QuietTactic
import Derived.Deep.LoopGhost
import Derived.BigQuiet
import Derived.Outline
namespace Go.Proofs.Ytoddbmbifgoliaa
open Go.RowKit

set_option maxHeartbeats 1000000 in
theorem refCommit_none (ao : Option Addr) (c : Nat) (w : World) : Calls Try.prog 16 #[.slice ao 0 c] w fun e w' => e = .returned (.int .i64 0) ∧ w' = w := by
  go_enter Try.func16, Try.ntmps16
  go_wp2
  go_loopw [3, 4, 5] (fun b s i wr => b = .int .i64 0 ∧ s = .bool false ∧ i = .int .i64 0 ∧ wr = w) (fun _ _ _ _ => 0)
  case atStart => exact ⟨rfl, rfl, rfl, rfl⟩
  case round =>
    obtain ⟨rfl, rfl, rfl, rfl⟩ := hrel
    go_wp2
    go_ret
    exact ⟨rfl, rfl⟩

set_option maxRecDepth 100000 in
set_option maxHeartbeats 4000000 in
theorem refCommit_some (b off c : Nat) (L : List Int) (w : World) (hbig : L.length ≤ 1000) (hc : ∀ j, j < L.length → w.cell? ⟨b, off + j, none⟩ = some (.int .i64 (L.getD j 0))) :
    Calls Try.prog 16 #[.slice (some ⟨b, off, none⟩) L.length c] w fun e w' => e = .returned (.int .i64 (refFold L L.length).1) ∧ ∃ q, w' = w.drewN q := by
  have HC := Lib.hid hc
  clear hc
  obtain ⟨N, hN⟩ : ∃ N, N = L.length := ⟨_, rfl⟩
  have HN := Lib.hid hN
  rw [← hN] at hbig ⊢
  clear hN
  go_enter Try.func16, Try.ntmps16
  go_wp2
  go_loopw [3, 4, 5] (fun b s i wr => ∃ k : Nat, k ≤ N ∧ i = .int .i64 k ∧ b = .int .i64 (refFold L k).1 ∧ s = .bool (refFold L k).2 ∧ ∃ q, wr = w.drewN q) (fun _ _ i _ => N - (intOf i).toNat)
  case atStart => exact ⟨0, by omega, rfl, rfl, rfl, 0, rfl⟩
  case round =>
    obtain ⟨k, hk, rfl, rfl, rfl, q, rfl⟩ := hrel
    by_cases hlt : k < N
    · have hx : w.cell? ⟨b, off + k, none⟩ = some (.int .i64 (L.getD k 0)) := HC.out k (by rw [← HN.out]; exact hlt)
      have hs : Hid (refFold L (k + 1) = refStep L ((refFold L k).1, (refFold L k).2) (L.getD k 0)) := Lib.hid (fold_succ L k (by rw [← HN.out]; exact hlt))
      have hcnt : Hid (∀ m, m < N → cntGe (L.take (m + 1)) (L.getD k 0) = cntGe (L.take m) (L.getD k 0) + if L.getD k 0 ≤ L.getD m 0 then 1 else 0) := Lib.hid (fun m hm => cnt_succ L m (by rw [← HN.out]; exact hm) _)
      have hcN : Hid (cntGe (L.take N) (L.getD k 0) = cntGe L (L.getD k 0)) := Lib.hid (by rw [HN.out, List.take_length])
      have hcl : ∀ m, cntGe (L.take m) (L.getD k 0) ≤ m := fun m => cnt_le L m _
      have HL := Lib.hid hcl
      clear hcl
      generalize L.getD k 0 = x at *
      generalize (refFold L k).1 = be at *
      generalize (refFold L k).2 = so at *
      go_wp2
      go_loopw [6, 7] (fun n i wr => ∃ m : Nat, m ≤ N ∧ i = .int .i64 m ∧ n = .int .i64 (cntGe (L.take m) x : Nat) ∧ ∃ q, wr = w.drewN q) (fun _ i _ => N - (intOf i).toNat)
      case atStart => exact ⟨0, by omega, rfl, rfl, _, rfl⟩
      case round =>
        obtain ⟨m, hm, rfl, rfl, q, rfl⟩ := hrel
        have hcm := HL.out m
        by_cases hmt : m < N
        · have hy : w.cell? ⟨b, off + m, none⟩ = some (.int .i64 (L.getD m 0)) := HC.out m (by rw [← HN.out]; exact hmt)
          have hstep := Lib.hid (hcnt.out m hmt)
          generalize L.getD m 0 = y at *
          generalize cntGe (L.take m) x = cn at *
          by_cases hxy : x ≤ y
          · go_wp2
            go_quiet (fail)
            go_wp2
            go_roundw
            case rel => exact ⟨m + 1, by omega, by go_num, by rw [hstep.out, if_pos (by omega)]; go_num, _, rfl⟩
            case measure => simp [intOf]; omega
          · have hd : decide (x ≤ y) = false := by simpa using hxy
            go_wp2
            go_quiet (fail)
            go_wp2
            go_roundw
            case rel => exact ⟨m + 1, by omega, by go_num, by rw [hstep.out, if_neg (by omega)]; rfl, _, rfl⟩
            case measure => simp [intOf]; omega
        · obtain rfl : m = N := by omega
          have hcc := hcN.out
          rw [hcc] at hcm ⊢
          clear hcc
          have hdo := Lib.hid (show refFold L (k + 1) = if m < 2 * cntGe L x ∧ (so = false ∨ be < x) then (x, true) else (be, so) from by rw [hs.out, HN.out]; rfl)
          generalize cntGe L x = cn at *
          by_cases h1 : m < 2 * cn
          · have h1' : decide ((m : Int) < 2 * (cn : Int)) = true := by simpa using (by omega : (m : Int) < 2 * (cn : Int))
            cases so with
            | false =>
              go_wp2
              go_roundw
              case rel => exact ⟨k + 1, by omega, by go_num, by rw [hdo.out, if_pos ⟨by omega, .inl rfl⟩], by rw [hdo.out, if_pos ⟨by omega, .inl rfl⟩], _, rfl⟩
              case measure => simp [intOf]; omega
            | true =>
              by_cases h2 : be < x
              · go_wp2
                go_roundw
                case rel => exact ⟨k + 1, by omega, by go_num, by rw [hdo.out, if_pos ⟨by omega, .inr (by omega)⟩], by rw [hdo.out, if_pos ⟨by omega, .inr (by omega)⟩], _, rfl⟩
                case measure => simp [intOf]; omega
              · have h2' : decide (be < x) = false := by simpa using h2
                go_wp2
                go_roundw
                case rel => exact ⟨k + 1, by omega, by go_num, by rw [hdo.out, if_neg (by simp; omega)], by rw [hdo.out, if_neg (by simp; omega)], _, rfl⟩
                case measure => simp [intOf]; omega
          · have h1' : decide ((m : Int) < 2 * (cn : Int)) = false := by simpa using (by omega : ¬ (m : Int) < 2 * (cn : Int))
            go_wp2
            go_roundw
            case rel => exact ⟨k + 1, by omega, by go_num, by rw [hdo.out, if_neg (by omega)], by rw [hdo.out, if_neg (by omega)], _, rfl⟩
            case measure => simp [intOf]; omega
    · obtain rfl : k = N := by omega
      go_wp2
      go_ret
      exact ⟨rfl, _, rfl⟩
end Go.Proofs.Ytoddbmbifgoliaa
