/-
  The program's Of and the document's, walked.
-/
import Derived.Test.YtdengimjjlbmcaaDoorRegPlain
import Derived.Test.YtdengimjjlbmcaaDoorRowsOpen
import Derived.Test.YtdengimjjlbmcaaDoorExt
import Derived.Deep.QuietTactic
import Derived.BigQuiet
namespace Go.Proofs.YtdengimjjlbmcaaDoor
set_option linter.unusedVariables false
set_option linter.unusedSimpArgs false
open Go.RowKit

def SliceOf (n : Nat) (w : World) (e : Ending) (w' : World) : Prop := ∃ a c, e = .returned (.slice a n c) ∧ Below w.heap.size w w'
theorem partsN (l : Bytes) (hl : l.length ≤ 1000) (w : World) (hm : MaxInt w) : Calls Tryd.prog 26 #[.string (bs l)] w (SliceOf (deepN l) w) := by
  unfold deepN
  cases h : partsL l with
  | none => exact (parts_none l h (size_max hl (Nat.le_refl _)) w hm).mono fun e w' ⟨he, hb⟩ => ⟨_, _, he, hb⟩
  | some L =>
    cases L with
    | nil => exact (parts_nil l h w).mono fun e w' ⟨he, hb⟩ => ⟨_, _, he, hb ▸ Below.refl _ _⟩
    | cons x L => exact (parts_some l (x :: L) h (by simp) w hm).mono fun e w' ⟨he, _, hb⟩ => ⟨_, _, he, hb⟩

set_option maxRecDepth 100000 in
set_option maxHeartbeats 4000000 in
theorem of_region (ao : Option Addr) (c : Nat) (L : List Bytes) (p : Bytes) (w : World) (hm : MaxInt w) (hbig : L.length ≤ 1000) (hp : p.length ≤ 1000) (hL : ∀ r ∈ L, r.length ≤ 1000) (hc : StrSl w w.heap.size ao L) :
    Calls Tryd.prog 12 #[.slice ao L.length c, .string (bs p)] w fun e w' => e = .returned (.int .i64 (ofB L p)) ∧ Below w.heap.size w w' := by
  have HC := Lib.hid hc
  have HM := Lib.hid hm
  have HL := Lib.hid hL
  have HP := Lib.hid hp
  clear hc hm hL hp
  obtain ⟨N, hN⟩ : ∃ N, N = L.length := ⟨_, rfl⟩
  have HN := Lib.hid hN
  unfold ofB
  rw [← hN] at hbig ⊢
  clear hN
  go_enter Tryd.func12, Tryd.ntmps12
  go_wp2
  go_loopw [5, 6, 12] (fun b m i wr => ∃ k : Nat, k ≤ N ∧ i = .int .i64 k ∧ b = .int .i64 (ofTo L p k).1 ∧ m = .int .i64 (ofTo L p k).2 ∧ Hid (Below w.heap.size w wr)) (fun _ _ i _ => N - (intOf i).toNat)
  case atStart => exact ⟨0, by omega, rfl, rfl, rfl, Lib.hid (Below.refl _ _)⟩
  case round =>
    obtain ⟨k, hk, rfl, rfl, rfl, HB⟩ := hrel
    have hbd := ofTo_lo L p k (by rw [← HN.out]; exact hk)
    by_cases hlt : k < N
    · obtain ⟨r, hr⟩ : ∃ r, L[k]? = some r := ⟨_, List.getElem?_eq_getElem (by rw [← HN.out]; exact hlt)⟩
      obtain ⟨b, off, rfl, hb, hcell⟩ := HC.out k r hr
      have hcell : wr.cell? ⟨b, off + k, none⟩ = some (.string (bs r)) := (HB.out.cell (p := ⟨b, off + k, none⟩) hb).trans hcell
      have HS := Lib.hid (ofTo_succ (p := p) hr)
      have hrl := HL.out r (List.mem_of_getElem? hr)
      have c1 := partsN r hrl wr (HM.out.kept HB.out)
      have c2 := later_under w HM.out p r HP.out hrl
      have hd := deepN_le r
      have HST : Hid (ofStep p (ofTo L p k) k r = if underB p r = true ∧ (ofTo L p k).2 < (deepN r : Int) then ((k : Int), (deepN r : Int)) else ofTo L p k) := Lib.hid rfl
      clear hr hrl
      generalize hn : deepN r = n at *
      generalize hu : underB p r = u at *
      generalize hst : ofTo L p k = st at *
      obtain ⟨s1, s2⟩ := st
      have HST0 := Lib.hid hst
      clear hn hu hst
      dsimp only at hbd HST ⊢
      have C1 := Lib.hid c1
      have C2 := Lib.hid c2
      clear c1 c2
      go_wp2_with fail
      refine C1.out.mono ?_
      rintro e w1 ⟨a1, c1, rfl, B1⟩
      have HB1 := Lib.hid (HB.out.trans (B1.mono HB.out.size))
      clear B1
      go_wp2_with fail
      refine (C2.out _ HB1.out).mono ?_
      rintro e w2 ⟨rfl, B2⟩
      have HB2 := Lib.hid B2
      clear B2
      cases u with
      | false =>
        have HF : Hid (ofTo L p (k + 1) = (s1, s2)) := Lib.hid (by rw [HS.out, HST.out, if_neg (by simp)])
        clear HS HST
        go_wp2
        go_roundw
        case rel => exact ⟨k + 1, by omega, by go_num, by rw [HF.out], by rw [HF.out], HB2⟩
        case measure => simp [intOf]; omega
      | true =>
        by_cases hgt : s2 < (n : Int)
        · have HF : Hid (ofTo L p (k + 1) = ((k : Int), (n : Int))) := Lib.hid (by rw [HS.out, HST.out, if_pos ⟨rfl, hgt⟩])
          have hgt' : decide (s2 < (n : Int)) = true := by simpa using hgt
          clear HS HST
          go_wp2
          go_roundw
          case rel => exact ⟨k + 1, by omega, by go_num, by rw [HF.out], by rw [HF.out], HB2⟩
          case measure => simp [intOf]; omega
        · have HF : Hid (ofTo L p (k + 1) = (s1, s2)) := Lib.hid (by rw [HS.out, HST.out, if_neg (fun h => hgt h.2)])
          have hgt' : decide (s2 < (n : Int)) = false := by simpa using hgt
          clear HS HST
          go_wp2
          go_roundw
          case rel => exact ⟨k + 1, by omega, by go_num, by rw [HF.out], by rw [HF.out], HB2⟩
          case measure => simp [intOf]; omega
    · obtain rfl : k = N := by omega
      generalize hst1 : (ofTo L p k).1 = s1 at *
      generalize (ofTo L p k).2 = s2 at *
      have HS1 := Lib.hid hst1
      clear hst1
      go_wp2
      go_ret
      exact ⟨by rw [HS1.out]; rfl, HB.out⟩
end Go.Proofs.YtdengimjjlbmcaaDoor
