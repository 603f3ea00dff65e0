/-
  The document's Of, walked.
-/
import Derived.Test.YtdengimjjlbmcaaDoorRegOf
namespace Go.Proofs.YtdengimjjlbmcaaDoor
set_option linter.unusedVariables false
set_option linter.unusedSimpArgs false
open Go.RowKit

theorem eq_bs (a b : Bytes) : ((bs a).toList == (bs b).toList) = decide (a = b) := by
  rw [toList_bs, toList_bs]
  by_cases h : a = b
  · subst h; simp
  · simp [h]
theorem rof_cases (L : List Bytes) (p : Bytes) (k : Nat) (hk : k ≤ L.length) : rofTo L p k = -1 ∨ ∃ i q, i < k ∧ L[i]? = some q ∧ underB p q = true ∧ rofTo L p k = (i : Int) := by
  rw [rof_eq L p k hk]
  rcases ofTo_rel L p k hk with ⟨h, _⟩ | ⟨i, q, hi, hq, hu, h, _⟩
  · exact .inl (by rw [h])
  · exact .inr ⟨i, q, hi, hq, hu, by rw [h]⟩

set_option maxRecDepth 100000 in
set_option maxHeartbeats 4000000 in
theorem refOf_region (ao : Option Addr) (c : Nat) (L : List Bytes) (p : Bytes) (w : World) (hbig : L.length ≤ 1000) (hp : p.length ≤ 1000) (hL : ∀ r ∈ L, r.length ≤ 1000) (hc : StrSl w w.heap.size ao L) :
    Calls Tryd.prog 13 #[.slice ao L.length c, .string (bs p)] w fun e w' => e = .returned (.int .i64 (ofB L p)) ∧ Below w.heap.size w w' := by
  have HC := Lib.hid hc
  have HL := Lib.hid hL
  have HP := Lib.hid hp
  clear hc hL hp
  have HR := Lib.hid (rof_eq L p L.length (Nat.le_refl _))
  obtain ⟨N, hN⟩ : ∃ N, N = L.length := ⟨_, rfl⟩
  have HN := Lib.hid hN
  unfold ofB
  rw [← hN] at hbig HR ⊢
  clear hN
  go_enter Tryd.func13, Tryd.ntmps13
  go_wp2
  go_loopw [5, 6] (fun b i wr => ∃ k : Nat, k ≤ N ∧ i = .int .i64 k ∧ b = .int .i64 (rofTo L p k) ∧ Hid (Below w.heap.size w wr)) (fun _ i _ => N - (intOf i).toNat)
  case atStart => exact ⟨0, by omega, rfl, rfl, Lib.hid (Below.refl _ _)⟩
  case round =>
    obtain ⟨k, hk, rfl, rfl, HB⟩ := hrel
    by_cases hlt : k < N
    · obtain ⟨r, hr⟩ : ∃ r, L[k]? = some r := ⟨_, List.getElem?_eq_getElem (by rw [← HN.out]; exact hlt)⟩
      obtain ⟨b, off, rfl, hb, hcell0⟩ := HC.out k r hr
      have hcell : wr.cell? ⟨b, off + k, none⟩ = some (.string (bs r)) := (HB.out.cell (p := ⟨b, off + k, none⟩) hb).trans hcell0
      have hrl := HL.out r (List.mem_of_getElem? hr)
      have HRL := Lib.hid hrl
      have c2 := later_refUnder w p r HP.out hrl
      have hcs := rof_cases L p k (by rw [← HN.out]; exact hk)
      have HRR0 := Lib.hid hr
      clear hr hrl
      generalize hu : underB p r = u at *
      have HU := Lib.hid hu
      clear hu
      have C2 := Lib.hid c2
      clear c2
      cases u with
      | false =>
        have HF : Hid (rofTo L p (k + 1) = rofTo L p k) := Lib.hid (rofTo_no HRR0.out HU.out)
        clear hcs
        generalize rofTo L p k = s at *
        go_wp2_with fail
        refine (C2.out _ HB.out).mono ?_
        rintro e w2 ⟨rfl, B2⟩
        have HB2 := Lib.hid B2
        clear B2
        go_wp2
        go_roundw
        case rel => exact ⟨k + 1, by omega, by go_num, by rw [HF.out], HB2⟩
        case measure => simp [intOf]; omega
      | true =>
        rcases hcs with hs | ⟨i0, q, hi0, hq, huq, hs⟩
        · have HF : Hid (rofTo L p (k + 1) = (k : Int)) := Lib.hid (rofTo_first HRR0.out HU.out hs)
          rw [hs]
          clear hs
          go_wp2_with fail
          refine (C2.out _ HB.out).mono ?_
          rintro e w2 ⟨rfl, B2⟩
          have HB2 := Lib.hid B2
          clear B2 hcell
          go_wp2_with fail
          refine wp_region_ext (by kernel_rfl) (by kernel_rfl) ?_
          repeat (go_big_quiet_step (fail))
          refine wpQuiet_nil ?_
          intro w' hw'
          obtain ⟨oq, hw''⟩ := hw'
          subst hw''
          go_wp2
          go_roundw
          case rel => exact ⟨k + 1, by omega, by go_num, by rw [HF.out], Lib.hid (HB2.out.trans ((Wext.below w2 oq).mono HB2.out.size))⟩
          case measure => simp [intOf]; omega
        · obtain ⟨b', off', hbb, hb', hcq0⟩ := HC.out i0 q hq
          have hbb2 : b' = b ∧ off' = off := by simp at hbb; exact ⟨hbb.1.symm, hbb.2.symm⟩
          obtain ⟨rfl, rfl⟩ := hbb2
          clear hbb hb'
          have HST : Hid (rofTo L p (k + 1) = if r ≠ q ∧ underB r q = true then (k : Int) else (i0 : Int)) := Lib.hid (rofTo_at HRR0.out HU.out hs hq)
          have c3 := fun W => later_refUnder W r q HRL.out (HL.out q (List.mem_of_getElem? hq))
          rw [hs]
          clear hs hq huq
          have HC0 := Lib.hid hcell0
          have HCQ := Lib.hid hcq0
          have hz : decide ((i0 : Int) < 0) = false := by simp
          go_wp2_with fail
          refine (C2.out _ HB.out).mono ?_
          rintro e w2 ⟨rfl, B2⟩
          have HB2 := Lib.hid B2
          clear B2 hcell hcell0 hcq0
          have f1 : ∀ o, (Wext w2 o).cell? ⟨b', off' + k, none⟩ = some (.string (bs r)) := fun o => ((HB2.out.trans ((Wext.below w2 o).mono HB2.out.size)).cell (p := ⟨b', off' + k, none⟩) hb).trans HC0.out
          have f2 : ∀ o, (Wext w2 o).cell? ⟨b', off' + i0, none⟩ = some (.string (bs q)) := fun o => ((HB2.out.trans ((Wext.below w2 o).mono HB2.out.size)).cell (p := ⟨b', off' + i0, none⟩) hb).trans HCQ.out
          have t1 := eq_bs r q
          by_cases hrq : r = q
          · have HF : Hid (rofTo L p (k + 1) = (i0 : Int)) := Lib.hid (by rw [HST.out, if_neg (fun h => h.1 hrq)])
            rw [decide_eq_true hrq] at t1
            have t2 : (!((bs r).toList == (bs q).toList)) = false := by rw [t1]; rfl
            clear HST c3 hrq
            go_wp2_with fail
            refine wp_region_ext (by kernel_rfl) (by kernel_rfl) ?_
            repeat (go_big_quiet_step (fail))
            refine wpQuiet_nil ?_
            intro w' hw'
            obtain ⟨oq, hw''⟩ := hw'
            subst hw''
            go_wp2
            go_roundw
            case rel => exact ⟨k + 1, by omega, by go_num, by rw [HF.out], Lib.hid (HB2.out.trans ((Wext.below w2 oq).mono HB2.out.size))⟩
            case measure => simp [intOf]; omega
          · have HF : Hid (rofTo L p (k + 1) = if underB r q = true then (k : Int) else (i0 : Int)) := Lib.hid (by rw [HST.out]; simp [hrq])
            rw [decide_eq_false hrq] at t1
            have t2 : (!((bs r).toList == (bs q).toList)) = true := by rw [t1]; rfl
            clear HST hrq
            generalize underB r q = u2 at *
            have C3 : Hid (∀ o, Calls Tryd.prog 27 #[.string (bs r), .string (bs q)] (Wext w2 o) fun e w' => e = .returned (.bool u2) ∧ ∃ o', w' = Wext w2 o') := Lib.hid (later_ext (c3 w2))
            clear c3
            cases u2
            all_goals
              go_wp2_with fail
              refine wp_region_ext (by kernel_rfl) (by kernel_rfl) ?_
              repeat (go_big_quiet_step (first | (go_at_call 27; exact C3.out _)))
              refine wpQuiet_nil ?_
              intro w' hw'
              obtain ⟨oq, hw''⟩ := hw'
              subst hw''
              go_wp2
              go_roundw
              case rel => exact ⟨k + 1, by omega, by go_num, by rw [HF.out]; rfl, Lib.hid (HB2.out.trans ((Wext.below w2 oq).mono HB2.out.size))⟩
              case measure => simp [intOf]; omega
    · obtain rfl : k = N := by omega
      generalize hst1 : rofTo L p k = s1 at *
      have HS1 := Lib.hid hst1
      have HRR := Lib.hid HR.out
      clear hst1
      go_wp2
      go_ret
      exact ⟨by rw [← HRR.out]; rfl, HB.out⟩
end Go.Proofs.YtdengimjjlbmcaaDoor
