/-
  RegionLongest, walked.
-/
import Derived.Test.YtdengimjjlbmcaaDoorRegFinds
namespace Go.Proofs.YtdengimjjlbmcaaDoor
set_option linter.unusedVariables false
set_option linter.unusedSimpArgs false
open Go.RowKit

/-! plain -/
theorem check_ok {L : List Bytes} (h : checkL L = 0) : 1 ≤ L.length ∧ L.length ≤ 4 ∧ L.Nodup ∧ ∀ r ∈ L, (partsL r).isSome = true := by
  unfold checkL at h
  by_cases h1 : L.length < 1 ∨ 4 < L.length ∨ ¬ L.Nodup
  · rw [if_pos h1] at h; omega
  · rw [if_neg h1] at h
    by_cases h2 : L.all (fun x => (partsL x).isSome) = true
    · refine ⟨by omega, by omega, ?_, fun r hr => by simpa using List.all_eq_true.1 h2 r hr⟩
      by_cases hn : L.Nodup
      · exact hn
      · exact absurd (.inr (.inr hn)) h1
    · rw [if_neg h2] at h; omega
theorem under_self {r : Bytes} (h : (partsL r).isSome = true) : underB r r = true := by
  obtain ⟨M, hM⟩ := Option.isSome_iff_exists.1 h
  exact (under_parts hM hM).2 (List.prefix_refl _)
theorem under_anti {p q : Bytes} (h1 : underB p q = true) (h2 : deepN p ≤ deepN q) : p = q := by
  obtain ⟨L, M, hp, hq, hM⟩ := under_some h1
  unfold deepN at h2
  rw [hp, hq] at h2
  have := hM.eq_of_length_le h2
  rw [← ofL_parts hp, ← ofL_parts hq, this]
theorem ofB_self {L : List Bytes} (h : checkL L = 0) {i : Nat} {r : Bytes} (hi : L[i]? = some r) : ofB L r = (i : Int) := by
  obtain ⟨_, _, hnd, hall⟩ := check_ok h
  have hru := under_self (hall r (List.mem_of_getElem? hi))
  have hlt := (List.getElem?_eq_some_iff.1 hi).1
  unfold ofB
  rcases ofB_spec L r with ⟨_, h2⟩ | ⟨j, q, hj, hq, hu, h1, h2⟩
  · rw [h2 i r hlt hi] at hru; cases hru
  · rw [h1]
    have h3 := (h2 i r hlt hi hru).1
    have h4 := under_anti hu h3
    subst h4
    obtain ⟨a1, a2⟩ := List.getElem?_eq_some_iff.1 hi
    obtain ⟨b1, b2⟩ := List.getElem?_eq_some_iff.1 hq
    have := (List.getElem_inj hnd).1 (b2.trans a2.symm)
    subst this
    rfl
/-- Where a path has a region. -/
theorem ofB_cases (L : List Bytes) (p : Bytes) : (ofB L p = -1 ∧ ∀ (j : Nat) (r : Bytes), L[j]? = some r → underB p r = false) ∨ ∃ (i : Nat) (q : Bytes), i < L.length ∧ L[i]? = some q ∧ underB p q = true ∧ ofB L p = (i : Int) ∧
    ∀ (j : Nat) (r : Bytes), L[j]? = some r → underB p r = true → underB q r = true := by
  unfold ofB
  rcases ofB_spec L p with ⟨h1, h2⟩ | ⟨i, q, hi, hq, hu, h1, h2⟩
  · exact .inl ⟨by rw [h1], fun j r hr => h2 j r (List.getElem?_eq_some_iff.1 hr).1 hr⟩
  · refine .inr ⟨i, q, hi, hq, hu, by rw [h1], fun j r hr hur => ?_⟩
    have h3 := (h2 j r (List.getElem?_eq_some_iff.1 hr).1 hr hur).1
    obtain ⟨P, M, hp, hqm, hM⟩ := under_some hu
    obtain ⟨P', R, hp', hrm, hR⟩ := under_some hur
    rw [hp] at hp'
    cases hp'
    refine (under_parts hqm hrm).2 (List.prefix_of_prefix_length_le hR hM ?_)
    unfold deepN at h3
    rw [hqm, hrm] at h3
    exact h3
theorem ne_bs (a b : Bytes) : (!((bs a).toList == (bs b).toList)) = !decide (a = b) := by rw [eq_bs]

/-- A law of these ends with the example. -/
def LawEnd (w : World) (e : Ending) (w' : World) : Prop := e = .returned (.bool true) ∧ Below w.heap.size w w'

set_option maxRecDepth 100000 in
set_option maxHeartbeats 4000000 in
/-- Where nothing is looked at: the example alone. -/
theorem longest_out (ao : Option Addr) (c : Nat) (L : List Bytes) (p : Bytes) (w : World) (hm : MaxInt w) (hbig : L.length ≤ maxLen) (hL : ∀ r ∈ L, r.length ≤ maxLen) (hpm : p.length ≤ maxLen) (hc : StrSl w w.heap.size ao L)
    (hg : longB L = true ∨ 200 < p.length ∨ checkL L ≠ 0) : Calls Tryd.prog 5 #[.slice ao L.length c, .string (bs p)] w (LawEnd w) := by
  have c0 := long_any ao c L w hbig hL hc
  have CG := Lib.hid (later_finds w hm)
  have B0 := Lib.hid (Below.refl w.heap.size w)
  have hps : (bs p).size ≤ 9223372036854775807 := by rw [size_bs]; unfold maxLen at hpm; omega
  cases hl : longB L with
  | true =>
    rw [hl] at c0
    have C0 := Lib.hid c0
    clear hl c0 hg hm hbig hL hpm hc
    obtain ⟨N, hN⟩ : ∃ N, N = L.length := ⟨_, rfl⟩
    rw [← hN] at C0 ⊢
    clear hN
    go_enter Tryd.func5, Tryd.ntmps5
    go_wp2_with fail
    refine C0.out.mono ?_
    rintro e w1 ⟨rfl, rfl⟩
    go_wp2_with fail
    refine (CG.out _ B0.out).mono ?_
    rintro e w1 ⟨rfl, B1⟩
    have X1 := Lib.hid B1
    clear B1
    go_wp2
    go_ret
    exact ⟨rfl, X1.out⟩
  | false =>
    rw [hl] at c0
    obtain ⟨h20, h200⟩ := longB_no hl
    have C0 := Lib.hid c0
    clear c0
    by_cases hp : 200 < p.length
    · have d1 : decide (200 < ((bs p).size : Int)) = true := by rw [size_bs]; simp; omega
      clear hl hg hm hbig hL hpm hc hp h20 h200
      obtain ⟨N, hN⟩ : ∃ N, N = L.length := ⟨_, rfl⟩
      rw [← hN] at C0 ⊢
      clear hN
      go_enter Tryd.func5, Tryd.ntmps5
      go_wp2_with fail
      refine C0.out.mono ?_
      rintro e w1 ⟨rfl, rfl⟩
      go_wp2_with fail
      refine (CG.out _ B0.out).mono ?_
      rintro e w1 ⟨rfl, B1⟩
      have X1 := Lib.hid B1
      clear B1
      go_wp2
      go_ret
      exact ⟨rfl, X1.out⟩
    · have d1 : decide (200 < ((bs p).size : Int)) = false := by rw [size_bs]; simp; omega
      have hck : checkL L ≠ 0 := by
        rcases hg with h | h | h
        · rw [hl] at h; cases h
        · exact absurd h hp
        · exact h
      have c1 := later_gCheck hm ao c L (by omega) (fun r hr => Nat.le_trans (h200 r hr) (by omega)) hc
      generalize checkL L = k at *
      have d2 : (k != 0) = true := by simpa using hck
      have C1 := Lib.hid c1
      clear hl hg hm hbig hL hpm hc hp h20 h200 hck c1
      obtain ⟨N, hN⟩ : ∃ N, N = L.length := ⟨_, rfl⟩
      rw [← hN] at C0 C1 ⊢
      clear hN
      go_enter Tryd.func5, Tryd.ntmps5
      go_wp2_with fail
      refine C0.out.mono ?_
      rintro e w1 ⟨rfl, rfl⟩
      go_wp2_with fail
      refine (C1.out _ B0.out).mono ?_
      rintro e w1 ⟨rfl, B1⟩
      have X1 := Lib.hid B1
      clear B1
      go_wp2_with fail
      refine (CG.out _ X1.out).mono ?_
      rintro e w2 ⟨rfl, B2⟩
      have X2 := Lib.hid B2
      clear B2
      go_wp2
      go_ret
      exact ⟨rfl, X2.out⟩

set_option maxRecDepth 100000 in
set_option maxHeartbeats 8000000 in
theorem longest_in (ao : Option Addr) (c : Nat) (L : List Bytes) (p : Bytes) (w : World) (hm : MaxInt w) (hc : StrSl w w.heap.size ao L)
    (hl : longB L = false) (hp : p.length ≤ 200) (hck : checkL L = 0) : Calls Tryd.prog 5 #[.slice ao L.length c, .string (bs p)] w (LawEnd w) := by
  obtain ⟨h20, h200⟩ := longB_no hl
  have h1000 : ∀ r ∈ L, r.length ≤ 1000 := fun r hr => Nat.le_trans (h200 r hr) (by omega)
  have c0 := long_any ao c L w (by unfold maxLen; omega) (fun r hr => Nat.le_trans (h200 r hr) (by unfold maxLen; omega)) hc
  have c1 := later_gCheck hm ao c L (by omega) h1000 hc
  have c2 := fun (x : Bytes) (hx : x.length ≤ 1000) => later_gOf hm ao c L (by omega) h1000 hc x hx
  have c3 := fun (x y : Bytes) (hx : x.length ≤ 1000) (hy : y.length ≤ 1000) => always_under hm x y hx hy
  rw [hl] at c0
  rw [hck] at c1
  have hps : (bs p).size ≤ 9223372036854775807 := by rw [size_bs]; omega
  have d1 : decide (200 < ((bs p).size : Int)) = false := by rw [size_bs]; simp; omega
  have CG := Lib.hid (later_finds w hm)
  have B0 := Lib.hid (Below.refl w.heap.size w)
  have HSELF := Lib.hid (fun i r (hi : L[i]? = some r) => ofB_self hck hi)
  have hcs := ofB_cases L p
  obtain ⟨N, hN⟩ : ∃ N, N = L.length := ⟨_, rfl⟩
  have HN := Lib.hid hN
  rw [← hN] at c0 c1 c2 h20 hcs ⊢
  have C0 := Lib.hid c0
  have C1 := Lib.hid c1
  have C2 := Lib.hid c2
  have C3 := Lib.hid c3
  have HC := Lib.hid hc
  have HL := Lib.hid h1000
  have HP : Hid (p.length ≤ 1000) := Lib.hid (by omega)
  clear c0 c1 c2 c3 hN hc h200 h1000 hl hm hck hp
  have hrow : ∀ W, Below w.heap.size w W → ∀ k r, L[k]? = some r → ∃ b off, ao = some ⟨b, off, none⟩ ∧ b < w.heap.size ∧ W.cell? ⟨b, off + k, none⟩ = some (.string (bs r)) := fun W hW k r hr => HC.out.kept hW k r hr
  have HROW := Lib.hid hrow
  clear hrow
  rcases hcs with ⟨hs, hno⟩ | ⟨i0, q, hi0, hq, huq, hs, hall⟩
  · have C2p := Lib.hid (C2.out p HP.out)
    rw [hs] at C2p
    have HNO := Lib.hid hno
    clear hs hno
    go_enter Tryd.func5, Tryd.ntmps5
    go_wp2_with fail
    refine C0.out.mono ?_
    rintro e w1 ⟨rfl, rfl⟩
    go_wp2_with fail
    refine (C1.out _ B0.out).mono ?_
    rintro e wa1 ⟨rfl, Ba1⟩
    have Xa1 := Lib.hid Ba1
    clear Ba1
    go_wp2_with fail
    refine (C2p.out _ Xa1.out).mono ?_
    rintro e wa2 ⟨rfl, Ba2⟩
    have Xa2 := Lib.hid Ba2
    clear Ba2
    have d2 : decide ((N : Int) ≤ -1) = false := by simp; omega
    go_wp2
    clear d2
    go_loopw [6] (fun i wr => ∃ k : Nat, k ≤ N ∧ i = .int .i64 k ∧ Hid (Below w.heap.size w wr)) (fun i _ => N - (intOf i).toNat)
    case atStart => exact ⟨0, by omega, rfl, Xa2⟩
    case round =>
      obtain ⟨k, hk, rfl, HB⟩ := hrel
      by_cases hlt : k < N
      · obtain ⟨r, hr⟩ : ∃ r, L[k]? = some r := ⟨_, List.getElem?_eq_getElem (by rw [← HN.out]; exact hlt)⟩
        have hrl := HL.out r (List.mem_of_getElem? hr)
        have K2 := Lib.hid (C2.out r hrl)
        rw [HSELF.out k r hr] at K2
        have K3 := Lib.hid (C3.out p r HP.out hrl)
        rw [HNO.out k r hr] at K3
        obtain ⟨b, off, rfl, hb, hcell⟩ := HROW.out wr HB.out k r hr
        have hrowk := fun W hW => (HROW.out W hW k r hr)
        have HRK := Lib.hid hrowk
        have d3 : ((k : Int) != (k : Int)) = false := by simp
        clear hr hrl hrowk
        go_wp2_with fail
        refine (K2.out _ HB.out).mono ?_
        rintro e w2 ⟨rfl, B2⟩
        have HB2 := Lib.hid B2
        clear B2 hcell
        go_wp2_with fail
        have f1 : ∀ o, (Wext w2 o).cell? ⟨b, off + k, none⟩ = some (.string (bs r)) := fun o => by
          obtain ⟨b', off', e, _, h⟩ := HRK.out (Wext w2 o) (HB2.out.trans ((Wext.below w2 o).mono HB2.out.size))
          simp at e
          obtain ⟨rfl, rfl⟩ := e
          exact h
        have K4 := Lib.hid (K3.out.ext HB2.out)
        refine wp_region_ext (by kernel_rfl) (by kernel_rfl) ?_
        repeat (go_big_quiet_step (first | (go_at_call 17; exact K4.out _)))
        refine wpQuiet_nil ?_
        intro w' hw'
        obtain ⟨oq, hw''⟩ := hw'
        subst hw''
        go_wp2
        go_roundw
        case rel => exact ⟨k + 1, by omega, by go_num, Lib.hid (HB2.out.trans ((Wext.below w2 oq).mono HB2.out.size))⟩
        case measure => simp [intOf]; omega
      · obtain rfl : k = N := by omega
        go_wp2_with fail
        refine (CG.out _ HB.out).mono ?_
        rintro e w2 ⟨rfl, B2⟩
        go_wp2
        go_ret
        exact ⟨rfl, B2⟩
  · have C2p := Lib.hid (C2.out p HP.out)
    rw [hs] at C2p
    have HQ := Lib.hid hq
    have HQL := Lib.hid (HL.out q (List.mem_of_getElem? hq))
    have HUQ := Lib.hid huq
    have HALL := Lib.hid hall
    clear hs hq huq hall
    go_enter Tryd.func5, Tryd.ntmps5
    go_wp2_with fail
    refine C0.out.mono ?_
    rintro e w1 ⟨rfl, rfl⟩
    go_wp2_with fail
    refine (C1.out _ B0.out).mono ?_
    rintro e wa1 ⟨rfl, Ba1⟩
    have Xa1 := Lib.hid Ba1
    clear Ba1
    go_wp2_with fail
    refine (C2p.out _ Xa1.out).mono ?_
    rintro e wa2 ⟨rfl, Ba2⟩
    have Xa2 := Lib.hid Ba2
    clear Ba2
    have d2 : decide (N ≤ i0) = false := by rw [decide_eq_false_iff_not]; omega
    have d5 : decide ((i0 : Int) < -1) = false := by rw [decide_eq_false_iff_not]; omega
    have d6 : decide ((i0 : Int) < 0) = false := by simp
    go_wp2
    clear d2 d5
    go_loopw [6] (fun i wr => ∃ k : Nat, k ≤ N ∧ i = .int .i64 k ∧ Hid (Below w.heap.size w wr)) (fun i _ => N - (intOf i).toNat)
    case atStart => exact ⟨0, by omega, rfl, Xa2⟩
    case round =>
      obtain ⟨k, hk, rfl, HB⟩ := hrel
      by_cases hlt : k < N
      · obtain ⟨r, hr⟩ : ∃ r, L[k]? = some r := ⟨_, List.getElem?_eq_getElem (by rw [← HN.out]; exact hlt)⟩
        have hrl := HL.out r (List.mem_of_getElem? hr)
        have K2 := Lib.hid (C2.out r hrl)
        rw [HSELF.out k r hr] at K2
        have K3 := Lib.hid (C3.out p r HP.out hrl)
        obtain ⟨b, off, rfl, hb, hcell⟩ := HROW.out wr HB.out k r hr
        obtain ⟨_, _, e0, _, hcq⟩ := HROW.out wr HB.out i0 q HQ.out
        have hrowq := fun W hW => (HROW.out W hW i0 q HQ.out)
        have HRQ := Lib.hid hrowq
        have K5 := Lib.hid (C3.out q r HQL.out hrl)
        have hur := HALL.out k r hr
        clear hrowq e0 hcq
        have hrowk := fun W hW => (HROW.out W hW k r hr)
        have HRK := Lib.hid hrowk
        have d3 : ((k : Int) != (k : Int)) = false := by simp
        clear hr hrl hrowk
        go_wp2_with fail
        refine (K2.out _ HB.out).mono ?_
        rintro e w2 ⟨rfl, B2⟩
        have HB2 := Lib.hid B2
        clear B2 hcell
        go_wp2_with fail
        have f1 : ∀ o, (Wext w2 o).cell? ⟨b, off + k, none⟩ = some (.string (bs r)) := fun o => by
          obtain ⟨b', off', e, _, h⟩ := HRK.out (Wext w2 o) (HB2.out.trans ((Wext.below w2 o).mono HB2.out.size))
          simp at e
          obtain ⟨rfl, rfl⟩ := e
          exact h
        have f2 : ∀ o, (Wext w2 o).cell? ⟨b, off + i0, none⟩ = some (.string (bs q)) := fun o => by
          obtain ⟨b', off', e, _, h⟩ := HRQ.out (Wext w2 o) (HB2.out.trans ((Wext.below w2 o).mono HB2.out.size))
          simp at e
          obtain ⟨rfl, rfl⟩ := e
          exact h
        cases hu : underB p r with
        | false =>
          rw [hu] at K3
          clear hu hur
          have K4 := Lib.hid (K3.out.ext HB2.out)
          refine wp_region_ext (by kernel_rfl) (by kernel_rfl) ?_
          repeat (go_big_quiet_step (first | (go_at_call 17; exact K4.out _)))
          refine wpQuiet_nil ?_
          intro w' hw'
          obtain ⟨oq, hw''⟩ := hw'
          subst hw''
          go_wp2
          go_roundw
          case rel => exact ⟨k + 1, by omega, by go_num, Lib.hid (HB2.out.trans ((Wext.below w2 oq).mono HB2.out.size))⟩
          case measure => simp [intOf]; omega
        | true =>
          rw [hu] at K3
          rw [hur hu] at K5
          clear hu hur
          have K6 := Lib.hid (K5.out.ext HB2.out)
          have K4 := Lib.hid (K3.out.ext HB2.out)
          refine wp_region_ext (by kernel_rfl) (by kernel_rfl) ?_
          repeat (go_big_quiet_step (first | (go_at_call 17; first | with_reducible exact K4.out _ | with_reducible exact K6.out _)))
          refine wpQuiet_nil ?_
          intro w' hw'
          obtain ⟨oq, hw''⟩ := hw'
          subst hw''
          go_wp2
          go_roundw
          case rel => exact ⟨k + 1, by omega, by go_num, Lib.hid (HB2.out.trans ((Wext.below w2 oq).mono HB2.out.size))⟩
          case measure => simp [intOf]; omega
      · obtain rfl : k = N := by omega
        obtain ⟨b, off, rfl, hb, hcq⟩ := HROW.out wr HB.out i0 q HQ.out
        have K3 := Lib.hid (C3.out p q HP.out HQL.out)
        rw [HUQ.out] at K3
        go_wp2_with fail
        refine (K3.out _ HB.out).mono ?_
        rintro e w2 ⟨rfl, B2⟩
        have HB2 := Lib.hid (HB.out.trans (B2.mono HB.out.size))
        clear B2
        go_wp2_with fail
        refine (CG.out _ HB2.out).mono ?_
        rintro e w3 ⟨rfl, B3⟩
        go_wp2
        go_ret
        exact ⟨rfl, B3⟩
theorem longest_any (ao : Option Addr) (c : Nat) (L : List Bytes) (p : Bytes) (w : World) (hm : MaxInt w) (hbig : L.length ≤ maxLen) (hL : ∀ r ∈ L, r.length ≤ maxLen) (hpm : p.length ≤ maxLen) (hc : StrSl w w.heap.size ao L) :
    Calls Tryd.prog 5 #[.slice ao L.length c, .string (bs p)] w (LawEnd w) := by
  by_cases hg : longB L = true ∨ 200 < p.length ∨ checkL L ≠ 0
  · exact longest_out ao c L p w hm hbig hL hpm hc hg
  · have h1 : longB L = false := by
      cases h : longB L with
      | true => exact absurd (.inl h) hg
      | false => rfl
    have h2 : ¬ 200 < p.length := fun h => hg (.inr (.inl h))
    have h3 : checkL L = 0 := by
      by_cases h : checkL L = 0
      · exact h
      · exact absurd (.inr (.inr h)) hg
    exact longest_in ao c L p w hm hc h1 (by omega) h3
end Go.Proofs.YtdengimjjlbmcaaDoor
