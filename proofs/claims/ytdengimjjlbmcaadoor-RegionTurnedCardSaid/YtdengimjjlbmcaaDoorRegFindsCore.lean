/-
  RegionFinds, walked.
-/
import Derived.Test.YtdengimjjlbmcaaDoorRegLongest
import Derived.Laws.AppendOwnNone
namespace Go.Proofs.YtdengimjjlbmcaaDoor
set_option linter.unusedVariables false
set_option linter.unusedSimpArgs false
open Go.RowKit Go.ChangeShapes Go.WideShapes Go.Deep

/-- A nil slice has no room. -/
theorem strs_none {H : Type} {enc : TypeId × Value → H} {w : World} {base : Nat} {spare : Nat → Bool} {held : Bool} {n c : Nat} {d : DataW H} {p : List MemPlace} (h : DataW.Trod enc Tryd.prog w base spare held 22 (.slice none n c) d p) : c = 0 := by
  obtain ⟨fuel, hf⟩ := h
  rcases open_slice Tryd.underlying22 hf with ⟨hcs, _⟩ | ⟨a, len', cap', m, k, D, Pl, hcs, _⟩
  · simp [Value.cells] at hcs
    exact hcs.2
  · simp [Value.cells] at hcs
theorem strsl_of_own {w : World} {base : Nat} {v : Value} {L : List Bytes} (h : w.ownsRow base 9 1 v L.length (L.map sv)) : ∃ a c, v = .slice a L.length c ∧ StrSl w w.heap.size a L := by
  obtain ⟨a, c, rfl, hs⟩ := ownS_sl h
  refine ⟨a, c, rfl, fun k p hk => ?_⟩
  obtain ⟨g, rfl, h1, h2⟩ := hs k p hk
  exact ⟨g, 0, rfl, h1, by rw [Nat.zero_add]; exact h2⟩
def InEnd (w : World) (L : List Bytes) (N : Nat) (v : Value) (wc : World) : Prop := ∃ a c, v = .slice a N c ∧ StrSl wc wc.heap.size a L ∧ Below w.heap.size w wc
set_option maxRecDepth 100000 in
set_option maxHeartbeats 4000000 in
theorem regFinds_out (ao : Option Addr) (c : Nat) (L : List Bytes) (p : Bytes) (w : World) (hbig : L.length ≤ maxLen) (hL : ∀ r ∈ L, r.length ≤ maxLen) (hpm : p.length ≤ maxLen) (hc : StrSl w w.heap.size ao L)
    (hg : longB L = true ∨ 200 < p.length) : Calls Tryd.prog 3 #[.slice ao L.length c, .string (bs p)] w (LawEnd w) := by
  have c0 := long_any ao c L w hbig hL hc
  have hps : (bs p).size ≤ 9223372036854775807 := by rw [size_bs]; unfold maxLen at hpm; omega
  obtain ⟨N, hN⟩ : ∃ N, N = L.length := ⟨_, rfl⟩
  rw [← hN] at c0 ⊢
  have C0 := Lib.hid c0
  clear hN c0
  cases hl : longB L with
  | true =>
    rw [hl] at C0
    clear hl hg hbig hL hpm hc
    go_enter Tryd.func3, Tryd.ntmps3
    go_wp2_with fail
    refine C0.out.mono ?_
    rintro e w1 ⟨rfl, rfl⟩
    go_wp2
    go_ret
    exact ⟨rfl, Below.refl _ _⟩
  | false =>
    have hp : 200 < p.length := by
      rcases hg with h | h
      · rw [hl] at h; cases h
      · exact h
    rw [hl] at C0
    have d1 : decide (200 < ((bs p).size : Int)) = true := by rw [size_bs]; simp; omega
    clear hl hg hbig hL hpm hc hp
    go_enter Tryd.func3, Tryd.ntmps3
    go_wp2_with fail
    refine C0.out.mono ?_
    rintro e w1 ⟨rfl, rfl⟩
    go_wp2
    go_ret
    exact ⟨rfl, Below.refl _ _⟩
set_option maxRecDepth 100000 in
set_option maxHeartbeats 8000000 in
theorem regFinds_in (ao : Option Addr) (c : Nat) (L : List Bytes) (p : Bytes) (w : World) (hm : MaxInt w) (hc : StrSl w w.heap.size ao L) (hnone : ao = none → L = [] ∧ c = 0)
    (hl : longB L = false) (hp : p.length ≤ 200) : Calls Tryd.prog 3 #[.slice ao L.length c, .string (bs p)] w (LawEnd w) := by
  obtain ⟨i0, hi, hz0, hz1, hz2⟩ := info_parts infoStr
  obtain ⟨h20, h200⟩ := longB_no hl
  have h1000 : ∀ r ∈ L, r.length ≤ 1000 := fun r hr => Nat.le_trans (h200 r hr) (by omega)
  have c0 := long_any ao c L w (by unfold maxLen; omega) (fun r hr => Nat.le_trans (h200 r hr) (by unfold maxLen; omega)) hc
  rw [hl] at c0
  have c2 := always_rgCheck ao c L (by omega) h1000 hc
  have c4 := always_rgOf ao c L (by omega) h1000 hc p (by omega)
  have c1 := fun (W : World) (hW : Below w.heap.size w W) (a : Option Addr) (c' : Nat) (hs : StrSl W W.heap.size a L) => always_gCheck (hm.kept hW) a c' L (by omega) h1000 hs
  have c3 := fun (W : World) (hW : Below w.heap.size w W) (a : Option Addr) (c' : Nat) (hs : StrSl W W.heap.size a L) => always_gOf (hm.kept hW) a c' L (by omega) h1000 hs p (by omega)
  have hps : (bs p).size ≤ 9223372036854775807 := by rw [size_bs]; omega
  have d1 : decide (200 < ((bs p).size : Int)) = false := by rw [size_bs]; simp; omega
  have CG := Lib.hid (later_finds w hm)
  obtain ⟨N, hN⟩ : ∃ N, N = L.length := ⟨_, rfl⟩
  have HN := Lib.hid hN
  generalize checkL L = kv at c1 c2
  generalize ofB L p = ov at c3 c4
  rw [← hN] at c0 c1 c2 c3 c4 h20 ⊢
  have C0 := Lib.hid c0
  have C1 := Lib.hid c1
  have C2 := Lib.hid c2
  have C3 := Lib.hid c3
  have C4 := Lib.hid c4
  have HC := Lib.hid hc
  have HNONE := Lib.hid hnone
  have e1 : (kv != kv) = false := by simp
  have e2 : (ov != ov) = false := by simp
  clear c0 c1 c2 c3 c4 hN hc h200 h1000 hl hm hp hnone
  go_enter Tryd.func3, Tryd.ntmps3
  go_wp2_with fail
  refine C0.out.mono ?_
  rintro e w1 ⟨rfl, rfl⟩
  go_upto_region 3 with (fail)
  clear d1
  go_cut [5] (fun v wc => InEnd w L N v wc)
  case first =>
    cases ao with
    | none =>
      obtain ⟨hL0, rfl⟩ := HNONE.out rfl
      have HL0 := Lib.hid hL0
      have hN0 : N = 0 := by rw [HN.out, hL0]; rfl
      subst hN0
      clear hL0
      have HOW := Lib.hid (World.ownsRow_made (base := w.heap.size) (e := 9) (size := 1) w #[] 0 (by omega) (by decide) rfl)
      go_wp2_with (at_builtin; refine wpList_append_own_none rfl (.tmp 14) (.tmp 15) 22 rfl w.heap.size 9 i0 1 Tryd.underlying22 hi _ _ _ rfl HOW.out rfl ?_)
      go_meet
      case rel => exact ⟨_, _, rfl, by rw [HL0.out]; exact StrSl.nil _ _ _, belowA (Below.refl _ w) _⟩
    | some ad =>
      have hcells : ∀ j u, (L.map sv)[j]? = some u → (w.alloc (.cells #[] 9)).cell? (ad.add j) = some u := fun j u hu => by
        rw [List.getElem?_map] at hu
        cases hj : L[j]? with
        | none => rw [hj] at hu; cases hu
        | some x =>
          rw [hj] at hu
          cases hu
          obtain ⟨b, off, e, hb, hx⟩ := HC.out j x hj
          cases e
          rw [Addr.add_mid]
          exact ((belowA (Below.refl _ w) _).cell (p := ⟨b, off + j, none⟩) hb).trans hx
      have HCELL := Lib.hid hcells
      have HOW := Lib.hid (World.ownsRow_made (base := w.heap.size) (e := 9) (size := 1) w #[] 0 (by omega) (by decide) rfl)
      have hlen : Hid ((L.map sv).length = N * 1) := Lib.hid (by rw [HN.out]; simp)
      clear hcells
      go_wp2_with (at_builtin; refine wpList_append_own _ rfl (.tmp 14) (.tmp 15) 22 rfl w.heap.size 9 i0 (.string ByteArray.empty) 1 16 Tryd.underlying22 hi hz0 hz1 hz2 rfl (by decide) _ _ _ rfl HOW.out ad N c (L.map sv) rfl hlen.out HCELL.out (sv_one L) (by unfold maxLen; omega) (by omega) (by simp) ?_; intro v3 w3 hown hgrow _)
      have hB3 : Below w.heap.size w w3 := (belowA (Below.refl _ w) _).grown hgrow (by simp) (fun k hk => by cases hk; exact Nat.le_refl _)
      have hend : InEnd w L N v3 w3 := by
        obtain ⟨a', c', hv, hs⟩ := strsl_of_own (L := L) (by have := hown; rw [Nat.zero_add, List.nil_append, HN.out] at this; exact this)
        exact ⟨a', c', by rw [hv, HN.out], hs, hB3⟩
      have HE := Lib.hid hend
      clear hown hgrow hB3 hend
      go_meet
      case rel => exact HE.out
  case rest =>
    obtain ⟨a', c', rfl, hs, hwc⟩ := hcut
    have K1 := Lib.hid (C1.out wc hwc a' c' hs).later
    have K2 := Lib.hid (C2.out.from hwc).later
    have K3 := Lib.hid (C3.out wc hwc a' c' hs).later
    have K4 := Lib.hid (C4.out.from hwc).later
    have B0 := Lib.hid (Below.refl wc.heap.size wc)
    have HS := Lib.hid hs
    have HWC := Lib.hid hwc
    clear hs hwc
    go_wp2_with fail
    refine (K1.out _ B0.out).mono ?_
    rintro e wa1 ⟨rfl, Ba1⟩
    have Xa1 := Lib.hid Ba1
    clear Ba1
    go_wp2_with fail
    refine (K2.out _ Xa1.out).mono ?_
    rintro e wa2 ⟨rfl, Ba2⟩
    have Xa2 := Lib.hid Ba2
    clear Ba2
    go_wp2_with fail
    refine (K3.out _ Xa2.out).mono ?_
    rintro e wa3 ⟨rfl, Ba3⟩
    have Xa3 := Lib.hid Ba3
    clear Ba3
    go_wp2_with fail
    refine (K4.out _ Xa3.out).mono ?_
    rintro e wa4 ⟨rfl, Ba4⟩
    have Xa4 := Lib.hid Ba4
    clear Ba4
    go_wp2
    clear e1 e2
    go_loopw [6] (fun i wr => ∃ k : Nat, k ≤ N ∧ i = .int .i64 k ∧ Hid (Below wc.heap.size wc wr)) (fun i _ => N - (intOf i).toNat)
    case atStart => exact ⟨0, by omega, rfl, Xa4⟩
    case round =>
      obtain ⟨k, hk, rfl, HB⟩ := hrel
      by_cases hlt : k < N
      · obtain ⟨r, hr⟩ : ∃ r, L[k]? = some r := ⟨_, List.getElem?_eq_getElem (by rw [← HN.out]; exact hlt)⟩
        obtain ⟨b, off, rfl, hb, hcell0⟩ := HC.out k r hr
        obtain ⟨b2, off2, rfl, hb2, hcell1⟩ := HS.out k r hr
        have f1 : wr.cell? ⟨b, off + k, none⟩ = some (.string (bs r)) := ((HWC.out.trans (HB.out.mono HWC.out.size)).cell (p := ⟨b, off + k, none⟩) hb).trans hcell0
        have f2 : wr.cell? ⟨b2, off2 + k, none⟩ = some (.string (bs r)) := (HB.out.cell (p := ⟨b2, off2 + k, none⟩) hb2).trans hcell1
        have t1 : (!((bs r).toList == (bs r).toList)) = false := by simp
        clear hr hcell0 hcell1
        go_wp2
        go_quiet (fail)
        go_wp2
        go_roundw
        case rel => exact ⟨k + 1, by omega, by go_num, Lib.hid (HB.out.trans (below_drewN (Below.refl _ _) _))⟩
        case measure => simp [intOf]; omega
      · obtain rfl : k = N := by omega
        go_wp2_with fail
        refine (CG.out _ (HWC.out.trans (HB.out.mono HWC.out.size))).mono ?_
        rintro e w2 ⟨rfl, B2⟩
        go_wp2
        go_ret
        exact ⟨rfl, B2⟩
theorem regFinds_any (ao : Option Addr) (c : Nat) (L : List Bytes) (p : Bytes) (w : World) (hm : MaxInt w) (hbig : L.length ≤ maxLen) (hL : ∀ r ∈ L, r.length ≤ maxLen) (hpm : p.length ≤ maxLen) (hc : StrSl w w.heap.size ao L) (hnone : ao = none → c = 0) :
    Calls Tryd.prog 3 #[.slice ao L.length c, .string (bs p)] w (LawEnd w) := by
  by_cases hg : longB L = true ∨ 200 < p.length
  · exact regFinds_out ao c L p w hbig hL hpm hc hg
  · refine regFinds_in ao c L p w hm hc (fun h => ⟨?_, hnone h⟩) ?_ ?_
    · cases L with
      | nil => rfl
      | cons x L =>
        obtain ⟨b, off, e, _⟩ := hc 0 x rfl
        rw [h] at e
        cases e
    · cases h : longB L with
      | true => exact absurd (.inl h) hg
      | false => rfl
    · have : ¬ 200 < p.length := fun h => hg (.inr h)
      omega
end Go.Proofs.YtdengimjjlbmcaaDoor
