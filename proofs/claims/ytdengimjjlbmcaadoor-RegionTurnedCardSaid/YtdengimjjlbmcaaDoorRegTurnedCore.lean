/-
  RegionTurned, walked.
-/
import Derived.Test.YtdengimjjlbmcaaDoorRegFindsCore
import Derived.Test.YtdengimjjlbmcaaDoorRegAll
import Derived.Deep.RegionLaw
import Derived.Test.YtdengimjjlbmcaaDoorApp
namespace Go.Proofs.YtdengimjjlbmcaaDoor
set_option linter.unusedVariables false
set_option linter.unusedSimpArgs false
open Go.RowKit

/-! plain -/
theorem turned_same {L M : List Bytes} {p : Bytes} (h : ∀ x, x ∈ L ↔ x ∈ M) :
    (ofB L p = -1 ∧ ofB M p = -1) ∨ ∃ i j q, i < L.length ∧ j < M.length ∧ ofB L p = (i : Int) ∧ ofB M p = (j : Int) ∧ L[i]? = some q ∧ M[j]? = some q := by
  rcases ofB_cases L p with ⟨h1, n1⟩ | ⟨i, q, hi, hq, hu, e1, a1⟩ <;> rcases ofB_cases M p with ⟨h2, n2⟩ | ⟨j, r, hj, hr, hv, e2, a2⟩
  · exact .inl ⟨h1, h2⟩
  · have hm := (h r).2 (List.mem_of_getElem? hr)
    obtain ⟨k, hk⟩ := List.getElem?_of_mem hm
    rw [n1 k r hk] at hv; cases hv
  · have hm := (h q).1 (List.mem_of_getElem? hq)
    obtain ⟨k, hk⟩ := List.getElem?_of_mem hm
    rw [n2 k q hk] at hu; cases hu
  · have hm := (h q).1 (List.mem_of_getElem? hq)
    obtain ⟨k, hk⟩ := List.getElem?_of_mem hm
    have hm' := (h r).2 (List.mem_of_getElem? hr)
    obtain ⟨k', hk'⟩ := List.getElem?_of_mem hm'
    have u1 := a2 k q hk hu
    have u2 := a1 k' r hk' hv
    have e : q = r := by
      refine under_anti u2 ?_
      obtain ⟨A, B, ha, hb, hp⟩ := under_some u1
      unfold deepN
      rw [ha, hb]
      exact hp.length_le
    subst e
    exact .inr ⟨i, j, q, hi, hj, e1, e2, hq, hr⟩
theorem turn_mem (L : List Bytes) (k : Nat) : ∀ x, x ∈ L ↔ x ∈ L.drop k ++ L.take k := by
  intro x
  conv => lhs; rw [← List.take_append_drop k L]
  rw [List.mem_append, List.mem_append, or_comm]

set_option maxRecDepth 100000 in
set_option maxHeartbeats 8000000 in
theorem regTurned_in (b off c : Nat) (L : List Bytes) (p : Bytes) (y : Nat) (w : World) (hm : MaxInt w) (hc : StrSl w w.heap.size (some ⟨b, off, none⟩) L) (hlc : L.length ≤ c) (hcm : c ≤ maxLen)
    (hl : longB L = false) (hp : p.length ≤ 200) (hck : checkL L = 0) (hy : y ≤ 255) : Calls Tryd.prog 7 #[.slice (some ⟨b, off, none⟩) L.length c, .string (bs p), .int .u8 y] w (LawEnd w) := by
  obtain ⟨i0, hi, hz0, hz1, hz2⟩ := info_parts infoStr
  obtain ⟨h1, _, _, _⟩ := check_ok hck
  obtain ⟨h20, h200⟩ := longB_no hl
  have h1000 : ∀ r ∈ L, r.length ≤ 1000 := fun r hr => Nat.le_trans (h200 r hr) (by omega)
  have c0 := long_any (some ⟨b, off, none⟩) c L w (by unfold maxLen; omega) (fun r hr => Nat.le_trans (h200 r hr) (by unfold maxLen; omega)) hc
  have c1 := later_gCheck hm (some ⟨b, off, none⟩) c L (by omega) h1000 hc
  rw [hl] at c0
  rw [hck] at c1
  have hps : (bs p).size ≤ 9223372036854775807 := by rw [size_bs]; omega
  have d1 : decide (200 < ((bs p).size : Int)) = false := by rw [size_bs]; simp; omega
  have CG := Lib.hid (later_finds w hm)
  obtain ⟨N, hN⟩ : ∃ N, N = L.length := ⟨_, rfl⟩
  have HN := Lib.hid hN
  rw [← hN] at c0 c1 h20 h1 hlc ⊢
  have d2 : ((N : Int) == 0) = false := by rw [beq_eq_false_iff_ne]; omega
  have C0 := Lib.hid c0
  have C1 := Lib.hid c1
  have HC := Lib.hid hc
  have HL := Lib.hid h1000
  have HM := Lib.hid hm
  have HPL : Hid (p.length ≤ 1000) := Lib.hid (by omega)
  have B0 := Lib.hid (Below.refl w.heap.size w)
  unfold maxLen at hcm
  clear c0 c1 hN hc h200 h1000 hl hm hp hck
  go_enter Tryd.func7, Tryd.ntmps7
  go_wp2_with fail
  refine C0.out.mono ?_
  rintro e w1 ⟨rfl, rfl⟩
  go_wp2_with fail
  refine (C1.out _ B0.out).mono ?_
  rintro e w1 ⟨rfl, B1⟩
  go_wp2_with fail
  have hk : y % N < N := Nat.mod_lt _ (by omega)
  rw [show ((y : Int) % (N : Int)) = ((y % N : Nat) : Int) from by simp]
  generalize y % N = k at *
  have HB1 := Lib.hid B1
  have HB1A := Lib.hid (belowA B1 (.cells #[] 9)).drew
  have HQ1 : Hid (∀ q, (Value.slice (some ⟨w1.heap.size, 0, none⟩) 0 0).ownBlock = some q → w.heap.size ≤ q) := Lib.hid (fun q hq => by cases hq; exact B1.size)
  have src : ∀ W, Below w.heap.size w W → ∀ (o m : Nat) j u, (((L.drop o).take m).map sv)[j]? = some u → W.cell? ((⟨b, off + o, none⟩ : Addr).add j) = some u := fun W hW o m j u hu => by
    rw [List.getElem?_map] at hu
    cases hj : ((L.drop o).take m)[j]? with
    | none => rw [hj] at hu; cases hu
    | some x =>
      rw [hj] at hu
      cases hu
      have hlt := (List.getElem?_eq_some_iff.1 hj).1
      rw [List.getElem?_take, if_pos (by simp at hlt; omega), List.getElem?_drop] at hj
      obtain ⟨b', off', e, hb, hx⟩ := HC.out (o + j) x hj
      simp at e
      obtain ⟨rfl, rfl⟩ := e
      rw [Addr.add_mid, Nat.add_assoc]
      exact (hW.cell (p := ⟨b, off + (o + j), none⟩) hb).trans hx
  have SRC := Lib.hid src
  have HOW := Lib.hid (World.ownsRow_made (base := w.heap.size) (e := 9) (size := 1) w1 #[] 0 B1.size (by decide) rfl)
  have hl1 : Hid ((((L.drop k).take (N - k)).map sv).length = (N - k) * 1) := Lib.hid (by simp [← HN.out])
  have hl2 : Hid ((((L.drop 0).take k).map sv).length = k * 1) := Lib.hid (by simp [← HN.out]; omega)
  have hkn : ¬ c = k := by omega
  have hkc1 : k ≤ c := by omega
  have hkc2 : k ≤ N := by omega
  have HK := Lib.hid hk
  clear hk
  clear src B1
  go_cut [8] (fun v wc => InEnd w (L.drop k ++ L.take k) N v wc)
  case first =>
    go_region_law (first
      | (refine step_append_new rfl (.tmp 34) (.tmp 37) 22 rfl w.heap.size 9 i0 (.string ByteArray.empty) 1 16 Tryd.underlying22 hi hz0 hz1 hz2 rfl (by decide) (.slice (some ⟨w1.heap.size, 0, none⟩) 0 0) 0 [] (by simp [Act.eval, Act.put]) HOW.out.drew ⟨b, off + k, none⟩ (N - k) (c - k) (((L.drop k).take (N - k)).map sv) (by simp [Act.eval, Act.put]) hl1.out (SRC.out _ HB1A.out k (N - k)) (sv_one _) (by unfold maxLen; omega) (by omega) HB1A.out.size ?_; intro v1 w2 hown1 hgrow1 hw1; have HB2 := Lib.hid (HB1A.out.grown hgrow1 HB1A.out.size (fun q hq => HQ1.out q hq)))
      | (refine step_append_new rfl (.tmp 38) (.tmp 41) 22 rfl w.heap.size 9 i0 (.string ByteArray.empty) 1 16 Tryd.underlying22 hi hz0 hz1 hz2 rfl (by decide) v1 (0 + (N - k)) ([] ++ ((L.drop k).take (N - k)).map sv) (by simp [Act.eval, Act.put]) hown1 ⟨b, off + 0, none⟩ k c (((L.drop 0).take k).map sv) (by simp [Act.eval, Act.put]) hl2.out (SRC.out _ HB2.out 0 k) (sv_one _) (by unfold maxLen; omega) (by omega) HB2.out.size ?_; intro v2 w3 hown2 hgrow2 hw2))
    all_goals
      have hB3 : Below w.heap.size w w3 := HB2.out.grown hgrow2 HB2.out.size (fun q hq => (hown1.lt q hq).1)
      have hend : InEnd w (L.drop k ++ L.take k) N v2 w3 := by
        have e1 : (L.drop k).take (N - k) = L.drop k := List.take_of_length_le (by rw [List.length_drop, ← HN.out]; exact Nat.le_refl _)
        have e2 : (L.drop k ++ L.take k).length = 0 + (N - k) + k := by simp [← HN.out]; omega
        have e3 : (L.drop k ++ L.take k).length = N := by rw [e2]; omega
        have h9 := hown2
        rw [e1, List.drop_zero, List.nil_append, ← List.map_append, ← e2] at h9
        obtain ⟨a', c', hv, hs⟩ := strsl_of_own h9
        exact ⟨a', c', by rw [hv, e3], hs, hB3⟩
      have HE := Lib.hid hend
      clear hown1 hown2 hgrow1 hgrow2 hB3 hend hw1 hw2
      go_wp2
      go_meet
      case rel => exact HE.out
  case rest =>
    obtain ⟨a', c', rfl, hs, hwc⟩ := hcut
    have hpl : p.length ≤ 1000 := HPL.out
    have e3 : (L.drop k ++ L.take k).length = N := by simp [← HN.out]; omega
    have k1 := (always_gOf HM.out (some ⟨b, off, none⟩) c L (by rw [← HN.out]; omega) HL.out HC.out p hpl).from hwc
    have k2 := always_gOf (HM.out.kept hwc) a' c' (L.drop k ++ L.take k) (by rw [e3]; omega) (fun r hr => HL.out r ((turn_mem L k r).2 hr)) hs p hpl
    rw [e3] at k2
    rw [← HN.out] at k1
    have kg := (show Always w 14 #[] (.bool true) from fun W hW => finds_true W (HM.out.kept hW)).from hwc
    have HWC := Lib.hid hwc
    have HS := Lib.hid hs
    have BC := Lib.hid (Below.refl wc.heap.size wc)
    have KG := Lib.hid kg.later
    have KGA := Lib.hid kg
    rcases turned_same (p := p) (turn_mem L k) with ⟨h1, h2⟩ | ⟨i, j, q, hi1, hj1, h1, h2, hq1, hq2⟩
    · rw [h1] at k1
      rw [h2] at k2
      have K1 := Lib.hid k1.later
      have K2 := Lib.hid k2.later
      clear k1 k2 kg hwc hs h1 h2 e3 hpl
      go_wp2_with fail
      refine (K1.out _ BC.out).mono ?_
      rintro e wz1 ⟨rfl, Bz1⟩
      have Xz1 := Lib.hid Bz1
      clear Bz1
      go_wp2_with fail
      refine (K2.out _ Xz1.out).mono ?_
      rintro e wz2 ⟨rfl, Bz2⟩
      have Xz2 := Lib.hid Bz2
      clear Bz2
      go_wp2_with fail
      refine (KG.out _ Xz2.out).mono ?_
      rintro e wz3 ⟨rfl, Bz3⟩
      have Xz3 := Lib.hid Bz3
      clear Bz3
      go_wp2
      go_ret
      exact ⟨rfl, HWC.out.trans (Xz3.out.mono HWC.out.size)⟩
    · rw [h1] at k1
      rw [h2] at k2
      rw [e3] at hj1
      rw [← HN.out] at hi1
      have K1 := Lib.hid k1.later
      have K2 := Lib.hid k2.later
      obtain ⟨b1, o1, e, hb1, hc1⟩ := HC.out i q hq1
      simp at e
      obtain ⟨rfl, rfl⟩ := e
      obtain ⟨b2, o2, rfl, hb2, hc2⟩ := HS.out j q hq2
      have hc1 := (hwc.cell (p := ⟨b, off + i, none⟩) hb1).trans hc1
      have hb1 : b < wc.heap.size := Nat.lt_of_lt_of_le hb1 hwc.size
      have HC1 := Lib.hid hc1
      have HC2 := Lib.hid hc2
      have di : decide ((i : Int) < 0) = false := by simp
      have dj : decide ((j : Int) < 0) = false := by simp
      have di2 : decide (i < N) = true := by simpa using hi1
      have dj2 : decide (j < N) = true := by simpa using hj1
      have t1 : ((bs q).toList == (bs q).toList) = true := by simp
      clear k1 k2 kg hwc hs h1 h2 e3 hpl hq1 hq2 hc1 hc2
      go_wp2_with fail
      refine (K1.out _ BC.out).mono ?_
      rintro e wz1 ⟨rfl, Bz1⟩
      have Xz1 := Lib.hid Bz1
      clear Bz1
      go_wp2_with fail
      refine (K2.out _ Xz1.out).mono ?_
      rintro e wz2 ⟨rfl, Bz2⟩
      have Xz2 := Lib.hid Bz2
      clear Bz2
      go_wp2_with fail
      have f1 : ∀ o, (Wext wz2 o).cell? ⟨b, off + i, none⟩ = some (.string (bs q)) := fun o => ((Xz2.out.trans ((Wext.below wz2 o).mono Xz2.out.size)).cell (p := ⟨b, off + i, none⟩) hb1).trans HC1.out
      have f2 : ∀ o, (Wext wz2 o).cell? ⟨b2, o2 + j, none⟩ = some (.string (bs q)) := fun o => ((Xz2.out.trans ((Wext.below wz2 o).mono Xz2.out.size)).cell (p := ⟨b2, o2 + j, none⟩) hb2).trans HC2.out
      have KX := Lib.hid (KGA.out.ext Xz2.out)
      refine wp_region_ext (by kernel_rfl) (by kernel_rfl) ?_
      repeat (go_big_quiet_step (first | (go_at_call 14; exact KX.out _)))
      refine wpQuiet_nil ?_
      intro w' hw'
      obtain ⟨oq, hw''⟩ := hw'
      subst hw''
      go_wp2
      go_ret
      exact ⟨rfl, HWC.out.trans ((Xz2.out.trans ((Wext.below wz2 oq).mono Xz2.out.size)).mono HWC.out.size)⟩
set_option maxRecDepth 100000 in
set_option maxHeartbeats 4000000 in
/-- Where nothing is looked at: the example alone. -/
theorem regTurned_out (ao : Option Addr) (c : Nat) (L : List Bytes) (p : Bytes)  (y : Int) (w : World) (hm : MaxInt w) (hbig : L.length ≤ maxLen) (hL : ∀ r ∈ L, r.length ≤ maxLen) (hpm : p.length ≤ maxLen) (hc : StrSl w w.heap.size ao L)
    (hg : longB L = true ∨ 200 < p.length ∨ checkL L ≠ 0) : Calls Tryd.prog 7 #[.slice ao L.length c, .string (bs p), .int .u8 y] w (LawEnd w) := by
  have c0 := long_any ao c L w hbig hL hc
  have CG := Lib.hid (later_finds w hm)
  have B0 := Lib.hid (Below.refl w.heap.size w)
  have hps : (bs p).size ≤ 9223372036854775807 := by rw [size_bs]; unfold maxLen at hpm; omega
  cases hl : longB L with
  | true =>
    rw [hl] at c0
    have C0 := Lib.hid c0
    clear hl c0 hg hm hbig hL hpm hc
    obtain ⟨N, hN⟩ : ∃ N, N = L.length := ⟨_, rfl⟩
    rw [← hN] at C0 ⊢
    clear hN
    go_enter Tryd.func7, Tryd.ntmps7
    go_wp2_with fail
    refine C0.out.mono ?_
    rintro e w1 ⟨rfl, rfl⟩
    go_wp2_with fail
    refine (CG.out _ B0.out).mono ?_
    rintro e w1 ⟨rfl, B1⟩
    have X1 := Lib.hid B1
    clear B1
    go_wp2
    go_ret
    exact ⟨rfl, X1.out⟩
  | false =>
    rw [hl] at c0
    obtain ⟨h20, h200⟩ := longB_no hl
    have C0 := Lib.hid c0
    clear c0
    by_cases hp : 200 < p.length
    · have d1 : decide (200 < ((bs p).size : Int)) = true := by rw [size_bs]; simp; omega
      clear hl hg hm hbig hL hpm hc hp h20 h200
      obtain ⟨N, hN⟩ : ∃ N, N = L.length := ⟨_, rfl⟩
      rw [← hN] at C0 ⊢
      clear hN
      go_enter Tryd.func7, Tryd.ntmps7
      go_wp2_with fail
      refine C0.out.mono ?_
      rintro e w1 ⟨rfl, rfl⟩
      go_wp2_with fail
      refine (CG.out _ B0.out).mono ?_
      rintro e w1 ⟨rfl, B1⟩
      have X1 := Lib.hid B1
      clear B1
      go_wp2
      go_ret
      exact ⟨rfl, X1.out⟩
    · have d1 : decide (200 < ((bs p).size : Int)) = false := by rw [size_bs]; simp; omega
      have hck : checkL L ≠ 0 := by
        rcases hg with h | h | h
        · rw [hl] at h; cases h
        · exact absurd h hp
        · exact h
      have c1 := later_gCheck hm ao c L (by omega) (fun r hr => Nat.le_trans (h200 r hr) (by omega)) hc
      generalize checkL L = k at *
      have d2 : (k != 0) = true := by simpa using hck
      have C1 := Lib.hid c1
      clear hl hg hm hbig hL hpm hc hp h20 h200 hck c1
      obtain ⟨N, hN⟩ : ∃ N, N = L.length := ⟨_, rfl⟩
      rw [← hN] at C0 C1 ⊢
      clear hN
      go_enter Tryd.func7, Tryd.ntmps7
      go_wp2_with fail
      refine C0.out.mono ?_
      rintro e w1 ⟨rfl, rfl⟩
      go_wp2_with fail
      refine (C1.out _ B0.out).mono ?_
      rintro e w1 ⟨rfl, B1⟩
      have X1 := Lib.hid B1
      clear B1
      go_wp2_with fail
      refine (CG.out _ X1.out).mono ?_
      rintro e w2 ⟨rfl, B2⟩
      have X2 := Lib.hid B2
      clear B2
      go_wp2
      go_ret
      exact ⟨rfl, X2.out⟩

theorem regTurned_any (ao : Option Addr) (c : Nat) (L : List Bytes) (p : Bytes) (y : Int) (w : World) (hm : MaxInt w) (hbig : L.length ≤ c) (hcm : c ≤ maxLen) (hL : ∀ r ∈ L, r.length ≤ maxLen) (hpm : p.length ≤ maxLen) (hc : StrSl w w.heap.size ao L) (hy : 0 ≤ y ∧ y ≤ 255) :
    Calls Tryd.prog 7 #[.slice ao L.length c, .string (bs p), .int .u8 y] w (LawEnd w) := by
  by_cases hg : longB L = true ∨ 200 < p.length ∨ checkL L ≠ 0
  · exact regTurned_out ao c L p y w hm (Nat.le_trans hbig hcm) hL hpm hc hg
  · have h1 : longB L = false := by
      cases h : longB L with
      | true => exact absurd (.inl h) hg
      | false => rfl
    have h2 : ¬ 200 < p.length := fun h => hg (.inr (.inl h))
    have h3 : checkL L = 0 := by
      by_cases h : checkL L = 0
      · exact h
      · exact absurd (.inr (.inr h)) hg
    obtain ⟨x, hx⟩ : ∃ x, L[0]? = some x := ⟨_, List.getElem?_eq_getElem (by have := (check_ok h3).1; omega)⟩
    obtain ⟨b, off, rfl, _⟩ := hc 0 x hx
    obtain ⟨n, rfl⟩ := Int.eq_ofNat_of_zero_le hy.1
    exact regTurned_in b off c L p n w hm hc hbig hcm h1 (by omega) h3 (by have := hy.2; omega)
end Go.Proofs.YtdengimjjlbmcaaDoor
