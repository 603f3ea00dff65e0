/-
  slices.IndexFunc and ContainsFunc over texts, at the closures of Check and All, walked.
-/
import Derived.Test.YtdengimjjlbmcaaDoorRegOf
namespace Go.Proofs.YtdengimjjlbmcaaDoor
set_option linter.unusedVariables false
set_option linter.unusedSimpArgs false
open Go.RowKit

set_option maxRecDepth 100000 in
set_option maxHeartbeats 4000000 in
theorem indexCheck (f : Bytes → Bool) (ao : Option Addr) (c : Nat) (L : List Bytes) (w : World) (hbig : L.length ≤ 1000) (hc : StrSl w w.heap.size ao L)
    (hF : ∀ W, Below w.heap.size w W → ∀ x ∈ L, Calls Tryd.prog 23 #[.string (bs x)] W fun en w' => en = .returned (.bool (f x)) ∧ Below W.heap.size W w') :
    Calls Tryd.prog 35 #[.slice ao L.length c, .func (.func 23) #[] #[]] w fun en w' => (∃ i, en = .returned (.int .i64 i) ∧ decide (0 ≤ i) = L.any f) ∧ Below w.heap.size w w' := by
  have HC := Lib.hid hc
  have HF := Lib.hid hF
  clear hc hF
  obtain ⟨N, hN⟩ : ∃ N, N = L.length := ⟨_, rfl⟩
  have HN := Lib.hid hN
  rw [← hN] at hbig ⊢
  clear hN
  go_enter Tryd.func35, Tryd.ntmps35
  go_wp2
  go_loopw [5, 8] (fun _ i wr => ∃ k : Nat, k ≤ N ∧ i = .int .i64 k ∧ Hid (∀ j y, j < k → L[j]? = some y → f y = false) ∧ Hid (Below w.heap.size w wr)) (fun _ i _ => N - (intOf i).toNat)
  case atStart => exact ⟨0, by omega, rfl, Lib.hid (fun _ _ h => absurd h (Nat.not_lt_zero _)), Lib.hid (Below.refl _ _)⟩
  case round =>
    obtain ⟨k, hk, rfl, HG, HB⟩ := hrel
    by_cases hlt : k < N
    · obtain ⟨x, hx⟩ : ∃ x, L[k]? = some x := ⟨_, List.getElem?_eq_getElem (by rw [← HN.out]; exact hlt)⟩
      obtain ⟨b, off, rfl, hb, hcell0⟩ := HC.out k x hx
      have hcell : wr.cell? ⟨b, off + k, none⟩ = some (.string (bs x)) := (HB.out.cell (p := ⟨b, off + k, none⟩) hb).trans hcell0
      have hcl := HF.out wr HB.out x (List.mem_of_getElem? hx)
      have HX := Lib.hid hx
      have HCL := Lib.hid hcl
      clear hx hcell0 hcl
      cases ho : f x with
      | false =>
        rw [ho] at HCL
        have HO := Lib.hid ho
        clear ho
        go_wp2_with fail
        refine HCL.out.mono ?_
        rintro en w1 ⟨rfl, B1⟩
        have HB1 := Lib.hid (HB.out.trans (B1.mono HB.out.size))
        clear B1
        go_wp2
        go_roundw
        case rel =>
          refine ⟨k + 1, by omega, by go_num, Lib.hid fun j y hj hy => ?_, HB1⟩
          by_cases e : j = k
          · subst e
            have := HX.out
            rw [hy] at this
            cases this
            exact HO.out
          · exact HG.out j y (by omega) hy
        case measure => simp [intOf]; omega
      | true =>
        rw [ho] at HCL
        have HT : Hid (L.any f = true) := Lib.hid (List.any_eq_true.2 ⟨x, List.mem_of_getElem? HX.out, ho⟩)
        clear ho
        go_wp2_with fail
        refine HCL.out.mono ?_
        rintro en w1 ⟨rfl, B1⟩
        have HB1 := Lib.hid (HB.out.trans (B1.mono HB.out.size))
        clear B1
        go_wp2
        go_ret
        exact ⟨⟨_, rfl, by rw [HT.out]; simp⟩, HB1.out⟩
    · obtain rfl : k = N := by omega
      have HT : Hid (L.any f = false) := Lib.hid (by
        rw [List.any_eq_false]
        intro y hy
        obtain ⟨j, hj, rfl⟩ := List.mem_iff_getElem.1 hy
        simp [HG.out j _ (by rw [HN.out]; exact hj) (List.getElem?_eq_getElem hj)])
      go_wp2
      go_ret
      exact ⟨⟨_, rfl, by rw [HT.out]; rfl⟩, HB.out⟩
set_option maxRecDepth 100000 in
theorem containsCheck (f : Bytes → Bool) (ao : Option Addr) (c : Nat) (L : List Bytes) (w : World) (hbig : L.length ≤ 1000) (hc : StrSl w w.heap.size ao L)
    (hF : ∀ W, Below w.heap.size w W → ∀ x ∈ L, Calls Tryd.prog 23 #[.string (bs x)] W fun en w' => en = .returned (.bool (f x)) ∧ Below W.heap.size W w') :
    Calls Tryd.prog 22 #[.slice ao L.length c, .func (.func 23) #[] #[]] w fun en w' => en = .returned (.bool (L.any f)) ∧ Below w.heap.size w w' := by
  have hi := indexCheck f ao c L w hbig hc hF
  clear hc hF
  generalize L.any f = r at *
  go_enter Tryd.func22, Tryd.ntmps22
  go_wp2_with (go_at_call 35; refine hi.mono ?_; rintro en w1 ⟨⟨i, rfl, hr⟩, B1⟩)
  go_ret
  exact ⟨by rw [← hr]; rfl, B1⟩

set_option maxRecDepth 100000 in
set_option maxHeartbeats 4000000 in
theorem indexAll (f : Bytes → Bool) (pl pa : Nat) (ao : Option Addr) (c : Nat) (L : List Bytes) (w : World) (hbig : L.length ≤ 1000) (hc : StrSl w w.heap.size ao L)
    (hF : ∀ W, Below w.heap.size w W → ∀ x ∈ L, Calls Tryd.prog 28 #[.string (bs x), .pointer (some ⟨pl, 0, none⟩), .pointer (some ⟨pa, 0, none⟩)] W fun en w' => en = .returned (.bool (f x)) ∧ Below W.heap.size W w') :
    Calls Tryd.prog 35 #[.slice ao L.length c, .func (.func 28) #[] #[.pointer (some ⟨pl, 0, none⟩), .pointer (some ⟨pa, 0, none⟩)]] w fun en w' => (∃ i, en = .returned (.int .i64 i) ∧ decide (0 ≤ i) = L.any f) ∧ Below w.heap.size w w' := by
  have HC := Lib.hid hc
  have HF := Lib.hid hF
  clear hc hF
  obtain ⟨N, hN⟩ : ∃ N, N = L.length := ⟨_, rfl⟩
  have HN := Lib.hid hN
  rw [← hN] at hbig ⊢
  clear hN
  go_enter Tryd.func35, Tryd.ntmps35
  go_wp2
  go_loopw [5, 8] (fun _ i wr => ∃ k : Nat, k ≤ N ∧ i = .int .i64 k ∧ Hid (∀ j y, j < k → L[j]? = some y → f y = false) ∧ Hid (Below w.heap.size w wr)) (fun _ i _ => N - (intOf i).toNat)
  case atStart => exact ⟨0, by omega, rfl, Lib.hid (fun _ _ h => absurd h (Nat.not_lt_zero _)), Lib.hid (Below.refl _ _)⟩
  case round =>
    obtain ⟨k, hk, rfl, HG, HB⟩ := hrel
    by_cases hlt : k < N
    · obtain ⟨x, hx⟩ : ∃ x, L[k]? = some x := ⟨_, List.getElem?_eq_getElem (by rw [← HN.out]; exact hlt)⟩
      obtain ⟨b, off, rfl, hb, hcell0⟩ := HC.out k x hx
      have hcell : wr.cell? ⟨b, off + k, none⟩ = some (.string (bs x)) := (HB.out.cell (p := ⟨b, off + k, none⟩) hb).trans hcell0
      have hcl := HF.out wr HB.out x (List.mem_of_getElem? hx)
      have HX := Lib.hid hx
      have HCL := Lib.hid hcl
      clear hx hcell0 hcl
      cases ho : f x with
      | false =>
        rw [ho] at HCL
        have HO := Lib.hid ho
        clear ho
        go_wp2_with fail
        refine HCL.out.mono ?_
        rintro en w1 ⟨rfl, B1⟩
        have HB1 := Lib.hid (HB.out.trans (B1.mono HB.out.size))
        clear B1
        go_wp2
        go_roundw
        case rel =>
          refine ⟨k + 1, by omega, by go_num, Lib.hid fun j y hj hy => ?_, HB1⟩
          by_cases e : j = k
          · subst e
            have := HX.out
            rw [hy] at this
            cases this
            exact HO.out
          · exact HG.out j y (by omega) hy
        case measure => simp [intOf]; omega
      | true =>
        rw [ho] at HCL
        have HT : Hid (L.any f = true) := Lib.hid (List.any_eq_true.2 ⟨x, List.mem_of_getElem? HX.out, ho⟩)
        clear ho
        go_wp2_with fail
        refine HCL.out.mono ?_
        rintro en w1 ⟨rfl, B1⟩
        have HB1 := Lib.hid (HB.out.trans (B1.mono HB.out.size))
        clear B1
        go_wp2
        go_ret
        exact ⟨⟨_, rfl, by rw [HT.out]; simp⟩, HB1.out⟩
    · obtain rfl : k = N := by omega
      have HT : Hid (L.any f = false) := Lib.hid (by
        rw [List.any_eq_false]
        intro y hy
        obtain ⟨j, hj, rfl⟩ := List.mem_iff_getElem.1 hy
        simp [HG.out j _ (by rw [HN.out]; exact hj) (List.getElem?_eq_getElem hj)])
      go_wp2
      go_ret
      exact ⟨⟨_, rfl, by rw [HT.out]; rfl⟩, HB.out⟩
set_option maxRecDepth 100000 in
theorem containsAll (f : Bytes → Bool) (pl pa : Nat) (ao : Option Addr) (c : Nat) (L : List Bytes) (w : World) (hbig : L.length ≤ 1000) (hc : StrSl w w.heap.size ao L)
    (hF : ∀ W, Below w.heap.size w W → ∀ x ∈ L, Calls Tryd.prog 28 #[.string (bs x), .pointer (some ⟨pl, 0, none⟩), .pointer (some ⟨pa, 0, none⟩)] W fun en w' => en = .returned (.bool (f x)) ∧ Below W.heap.size W w') :
    Calls Tryd.prog 22 #[.slice ao L.length c, .func (.func 28) #[] #[.pointer (some ⟨pl, 0, none⟩), .pointer (some ⟨pa, 0, none⟩)]] w fun en w' => en = .returned (.bool (L.any f)) ∧ Below w.heap.size w w' := by
  have hi := indexAll f pl pa ao c L w hbig hc hF
  clear hc hF
  generalize L.any f = r at *
  go_enter Tryd.func22, Tryd.ntmps22
  go_wp2_with (go_at_call 35; refine hi.mono ?_; rintro en w1 ⟨⟨i, rfl, hr⟩, B1⟩)
  go_ret
  exact ⟨by rw [← hr]; rfl, B1⟩

end Go.Proofs.YtdengimjjlbmcaaDoor
