/-
  The reference's Of and Under, walked.
-/
import Derived.Test.YtkhoeiapfoaapaaGreatDoorRefParts
import Derived.Test.YtkhoeiapfoaapaaGreatDoorPathUnder
import Derived.Deep.QuietTactic
import Derived.Deep.LoopGhost
import Derived.BigQuiet
namespace Go.Proofs.YtkhoeiapfoaapaaGreatDoor
set_option linter.unusedVariables false
set_option linter.unusedSimpArgs false
open Go.RowKit

/-- A slice's texts: its address is only asked for where there is one. -/
def SlS (w : World) (B : Nat) (a : Option Addr) (L : List Bytes) : Prop := ∀ j x, L[j]? = some x → ∃ g, a = some ⟨g, 0, none⟩ ∧ g < B ∧ w.cell? ⟨g, j, none⟩ = some (.string (bs x))
theorem SlS.kept {w w' : World} {B : Nat} {a : Option Addr} {L : List Bytes} (h : SlS w B a L) (hb : Below B w w') : SlS w' B a L := by
  intro j x hx
  obtain ⟨g, ha, hg, hc⟩ := h j x hx
  exact ⟨g, ha, hg, (hb.cell (p := ⟨g, j, none⟩) hg).trans hc⟩
theorem SlS.mono {w : World} {B B' : Nat} {a : Option Addr} {L : List Bytes} (h : SlS w B a L) (hB : B ≤ B') : SlS w B' a L := by
  intro j x hx
  obtain ⟨g, ha, hg, hc⟩ := h j x hx
  exact ⟨g, ha, by omega, hc⟩
theorem ownS_sl {w : World} {base : Nat} {v : Value} {n : Nat} {L : List Bytes} (h : w.ownsRow base 9 1 v n (L.map sv)) : ∃ a c, v = .slice a L.length c ∧ SlS w w.heap.size a L := by
  rcases ownS_form h with ⟨rfl, rfl⟩ | ⟨g, cap, rfl, _, _, hg, hat⟩
  · exact ⟨none, 0, rfl, fun j x hx => by simp at hx⟩
  · exact ⟨_, cap, rfl, fun j x hx => ⟨g, rfl, hg, by have := hat j x hx; rwa [Nat.zero_add] at this⟩⟩
theorem strs_sl {w : World} {g : Nat} {L : List Bytes} (h : StrsAt w g 0 L) (hg : g < w.heap.size) : SlS w w.heap.size (some ⟨g, 0, none⟩) L :=
  fun j x hx => ⟨g, rfl, hg, by have := h j x hx; rwa [Nat.zero_add] at this⟩
theorem nil_sl (w : World) (B : Nat) (a : Option Addr) : SlS w B a [] := fun j x hx => by simp at hx

theorem cat_bs (a b : Bytes) : bs a ++ bs b = bs (a ++ b) := by
  have h : (bs a ++ bs b).data.toList = (bs (a ++ b)).data.toList := by
    rw [data_bs]; simp [bs]
  rw [← bs_data (bs a ++ bs b), h, bs_data]
theorem slashed_succ (L : List Bytes) (k : Nat) (x : Bytes) (hx : L[k]? = some x) : slashed (L.take (k + 1)) = slashed (L.take k) ++ 47 :: x := by
  rw [List.take_add_one, hx]
  simp [slashed]

set_option maxRecDepth 100000 in
theorem refOf_zero (a : Option Addr) (c : Nat) (w : World) : Calls Tryz.prog 59 #[.slice a 0 c] w fun e w' => e = .returned (.string (bs [47])) ∧ w = w' := by
  go_enter Tryz.func59, Tryz.ntmps59
  go_wp2
  go_ret
  exact ⟨rfl, rfl⟩
set_option maxRecDepth 100000 in
set_option maxHeartbeats 1000000 in
theorem refOf_more (a : Option Addr) (c B : Nat) (L : List Bytes) (w : World) (hL : L ≠ []) (hbig : L.length ≤ 1000) (hlen : (slashed L).length ≤ 1000000) (hc : SlS w B a L) : Calls Tryz.prog 59 #[.slice a L.length c] w fun e w' => e = .returned (.string (bs (ofL L))) ∧ w = w' := by
  have hof : ofL L = slashed (L.take L.length) := by
    rw [List.take_length]
    cases L with
    | nil => exact absurd rfl hL
    | cons x L => exact ofL_cons x L
  rw [hof]
  have hpos : 0 < L.length := List.length_pos_iff.2 hL
  clear hof hL
  have HC := Lib.hid hc
  clear hc
  obtain ⟨N, hN⟩ : ∃ N, N = L.length := ⟨_, rfl⟩
  have HN := Lib.hid hN
  rw [← hN] at hbig hpos ⊢
  clear hN
  have hz : ((N : Int) == 0) = false := by rw [beq_eq_false_iff_ne]; omega
  go_enter Tryz.func59, Tryz.ntmps59
  go_wp2
  go_loop [3, 4] (fun s i => ∃ k : Nat, k ≤ N ∧ i = .int .i64 k ∧ s = .string (bs (slashed (L.take k)))) (fun _ i => N - (intOf i).toNat)
  case atStart => exact ⟨0, by omega, rfl, rfl⟩
  case round =>
    obtain ⟨k, hk, rfl, rfl⟩ := hrel
    by_cases hlt : k < N
    · obtain ⟨x, hx⟩ : ∃ x, L[k]? = some x := ⟨_, List.getElem?_eq_getElem (by rw [← HN.out]; exact hlt)⟩
      obtain ⟨g, rfl, _, hcell⟩ := HC.out k x hx
      have hsz : (bs (slashed (L.take k))).size + 1 + (bs x).size ≤ 1000000 := by
        have h1 := ofL_len_take L (k + 1)
        rw [slashed_succ L k x hx] at h1
        rw [size_bs, size_bs]
        simp only [List.length_append, List.length_cons] at h1
        omega
      have hsz2 : (bs (slashed (L.take k))).size + 1 ≤ 1000000 := by omega
      have HS := Lib.hid (slashed_succ L k x hx)
      clear hx
      go_wp2
      go_round
      case rel => exact ⟨k + 1, by omega, by go_num, by rw [HS.out, show (⟨#[47]⟩ : ByteArray) = bs [47] from rfl, cat_bs, cat_bs, List.append_assoc]; rfl⟩
      case measure => simp [intOf]; omega
    · obtain rfl : k = N := by omega
      go_wp2
      go_ret
      exact ⟨rfl, rfl⟩

def RefAny (w : World) (ok : Bool) (e : Ending) (w' : World) : Prop := ∃ v, e = .returned (.tuple #[v, .bool ok]) ∧ Below w.heap.size w w'
theorem refParts_any (l : Bytes) (hs : (bs l).size ≤ 9223372036854775807) (w : World) : Calls Tryz.prog 12 #[.string (bs l)] w (RefAny w (partsL l).isSome) := by
  cases h : partsL l with
  | none => exact (refParts_none l h hs w).mono fun e w' ⟨he, hb⟩ => ⟨_, he, hb⟩
  | some L => exact (refParts_some l L h w).mono fun e w' ⟨v, he, _, hb⟩ => ⟨v, he, hb⟩

set_option maxRecDepth 100000 in
theorem refUnder_f1 (p q : Bytes) (hp : (bs p).size ≤ 9223372036854775807) (hq : (bs q).size ≤ 9223372036854775807) (h : partsL p = none) (w : World) :
    Calls Tryz.prog 41 #[.string (bs p), .string (bs q)] w fun e w' => e = .returned (.bool false) ∧ Below w.heap.size w w' := by
  have h1 := refParts_none p h hp w
  have h2 := refParts_any q hq
  clear h
  generalize (partsL q).isSome = ok at *
  go_enter Tryz.func41, Tryz.ntmps41
  go_wp2_with fail
  refine h1.mono ?_
  rintro e w1 ⟨rfl, B1⟩
  go_wp2_with fail
  refine (h2 _).mono ?_
  rintro e w2 ⟨v2, rfl, B2⟩
  have HB := Lib.hid (B1.trans (B2.mono B1.size))
  clear B1 B2
  go_wp2
  go_ret
  exact ⟨rfl, HB.out⟩
set_option maxRecDepth 100000 in
theorem refUnder_f2 (p q : Bytes) (L : List Bytes) (hq : (bs q).size ≤ 9223372036854775807) (h : partsL p = some L) (h0 : partsL q = none) (w : World) :
    Calls Tryz.prog 41 #[.string (bs p), .string (bs q)] w fun e w' => e = .returned (.bool false) ∧ Below w.heap.size w w' := by
  have h1 := refParts_some p L h w
  have h2 := refParts_none q h0 hq
  clear h h0
  go_enter Tryz.func41, Tryz.ntmps41
  go_wp2_with fail
  refine h1.mono ?_
  rintro e w1 ⟨v, rfl, _, B1⟩
  go_wp2_with fail
  refine (h2 _).mono ?_
  rintro e w2 ⟨rfl, B2⟩
  have HB := Lib.hid (B1.trans (B2.mono B1.size))
  clear B1 B2
  go_wp2
  go_ret
  exact ⟨rfl, HB.out⟩

theorem take_step (L M : List Bytes) (k : Nat) (x y : Bytes) (hx : L[k]? = some x) (hy : M[k]? = some y) (hk : L.take k = M.take k) : (L.take (k + 1) = M.take (k + 1)) ↔ x = y := by
  rw [List.take_add_one, List.take_add_one, hx, hy, hk]
  simp

set_option maxRecDepth 100000 in
set_option maxHeartbeats 2000000 in
theorem refUnder_both (p q : Bytes) (L M : List Bytes) (h : partsL p = some L) (h0 : partsL q = some M) (w : World) :
    Calls Tryz.prog 41 #[.string (bs p), .string (bs q)] w fun e w' => e = .returned (.bool (decide (M.length ≤ L.length) && decide (L.take M.length = M))) ∧ Below w.heap.size w w' := by
  have h1 := refParts_some p L h w
  have h2 := refParts_some q M h0
  have hl1 := partsL_len h
  have hl2 := partsL_len h0
  clear h h0
  obtain ⟨R, hR⟩ : ∃ R, R = (decide (M.length ≤ L.length) && decide (L.take M.length = M)) := ⟨_, rfl⟩
  rw [← hR]
  have HR := Lib.hid hR
  clear hR
  obtain ⟨n, hn⟩ : ∃ n, n = L.length := ⟨_, rfl⟩
  obtain ⟨k, hk⟩ : ∃ k, k = M.length := ⟨_, rfl⟩
  have HN := Lib.hid hn
  have HK := Lib.hid hk
  rw [← hn] at hl1
  rw [← hk] at hl2
  clear hn hk
  go_enter Tryz.func41, Tryz.ntmps41
  go_wp2_with fail
  refine h1.mono ?_
  rintro e w1 ⟨v, rfl, O1, B1⟩
  obtain ⟨a, c, hv, S1⟩ := ownS_sl O1
  rw [hv, ← HN.out]
  clear hv O1
  go_wp2_with fail
  refine (h2 _).mono ?_
  rintro e w2 ⟨v2, rfl, O2, B2⟩
  obtain ⟨b, d, hv, S2⟩ := ownS_sl O2
  rw [hv, ← HK.out]
  clear hv O2
  have X1 := Lib.hid (S1.kept B2)
  have X2 := Lib.hid S2
  have HB := Lib.hid (B1.trans (B2.mono B1.size))
  clear B1 B2 S1 S2 h2
  by_cases hle : k ≤ n
  · go_wp2
    go_loopw [9] (fun i wr => ∃ m : Nat, m ≤ k ∧ i = .int .i64 m ∧ Hid (L.take m = M.take m) ∧ ∃ q, wr = w2.drewN q) (fun i _ => k - (intOf i).toNat)
    case atStart => exact ⟨0, by omega, rfl, Lib.hid rfl, 0, rfl⟩
    case round =>
      obtain ⟨m, hm, rfl, HE, q, rfl⟩ := hrel
      by_cases hlt : m < k
      · obtain ⟨x, hx⟩ : ∃ x, L[m]? = some x := ⟨_, List.getElem?_eq_getElem (by rw [← HN.out]; omega)⟩
        obtain ⟨y, hy⟩ : ∃ y, M[m]? = some y := ⟨_, List.getElem?_eq_getElem (by rw [← HK.out]; exact hlt)⟩
        obtain ⟨g, rfl, _, hc1⟩ := X1.out m x hx
        obtain ⟨g2, rfl, _, hc2⟩ := X2.out m y hy
        have HT := Lib.hid (take_step L M m x y hx hy HE.out)
        by_cases hxy : x = y
        · subst hxy
          have HE2 := Lib.hid (HT.out.2 rfl)
          have ht : ((bs x).toList == (bs x).toList) = true := by simp
          clear hx hy HT
          go_wp2
          go_quiet (fail)
          go_wp2
          go_roundw
          case rel => exact ⟨m + 1, by omega, by go_num, HE2, _, rfl⟩
          case measure => simp [intOf]; omega
        · have ht : ((bs x).toList == (bs y).toList) = false := by
            rw [toList_bs, toList_bs]
            simpa using hxy
          have hrf : R = false := by
            rw [HR.out]
            have : ¬ L.take M.length = M := fun e => by
              apply hxy
              have h1 : (L.take M.length)[m]? = M[m]? := by rw [e]
              rw [List.getElem?_take_of_lt (by rw [← HK.out]; exact hlt), hx, hy] at h1
              exact Option.some.inj h1
            simp [this]
          subst hrf
          clear hx hy HT hxy
          go_wp2
          go_quiet (fail)
          go_wp2
          go_ret
          exact ⟨rfl, HB.out.os, HB.out.tape, HB.out.output, HB.out.size, HB.out.block⟩
      · obtain rfl : m = k := by omega
        have hrt : R = true := by
          rw [HR.out]
          have h1 : M.length ≤ L.length := by rw [← HN.out, ← HK.out]; exact hle
          have h2 : L.take M.length = M := by rw [← HK.out, HE.out, HK.out, List.take_length]
          simp [h1, h2]
        subst hrt
        go_wp2
        go_ret
        exact ⟨rfl, HB.out.os, HB.out.tape, HB.out.output, HB.out.size, HB.out.block⟩
  · have hrf : R = false := by
      rw [HR.out]
      have : ¬ M.length ≤ L.length := by rw [← HN.out, ← HK.out]; exact hle
      simp [this]
    subst hrf
    go_wp2
    go_ret
    exact ⟨rfl, HB.out⟩

theorem refUnder_any (p q : Bytes) (hp : (bs p).size ≤ 9223372036854775807) (hq : (bs q).size ≤ 9223372036854775807) (w : World) :
    Calls Tryz.prog 41 #[.string (bs p), .string (bs q)] w fun e w' => e = .returned (.bool (underB p q)) ∧ Below w.heap.size w w' := by
  unfold underB
  cases h1 : partsL p with
  | none => exact refUnder_f1 p q hp hq h1 w
  | some L =>
    cases h2 : partsL q with
    | none => exact refUnder_f2 p q L hq h1 h2 w
    | some M => exact refUnder_both p q L M h1 h2 w
end Go.Proofs.YtkhoeiapfoaapaaGreatDoor
