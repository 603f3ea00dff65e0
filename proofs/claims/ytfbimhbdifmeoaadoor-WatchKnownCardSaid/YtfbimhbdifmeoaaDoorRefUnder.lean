/-
  The reference's Of and Under, walked.
-/
import Derived.Test.YtfbimhbdifmeoaaDoorRefParts
import Derived.Test.YtfbimhbdifmeoaaDoorPathUnder
import Derived.Deep.QuietTactic
import Derived.Deep.LoopGhost
import Derived.BigQuiet
namespace Go.Proofs.YtfbimhbdifmeoaaDoor
set_option linter.unusedVariables false
set_option linter.unusedSimpArgs false
open Go.RowKit

/-- A slice's texts: its address is only asked for where there is one. -/
def SlS (w : World) (B : Nat) (a : Option Addr) (L : List Bytes) : Prop := ∀ j x, L[j]? = some x → ∃ g, a = some ⟨g, 0, none⟩ ∧ g < B ∧ w.cell? ⟨g, j, none⟩ = some (.string (bs x))
theorem SlS.kept {w w' : World} {B : Nat} {a : Option Addr} {L : List Bytes} (h : SlS w B a L) (hb : Below B w w') : SlS w' B a L := by
  intro j x hx
  obtain ⟨g, ha, hg, hc⟩ := h j x hx
  exact ⟨g, ha, hg, (hb.cell (p := ⟨g, j, none⟩) hg).trans hc⟩
theorem SlS.mono {w : World} {B B' : Nat} {a : Option Addr} {L : List Bytes} (h : SlS w B a L) (hB : B ≤ B') : SlS w B' a L := by
  intro j x hx
  obtain ⟨g, ha, hg, hc⟩ := h j x hx
  exact ⟨g, ha, by omega, hc⟩
theorem ownS_sl {w : World} {base : Nat} {v : Value} {n : Nat} {L : List Bytes} (h : w.ownsRow base 9 1 v n (L.map sv)) : ∃ a c, v = .slice a L.length c ∧ SlS w w.heap.size a L := by
  rcases ownS_form h with ⟨rfl, rfl⟩ | ⟨g, cap, rfl, _, _, hg, hat⟩
  · exact ⟨none, 0, rfl, fun j x hx => by simp at hx⟩
  · exact ⟨_, cap, rfl, fun j x hx => ⟨g, rfl, hg, by have := hat j x hx; rwa [Nat.zero_add] at this⟩⟩
theorem strs_sl {w : World} {g : Nat} {L : List Bytes} (h : StrsAt w g 0 L) (hg : g < w.heap.size) : SlS w w.heap.size (some ⟨g, 0, none⟩) L :=
  fun j x hx => ⟨g, rfl, hg, by have := h j x hx; rwa [Nat.zero_add] at this⟩
theorem nil_sl (w : World) (B : Nat) (a : Option Addr) : SlS w B a [] := fun j x hx => by simp at hx

theorem cat_bs (a b : Bytes) : bs a ++ bs b = bs (a ++ b) := by
  have h : (bs a ++ bs b).data.toList = (bs (a ++ b)).data.toList := by
    rw [data_bs]; simp [bs]
  rw [← bs_data (bs a ++ bs b), h, bs_data]
theorem slashed_succ (L : List Bytes) (k : Nat) (x : Bytes) (hx : L[k]? = some x) : slashed (L.take (k + 1)) = slashed (L.take k) ++ 47 :: x := by
  rw [List.take_add_one, hx]
  simp [slashed]

set_option maxRecDepth 100000 in
theorem refOf_zero (a : Option Addr) (c : Nat) (w : World) : Calls Tryd.prog 32 #[.slice a 0 c] w fun e w' => e = .returned (.string (bs [47])) ∧ w = w' := by
  go_enter Tryd.func32, Tryd.ntmps32
  go_wp2
  go_ret
  exact ⟨rfl, rfl⟩
set_option maxRecDepth 100000 in
set_option maxHeartbeats 1000000 in
theorem refOf_more (a : Option Addr) (c B : Nat) (L : List Bytes) (w : World) (hL : L ≠ []) (hbig : L.length ≤ 1000) (hlen : (slashed L).length ≤ 1000000) (hc : SlS w B a L) : Calls Tryd.prog 32 #[.slice a L.length c] w fun e w' => e = .returned (.string (bs (ofL L))) ∧ w = w' := by
  have hof : ofL L = slashed (L.take L.length) := by
    rw [List.take_length]
    cases L with
    | nil => exact absurd rfl hL
    | cons x L => exact ofL_cons x L
  rw [hof]
  have hpos : 0 < L.length := List.length_pos_iff.2 hL
  clear hof hL
  have HC := Lib.hid hc
  clear hc
  obtain ⟨N, hN⟩ : ∃ N, N = L.length := ⟨_, rfl⟩
  have HN := Lib.hid hN
  rw [← hN] at hbig hpos ⊢
  clear hN
  have hz : ((N : Int) == 0) = false := by rw [beq_eq_false_iff_ne]; omega
  go_enter Tryd.func32, Tryd.ntmps32
  go_wp2
  go_loop [3, 4] (fun s i => ∃ k : Nat, k ≤ N ∧ i = .int .i64 k ∧ s = .string (bs (slashed (L.take k)))) (fun _ i => N - (intOf i).toNat)
  case atStart => exact ⟨0, by omega, rfl, rfl⟩
  case round =>
    obtain ⟨k, hk, rfl, rfl⟩ := hrel
    by_cases hlt : k < N
    · obtain ⟨x, hx⟩ : ∃ x, L[k]? = some x := ⟨_, List.getElem?_eq_getElem (by rw [← HN.out]; exact hlt)⟩
      obtain ⟨g, rfl, _, hcell⟩ := HC.out k x hx
      have hsz : (bs (slashed (L.take k))).size + 1 + (bs x).size ≤ 1000000 := by
        have h1 := ofL_len_take L (k + 1)
        rw [slashed_succ L k x hx] at h1
        rw [size_bs, size_bs]
        simp only [List.length_append, List.length_cons] at h1
        omega
      have hsz2 : (bs (slashed (L.take k))).size + 1 ≤ 1000000 := by omega
      have HS := Lib.hid (slashed_succ L k x hx)
      clear hx
      go_wp2
      go_round
      case rel => exact ⟨k + 1, by omega, by go_num, by rw [HS.out, show (⟨#[47]⟩ : ByteArray) = bs [47] from rfl, cat_bs, cat_bs, List.append_assoc]; rfl⟩
      case measure => simp [intOf]; omega
    · obtain rfl : k = N := by omega
      go_wp2
      go_ret
      exact ⟨rfl, rfl⟩

def RefAny (w : World) (ok : Bool) (e : Ending) (w' : World) : Prop := ∃ v, e = .returned (.tuple #[v, .bool ok]) ∧ Below w.heap.size w w'
theorem refParts_any (l : Bytes) (hs : (bs l).size ≤ 9223372036854775807) (w : World) : Calls Tryd.prog 19 #[.string (bs l)] w (RefAny w (partsL l).isSome) := by
  cases h : partsL l with
  | none => exact (refParts_none l h hs w).mono fun e w' ⟨he, hb⟩ => ⟨_, he, hb⟩
  | some L => exact (refParts_some l L h w).mono fun e w' ⟨v, he, _, hb⟩ => ⟨v, he, hb⟩

end Go.Proofs.YtfbimhbdifmeoaaDoor
