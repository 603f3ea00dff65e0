/-
  Names and parts, in plain Lean: what bytes a name has; a path's beginnings are paths.
-/
import Derived.Test.YtnclkfhdpkkakaaGreatDoorLater
namespace Go.Proofs.YtnclkfhdpkkakaaGreatDoor
set_option linter.unusedVariables false
set_option linter.unusedSimpArgs false
open Go.RowKit

theorem decode_conts (s : ByteArray) (i : Nat) : ∀ k, 1 ≤ k → k < (Utf8.decode s i).2 → contB s (i + k) = true := by
  intro k hk1 hk2
  rw [dec_unfold] at hk2
  split at hk2
  · simp only at hk2; omega
  · split at hk2
    · rename_i _ h
      simp only [Bool.and_eq_true] at h
      split at hk2
      · obtain rfl : k = 1 := by simp only at hk2; omega
        exact h.2
      · simp only at hk2; omega
    · split at hk2
      · rename_i _ _ h
        simp only [Bool.and_eq_true] at h
        split at hk2
        · rcases (show k = 1 ∨ k = 2 by simp only at hk2; omega) with rfl | rfl
          · exact h.1.2
          · exact h.2
        · simp only at hk2; omega
      · split at hk2
        · rename_i _ _ _ h
          simp only [Bool.and_eq_true] at h
          split at hk2
          · rcases (show k = 1 ∨ k = 2 ∨ k = 3 by simp only at hk2; omega) with rfl | rfl | rfl
            · exact h.1.1.2
            · exact h.1.2
            · exact h.2
          · simp only at hk2; omega
        · simp only at hk2; omega
/-- In a text whose runes are good each byte goes on in a rune, or begins a good one. -/
theorem good_at (s : ByteArray) : ∀ (b pos : Nat), goodFrom s b pos = true → s.size ≤ pos + b → ∀ j, pos ≤ j → j < s.size → contB s j = true ∨ badB (Utf8.decode s j).1 = false
  | 0, pos, _, h, j, h1, h2 => by omega
  | b + 1, pos, hg, h, j, h1, h2 => by
    have hp : pos < s.size := by omega
    rw [good_succ s b pos hp, Bool.and_eq_true, Bool.not_eq_true'] at hg
    by_cases hj : j < pos + (Utf8.decode s pos).2
    · by_cases he : j = pos
      · subst he
        exact .inr hg.1
      · obtain ⟨k, rfl⟩ : ∃ k, j = pos + k := ⟨j - pos, by omega⟩
        exact .inl (decode_conts s pos k (by omega) (by omega))
    · have := width_pos s pos hp
      exact good_at s b _ hg.2 (by omega) j (by omega) h2
theorem name_good {l : Bytes} (h : okName l = true) : goodFrom (bs l) (bs l).size 0 = true := by
  unfold okName nameB at h
  rw [Bool.and_eq_true] at h
  exact h.2
theorem get_bs (l : Bytes) (j : Nat) (h : j < l.length) : (bs l).get! j = l[j] := by
  rw [get_elem (bs l) j (by rw [size_bs]; exact h), elem_bs]
/-- What no name has at any place. -/
theorem name_no (l : Bytes) (h : okName l = true) (j : Nat) (hj : j < l.length) (c : UInt8) (hc : l[j] = c) (h1 : (c.toNat / 64 == 2) = false) (h2 : c.toNat < 32 ∨ c = 47 ∨ c = 127 ∨ 248 ≤ c.toNat ∨ c = 192) : False := by
  have hj' : j < (bs l).size := by rw [size_bs]; exact hj
  have hget : (bs l).get! j = c := by rw [get_bs l j hj, hc]
  rcases good_at (bs l) _ 0 (name_good h) (by omega) j (Nat.zero_le _) hj' with h3 | h3
  · unfold contB at h3
    rw [hget, h1] at h3
    simp at h3
  · rw [dec_unfold, hget] at h3
    rcases h2 with h2 | rfl | rfl | h2 | rfl
    · rw [if_pos (by omega)] at h3
      simp [badB] at h3
      omega
    · rw [if_pos (by decide)] at h3
      exact absurd h3 (by decide)
    · rw [if_pos (by decide)] at h3
      exact absurd h3 (by decide)
    · have e1 : (c.toNat / 32 == 6) = false := by simp; omega
      have e2 : (c.toNat / 16 == 14) = false := by simp; omega
      have e3 : (c.toNat / 8 == 30) = false := by simp; omega
      rw [if_neg (by omega), e1, e2, e3] at h3
      simp only [Bool.false_and, Bool.false_eq_true, if_false] at h3
      exact absurd h3 (by decide)
    · have e0 : (192 : UInt8).toNat = 192 := rfl
      rw [e0] at h3
      rw [if_neg (by omega)] at h3
      split at h3
      · rw [if_neg (by omega)] at h3
        exact absurd h3 (by decide)
      · simp only [show (192 / 16 == 14) = false from rfl, show (192 / 8 == 30) = false from rfl, Bool.false_and, Bool.false_eq_true, if_false] at h3
        exact absurd h3 (by decide)
theorem name_free {l : Bytes} (h : okName l = true) : (47 : UInt8) ∉ l := by
  intro hm
  obtain ⟨j, hj, hc⟩ := List.mem_iff_getElem.1 hm
  exact name_no l h j hj 47 hc rfl (.inr (.inl rfl))
theorem name_ne {l : Bytes} (h : okName l = true) : l ≠ [] := by
  rintro rfl
  rw [okName_eq] at h
  exact absurd h (by decide)

/-- Of good parts a path is made, if it is not too long. -/
theorem parts_of (L : List Bytes) (h1 : ∀ x ∈ L, okName x = true) (h2 : (ofL L).length ≤ 64) : partsL (ofL L) = some L := by
  cases L with
  | nil => rfl
  | cons x L =>
    have hs : ofL (x :: L) = 47 :: (x ++ slashed L) := by rw [ofL_cons]; simp [slashed]
    rw [hs] at h2 ⊢
    have hseg : segs (x ++ slashed L) = x :: L := segs_slashed x L (fun y hy => name_free (h1 y hy))
    rw [partsL_cons, if_pos ⟨rfl, by simp only [List.length_cons] at h2; omega⟩, if_neg, hseg, if_pos (List.all_eq_true.2 h1)]
    have := name_ne (h1 x (by simp))
    intro e
    cases x with
    | nil => exact this rfl
    | cons a b => cases e
theorem parts_good {l : Bytes} {L : List Bytes} (h : partsL l = some L) : ∀ x ∈ L, okName x = true := by
  obtain ⟨r, rfl, hs, ⟨rfl, rfl⟩ | ⟨h1, rfl, h3⟩⟩ := partsL_some h
  · simp
  · exact List.all_eq_true.1 h3
theorem len_cons (x : Bytes) (L : List Bytes) : (slashed (x :: L)).length = x.length + 1 + (slashed L).length := by simp [slashed]; omega
theorem len_take (L : List Bytes) (k : Nat) (x : Bytes) (hx : L[k]? = some x) : (slashed (L.take (k + 1))).length = (slashed (L.take k)).length + 1 + x.length := by
  rw [slashed_succ L k x hx, List.length_append, List.length_cons]
  omega
theorem ofL_len_eq (L : List Bytes) (hL : L ≠ []) : (ofL L).length = (slashed L).length := by
  cases L with
  | nil => exact absurd rfl hL
  | cons x L => rw [ofL_cons]
theorem take_len64 {l : Bytes} {L : List Bytes} (h : partsL l = some L) (k : Nat) : (ofL (L.take k)).length ≤ 64 := by
  have h1 := slashed_parts h
  have h2 := ofL_len_take L k
  by_cases he : L.take k = []
  · rw [he]; decide
  · rw [ofL_len_eq _ he]; omega
theorem parts_take {l : Bytes} {L : List Bytes} (h : partsL l = some L) (k : Nat) : partsL (ofL (L.take k)) = some (L.take k) :=
  parts_of _ (fun x hx => parts_good h x (List.mem_of_mem_take hx)) (take_len64 h k)
theorem shorter {l : Bytes} {L : List Bytes} (h : partsL l = some L) (k : Nat) (hk : k < L.length) : (ofL (L.take k)).length < (ofL (L.take (k + 1))).length := by
  have hx := List.getElem?_eq_getElem hk
  have h1 := len_take L k _ hx
  have hne := name_ne (parts_good h L[k] (List.getElem_mem _))
  have hpos : 0 < (L[k]).length := List.length_pos_iff.2 hne
  have hL1 : L.take (k + 1) ≠ [] := by
    intro e
    have : (L.take (k + 1)).length = 0 := by rw [e]; rfl
    rw [List.length_take] at this
    omega
  rw [ofL_len_eq _ hL1, h1]
  have := ofL_len (L.take k)
  omega
theorem under_parts {p q : Bytes} {L M : List Bytes} (h1 : partsL p = some L) (h2 : partsL q = some M) : underB p q = true ↔ M <+: L := by
  unfold underB
  rw [h1, h2]
  simp only [Bool.and_eq_true, decide_eq_true_eq]
  exact ⟨fun h => by rw [← h.2]; exact List.take_prefix _ _, fun h => ⟨h.length_le, (List.prefix_iff_eq_take.1 h).symm⟩⟩
theorem under_take {l : Bytes} {L : List Bytes} (h : partsL l = some L) (k : Nat) : underB l (ofL (L.take k)) = true :=
  (under_parts h (parts_take h k)).2 (List.take_prefix _ _)
theorem take_snoc (L : List Bytes) (k : Nat) (hk : k < L.length) : L.take (k + 1) = L.take k ++ [L[k]] := by
  rw [List.take_add_one, List.getElem?_eq_getElem hk]; rfl
theorem snoc_ne {α : Type} (M : List α) (x : α) : M ++ [x] ≠ [] := by cases M <;> simp
theorem parent_take {l : Bytes} {L : List Bytes} (h : partsL l = some L) (k : Nat) (hk : k < L.length) : parentL (ofL (L.take (k + 1))) = ofL (L.take k) := by
  unfold parentL
  rw [parts_take h (k + 1)]
  show (if L.take (k + 1) = [] then _ else ofL (L.take (k + 1)).dropLast) = _
  rw [take_snoc L k hk, if_neg (snoc_ne _ _), List.dropLast_concat]
theorem base_take {l : Bytes} {L : List Bytes} (h : partsL l = some L) (k : Nat) (hk : k < L.length) : baseL (ofL (L.take (k + 1))) = L[k] := by
  unfold baseL
  rw [parts_take h (k + 1)]
  show (L.take (k + 1)).getLast?.getD [] = _
  rw [take_snoc L k hk, List.getLast?_concat]
  rfl
theorem under_not {l : Bytes} {L : List Bytes} (h : partsL l = some L) (k : Nat) (hk : k < L.length) : underB (ofL (L.take k)) l = false := by
  cases hu : underB (ofL (L.take k)) l with
  | false => rfl
  | true =>
    have := ((under_parts (parts_take h k) h).1 hu).length_le
    rw [List.length_take] at this
    omega
end Go.Proofs.YtnclkfhdpkkakaaGreatDoor
