/-
  The document's list and the tree's map: what they share.
  Sorting by swaps, as the document does it.
-/
import Derived.Test.YtkhoeiapfoaapaaGreatDoorTrInv
namespace Go.Proofs.YtkhoeiapfoaapaaGreatDoor
set_option linter.unusedVariables false
set_option linter.unusedSimpArgs false
set_option linter.unusedVariables false
set_option linter.unusedSimpArgs false

theorem getA_del_other {p q : Bytes} (h : q ≠ p) : ∀ {M : List (Bytes × Nd)}, getA q (delA p M) = getA q M
  | [] => rfl
  | y :: M => by
    unfold delA
    split
    · rename_i e
      simp only [getA]
      rw [if_neg (fun e2 => h (e2.symm.trans e))]
    · simp only [getA]
      rw [getA_del_other h]
theorem getA_del_same {p : Bytes} {M : List (Bytes × Nd)} (hn : (M.map (·.1)).Nodup) : getA p (delA p M) = none := by
  have h : (getA p (delA p M)).isSome = false := by
    rw [getA_no, delA_keys hn]
    simp
  simpa using h
/-- The list is the map, in order. -/
structure Rel (M L : List (Bytes × Nd)) : Prop where
  sorted : (L.map (·.1)).Pairwise (· < ·)
  get : ∀ q, getA q L = getA q M
theorem Rel.nodup {M L : List (Bytes × Nd)} (h : Rel M L) : (L.map (·.1)).Nodup := h.sorted.imp fun {a b} hab e => by
  subst e
  exact absurd hab (List.lt_irrefl a)
theorem Rel.perm {M L : List (Bytes × Nd)} (h : Rel M L) (hn : (M.map (·.1)).Nodup) : (L.map (·.1)).Perm (M.map (·.1)) :=
  (List.perm_ext_iff_of_nodup h.nodup hn).2 fun q => by rw [← getA_some, ← getA_some, h.get]
theorem Rel.len {M L : List (Bytes × Nd)} (h : Rel M L) (hn : (M.map (·.1)).Nodup) : L.length = M.length := by
  have := (h.perm hn).length_eq
  simpa using this
theorem Rel.keys {M L : List (Bytes × Nd)} (h : Rel M L) (hn : (M.map (·.1)).Nodup) : keysS M = L.map (·.1) :=
  sortS_is (h.sorted.imp fun {a b} hab => List.le_of_lt hab) (h.perm hn)
/-- A put, as the document says it. -/
def goP (p : Bytes) (d : Nd) : Bool → List (Bytes × Nd) → List (Bytes × Nd)
  | done, [] => if done then [] else [(p, d)]
  | done, y :: L => (if !done && decide (p ≤ y.1) then [(p, d)] else []) ++ ((if y.1 = p then [] else [y]) ++ goP p d (done || decide (p ≤ y.1)) L)
theorem goP_true (p : Bytes) (d : Nd) : ∀ L, goP p d true L = L.filter fun y => decide (y.1 ≠ p)
  | [] => rfl
  | y :: L => by
    unfold goP
    rw [Bool.true_or, goP_true p d L]
    by_cases h : y.1 = p
    · simp [h]
    · simp [h]
theorem getA_filter (p q : Bytes) : ∀ L : List (Bytes × Nd), q ≠ p → getA q (L.filter fun y => decide (y.1 ≠ p)) = getA q L
  | [], _ => rfl
  | y :: L, h => by
    by_cases e : y.1 = p
    · rw [List.filter_cons_of_neg (by simpa using e), getA_filter p q L h]
      simp only [getA]
      rw [if_neg (fun e2 => h (e2.symm.trans e))]
    · rw [List.filter_cons_of_pos (by simpa using e)]
      simp only [getA]
      rw [getA_filter p q L h]
theorem getA_goP (p : Bytes) (d : Nd) (q : Bytes) : ∀ L, getA q (goP p d false L) = if q = p then some d else getA q L
  | [] => by
    by_cases h : q = p
    · simp [goP, getA, h]
    · simp [goP, getA, h, Ne.symm h]
  | y :: L => by
    unfold goP
    by_cases hle : p ≤ y.1
    · rw [decide_eq_true hle, Bool.or_true, goP_true]
      by_cases h : q = p
      · subst h
        simp [getA]
      · rw [if_neg h]
        by_cases e : y.1 = p
        · simp only [Bool.not_false, Bool.true_and, if_pos, if_pos e, List.nil_append, List.singleton_append, getA, if_neg (Ne.symm h)]
          rw [getA_filter p q L h, if_neg (fun e2 => h (e2.symm.trans e))]
        · simp only [Bool.not_false, Bool.true_and, if_pos, if_neg e, List.singleton_append, getA, if_neg (Ne.symm h)]
          rw [getA_filter p q L h]
    · have e : y.1 ≠ p := fun e => hle (e ▸ List.le_refl _)
      rw [decide_eq_false hle, Bool.or_false, if_neg e]
      simp only [Bool.and_false, Bool.false_eq_true, if_false, List.nil_append, List.singleton_append, getA]
      rw [getA_goP p d q L]
      by_cases h : q = p
      · subst h
        simp [e]
      · simp [h]
theorem goP_keys (p : Bytes) (d : Nd) : ∀ L, ∀ x ∈ goP p d false L, x.1 = p ∨ x ∈ L
  | [], x, h => by simp [goP] at h; exact .inl (by rw [h])
  | y :: L, x, h => by
    unfold goP at h
    rcases List.mem_append.1 h with h | h
    · split at h
      · simp at h; exact .inl (by rw [h])
      · simp at h
    · rcases List.mem_append.1 h with h | h
      · split at h
        · simp at h
        · simp at h; subst h; exact .inr (List.mem_cons_self ..)
      · by_cases hle : p ≤ y.1
        · rw [decide_eq_true hle, Bool.or_true, goP_true] at h
          exact .inr (List.mem_cons_of_mem _ (List.mem_filter.1 h).1)
        · rw [decide_eq_false hle, Bool.or_false] at h
          rcases goP_keys p d L x h with h | h
          · exact .inl h
          · exact .inr (List.mem_cons_of_mem _ h)
theorem goP_sorted (p : Bytes) (d : Nd) : ∀ L : List (Bytes × Nd), (L.map (·.1)).Pairwise (· < ·) → ((goP p d false L).map (·.1)).Pairwise (· < ·)
  | [], _ => by simp [goP]
  | y :: L, h => by
    rw [List.map_cons, List.pairwise_cons] at h
    obtain ⟨h1, h2⟩ := h
    unfold goP
    by_cases hle : p ≤ y.1
    · rw [decide_eq_true hle, Bool.or_true, goP_true]
      have hf : ((L.filter fun y => decide (y.1 ≠ p)).map (·.1)).Pairwise (· < ·) := h2.sublist (List.filter_sublist.map _)
      have hm : ∀ q ∈ (L.filter fun y => decide (y.1 ≠ p)).map (·.1), y.1 < q := fun q hq => h1 q ((List.filter_sublist.map _).subset hq)
      by_cases e : y.1 = p
      · simp only [Bool.not_false, Bool.true_and, if_pos, if_pos e, List.nil_append, List.singleton_append, List.map_cons, List.pairwise_cons]
        exact ⟨fun q hq => e ▸ hm q hq, hf⟩
      · have hlt : p < y.1 := Decidable.byContradiction fun hn => e (List.le_antisymm (List.not_lt.1 hn) hle)
        simp only [Bool.not_false, Bool.true_and, if_pos, if_neg e, List.singleton_append, List.map_cons, List.pairwise_cons, List.mem_cons]
        exact ⟨fun q hq => by
          rcases hq with rfl | hq
          · exact hlt
          · exact List.lt_trans hlt (hm q hq), hm, hf⟩
    · have e : y.1 ≠ p := fun e => hle (e ▸ List.le_refl _)
      have hlt : y.1 < p := List.not_le.1 hle
      rw [decide_eq_false hle, Bool.or_false, if_neg e]
      simp only [Bool.and_false, Bool.false_eq_true, if_false, List.nil_append, List.singleton_append, List.map_cons, List.pairwise_cons]
      refine ⟨fun q hq => ?_, goP_sorted p d L h2⟩
      obtain ⟨x, hx, rfl⟩ := List.mem_map.1 hq
      rcases goP_keys p d L x hx with h | h
      · rw [h]; exact hlt
      · exact h1 _ (List.mem_map_of_mem h)
theorem Rel.put {M L : List (Bytes × Nd)} (h : Rel M L) (p : Bytes) (d : Nd) : Rel (putA p d M) (goP p d false L) := ⟨goP_sorted p d L h.sorted, fun q => by
  rw [getA_goP]
  by_cases e : q = p
  · subst e
    rw [if_pos rfl, getA_putA_same]
  · rw [if_neg e, getA_putA_other _ e, h.get]⟩
theorem Rel.del {M L : List (Bytes × Nd)} (h : Rel M L) (hn : (M.map (·.1)).Nodup) {k : Nat} {x : Bytes × Nd} (hx : L[k]? = some x) : Rel (delA x.1 M) (L.take k ++ L.drop (k + 1)) := by
  have he : L.take k ++ L.drop (k + 1) = delA x.1 L := by
    rw [delA_of_at h.nodup (show L[k]? = some (x.1, x.2) from hx), List.eraseIdx_eq_take_drop_succ]
  rw [he]
  refine ⟨h.sorted.sublist (delA_sub.map _), fun q => ?_⟩
  by_cases e : q = x.1
  · subst e
    rw [getA_del_same h.nodup, getA_del_same hn]
  · rw [getA_del_other e, getA_del_other e, h.get]
end Go.Proofs.YtkhoeiapfoaapaaGreatDoor

namespace Go.Proofs.YtkhoeiapfoaapaaGreatDoor
set_option linter.unusedVariables false
set_option linter.unusedSimpArgs false
set_option linter.unusedVariables false
set_option linter.unusedSimpArgs false

/-- Two places change their elements. -/
def swapL (L : List Bytes) (i k : Nat) (x y : Bytes) : List Bytes := (L.set i y).set k x
theorem swapL_perm {L : List Bytes} {i k : Nat} {x y : Bytes} (hx : L[i]? = some x) (hy : L[k]? = some y) : (swapL L i k x y).Perm L := by
  obtain ⟨h1, rfl⟩ := List.getElem?_eq_some_iff.1 hx
  obtain ⟨h2, rfl⟩ := List.getElem?_eq_some_iff.1 hy
  unfold swapL
  exact List.set_set_perm h1 h2
/-- Places below i are in order, and not behind what comes later. -/
def Upto (L : List Bytes) (i : Nat) : Prop := ∀ a b x y, a < i → a < b → L[a]? = some x → L[b]? = some y → x ≤ y
/-- Besides, place i is not behind the places up to k. -/
def UptoK (L : List Bytes) (i k : Nat) : Prop := Upto L i ∧ ∀ b x y, i < b → b < k → L[i]? = some x → L[b]? = some y → x ≤ y
theorem upto_zero (L : List Bytes) : Upto L 0 := fun a b x y h => by omega
theorem uptoK_start {L : List Bytes} {i : Nat} (h : Upto L i) : UptoK L i (i + 1) := ⟨h, fun b x y h1 h2 => by omega⟩
theorem uptoK_end {L : List Bytes} {i k : Nat} (h : UptoK L i k) (hk : L.length ≤ k) : Upto L (i + 1) := fun a b x y h1 h2 hx hy => by
  by_cases ha : a < i
  · exact h.1 a b x y ha h2 hx hy
  · obtain rfl : a = i := by omega
    exact h.2 b x y h2 (by have := (List.getElem?_eq_some_iff.1 hy).1; omega) hx hy
theorem uptoK_keep {L : List Bytes} {i k : Nat} {x y : Bytes} (h : UptoK L i k) (hx : L[i]? = some x) (hy : L[k]? = some y) (hle : x ≤ y) : UptoK L i (k + 1) := ⟨h.1, fun b x' y' h1 h2 hx' hy' => by
  by_cases hb : b < k
  · exact h.2 b x' y' h1 hb hx' hy'
  · obtain rfl : b = k := by omega
    rw [hx] at hx'
    rw [hy] at hy'
    cases hx'
    cases hy'
    exact hle⟩
theorem swapL_at {L : List Bytes} {i k : Nat} {x y : Bytes} (hik : i < k) (hx : L[i]? = some x) (hy : L[k]? = some y) (b : Nat) : (swapL L i k x y)[b]? = if b = k then some x else if b = i then some y else L[b]? := by
  have h1 := (List.getElem?_eq_some_iff.1 hx).1
  have h2 := (List.getElem?_eq_some_iff.1 hy).1
  unfold swapL
  by_cases hb : b = k
  · subst hb
    rw [if_pos rfl, List.getElem?_set_self (by simpa using h2)]
  · rw [if_neg hb, List.getElem?_set_ne (Ne.symm hb)]
    by_cases hi : b = i
    · subst hi
      rw [if_pos rfl, List.getElem?_set_self h1]
    · rw [if_neg hi, List.getElem?_set_ne (Ne.symm hi)]
theorem uptoK_swap {L : List Bytes} {i k : Nat} {x y : Bytes} (h : UptoK L i k) (hik : i < k) (hx : L[i]? = some x) (hy : L[k]? = some y) (hlt : y < x) : UptoK (swapL L i k x y) i (k + 1) := by
  have hle : y ≤ x := List.le_of_lt hlt
  refine ⟨fun a b x' y' ha hab hx' hy' => ?_, fun b x' y' h1 h2 hx' hy' => ?_⟩
  · rw [swapL_at hik hx hy, if_neg (by omega), if_neg (by omega)] at hx'
    rw [swapL_at hik hx hy] at hy'
    by_cases hb : b = k
    · rw [if_pos hb] at hy'
      cases hy'
      exact h.1 a i x' x ha ha hx' hx
    · rw [if_neg hb] at hy'
      by_cases hi : b = i
      · rw [if_pos hi] at hy'
        cases hy'
        exact h.1 a k x' y ha (by omega) hx' hy
      · rw [if_neg hi] at hy'
        exact h.1 a b x' y' ha hab hx' hy'
  · rw [swapL_at hik hx hy, if_neg (by omega), if_pos rfl] at hx'
    cases hx'
    rw [swapL_at hik hx hy] at hy'
    by_cases hb : b = k
    · rw [if_pos hb] at hy'
      cases hy'
      exact hle
    · rw [if_neg hb, if_neg (by omega)] at hy'
      exact List.le_trans hle (h.2 b x y' h1 (by omega) hx hy')
theorem upto_sorted {L : List Bytes} (h : Upto L L.length) : L.Pairwise (· ≤ ·) := by
  rw [List.pairwise_iff_getElem]
  intro a b ha hb hab
  exact h a b _ _ ha hab (List.getElem?_eq_getElem ha) (List.getElem?_eq_getElem hb)
end Go.Proofs.YtkhoeiapfoaapaaGreatDoor
