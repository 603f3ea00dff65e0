/-
  The plain law of what a quorum has: the middle of numbers that are sorted falling is the greatest that more than half reach.
-/
namespace Go.Proofs.Ytoddbmbifgoliaa

def cntGe (L : List Int) (x : Int) : Nat := L.countP fun y => decide (x ≤ y)
def refStep (L : List Int) (s : Int × Bool) (x : Int) : Int × Bool := if L.length < 2 * cntGe L x ∧ (s.2 = false ∨ s.1 < x) then (x, true) else s
def refFold (L : List Int) (k : Nat) : Int × Bool := (L.take k).foldl (refStep L) (0, false)
def midOf (L : List Int) : Int := (L.mergeSort fun x y => decide (y ≤ x)).getD (L.length / 2) 0

theorem sorted_mid (L : List Int) : (L.mergeSort fun x y => decide (y ≤ x)).Pairwise (fun x y => y ≤ x) := by
  have := List.pairwise_mergeSort (le := fun x y : Int => decide (y ≤ x)) (fun a b c h1 h2 => by simp at *; omega) (fun a b => by simp; omega) L
  exact this.imp (by simp)
theorem perm_mid (L : List Int) : (L.mergeSort fun x y => decide (y ≤ x)).Perm L := List.mergeSort_perm L _

theorem pairwise_at {S : List Int} (h : S.Pairwise fun x y => y ≤ x) : ∀ i j, i ≤ j → j < S.length → S.getD j 0 ≤ S.getD i 0 := by
  intro i j hij hj
  rcases Nat.lt_or_ge i j with h1 | h1
  · have := List.pairwise_iff_getElem.1 h i j (by omega) hj h1
    simpa [List.getD_eq_getElem?_getD, List.getElem?_eq_getElem hj, List.getElem?_eq_getElem (show i < S.length by omega)] using this
  · obtain rfl : i = j := by omega
    exact Int.le_refl _

theorem count_ge {S : List Int} (h : S.Pairwise fun x y => y ≤ x) (j : Nat) (hj : j < S.length) : j + 1 ≤ S.countP fun y => decide (S.getD j 0 ≤ y) := by
  have e : S = S.take (j + 1) ++ S.drop (j + 1) := (List.take_append_drop _ _).symm
  have h1 : (S.take (j + 1)).countP (fun y => decide (S.getD j 0 ≤ y)) = (S.take (j + 1)).length := by
    rw [List.countP_eq_length]
    intro y hy
    obtain ⟨i, hi, rfl⟩ := List.mem_iff_getElem.1 hy
    have hi' : i < j + 1 := by simpa using (by simpa using hi : i < min (j + 1) S.length) |> fun h => (Nat.lt_min.1 h).1
    have := pairwise_at h i j (by omega) hj
    simpa [List.getD_eq_getElem?_getD, List.getElem?_eq_getElem (show i < S.length by omega)] using this
  have h2 : S.countP (fun y => decide (S.getD j 0 ≤ y)) = (S.take (j + 1)).countP (fun y => decide (S.getD j 0 ≤ y)) + (S.drop (j + 1)).countP (fun y => decide (S.getD j 0 ≤ y)) := by
    rw [← List.countP_append, List.take_append_drop]
  rw [h2, h1, List.length_take]
  omega

theorem count_gt {S : List Int} (h : S.Pairwise fun x y => y ≤ x) (j : Nat) (hj : j < S.length) : (S.countP fun y => decide (S.getD j 0 < y)) ≤ j := by
  have h2 : S.countP (fun y => decide (S.getD j 0 < y)) = (S.take j).countP (fun y => decide (S.getD j 0 < y)) + (S.drop j).countP (fun y => decide (S.getD j 0 < y)) := by
    rw [← List.countP_append, List.take_append_drop]
  have h3 : (S.drop j).countP (fun y => decide (S.getD j 0 < y)) = 0 := by
    rw [List.countP_eq_zero]
    intro y hy
    obtain ⟨i, hi, rfl⟩ := List.mem_iff_getElem.1 hy
    have hi' : j + i < S.length := by simp at hi; omega
    have := pairwise_at h j (j + i) (by omega) hi'
    rw [List.getElem_drop]
    have e2 : S.getD (j + i) 0 = S[j + i] := by simp [List.getD_eq_getElem?_getD, List.getElem?_eq_getElem hi']
    rw [e2] at this
    simp only [decide_eq_true_eq]
    omega
  have h4 : (S.take j).countP (fun y => decide (S.getD j 0 < y)) ≤ j := Nat.le_trans List.countP_le_length (by simp; omega)
  omega

theorem mid_ge (L : List Int) (h : 0 < L.length) : L.length / 2 + 1 ≤ cntGe L (midOf L) := by
  unfold cntGe
  rw [← (perm_mid L).countP_eq]
  exact count_ge (sorted_mid L) _ (by rw [(perm_mid L).length_eq]; omega)
theorem mid_gt (L : List Int) (h : 0 < L.length) : (L.countP fun y => decide (midOf L < y)) ≤ L.length / 2 := by
  rw [← (perm_mid L).countP_eq]
  exact count_gt (sorted_mid L) _ (by rw [(perm_mid L).length_eq]; omega)
theorem mid_mem (L : List Int) (h : 0 < L.length) : midOf L ∈ L := by
  rw [← (perm_mid L).mem_iff]
  have hl : L.length / 2 < (L.mergeSort fun x y => decide (y ≤ x)).length := by rw [(perm_mid L).length_eq]; omega
  unfold midOf
  rw [List.getD_eq_getElem?_getD, List.getElem?_eq_getElem hl]
  exact List.getElem_mem _

def Much (L : List Int) (x : Int) : Prop := L.length < 2 * cntGe L x
theorem much_le (L : List Int) (h : 0 < L.length) (x : Int) (hx : Much L x) : x ≤ midOf L := by
  apply Classical.byContradiction
  intro hn
  have h1 := mid_gt L h
  have h2 : cntGe L x ≤ L.countP fun y => decide (midOf L < y) := List.countP_mono_left (fun y _ hy => by simp at *; omega)
  unfold Much at hx
  omega
theorem much_mid (L : List Int) (h : 0 < L.length) : Much L (midOf L) := by
  have := mid_ge L h
  unfold Much
  omega

theorem fold_inv (L : List Int) : ∀ (M : List Int) (s : Int × Bool), (s.2 = true → Much L s.1) →
    ((M.foldl (refStep L) s).2 = true → Much L (M.foldl (refStep L) s).1) ∧ (∀ x ∈ M, Much L x → (M.foldl (refStep L) s).2 = true ∧ x ≤ (M.foldl (refStep L) s).1) ∧
      (s.2 = true → (M.foldl (refStep L) s).2 = true ∧ s.1 ≤ (M.foldl (refStep L) s).1)
  | [], s, hs => ⟨hs, by simp, fun h => ⟨h, Int.le_refl _⟩⟩
  | x :: r, s, hs => by
    have hs' : (refStep L s x).2 = true → Much L (refStep L s x).1 := by
      unfold refStep
      split
      · rename_i hc; intro _; exact hc.1
      · exact hs
    obtain ⟨h1, h2, h3⟩ := fold_inv L r (refStep L s x) hs'
    simp only [List.foldl_cons]
    refine ⟨h1, ?_, ?_⟩
    · intro y hy hm
      rcases List.mem_cons.1 hy with rfl | hy
      · have : (refStep L s y).2 = true ∧ y ≤ (refStep L s y).1 := by
          unfold refStep
          split
          · exact ⟨rfl, Int.le_refl _⟩
          · rename_i hc
            have : ¬ (s.2 = false ∨ s.1 < y) := fun h => hc ⟨hm, h⟩
            simp at this
            exact ⟨this.1, by omega⟩
        obtain ⟨a, b⟩ := h3 this.1
        exact ⟨a, by omega⟩
      · exact h2 y hy hm
    · intro h
      have : (refStep L s x).2 = true ∧ s.1 ≤ (refStep L s x).1 := by
        unfold refStep
        split
        · rename_i hc
          refine ⟨rfl, ?_⟩
          rcases hc.2 with h' | h'
          · simp [h] at h'
          · exact Int.le_of_lt h'
        · exact ⟨h, Int.le_refl _⟩
      obtain ⟨a, b⟩ := h3 this.1
      exact ⟨a, by omega⟩

theorem fold_mid (L : List Int) (h : 0 < L.length) : (refFold L L.length).1 = midOf L := by
  unfold refFold
  rw [List.take_length]
  obtain ⟨h1, h2, _⟩ := fold_inv L L (0, false) (by simp)
  obtain ⟨a, b⟩ := h2 _ (mid_mem L h) (much_mid L h)
  have := much_le L h _ (h1 a)
  omega
theorem fold_none : (refFold [] 0).1 = 0 := rfl
theorem fold_succ (L : List Int) (k : Nat) (hk : k < L.length) : refFold L (k + 1) = refStep L (refFold L k) (L.getD k 0) := by
  unfold refFold
  rw [List.take_succ_eq_append_getElem hk, List.foldl_append]
  simp [List.getD_eq_getElem?_getD, List.getElem?_eq_getElem hk]
theorem cnt_succ (L : List Int) (k : Nat) (hk : k < L.length) (x : Int) : cntGe (L.take (k + 1)) x = cntGe (L.take k) x + if x ≤ L.getD k 0 then 1 else 0 := by
  unfold cntGe
  rw [List.take_succ_eq_append_getElem hk, List.countP_append]
  simp [List.getD_eq_getElem?_getD, List.getElem?_eq_getElem hk, List.countP_cons]
theorem cnt_le (L : List Int) (k : Nat) (x : Int) : cntGe (L.take k) x ≤ k := Nat.le_trans List.countP_le_length (by simp; omega)
theorem gt_succ (L : List Int) (k : Nat) (hk : k < L.length) (x : Int) : (L.take (k + 1)).countP (fun y => decide (x < y)) = (L.take k).countP (fun y => decide (x < y)) + if x < L.getD k 0 then 1 else 0 := by
  rw [List.take_succ_eq_append_getElem hk, List.countP_append]
  simp [List.getD_eq_getElem?_getD, List.getElem?_eq_getElem hk, List.countP_cons]
theorem gt_le (L : List Int) (k : Nat) (x : Int) : (L.take k).countP (fun y => decide (x < y)) ≤ k := Nat.le_trans List.countP_le_length (by simp; omega)
end Go.Proofs.Ytoddbmbifgoliaa
