/-
  What holds of a tree's nodes, whatever effects came: the root is there, each other node has its parent there.
-/
import Derived.Test.YtnclkfhdpkkakaaGreatDoorTrEval
import Derived.Test.YtnclkfhdpkkakaaGreatDoorTrRun
import Derived.Test.YtnclkfhdpkkakaaGreatDoorPathMore
namespace Go.Proofs.YtnclkfhdpkkakaaGreatDoor
set_option linter.unusedVariables false
set_option linter.unusedSimpArgs false
set_option linter.unusedVariables false
set_option linter.unusedSimpArgs false

theorem prefix_le : ∀ {a b : Bytes}, a <+: b → a ≤ b
  | [], b, _ => List.nil_le b
  | x :: a, [], h => by simp at h
  | x :: a, y :: b, h => by
    obtain ⟨rfl, h2⟩ := List.cons_prefix_cons.1 h
    exact List.cons_le_cons_iff.2 (.inr ⟨rfl, prefix_le h2⟩)
/-- A path under a root: its parts. -/
theorem under_of {q root : Bytes} (h : underB q root = true) : ∃ L R, partsL q = some L ∧ partsL root = some R ∧ R <+: L := by
  unfold underB at h
  cases hq : partsL q with
  | none => rw [hq] at h; simp at h
  | some L =>
    cases hr : partsL root with
    | none => rw [hq, hr] at h; simp at h
    | some R => exact ⟨L, R, rfl, rfl, (under_parts hq hr).1 (by unfold underB; rw [hq, hr]; rw [hq, hr] at h; exact h)⟩
theorem slashed_append (A B : List Bytes) : slashed (A ++ B) = slashed A ++ slashed B := by simp [slashed]
theorem root_le {q root : Bytes} (h : underB q root = true) : root ≤ q := by
  obtain ⟨L, R, h1, h2, t, rfl⟩ := under_of h
  have e1 := ofL_parts h1
  have e2 := ofL_parts h2
  rw [← e1, ← e2]
  refine prefix_le ?_
  cases R with
  | nil =>
    cases t with
    | nil => exact List.prefix_refl _
    | cons x t =>
      rw [List.nil_append, ofL_nil, ofL_cons]
      exact ⟨x ++ slashed t, by simp [slashed]⟩
  | cons y R =>
    rw [List.cons_append, ofL_cons, ofL_cons, ← List.cons_append, slashed_append]
    exact List.prefix_append _ _
theorem under_self {q root : Bytes} (h : underB q root = true) : underB root root = true := by
  obtain ⟨L, R, h1, h2, h3⟩ := under_of h
  exact (under_parts h2 h2).2 (List.prefix_refl _)
/-- A path that is not the root has a shorter parent, under the root too. -/
theorem under_parent {q root : Bytes} (h : underB q root = true) (hne : q ≠ root) : underB (parentL q) root = true ∧ parentL q ≠ q := by
  obtain ⟨L, R, h1, h2, t, rfl⟩ := under_of h
  have e1 := ofL_parts h1
  have e2 := ofL_parts h2
  have ht : t ≠ [] := fun e => hne (by rw [← e1, ← e2, e, List.append_nil])
  have hk : (R ++ t).length - 1 < (R ++ t).length := by
    have : 0 < t.length := List.length_pos_iff.2 ht
    simp
    omega
  have hp := parent_take h1 ((R ++ t).length - 1) hk
  have hs := shorter h1 ((R ++ t).length - 1) hk
  rw [show (R ++ t).length - 1 + 1 = (R ++ t).length by omega, List.take_length, e1] at hp hs
  refine ⟨?_, fun e => ?_⟩
  · rw [hp]
    refine (under_parts (parts_take h1 _) h2).2 ?_
    have hl : 0 < t.length := List.length_pos_iff.2 ht
    rw [List.take_append, List.take_of_length_le (by simp; omega)]
    exact List.prefix_append _ _
  · rw [hp] at e
    rw [e] at hs
    omega
/-- What holds of a tree's nodes. -/
structure Inv (root : Bytes) (M : List (Bytes × Nd)) : Prop where
  nodup : (M.map (·.1)).Nodup
  has : root ∈ M.map (·.1)
  under : ∀ q ∈ M.map (·.1), underB q root = true
  parent : ∀ q ∈ M.map (·.1), q ≠ root → parentL q ∈ M.map (·.1)
theorem getA_some {p : Bytes} : ∀ {M : List (Bytes × Nd)}, (getA p M).isSome = true ↔ p ∈ M.map (·.1)
  | [] => by simp [getA]
  | y :: M => by
    unfold getA
    split
    · rename_i h; simp [h]
    · rename_i h
      rw [getA_some]
      simp [Ne.symm h]
theorem getA_no {p : Bytes} {M : List (Bytes × Nd)} : (getA p M).isSome = false ↔ p ∉ M.map (·.1) := by
  rw [← getA_some]
  simp
theorem putA_keys {p : Bytes} {d : Nd} : ∀ {M : List (Bytes × Nd)}, (putA p d M).map (·.1) = if (getA p M).isSome then M.map (·.1) else M.map (·.1) ++ [p]
  | [] => by simp [putA, getA]
  | y :: M => by
    unfold putA getA
    split
    · rename_i h; simp [h]
    · rw [List.map_cons, putA_keys]
      split <;> simp
theorem delA_keys {p : Bytes} : ∀ {M : List (Bytes × Nd)}, (M.map (·.1)).Nodup → ∀ q, q ∈ (delA p M).map (·.1) ↔ q ∈ M.map (·.1) ∧ q ≠ p
  | [], _, q => by simp [delA]
  | y :: M, hn, q => by
    simp only [List.map_cons, List.nodup_cons] at hn
    unfold delA
    split
    · rename_i h
      subst h
      simp only [List.map_cons, List.mem_cons]
      constructor
      · intro hq
        exact ⟨.inr hq, fun e => hn.1 (e ▸ hq)⟩
      · rintro ⟨rfl | hq, h2⟩
        · exact absurd rfl h2
        · exact hq
    · rename_i h
      simp only [List.map_cons, List.mem_cons]
      rw [delA_keys hn.2]
      constructor
      · rintro (rfl | ⟨h1, h2⟩)
        · exact ⟨.inl rfl, h⟩
        · exact ⟨.inr h1, h2⟩
      · rintro ⟨rfl | h1, h2⟩
        · exact .inl rfl
        · exact .inr ⟨h1, h2⟩
theorem Inv.made {root : Bytes} (h : (partsL root).isSome = true) (d : Nd) : Inv root [(root, d)] := by
  obtain ⟨R, hR⟩ := Option.isSome_iff_exists.1 h
  refine ⟨by simp, by simp, ?_, ?_⟩
  · intro q hq
    simp at hq
    subst hq
    exact (under_parts hR hR).2 (List.prefix_refl _)
  · intro q hq hne
    simp at hq
    exact absurd hq hne
theorem Inv.one {root : Bytes} {M : List (Bytes × Nd)} (I : Inv root M) (e : Eff) : Inv root (oneM root M e) := by
  unfold oneM
  split
  · exact I
  · rename_i hu
    have hu : underB e.path root = true := by simpa using hu
    split
    · unfold goneM
      split
      · rename_i h0
        unfold goneE at h0
        split at h0
        · cases h0
        · rename_i h1
          split at h0
          · cases h0
          · split at h0
            · cases h0
            · rename_i h2
              rw [kids_pos] at h2
              have hk := delA_keys (p := e.path) I.nodup
              refine ⟨I.nodup.sublist (delA_sub.map _), (hk root).2 ⟨I.has, fun e1 => h1 e1.symm⟩, fun q hq => I.under q ((hk q).1 hq).1, fun q hq hne => ?_⟩
              have hq2 := (hk q).1 hq
              refine (hk _).2 ⟨I.parent q hq2.1 hne, fun e1 => h2 ?_⟩
              obtain ⟨x, hx, rfl⟩ := List.mem_map.1 hq2.1
              refine List.any_eq_true.2 ⟨x, hx, ?_⟩
              unfold kidB
              rw [decide_eq_false hq2.2, decide_eq_false hne, decide_eq_true e1]
              rfl
      · exact I
    · unfold putM
      split
      · rename_i h0
        unfold putE at h0
        split at h0
        · cases h0
        · rename_i h1
          have hpar : e.path = root ∨ parentL e.path ∈ M.map (·.1) := by
            by_cases hr : e.path = root
            · exact .inl hr
            · refine .inr (getA_some.1 ?_)
              cases hg : (getA (parentL e.path) M).isSome
              · exact absurd ⟨hr, hg⟩ h1
              · rfl
          rw [show Inv root (putA e.path e.node M) ↔ Inv root (putA e.path e.node M) from Iff.rfl]
          have hk : (putA e.path e.node M).map (·.1) = _ := putA_keys
          cases hs : (getA e.path M).isSome with
          | true =>
            rw [hs, if_pos rfl] at hk
            exact ⟨by rw [hk]; exact I.nodup, by rw [hk]; exact I.has, by rw [hk]; exact I.under, by rw [hk]; exact I.parent⟩
          | false =>
            rw [hs, if_neg (by simp)] at hk
            have hno := getA_no.1 hs
            refine ⟨?_, ?_, ?_, ?_⟩
            · rw [hk]
              exact List.nodup_append.2 ⟨I.nodup, by simp, fun a ha b hb e1 => by simp at hb; subst hb; subst e1; exact hno ha⟩
            · rw [hk]; exact List.mem_append_left _ I.has
            · intro q hq
              rw [hk] at hq
              rcases List.mem_append.1 hq with h | h
              · exact I.under q h
              · simp at h; subst h; exact hu
            · intro q hq hne
              rw [hk] at hq ⊢
              refine List.mem_append_left _ ?_
              rcases List.mem_append.1 hq with h | h
              · exact I.parent q h hne
              · simp at h
                subst h
                rcases hpar with h | h
                · exact absurd h hne
                · exact h
      · exact I
theorem Inv.all {root : Bytes} : ∀ {E : List Eff} {M : List (Bytes × Nd)}, Inv root M → Inv root (applyA root M E).2
  | [], M, h => h
  | e :: E, M, h => by
    unfold applyA
    split
    · exact Inv.all (h.one e)
    · exact h
theorem Inv.nodes {root : Bytes} {M : List (Bytes × Nd)} {E : List Eff} (h : Inv root M) : Inv root (nodesA root M E) := by
  unfold nodesA
  split
  · exact h.all
  · exact h
theorem keysS_mem {M : List (Bytes × Nd)} {q : Bytes} : q ∈ keysS M ↔ q ∈ M.map (·.1) := (sortS_perm _).mem_iff
theorem keysS_nodup {M : List (Bytes × Nd)} (h : (M.map (·.1)).Nodup) : (keysS M).Nodup := (sortS_perm _).nodup_iff.2 h
/-- The paths rise. -/
theorem keysS_lt {M : List (Bytes × Nd)} (h : (M.map (·.1)).Nodup) {i j : Nat} {p q : Bytes} (hi : (keysS M)[i]? = some p) (hj : (keysS M)[j]? = some q) (hij : i < j) : p < q := by
  obtain ⟨hi1, hi2⟩ := List.getElem?_eq_some_iff.1 hi
  obtain ⟨hj1, hj2⟩ := List.getElem?_eq_some_iff.1 hj
  have h1 := List.pairwise_iff_getElem.1 (show (keysS M).Pairwise (fun x y => x ≤ y) from sortS_sorted _) i j hi1 hj1 hij
  have h1 : p ≤ q := by rw [← hi2, ← hj2]; exact h1
  have h2 : p ≠ q := fun e => by
    have h3 := List.pairwise_iff_getElem.1 (keysS_nodup h) i j hi1 hj1 hij
    exact h3 (by rw [hi2, hj2, e])
  by_cases h4 : p < q
  · exact h4
  · exact absurd (List.le_antisymm h1 (List.not_lt.1 h4)) h2
/-- The root comes first. -/
theorem Inv.first {root : Bytes} {M : List (Bytes × Nd)} (I : Inv root M) : (keysS M)[0]? = some root := by
  have hr := keysS_mem.2 I.has
  obtain ⟨j, hj⟩ := List.getElem?_of_mem hr
  by_cases h0 : j = 0
  · subst h0; exact hj
  · exfalso
    obtain ⟨p, hp⟩ : ∃ p, (keysS M)[0]? = some p := ⟨_, List.getElem?_eq_getElem (by have := (List.getElem?_eq_some_iff.1 hj).1; omega)⟩
    have h1 := keysS_lt I.nodup hp hj (by omega)
    have h2 := root_le (I.under p (keysS_mem.1 (List.mem_of_getElem? hp)))
    exact absurd (List.not_lt.2 h2) (by simpa using h1)
/-! how many children there are in all -/
theorem sum_map_add {α : Type} (f g : α → Nat) : ∀ L : List α, (L.map fun x => f x + g x).sum = (L.map f).sum + (L.map g).sum
  | [] => rfl
  | x :: L => by
    simp only [List.map_cons, List.sum_cons]
    rw [sum_map_add f g L]
    omega
theorem sum_zero {α : Type} : ∀ L : List α, (L.map fun _ => 0).sum = 0
  | [] => rfl
  | x :: L => by simp only [List.map_cons, List.sum_cons, sum_zero L]
/-- Counting by rows and by columns. -/
theorem count_swap {α β : Type} (R : α → β → Bool) : ∀ (K : List α) (L : List β), (K.map fun p => (L.filter (R p)).length).sum = (L.map fun q => (K.filter fun p => R p q).length).sum
  | [], L => by simp only [List.map_nil, List.sum_nil, List.filter_nil, List.length_nil]; exact (sum_zero L).symm
  | p :: K, L => by
    rw [List.map_cons, List.sum_cons, count_swap R K L]
    have h1 : ∀ q, ((p :: K).filter fun p => R p q).length = (if R p q then 1 else 0) + (K.filter fun p => R p q).length := fun q => by
      rw [List.filter_cons]
      cases R p q <;> simp
      omega
    simp only [h1]
    rw [sum_map_add]
    congr 1
    induction L with
    | nil => rfl
    | cons q L ih =>
      rw [List.filter_cons, List.map_cons, List.sum_cons, ← ih]
      cases R p q <;> simp
      omega
theorem filter_eq_one {a : Bytes} : ∀ {K : List Bytes}, K.Nodup → a ∈ K → (K.filter fun p => decide (p = a)).length = 1
  | [], _, h => by simp at h
  | x :: K, hn, h => by
    simp only [List.nodup_cons] at hn
    rw [List.filter_cons]
    by_cases hx : x = a
    · subst hx
      have : K.filter (fun p => decide (p = x)) = [] := List.filter_eq_nil_iff.2 fun p hp => by
        simp only [decide_eq_true_eq]
        exact fun e => hn.1 (e ▸ hp)
      simp [this]
    · rw [if_neg (by simpa using hx)]
      exact filter_eq_one hn.2 (by simpa [Ne.symm hx] using h)
theorem Inv.kids {root : Bytes} {M : List (Bytes × Nd)} (I : Inv root M) : ((keysS M).map fun p => (kidsS root M p).length).sum = M.length - 1 := by
  have hK := keysS_nodup I.nodup
  have h1 : ∀ p, (kidsS root M p).length = ((keysS M).filter (kidB root p)).length := fun p => by
    unfold kidsS
    rw [(sortS_perm _).length_eq, List.length_map]
  simp only [h1]
  rw [count_swap (kidB root) (keysS M) (keysS M)]
  have h2 : ∀ q ∈ keysS M, ((keysS M).filter fun p => kidB root p q).length = if q = root then 0 else 1 := fun q hq => by
    have hq' := keysS_mem.1 hq
    by_cases hr : q = root
    · rw [if_pos hr]
      have : ((keysS M).filter fun p => kidB root p q) = [] := List.filter_eq_nil_iff.2 fun p _ => by unfold kidB; rw [decide_eq_true hr]; simp
      rw [this]
      rfl
    · rw [if_neg hr]
      have hp := keysS_mem.2 (I.parent q hq' hr)
      have hu := under_parent (I.under q hq') hr
      have : ((keysS M).filter fun p => kidB root p q) = (keysS M).filter fun p => decide (p = parentL q) := List.filter_congr fun p _ => by
        unfold kidB
        rw [decide_eq_false hr]
        by_cases hpq : p = parentL q
        · subst hpq
          rw [decide_eq_false (Ne.symm hu.2)]
          simp
        · rw [decide_eq_false hpq, decide_eq_false (Ne.symm hpq)]
          simp
      rw [this]
      exact filter_eq_one hK hp
  rw [List.map_congr_left h2]
  have h3 : ∀ L : List Bytes, (L.map fun q => if q = root then 0 else 1).sum + (L.filter fun q => decide (q = root)).length = L.length := by
    intro L
    induction L with
    | nil => rfl
    | cons q L ih =>
      rw [List.map_cons, List.sum_cons, List.filter_cons, List.length_cons]
      by_cases hq : q = root
      · simp only [hq, if_true, decide_true, List.length_cons]
        omega
      · simp only [if_neg hq, decide_eq_false hq]
        simp
        omega
  have h4 := h3 (keysS M)
  rw [filter_eq_one hK (keysS_mem.2 I.has), keysS_len] at h4
  omega
end Go.Proofs.YtnclkfhdpkkakaaGreatDoor
