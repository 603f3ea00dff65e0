/-
  Effects below '/r/a' and effects below '/r/b', in either order.
-/
import Derived.Test.YtkhoeiapfoaapaaDoorTrInv
namespace Go.Proofs.YtkhoeiapfoaapaaDoor
set_option linter.unusedVariables false
set_option linter.unusedSimpArgs false
set_option linter.unusedVariables false
set_option linter.unusedSimpArgs false

theorem getA_delA_other {p q : Bytes} (h : q ≠ p) : ∀ {M : List (Bytes × Nd)}, getA q (delA p M) = getA q M
  | [] => rfl
  | y :: M => by
    unfold delA
    split
    · rename_i e
      simp only [getA]
      rw [if_neg (fun e2 => h (e2.symm.trans e))]
    · simp only [getA]
      rw [getA_delA_other h]
theorem getA_delA_same {p : Bytes} {M : List (Bytes × Nd)} (hn : (M.map (·.1)).Nodup) : getA p (delA p M) = none := by
  have h : (getA p (delA p M)).isSome = false := by
    rw [getA_no, delA_keys hn]
    simp
  simpa using h
theorem sameM_of {M M' : List (Bytes × Nd)} (h1 : (M.map (·.1)).Nodup) (h2 : (M'.map (·.1)).Nodup) (h : ∀ q, getA q M = getA q M') : sameM M M' = true := by
  have hp : (M.map (·.1)).Perm (M'.map (·.1)) := (List.perm_ext_iff_of_nodup h1 h2).2 fun q => by rw [← getA_some, ← getA_some, h]
  have hl := hp.length_eq
  simp at hl
  unfold sameM
  simp only [Bool.and_eq_true, decide_eq_true_eq, List.all_eq_true]
  refine ⟨hl, fun x hx => ?_⟩
  obtain ⟨j, hj⟩ := List.getElem?_of_mem hx
  rw [← h, getA_of_at h1 (show M[j]? = some (x.1, x.2) from hj)]
/-- Paths whose effects look at no other path but at the root. -/
structure Zone (S : Bytes → Prop) : Prop where
  parent : ∀ p, S p → S (parentL p) ∨ parentL p = pR
  kid : ∀ p q, S p → kidB pR p q = true → S q
  under : ∀ p, S p → underB p pR = true
  root : ¬ S pR
def Ag (S : Bytes → Prop) (M M' : List (Bytes × Nd)) : Prop := ∀ q, S q ∨ q = pR → getA q M = getA q M'
section
variable {S : Bytes → Prop} {M M' : List (Bytes × Nd)} {e : Eff}
theorem Zone.ne (Z : Zone S) {p : Bytes} (h : S p) : p ≠ pR := fun e => Z.root (e ▸ h)
theorem kids_iff (Z : Zone S) (hA : Ag S M M') {p : Bytes} (hp : S p) : (M.any fun x => kidB pR p x.1) = true → (M'.any fun x => kidB pR p x.1) = true := by
  intro h
  obtain ⟨x, hx, hk⟩ := List.any_eq_true.1 h
  have hs := Z.kid p x.1 hp hk
  have h1 : (getA x.1 M).isSome = true := getA_some.2 (List.mem_map_of_mem hx)
  rw [hA x.1 (.inl hs)] at h1
  obtain ⟨y, hy, e1⟩ := List.mem_map.1 (getA_some.1 h1)
  exact List.any_eq_true.2 ⟨y, hy, by rw [e1]; exact hk⟩
theorem one_agree (Z : Zone S) (hA : Ag S M M') (h1 : M.length < 48) (h2 : M'.length < 48) (he : S e.path) : oneE pR M e = oneE pR M' e := by
  have hk : (0 < (kidsS pR M e.path).length) ↔ (0 < (kidsS pR M' e.path).length) := by
    rw [kids_pos, kids_pos]
    exact ⟨kids_iff Z hA he, kids_iff Z (fun q hq => (hA q hq).symm) he⟩
  unfold oneE goneE putE
  rw [hA e.path (.inl he), hA (parentL e.path) (Z.parent _ he)]
  simp only [hk, show ¬ 48 ≤ M.length by omega, show ¬ 48 ≤ M'.length by omega, and_false]
theorem one_get {q : Bytes} (h : q ≠ e.path) : getA q (oneM pR M e) = getA q M := by
  unfold oneM goneM putM
  split
  · rfl
  · split
    · split
      · exact getA_delA_other h
      · rfl
    · split
      · exact getA_putA_other _ h _
      · rfl
theorem one_same (Z : Zone S) (hA : Ag S M M') (h1 : M.length < 48) (h2 : M'.length < 48) (he : S e.path) (n1 : (M.map (·.1)).Nodup) (n2 : (M'.map (·.1)).Nodup) : Ag S (oneM pR M e) (oneM pR M' e) := by
  intro q hq
  by_cases h : q = e.path
  · subst h
    have hE := one_agree Z hA h1 h2 he
    have hu := Z.under _ he
    have hg := hA e.path (.inl he)
    unfold oneE at hE
    unfold oneM goneM putM
    simp only [hu, Bool.true_eq_false, if_false] at hE ⊢
    by_cases hgn : e.gone = true
    · simp only [hgn, if_true] at hE ⊢
      rw [← hE]
      split
      · rw [getA_delA_same n1, getA_delA_same n2]
      · exact hg
    · simp only [hgn, if_false, Bool.false_eq_true] at hE ⊢
      rw [← hE]
      split
      · rw [getA_putA_same, getA_putA_same]
      · exact hg
  · rw [one_get h, one_get h]
    exact hA q hq
theorem one_len : (oneM pR M e).length ≤ M.length + 1 := by
  unfold oneM goneM putM
  split
  · omega
  · split
    · split
      · have := (delA_sub (p := e.path) (M := M)).length_le
        omega
      · omega
    · split
      · rw [putA_length]
        split <;> omega
      · omega
end
theorem row_agree {S : Bytes → Prop} (Z : Zone S) : ∀ (E : List Eff) {M M' : List (Bytes × Nd)}, (∀ e ∈ E, S e.path) → Inv pR M → Inv pR M' → Ag S M M' → M.length + E.length < 48 → M'.length + E.length < 48 →
    (applyA pR M E).1 = (applyA pR M' E).1 ∧ Ag S (applyA pR M E).2 (applyA pR M' E).2
  | [], M, M', _, _, _, hA, _, _ => ⟨rfl, hA⟩
  | e :: E, M, M', hS, I, I', hA, h1, h2 => by
    have he := hS e (List.mem_cons_self ..)
    simp only [List.length_cons] at h1 h2
    have hE := one_agree Z hA (by omega) (by omega) he
    by_cases h0 : oneE pR M e = 0
    · rw [applyA_pos h0, applyA_pos (hE ▸ h0)]
      have l1 := one_len (M := M) (e := e)
      have l2 := one_len (M := M') (e := e)
      exact row_agree Z E (fun x hx => hS x (List.mem_cons_of_mem _ hx)) (I.one e) (I'.one e) (one_same Z hA (by omega) (by omega) he I.nodup I'.nodup) (by omega) (by omega)
    · unfold applyA
      rw [if_neg h0, if_neg (hE ▸ h0)]
      exact ⟨hE, hA⟩
theorem row_else {S : Bytes → Prop} : ∀ (E : List Eff) {M : List (Bytes × Nd)}, (∀ e ∈ E, S e.path) → (∀ q, ¬ S q → getA q (applyA pR M E).2 = getA q M) ∧ (applyA pR M E).2.length ≤ M.length + E.length
  | [], M, _ => ⟨fun _ _ => rfl, Nat.le_refl _⟩
  | e :: E, M, hS => by
    have he := hS e (List.mem_cons_self ..)
    by_cases h0 : oneE pR M e = 0
    · rw [applyA_pos h0]
      obtain ⟨h1, h2⟩ := row_else E (M := oneM pR M e) (fun x hx => hS x (List.mem_cons_of_mem _ hx))
      have l1 := one_len (M := M) (e := e)
      refine ⟨fun q hq => ?_, by simp only [List.length_cons]; omega⟩
      rw [h1 q hq, one_get (e := e) (fun e1 => hq (by rw [e1]; exact he))]
    · unfold applyA
      rw [if_neg h0]
      exact ⟨fun _ _ => rfl, by simp⟩
theorem nodes_agree {S : Bytes → Prop} (Z : Zone S) (E : List Eff) {M M' : List (Bytes × Nd)} (hS : ∀ e ∈ E, S e.path) (I : Inv pR M) (I' : Inv pR M') (hA : Ag S M M') (h1 : M.length + E.length < 48) (h2 : M'.length + E.length < 48) :
    (applyA pR M E).1 = (applyA pR M' E).1 ∧ Ag S (nodesA pR M E) (nodesA pR M' E) := by
  obtain ⟨g1, g2⟩ := row_agree Z E hS I I' hA h1 h2
  refine ⟨g1, ?_⟩
  unfold nodesA
  rw [← g1]
  split
  · exact g2
  · exact hA
theorem nodes_else {S : Bytes → Prop} (E : List Eff) {M : List (Bytes × Nd)} (hS : ∀ e ∈ E, S e.path) : (∀ q, ¬ S q → getA q (nodesA pR M E) = getA q M) ∧ (nodesA pR M E).length ≤ M.length + E.length := by
  obtain ⟨g1, g2⟩ := row_else E (M := M) hS
  unfold nodesA
  split
  · exact ⟨g1, g2⟩
  · exact ⟨fun _ _ => rfl, by omega⟩
theorem nodes_apart {S T : Bytes → Prop} (Z : Zone S) (Y : Zone T) (hd : ∀ q, S q → ¬ T q) {M : List (Bytes × Nd)} (I : Inv pR M) (L K : List Eff) (hL : ∀ e ∈ L, S e.path) (hK : ∀ e ∈ K, T e.path) (hlen : M.length + L.length + K.length < 48) :
    (applyA pR (nodesA pR M K) L).1 = (applyA pR M L).1 ∧ (applyA pR (nodesA pR M L) K).1 = (applyA pR M K).1 ∧ sameM (nodesA pR (nodesA pR M L) K) (nodesA pR (nodesA pR M K) L) = true := by
  obtain ⟨a1, a2⟩ := nodes_else L (M := M) hL
  obtain ⟨b1, b2⟩ := nodes_else K (M := M) hK
  have hA : Ag S (nodesA pR M K) M := fun q hq => b1 q (fun ht => by
    rcases hq with h | rfl
    · exact hd q h ht
    · exact Y.root ht)
  have hB : Ag T (nodesA pR M L) M := fun q hq => a1 q (fun hs => by
    rcases hq with h | rfl
    · exact hd q hs h
    · exact Z.root hs)
  obtain ⟨c1, c2⟩ := nodes_agree Z L hL (I.nodes (E := K)) I hA (by omega) (by omega)
  obtain ⟨d1, d2⟩ := nodes_agree Y K hK (I.nodes (E := L)) I hB (by omega) (by omega)
  obtain ⟨e1, _⟩ := nodes_else K (M := nodesA pR M L) hK
  obtain ⟨f1, _⟩ := nodes_else L (M := nodesA pR M K) hL
  refine ⟨c1, d1, sameM_of (I.nodes (E := L)).nodes.nodup (I.nodes (E := K)).nodes.nodup fun q => ?_⟩
  by_cases hs : S q
  · rw [e1 q (hd q hs), c2 q (.inl hs)]
  · by_cases ht : T q
    · rw [f1 q hs, d2 q (.inl ht)]
    · rw [e1 q ht, f1 q hs, a1 q hs, b1 q ht]
/-- Below a path, one below the root. -/
theorem zone_of {z : Bytes} {x : Bytes} (hz : partsL z = some [[114], x]) : Zone fun q => underB q z = true := by
  have hr : partsL pR = some [[114]] := by rw [partsL_eq]; decide +kernel
  refine ⟨fun p hp => ?_, fun p q hp hk => ?_, fun p hp => ?_, fun h => ?_⟩
  · by_cases e : p = z
    · subst e
      refine .inr ?_
      have h := parent_take hz 1 (by simp)
      have hz' := ofL_parts hz
      have hr' := ofL_parts hr
      simp at h
      rw [hz', hr'] at h
      exact h
    · exact .inl (under_parent hp e).1
  · unfold kidB at hk
    simp only [Bool.and_eq_true, Bool.not_eq_true', decide_eq_false_iff_not, decide_eq_true_eq] at hk
    obtain ⟨⟨h1, h2⟩, h3⟩ := hk
    obtain ⟨P, Q, p1, p2, p3⟩ := under_of hp
    rw [hz] at p2
    cases p2
    cases hq : partsL q with
    | none =>
      have : parentL q = [] := by unfold parentL; rw [hq]
      rw [← h3, this] at p1
      simp [partsL_eq, partsC] at p1
    | some L =>
      have e1 := ofL_parts hq
      cases hl : L.length with
      | zero =>
        have : L = [] := List.eq_nil_of_length_eq_zero hl
        subst this
        have : parentL q = q := by unfold parentL; rw [hq]; rfl
        exact absurd (this.symm.trans h3) h1
      | succ n =>
        have h4 := parent_take hq n (by omega)
        rw [show n + 1 = L.length by omega, List.take_length, e1, h3] at h4
        have h5 := parts_take hq n
        rw [← h4, p1] at h5
        simp only [Option.some.injEq] at h5
        exact (under_parts hq hz).2 (p3.trans (h5 ▸ List.take_prefix _ _))
  · obtain ⟨P, Q, p1, p2, p3⟩ := under_of hp
    rw [hz] at p2
    cases p2
    exact (under_parts p1 hr).2 (List.IsPrefix.trans ⟨[x], rfl⟩ p3)
  · have := (under_parts hr hz).1 h
    have := this.length_le
    simp at this
theorem atA_yes0 {root : Bytes} {M M2 : List (Bytes × Nd)} {E : List Eff} (h : applyA root M E = (0, M2)) : nodesA root M E = M2 := by
  unfold nodesA
  rw [h]
  rfl
def pRB : Bytes := [47, 114, 47, 98]
def MAB : List (Bytes × Nd) := [(pR, zNd), (pRA, ⟨pRA, zNums⟩), (pRB, ⟨pRB, zNums⟩)]
theorem ap0 : applyA pR M0 [putF pRA, putF pRB] = (0, MAB) := by rw [applyA_eq]; decide +kernel
theorem partsA : partsL pRA = some [[114], [97]] := by rw [partsL_eq]; decide +kernel
theorem partsB : partsL pRB = some [[114], [98]] := by rw [partsL_eq]; decide +kernel
theorem zonesApart (q : Bytes) (h1 : underB q pRA = true) : ¬ underB q pRB = true := fun h2 => by
  obtain ⟨P, Q, p1, p2, p3⟩ := under_of h1
  obtain ⟨P', Q', q1, q2, q3⟩ := under_of h2
  rw [partsA] at p2
  rw [partsB] at q2
  rw [p1] at q1
  cases p2
  cases q2
  cases q1
  obtain ⟨s, rfl⟩ := p3
  obtain ⟨t, ht⟩ := q3
  simp at ht
theorem invAB : Inv pR MAB := by
  have h := (Inv.made (root := pR) rootsR zNd).nodes (E := [putF pRA, putF pRB])
  have h2 := (atA_yes0 ap0)
  rw [show nodesA pR [(pR, zNd)] [putF pRA, putF pRB] = MAB from h2] at h
  exact h
end Go.Proofs.YtkhoeiapfoaapaaDoor
