/-
  Regions, in plain Lean: which root a path has.
-/
import Derived.Test.YtdengimjjlbmcaaDoorPathMore
namespace Go.Proofs.YtdengimjjlbmcaaDoor
set_option linter.unusedVariables false
set_option linter.unusedSimpArgs false
open Go.RowKit

/-- How many parts a path has; of what is none, 0. -/
def deepN (r : Bytes) : Nat := match partsL r with
  | none => 0
  | some L => L.length
def ofStep (p : Bytes) (s : Int × Int) (i : Nat) (r : Bytes) : Int × Int := if underB p r = true ∧ s.2 < (deepN r : Int) then ((i : Int), (deepN r : Int)) else s
def ofTo (L : List Bytes) (p : Bytes) : Nat → Int × Int
  | 0 => (-1, -1)
  | k + 1 => match L[k]? with
    | none => ofTo L p k
    | some r => ofStep p (ofTo L p k) k r
/-- The program's answer. -/
def ofB (L : List Bytes) (p : Bytes) : Int := (ofTo L p L.length).1
theorem ofTo_succ {L : List Bytes} {p r : Bytes} {k : Nat} (h : L[k]? = some r) : ofTo L p (k + 1) = ofStep p (ofTo L p k) k r := by
  simp [ofTo, h]
theorem deepN_le (r : Bytes) : deepN r ≤ 64 := by
  unfold deepN
  cases h : partsL r with
  | none => simp
  | some L => exact partsL_len h
/-- What the best so far is: none, and no root has the path; or the first of the deepest ones. -/
def OfRel (L : List Bytes) (p : Bytes) (k : Nat) (s : Int × Int) : Prop :=
  (s = (-1, -1) ∧ ∀ j r, j < k → L[j]? = some r → underB p r = false) ∨
  ∃ i r, i < k ∧ L[i]? = some r ∧ underB p r = true ∧ s = ((i : Int), (deepN r : Int)) ∧
    ∀ j q, j < k → L[j]? = some q → underB p q = true → deepN q ≤ deepN r ∧ (j < i → deepN q < deepN r)
theorem ofTo_rel (L : List Bytes) (p : Bytes) : ∀ k, k ≤ L.length → OfRel L p k (ofTo L p k)
  | 0, _ => .inl ⟨rfl, fun j r h => absurd h (Nat.not_lt_zero _)⟩
  | k + 1, hk => by
    have ih := ofTo_rel L p k (by omega)
    obtain ⟨r, hr⟩ : ∃ r, L[k]? = some r := ⟨_, List.getElem?_eq_getElem (by omega)⟩
    rw [ofTo_succ hr]
    unfold ofStep
    rcases ih with ⟨h1, h2⟩ | ⟨i, q, hi, hq, hu, h1, h2⟩
    · rw [h1]
      by_cases hu : underB p r = true
      · rw [if_pos ⟨hu, by have := Int.natCast_nonneg (deepN r); omega⟩]
        refine .inr ⟨k, r, by omega, hr, hu, rfl, fun j q hj hq hqu => ?_⟩
        rcases Nat.lt_succ_iff_lt_or_eq.1 hj with hj | rfl
        · rw [h2 j q hj hq] at hqu; cases hqu
        · rw [hr] at hq; cases hq
          exact ⟨Nat.le_refl _, fun h => absurd h (Nat.lt_irrefl _)⟩
      · rw [if_neg (fun h => hu h.1)]
        refine .inl ⟨rfl, fun j q hj hq => ?_⟩
        rcases Nat.lt_succ_iff_lt_or_eq.1 hj with hj | rfl
        · exact h2 j q hj hq
        · rw [hr] at hq; cases hq
          simpa using hu
    · rw [h1]
      by_cases hc : underB p r = true ∧ deepN q < deepN r
      · rw [if_pos ⟨hc.1, by have := hc.2; show (deepN q : Int) < _; omega⟩]
        refine .inr ⟨k, r, by omega, hr, hc.1, rfl, fun j x hj hx hxu => ?_⟩
        rcases Nat.lt_succ_iff_lt_or_eq.1 hj with hj | rfl
        · have := (h2 j x hj hx hxu).1
          exact ⟨by omega, fun _ => by omega⟩
        · rw [hr] at hx; cases hx
          exact ⟨Nat.le_refl _, fun h => absurd h (Nat.lt_irrefl _)⟩
      · rw [if_neg (fun h => hc ⟨h.1, by have := h.2; change (deepN q : Int) < _ at this; omega⟩)]
        refine .inr ⟨i, q, by omega, hq, hu, rfl, fun j x hj hx hxu => ?_⟩
        rcases Nat.lt_succ_iff_lt_or_eq.1 hj with hj | rfl
        · exact h2 j x hj hx hxu
        · rw [hr] at hx; cases hx
          exact ⟨Nat.le_of_not_lt fun h => hc ⟨hxu, h⟩, fun h => by omega⟩
theorem ofTo_bd (L : List Bytes) (p : Bytes) (k : Nat) (hk : k ≤ L.length) : -1 ≤ (ofTo L p k).1 ∧ (ofTo L p k).1 < k ∧ -1 ≤ (ofTo L p k).2 ∧ (ofTo L p k).2 ≤ 64 ∨ k = 0 ∧ ofTo L p k = (-1, -1) := by
  rcases ofTo_rel L p k hk with ⟨h1, _⟩ | ⟨i, q, hi, _, _, h1, _⟩
  · rw [h1]
    by_cases h0 : k = 0
    · exact .inr ⟨h0, rfl⟩
    · exact .inl ⟨by omega, by show (-1 : Int) < _; omega, by omega, by show (-1 : Int) ≤ _; omega⟩
  · rw [h1]
    have := deepN_le q
    exact .inl ⟨by show -1 ≤ (i : Int); omega, by show (i : Int) < _; omega, by show -1 ≤ (deepN q : Int); omega, by show (deepN q : Int) ≤ _; omega⟩
theorem ofTo_lo (L : List Bytes) (p : Bytes) (k : Nat) (hk : k ≤ L.length) : -1 ≤ (ofTo L p k).1 ∧ (ofTo L p k).1 ≤ k ∧ -1 ≤ (ofTo L p k).2 ∧ (ofTo L p k).2 ≤ 64 := by
  rcases ofTo_bd L p k hk with h | ⟨rfl, h⟩
  · omega
  · rw [h]; simp

/-! The document's. -/
def rofTo (L : List Bytes) (p : Bytes) : Nat → Int
  | 0 => -1
  | k + 1 => match L[k]? with
    | none => rofTo L p k
    | some r => if underB p r = true then (if rofTo L p k < 0 then (k : Int) else match L[(rofTo L p k).toNat]? with
      | none => rofTo L p k
      | some q => if r ≠ q ∧ underB r q = true then (k : Int) else rofTo L p k) else rofTo L p k
theorem rofTo_no {L : List Bytes} {p r : Bytes} {k : Nat} (h : L[k]? = some r) (hu : underB p r = false) : rofTo L p (k + 1) = rofTo L p k := by simp [rofTo, h, hu]
theorem rofTo_first {L : List Bytes} {p r : Bytes} {k : Nat} (h : L[k]? = some r) (hu : underB p r = true) (hs : rofTo L p k = -1) : rofTo L p (k + 1) = (k : Int) := by simp [rofTo, h, hu, hs]
theorem rofTo_at {L : List Bytes} {p r q : Bytes} {k i : Nat} (h : L[k]? = some r) (hu : underB p r = true) (hs : rofTo L p k = (i : Int)) (hq : L[i]? = some q) :
    rofTo L p (k + 1) = if r ≠ q ∧ underB r q = true then (k : Int) else (i : Int) := by
  have h0 : ¬ ((i : Int) < 0) := by omega
  simp [rofTo, h, hu, hs, hq, h0]
theorem under_some {p q : Bytes} (h : underB p q = true) : ∃ L M, partsL p = some L ∧ partsL q = some M ∧ M <+: L := by
  cases h1 : partsL p with
  | none => simp [underB, h1] at h
  | some L =>
    cases h2 : partsL q with
    | none => simp [underB, h1, h2] at h
    | some M => exact ⟨L, M, rfl, rfl, (under_parts h1 h2).1 h⟩
/-- Of two roots of one path, the deeper one is below the other. -/
theorem two_roots {p r q : Bytes} (h1 : underB p r = true) (h2 : underB p q = true) : (r ≠ q ∧ underB r q = true) ↔ deepN q < deepN r := by
  obtain ⟨L, M, hp, hr, hM⟩ := under_some h1
  obtain ⟨L', N, hp', hq, hN⟩ := under_some h2
  rw [hp] at hp'
  cases hp'
  unfold deepN
  rw [hr, hq]
  dsimp only
  rw [under_parts hr hq]
  constructor
  · rintro ⟨hne, hpre⟩
    have := hpre.length_le
    by_cases e : N.length = M.length
    · exact absurd (by rw [← ofL_parts hr, ← ofL_parts hq, hpre.eq_of_length e]) hne
    · omega
  · intro hlt
    refine ⟨fun e => ?_, ?_⟩
    · subst e
      rw [hr] at hq
      cases hq
      omega
    · exact List.prefix_of_prefix_length_le hN hM (by omega)
theorem rof_eq (L : List Bytes) (p : Bytes) : ∀ k, k ≤ L.length → rofTo L p k = (ofTo L p k).1
  | 0, _ => rfl
  | k + 1, hk => by
    have ih := rof_eq L p k (by omega)
    obtain ⟨r, hr⟩ : ∃ r, L[k]? = some r := ⟨_, List.getElem?_eq_getElem (by omega)⟩
    rw [ofTo_succ hr]
    simp only [rofTo, hr]
    unfold ofStep
    rw [ih]
    rcases ofTo_rel L p k (by omega) with ⟨h1, h2⟩ | ⟨i, q, hi, hq, hu, h1, h2⟩
    · rw [h1]
      by_cases hu : underB p r = true
      · rw [if_pos hu, if_pos (by show (-1 : Int) < 0; omega), if_pos ⟨hu, by show (-1 : Int) < _; omega⟩]
      · rw [if_neg hu, if_neg (fun h => hu h.1)]
    · rw [h1]
      have h0 : ¬ ((i : Int) < 0) := by omega
      by_cases hpr : underB p r = true
      · rw [if_pos hpr]
        dsimp only
        rw [if_neg h0, Int.toNat_natCast, hq]
        dsimp only
        by_cases hc : deepN q < deepN r
        · rw [if_pos ((two_roots hpr hu).2 hc), if_pos ⟨hpr, by omega⟩]
        · rw [if_neg (fun h => hc ((two_roots hpr hu).1 h)), if_neg (fun h => hc (by have := h.2; omega))]
      · rw [if_neg hpr, if_neg (fun h => hpr h.1)]

/-! Check. -/
def checkL (L : List Bytes) : Int := if L.length < 1 ∨ 4 < L.length ∨ ¬ L.Nodup then 1 else if L.all (fun x => (partsL x).isSome) then 0 else 30
theorem ofB_spec (L : List Bytes) (p : Bytes) : OfRel L p L.length (ofTo L p L.length) := ofTo_rel L p _ (Nat.le_refl _)
end Go.Proofs.YtdengimjjlbmcaaDoor
