/-
  Splitting at '/': the library's splitting is the plain one; joining is its inverse.
-/
import Derived.Test.YtkhoeiapfoaapaaDoorPathPlain
import Derived.Lib.SplitLaws
namespace Go.Proofs.YtkhoeiapfoaapaaDoor
set_option linter.unusedVariables false
set_option linter.unusedSimpArgs false
open Go.Lib

theorem segs_ne (l : Bytes) : segs l ≠ [] := by
  cases l with
  | nil => simp [segs]
  | cons c r =>
    unfold segs
    split
    · simp
    · split <;> simp
theorem segs_slash (r : Bytes) : segs (47 :: r) = [] :: segs r := by simp [segs]
theorem segs_other (c : UInt8) (r : Bytes) (hc : c ≠ 47) : ∃ h t, segs r = h :: t ∧ segs (c :: r) = (c :: h) :: t := by
  cases hs : segs r with
  | nil => exact absurd hs (segs_ne r)
  | cons h t => exact ⟨h, t, rfl, by simp [segs, hc, hs]⟩

theorem splitK_segs : ∀ (l : Bytes), splitK [47] 0 (count l [47]) l = segs l
  | [] => by
    rw [count_miss (by simp [index])]
    rfl
  | c :: r => by
    by_cases hc : c = 47
    · subst hc
      have hix : index (47 :: r) [47] = ((0 : Nat) : Int) := by rw [index]; simp [List.isPrefixOf]
      rw [count_cons_eq, segs_slash, ← splitK_segs r, Nat.add_comm]
      rw [splitK, hix]
      simp
    · obtain ⟨h, t, e1, e2⟩ := segs_other c r hc
      rw [e2, count_cons_ne c 47 r hc]
      have ih := splitK_segs r
      rw [e1] at ih
      have hp : ([47] : List UInt8).isPrefixOf (c :: r) = false := by simp [List.isPrefixOf, Ne.symm hc]
      have hix : index (c :: r) [47] = if index r [47] == -1 then -1 else index r [47] + 1 := by rw [index, hp]; simp
      cases hk : count r [47] with
      | zero =>
        rw [hk] at ih
        simp only [splitK, List.cons.injEq] at ih ⊢
        exact ⟨by simp [ih.1], ih.2⟩
      | succ k =>
        rw [hk] at ih
        have hne : ¬ index r [47] = -1 := fun e => by rw [count_miss e] at hk; cases hk
        have hge := index_ge r [47]
        obtain ⟨j, hj⟩ : ∃ j : Nat, index r [47] = j := ⟨(index r [47]).toNat, by omega⟩
        have hix' : index (c :: r) [47] = ((j + 1 : Nat) : Int) := by rw [hix, if_neg (fun e => hne (beq_iff_eq.1 e)), hj]; omega
        have h1 : ¬ ((j : Int) == -1) = true := fun e => by have := beq_iff_eq.1 e; omega
        have h2 : ¬ (((j + 1 : Nat) : Int) == -1) = true := fun e => by have := beq_iff_eq.1 e; omega
        rw [splitK, hj, if_neg h1] at ih
        rw [splitK, hix', if_neg h2]
        have t1 : ((j : Nat) : Int).toNat = j := by omega
        have t2 : ((j + 1 : Nat) : Int).toNat = j + 1 := by omega
        rw [t1] at ih
        rw [t2]
        simp only [List.cons.injEq, List.length_cons, List.length_nil, Nat.add_zero, Nat.zero_add] at ih ⊢
        exact ⟨by rw [← ih.1]; rfl, by rw [← ih.2]; rfl⟩

theorem split_segs (s : ByteArray) : (splitB (bs [47]) 0 (countB s (bs [47])) s).map (·.data.toList) = segs s.data.toList := by
  rw [splitB_data]
  have : (bs [47]).data.toList = [47] := rfl
  rw [this]
  exact splitK_segs _
theorem split_map (s : ByteArray) : splitB (bs [47]) 0 (countB s (bs [47])) s = (segs s.data.toList).map bs := by
  rw [← split_segs, List.map_map]
  have : (bs ∘ fun x : ByteArray => x.data.toList) = id := by funext x; exact bs_data x
  rw [this, List.map_id]
theorem split_count (s : ByteArray) : countB s (bs [47]) + 1 = (segs s.data.toList).length := by
  rw [← split_segs, List.length_map]
  exact (splitB_all (bs [47]) (by decide) 0 _ s rfl).symm

/-- No '/' in any piece. -/
theorem segs_free : ∀ (l : Bytes), ∀ x ∈ segs l, (47 : UInt8) ∉ x
  | [], x, hx => by simp [segs] at hx; subst hx; simp
  | c :: r, x, hx => by
    by_cases hc : c = 47
    · subst hc
      rw [segs_slash] at hx
      rcases List.mem_cons.1 hx with rfl | hx
      · simp
      · exact segs_free r x hx
    · obtain ⟨h, t, e1, e2⟩ := segs_other c r hc
      rw [e2] at hx
      rcases List.mem_cons.1 hx with rfl | hx
      · have := segs_free r h (by rw [e1]; simp)
        simp [Ne.symm hc, this]
      · exact segs_free r x (by rw [e1]; simp [hx])

/-- The pieces, each behind a '/', are the text behind a '/'. -/
def slashed (L : List Bytes) : Bytes := (L.map (47 :: ·)).flatten
theorem slashed_segs : ∀ (l : Bytes), slashed (segs l) = 47 :: l
  | [] => rfl
  | c :: r => by
    by_cases hc : c = 47
    · subst hc
      rw [segs_slash]
      have := slashed_segs r
      simp only [slashed, List.map_cons, List.flatten_cons] at this ⊢
      rw [this]
      rfl
    · obtain ⟨h, t, e1, e2⟩ := segs_other c r hc
      have := slashed_segs r
      rw [e1] at this
      rw [e2]
      simp only [slashed, List.map_cons, List.flatten_cons, List.cons_append, List.cons.injEq, true_and] at this ⊢
      rw [this]
theorem segs_append (x : Bytes) (hx : (47 : UInt8) ∉ x) (l : Bytes) : segs (x ++ 47 :: l) = x :: segs l := by
  induction x with
  | nil => exact segs_slash l
  | cons c r ih =>
    have hc : c ≠ 47 := fun e => hx (by simp [e])
    have hr : (47 : UInt8) ∉ r := fun e => hx (by simp [e])
    obtain ⟨h, t, e1, e2⟩ := segs_other c (r ++ 47 :: l) hc
    rw [ih hr] at e1
    simp only [List.cons.injEq] at e1
    rw [List.cons_append, e2, ← e1.1, ← e1.2]
theorem segs_alone (x : Bytes) (hx : (47 : UInt8) ∉ x) : segs x = [x] := by
  induction x with
  | nil => rfl
  | cons c r ih =>
    have hc : c ≠ 47 := fun e => hx (by simp [e])
    have hr : (47 : UInt8) ∉ r := fun e => hx (by simp [e])
    obtain ⟨h, t, e1, e2⟩ := segs_other c r hc
    rw [ih hr] at e1
    simp only [List.cons.injEq] at e1
    rw [e2, ← e1.1, ← e1.2]
/-- Splitting is the inverse of joining. -/
theorem segs_slashed : ∀ (x : Bytes) (L : List Bytes), (∀ y ∈ x :: L, (47 : UInt8) ∉ y) → segs (x ++ slashed L) = x :: L
  | x, [], h => by simpa [slashed] using segs_alone x (h x (by simp))
  | x, y :: L, h => by
    have e : x ++ slashed (y :: L) = x ++ 47 :: (y ++ slashed L) := by simp [slashed]
    rw [e, segs_append x (h x (by simp)), segs_slashed y L (fun z hz => h z (by simp [hz]))]
theorem ofL_cons (x : Bytes) (L : List Bytes) : ofL (x :: L) = slashed (x :: L) := by
  show 47 :: Lib.join (x :: L) [47] = _
  rw [Lib.join_cons]
  have : joinTail [47] L = slashed L := rfl
  rw [this]
  simp [slashed]
theorem ofL_nil : ofL [] = [47] := rfl
end Go.Proofs.YtkhoeiapfoaapaaDoor
