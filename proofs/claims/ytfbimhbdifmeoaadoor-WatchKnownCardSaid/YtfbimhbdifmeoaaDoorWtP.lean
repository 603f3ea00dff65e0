/-
  Watches, in plain Lean: what Add and Touch come to; and that the document's 'touches' is the program's, where a watch's path is one.
-/
import Derived.Test.YtfbimhbdifmeoaaDoorWt
import Derived.Test.YtfbimhbdifmeoaaDoorPathMore
namespace Go.Proofs.YtfbimhbdifmeoaaDoor
set_option linter.unusedVariables false
set_option linter.unusedSimpArgs false
open Go.RowKit

/-- What Add answers. -/
def addE (L : List Ev) (e : Ev) : Int := if (partsL e.path).isSome then (if L.contains e then 0 else if 16 ≤ L.length then 4 else 0) else 30
/-- What Add makes of the list. -/
def addL (L : List Ev) (e : Ev) : List Ev := if (partsL e.path).isSome then (if L.contains e then L else if 16 ≤ L.length then L else L ++ [e]) else L
def hitB (P : List Bytes) (e : Ev) : Bool := P.any (touchB e)
def outL (P : List Bytes) (L : List Ev) : List Ev := L.filter (hitB P)
def leftL (P : List Bytes) (L : List Ev) : List Ev := L.filter fun e => !hitB P e
/-- The document's 'touches'. -/
def refTouchB (e : Ev) (p : Bytes) : Bool := if e.kids then (match partsL p with
  | none => false
  | some L => !decide (L = []) && decide (ofL L.dropLast = e.path)) else decide (p = e.path)
/-- A table that Adds and Touches come to. -/
structure Fine (L : List Ev) : Prop where
  ok : ∀ e ∈ L, (partsL e.path).isSome = true
  len : L.length ≤ 16
  nodup : L.Nodup
theorem Fine.nil : Fine [] := ⟨by simp, by simp, by simp⟩
theorem Fine.add {L : List Ev} (h : Fine L) (e : Ev) : Fine (addL L e) := by
  unfold addL
  split
  · rename_i hp
    split
    · exact h
    · rename_i hc
      split
      · exact h
      · rename_i hl
        refine ⟨fun x hx => ?_, by simp; omega, ?_⟩
        · rcases List.mem_append.1 hx with hx | hx
          · exact h.ok x hx
          · simp at hx; subst hx; exact hp
        · rw [List.nodup_append]
          refine ⟨h.nodup, by simp, fun a ha b hb => ?_⟩
          simp at hb
          subst hb
          intro e1
          subst e1
          exact hc (by simpa using ha)
  · exact h
theorem Fine.filter {L : List Ev} (h : Fine L) (f : Ev → Bool) : Fine (L.filter f) :=
  ⟨fun e he => h.ok e (List.mem_filter.1 he).1, Nat.le_trans (List.length_filter_le _ _) h.len, h.nodup.filter _⟩
theorem Fine.left {L : List Ev} (h : Fine L) (P : List Bytes) : Fine (leftL P L) := h.filter _
theorem refTouch_eq (e : Ev) (p : Bytes) (he : (partsL e.path).isSome = true) : refTouchB e p = touchB e p := by
  unfold refTouchB touchB
  cases hk : e.kids with
  | false => rfl
  | true =>
    rw [if_pos rfl, if_pos rfl]
    unfold parentL
    cases hp : partsL p with
    | none =>
      have : e.path ≠ [] := by
        intro h0
        rw [h0] at he
        simp [partsL] at he
      simp [Ne.symm this]
    | some M =>
      dsimp only
      by_cases hM : M = []
      · by_cases h : p = e.path <;> simp [hM, h]
      · simp only [hM, if_false]
        by_cases h : ofL M.dropLast = e.path
        · have hn : p ≠ e.path := by
            intro h2
            have h3 := parts_take hp (M.length - 1)
            rw [← List.dropLast_eq_take, h, ← h2, hp] at h3
            have h4 := congrArg List.length (Option.some.inj h3)
            have : 0 < M.length := List.length_pos_iff.2 hM
            simp at h4
            omega
          simp [hM, h, hn]
        · simp [hM, h]
theorem leftL_all (P : List Bytes) (L : List Ev) : outL P (leftL P L) = [] := by
  unfold outL leftL
  rw [List.filter_filter, List.filter_eq_nil_iff]
  intro e _
  simp
end Go.Proofs.YtfbimhbdifmeoaaDoor
