/-
  The program's path functions, walked: of, Check, Parts, Parent, Base.
-/
import Derived.Test.YtkhoeiapfoaapaaDoorPathSplit2
namespace Go.Proofs.YtkhoeiapfoaapaaDoor
set_option linter.unusedVariables false
set_option linter.unusedSimpArgs false
open Go.RowKit

theorem partsL_cons (c : UInt8) (r : Bytes) : partsL (c :: r) = if c = 47 ∧ r.length < 64 then (if r = [] then some [] else if (segs r).all okName then some (segs r) else none) else none := rfl
theorem partsL_some {l : Bytes} {L : List Bytes} (h : partsL l = some L) : ∃ r, l = 47 :: r ∧ (bs (47 :: r)).size ≤ 64 ∧ ((r = [] ∧ L = []) ∨ (r ≠ [] ∧ L = segs r ∧ (segs r).all okName = true)) := by
  cases l with
  | nil => cases h
  | cons c r =>
    rw [partsL_cons] at h
    by_cases hc : c = 47 ∧ r.length < 64
    · rw [if_pos hc] at h
      obtain ⟨rfl, hl⟩ := hc
      refine ⟨r, rfl, by rw [size_bs, List.length_cons]; omega, ?_⟩
      by_cases hr : r = []
      · rw [if_pos hr] at h
        exact .inl ⟨hr, (Option.some.inj h).symm⟩
      · rw [if_neg hr] at h
        by_cases ha : (segs r).all okName = true
        · rw [if_pos ha] at h
          exact .inr ⟨hr, (Option.some.inj h).symm, ha⟩
        · rw [if_neg ha] at h
          cases h
    · rw [if_neg hc] at h
      cases h
theorem partsL_none {l : Bytes} (h : partsL l = none) : (∀ r, l ≠ 47 :: r) ∨ ∃ r, l = 47 :: r ∧ (64 < (bs (47 :: r)).size ∨ (r ≠ [] ∧ (bs (47 :: r)).size ≤ 64 ∧ (segs r).all okName = false)) := by
  cases l with
  | nil => exact .inl (fun r e => by cases e)
  | cons c r =>
    by_cases hc : c = 47
    · subst hc
      refine .inr ⟨r, rfl, ?_⟩
      by_cases hl : r.length < 64
      · rw [partsL_cons, if_pos ⟨rfl, hl⟩] at h
        by_cases hr : r = []
        · rw [if_pos hr] at h
          cases h
        · rw [if_neg hr] at h
          by_cases ha : (segs r).all okName = true
          · rw [if_pos ha] at h
            cases h
          · exact .inr ⟨hr, by rw [size_bs, List.length_cons]; omega, by simpa using ha⟩
      · exact .inl (by rw [size_bs, List.length_cons]; omega)
    · exact .inl (fun r' e => hc (by cases e; rfl))

theorem split_none (l : Bytes) (h : partsL l = none) (hs : (bs l).size ≤ 9223372036854775807) (w : World) (hm : MaxInt w) : Calls Tryd.prog 36 #[.string (bs l)] w (SplitBad w) := by
  rcases partsL_none h with h1 | ⟨r, rfl, h1 | ⟨h1, h2, h3⟩⟩
  · exact split_noslash l h1 w
  · exact split_long r h1 hs w
  · exact (split_more r false h1 h2 h3 w hm).mono fun e w' ⟨he, _, hb⟩ => ⟨_, he, hb⟩
theorem split_nil (l : Bytes) (h : partsL l = some []) (w : World) : Calls Tryd.prog 36 #[.string (bs l)] w fun e w' => e = .returned (.tuple #[.slice none 0 0, .bool true]) ∧ w = w' := by
  obtain ⟨r, rfl, _, ⟨rfl, _⟩ | ⟨_, h2, _⟩⟩ := partsL_some h
  · exact split_root w
  · exact absurd h2.symm (segs_ne r)
theorem split_some (l : Bytes) (L : List Bytes) (h : partsL l = some L) (hL : L ≠ []) (w : World) (hm : MaxInt w) :
    Calls Tryd.prog 36 #[.string (bs l)] w fun e w' => e = .returned (.tuple #[.slice (some ⟨w.heap.size, 0, none⟩) L.length L.length, .bool true]) ∧ BlkS w' w.heap.size L ∧ Below w.heap.size w w' := by
  obtain ⟨r, rfl, hs, ⟨_, rfl⟩ | ⟨h1, rfl, h3⟩⟩ := partsL_some h
  · exact absurd rfl hL
  · exact split_more r true h1 hs h3 w hm
theorem partsL_len {l : Bytes} {L : List Bytes} (h : partsL l = some L) : L.length ≤ 64 := by
  obtain ⟨r, rfl, hs, ⟨_, rfl⟩ | ⟨h1, rfl, h3⟩⟩ := partsL_some h
  · simp
  · rw [size_bs] at hs
    simp at hs
    have h2 := Lib.countB_le (bs [47]) (by decide) (bs r).size (bs r) (Nat.le_refl _)
    rw [size_bs] at h2
    have h3 := split_count (bs r)
    rw [data_bs] at h3
    omega

/-! Check -/
set_option maxRecDepth 100000 in
theorem check_none (l : Bytes) (h : partsL l = none) (hs : (bs l).size ≤ 9223372036854775807) (w : World) (hm : MaxInt w) :
    Calls Tryd.prog 26 #[.string (bs l)] w fun e w' => e = .returned (.int .i64 30) ∧ Below w.heap.size w w' := by
  have hsp := split_none l h hs w hm
  clear h hm
  go_enter Tryd.func26, Tryd.ntmps26
  go_wp2_with (go_at_call 36; refine hsp.mono ?_; rintro e w1 ⟨v, rfl, B1⟩)
  go_ret
  exact ⟨rfl, B1⟩
set_option maxRecDepth 100000 in
theorem check_some (l : Bytes) (L : List Bytes) (h : partsL l = some L) (w : World) (hm : MaxInt w) :
    Calls Tryd.prog 26 #[.string (bs l)] w fun e w' => e = .returned (.int .i64 0) ∧ Below w.heap.size w w' := by
  cases L with
  | nil =>
    have hsp := split_nil l h w
    clear h hm
    go_enter Tryd.func26, Tryd.ntmps26
    go_wp2_with (go_at_call 36; refine hsp.mono ?_; rintro e w1 ⟨rfl, rfl⟩)
    go_ret
    exact ⟨rfl, Below.refl _ _⟩
  | cons x L =>
    have hsp := split_some l (x :: L) h (by simp) w hm
    clear h hm
    go_enter Tryd.func26, Tryd.ntmps26
    go_wp2_with (go_at_call 36; refine hsp.mono ?_; rintro e w1 ⟨rfl, _, B1⟩)
    go_ret
    exact ⟨rfl, B1⟩

end Go.Proofs.YtkhoeiapfoaapaaDoor
