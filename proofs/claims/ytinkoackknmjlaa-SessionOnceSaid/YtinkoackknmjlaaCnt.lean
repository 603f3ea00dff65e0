/-
  Plain laws: of so many that are opened and so many of these that are closed just the others are live, rising.
-/
import Derived.Test.YtinkoackknmjlaaSets
import Derived.Test.YtinkoackknmjlaaLives
namespace Go.Proofs.Ytinkoackknmjlaa

def withS (s : Int) (G : List Int) : List (Int × Int) := G.map fun k => (s, k)
theorem withS_has (s k : Int) (G : List Int) : (withS s G).contains (s, k) = G.contains k := by
  rw [Bool.eq_iff_iff]
  simp [withS]
theorem withS_add (s k : Int) (G : List Int) : addS (s, k) (withS s G) = withS s (addK k G) := by
  unfold addS addK
  rw [withS_has]
  split <;> simp [withS]
theorem liveB_withS {s n k : Int} {G : List Int} (h1 : 0 < k) (h2 : k ≤ n) : liveB s n (withS s G) k = !(G.contains k) := by
  have h := withS_has s k G
  unfold liveB
  rw [h]
  simp [h1, h2]

theorem filter_step (N : Int) : ∀ {G : List Int}, G.Nodup → (G.filter fun x => decide (x ≤ N + 1)).length = (G.filter fun x => decide (x ≤ N)).length + if G.contains (N + 1) then 1 else 0
  | [], _ => by simp
  | a :: r, h => by
    have hr := filter_step N (List.nodup_cons.1 h).2
    have ha : a ∉ r := (List.nodup_cons.1 h).1
    by_cases e : a = N + 1
    · subst e
      have hc : r.contains (N + 1) = false := by simpa using ha
      rw [hc] at hr
      simp only [List.filter_cons]
      have h1 : decide (N + 1 ≤ N + 1) = true := by simp
      have h2 : decide (N + 1 ≤ N) = false := by simp; omega
      simp [h2, hr]
    · have hc : (a :: r).contains (N + 1) = r.contains (N + 1) := by
        have : ((N + 1 : Int) == a) = false := by simpa using fun h => e h.symm
        rw [List.contains_cons, this, Bool.false_or]
      rw [hc]
      simp only [List.filter_cons]
      by_cases h1 : a ≤ N
      · have h2 : a ≤ N + 1 := by omega
        simp [h1, h2, hr]
        omega
      · have h2 : ¬ a ≤ N + 1 := by omega
        simp [h1, h2, hr]

theorem live_count (s : Int) (n : Nat) {G : List Int} (hn : G.Nodup) (h1 : ∀ x ∈ G, 1 ≤ x) : ∀ N : Nat, N ≤ n → (liveUp s n (withS s G) N).length + (G.filter fun x => decide (x ≤ (N : Int))).length = N
  | 0, _ => by
    have : G.filter (fun x => decide (x ≤ ((0 : Nat) : Int))) = [] := by
      rw [List.filter_eq_nil_iff]
      intro x hx
      have := h1 x hx
      simp; omega
    rw [this]
    simp [liveUp]
  | N + 1, hN => by
    have ih := live_count s n hn h1 N (by omega)
    have hs := filter_step (N : Int) hn
    have hl : liveB s n (withS s G) ((N : Int) + 1) = !(G.contains ((N : Int) + 1)) := liveB_withS (by omega) (by omega)
    have e : (((N + 1 : Nat) : Int)) = (N : Int) + 1 := by omega
    rw [e, hs]
    cases hc : G.contains ((N : Int) + 1) with
    | true =>
      rw [hc] at hl
      rw [liveUp_miss hl]
      simp
      omega
    | false =>
      rw [hc] at hl
      rw [liveUp_hit hl]
      simp
      omega
theorem live_rest (s : Int) (n : Nat) {G : List Int} (hn : G.Nodup) (h1 : ∀ x ∈ G, 1 ≤ x ∧ x ≤ n) : (liveUp s n (withS s G) n).length + G.length = n := by
  have := live_count s n hn (fun x hx => (h1 x hx).1) n (Nat.le_refl _)
  have e : G.filter (fun x => decide (x ≤ (n : Int))) = G := by
    rw [List.filter_eq_self]
    intro x hx
    simpa using (h1 x hx).2
  rwa [e] at this
theorem liveUp_rises (s n : Int) (g : List (Int × Int)) (N : Nat) : (liveUp s n g N).Pairwise (· < ·) := by
  unfold liveUp
  refine List.Pairwise.filter _ ?_
  rw [List.pairwise_map]
  refine List.Pairwise.imp ?_ (List.pairwise_lt_range (n := N))
  intro a b h
  omega
theorem liveUp_mem {s n x : Int} {g : List (Int × Int)} {N : Nat} (h : x ∈ liveUp s n g N) : liveB s n g x = true := by
  unfold liveUp at h
  exact (List.mem_filter.1 h).2
theorem liveUp_bd {s n x : Int} {g : List (Int × Int)} {N : Nat} (h : x ∈ liveUp s n g N) : 1 ≤ x ∧ x ≤ N := by
  unfold liveUp at h
  have := (List.mem_filter.1 h).1
  obtain ⟨i, hi, rfl⟩ := List.mem_map.1 this
  have := List.mem_range.1 hi
  omega
end Go.Proofs.Ytinkoackknmjlaa
