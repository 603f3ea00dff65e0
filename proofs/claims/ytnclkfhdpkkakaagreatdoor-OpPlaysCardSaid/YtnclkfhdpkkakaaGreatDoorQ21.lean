/-
  One effect on the document's list: the plain law.
-/
import Derived.Test.YtnclkfhdpkkakaaGreatDoorQ17
import Derived.Test.YtnclkfhdpkkakaaGreatDoorQ19
namespace Go.Proofs.YtnclkfhdpkkakaaGreatDoor
set_option linter.unusedVariables false
set_option linter.unusedSimpArgs false
set_option linter.unusedVariables false
set_option linter.unusedSimpArgs false
theorem Rel.find {M L : List (Bytes × Nd)} (h : Rel M L) {p : Bytes} {i : Int} (hf : FindIs L p i) : (i = -1 ∧ (getA p M).isSome = false) ∨ ∃ (k : Nat) (d : Nd), i = (k : Int) ∧ L[k]? = some (p, d) ∧ getA p M = some d := by
 rcases hf with ⟨rfl, hx⟩ | ⟨k, ⟨q, d⟩, rfl, hk, hq⟩
 ·refine .inl ⟨rfl, ?_⟩
  rw [← h.get, getA_no]
  intro hm
  obtain ⟨x, h1, h2⟩ := List.mem_map.1 hm
  exact hx x h1 h2
 ·dsimp only at hq
  subst hq
  refine .inr ⟨k, d, rfl, hk, ?_⟩
  rw [← h.get]
  exact getA_of_at h.nodup hk
theorem Rel.kids {M L : List (Bytes × Nd)} (h : Rel M L) (hn : (M.map (·.1)).Nodup) (root p : Bytes) {K : List Bytes} (h1 : K.Pairwise (· ≤ ·)) (h2 : K.Perm (((L.map (·.1)).filter (kidB root p)).map baseL)) : K = kidsS root M p := by
 unfold kidsS
 rw [h.keys hn]
 exact (sortS_is h1 h2).symm
theorem Rel.first {root : Bytes} {M L : List (Bytes × Nd)} (h : Rel M L) (I : Inv root M) : ∃ d, L[0]? = some (root, d) := by
 have h1 := I.first
 rw [h.keys I.nodup] at h1
 rw [List.getElem?_map, Option.map_eq_some_iff] at h1
 obtain ⟨⟨q, d⟩, h2, h3⟩ := h1
 dsimp only at h3
 subst h3
 exact ⟨d, h2⟩
theorem Rel.pos {root : Bytes} {M L : List (Bytes × Nd)} (h : Rel M L) (I : Inv root M) : 0 < L.length := by
 obtain ⟨d, hd⟩ := h.first I
 exact (List.getElem?_eq_some_iff.1 hd).1
theorem Rel.paths {root : Bytes} {M L : List (Bytes × Nd)} (h : Rel M L) (I : Inv root M) (hf : Fit M) : ∀ x ∈ L, x.1.length ≤ 1000 ∧ ∃ P, partsL x.1 = some P := fun x hx => by
 have hm : x.1 ∈ M.map (·.1) := (h.perm I.nodup).subset (List.mem_map_of_mem hx)
 obtain ⟨y, hy, hxy⟩ := List.mem_map.1 hm
 refine ⟨by rw [← hxy]; exact hf.path y hy, ?_⟩
 obtain ⟨P, _, h1, _⟩ := under_of (I.under x.1 hm)
 exact ⟨P, h1⟩
section
variable {root : Bytes} {M L : List (Bytes × Nd)} {e : Eff}
theorem one_under (h : underB e.path root = false) : oneE root M e = 30 ∧ oneM root M e = M := by
 unfold oneE oneM
 rw [if_pos h, if_pos h]
 exact ⟨rfl, rfl⟩
theorem one_root (hg : e.gone = true) (h : e.path = root) : oneE root M e = 30 ∧ oneM root M e = M := by
 have hge : goneE root M e.path = 30 := by unfold goneE; rw [if_pos h]
 unfold oneE oneM goneM
 rw [if_pos hg, if_pos hg, hge]
 refine ⟨?_, ?_⟩
 ·split <;> rfl
 ·split
  ·rfl
  ·exact if_neg (by decide)
theorem one_gone (hu : underB e.path root = true) (hg : e.gone = true) : oneE root M e = goneE root M e.path ∧ oneM root M e = goneM root M e.path := by
 have hn : ¬ underB e.path root = false := by rw [hu]; simp
 unfold oneE oneM
 rw [if_neg hn, if_neg hn, if_pos hg, if_pos hg]
 exact ⟨rfl, rfl⟩
theorem one_put (hu : underB e.path root = true) (hg : e.gone = false) : oneE root M e = putE root M e.path ∧ oneM root M e = putM root M e.path e.node := by
 have hn : ¬ underB e.path root = false := by rw [hu]; simp
 have hng : ¬ e.gone = true := by rw [hg]; simp
 unfold oneE oneM
 rw [if_neg hn, if_neg hn, if_neg hng, if_neg hng]
 exact ⟨rfl, rfl⟩
end
end Go.Proofs.YtnclkfhdpkkakaaGreatDoor
