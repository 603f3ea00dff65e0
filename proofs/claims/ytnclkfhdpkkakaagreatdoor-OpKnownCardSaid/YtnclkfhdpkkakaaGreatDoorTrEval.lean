/-
  Apply, walked.
  Effects on nodes, so that they can be computed.
-/
import Derived.Test.YtnclkfhdpkkakaaGreatDoorTr13
import Derived.RegionTactic
import Derived.BigRegion
import Derived.Test.YtnclkfhdpkkakaaGreatDoorPathEval
namespace Go.Proofs.YtnclkfhdpkkakaaGreatDoor
set_option linter.unusedVariables false
set_option linter.unusedSimpArgs false
set_option linter.unusedVariables false
set_option linter.unusedSimpArgs false
open Go Go.RowKit Go.Shelf Go.MapKept Go.ChangeMaps Go.Maps Go.Sort

/-- An effect. -/
structure Eff where
  path : Bytes
  gone : Bool
  node : Nd
  deriving DecidableEq
/-- An effect as it lies reads as one. -/
structure ReadsE (w : World) (lo : Nat → Prop) (r : RawE) (e : Eff) : Prop where
  path : r.path = e.path
  gone : r.gone = e.gone
  node : Reads w lo r.node e.node
theorem ReadsE.below {w w' : World} {lo : Nat → Prop} {r : RawE} {d : Eff} (h : ReadsE w lo r d) (hb : Below w.heap.size w w') : ReadsE w' lo r d := ⟨h.path, h.gone, h.node.below hb⟩
/-- Effects as they lie read as effects. -/
def LikeE (w : World) (lo : Nat → Prop) (L : List RawE) (E : List Eff) : Prop := L.length = E.length ∧ ∀ (k : Nat) (r : RawE) (e : Eff), L[k]? = some r → E[k]? = some e → ReadsE w lo r e
theorem LikeE.below {w w' : World} {lo : Nat → Prop} {L : List RawE} {E : List Eff} (h : LikeE w lo L E) (hb : Below w.heap.size w w') : LikeE w' lo L E := ⟨h.1, fun k r e h1 h2 => (h.2 k r e h1 h2).below hb⟩
/-- A row of effects, in a block below B. -/
def EffsAt (w : World) (B : Nat) (ao : Option Addr) (L : List RawE) : Prop := ∀ k r, L[k]? = some r → ∃ b off, ao = some ⟨b, off, none⟩ ∧ b < B ∧ w.rangeAt b (off + k * 11) r.cells
theorem EffsAt.below {w w' : World} {B : Nat} {ao : Option Addr} {L : List RawE} (h : EffsAt w B ao L) (hb : Below B w w') : EffsAt w' B ao L := fun k r hk => by
  obtain ⟨b, off, h1, h2, h3⟩ := h k r hk
  exact ⟨b, off, h1, h2, range_kept h3 hb h2⟩
theorem EffsAt.mono {w : World} {B B' : Nat} {ao : Option Addr} {L : List RawE} (h : EffsAt w B ao L) (hB : B ≤ B') : EffsAt w B' ao L := fun k r hk => by
  obtain ⟨b, off, h1, h2, h3⟩ := h k r hk
  exact ⟨b, off, h1, by omega, h3⟩
def oneE (root : Bytes) (M : List (Bytes × Nd)) (e : Eff) : Int := if underB e.path root = false then 30 else if e.gone = true then goneE root M e.path else putE root M e.path
def oneM (root : Bytes) (M : List (Bytes × Nd)) (e : Eff) : List (Bytes × Nd) := if underB e.path root = false then M else if e.gone = true then goneM root M e.path else putM root M e.path e.node
/-- Effects one behind the other: the first error, or all done. -/
def applyA (root : Bytes) : List (Bytes × Nd) → List Eff → Int × List (Bytes × Nd)
  | M, [] => (0, M)
  | M, e :: l => if oneE root M e = 0 then applyA root (oneM root M e) l else (oneE root M e, M)
theorem applyA_pos {root : Bytes} {M : List (Bytes × Nd)} {e : Eff} {l : List Eff} (h : oneE root M e = 0) : applyA root M (e :: l) = applyA root (oneM root M e) l := if_pos h
theorem applyA_neg {root : Bytes} {M : List (Bytes × Nd)} {e : Eff} {l : List Eff} (h : oneE root M e ≠ 0) : applyA root M (e :: l) = (oneE root M e, M) := if_neg h
theorem applyA_snoc (root : Bytes) (e : Eff) : ∀ (l : List Eff) (M : List (Bytes × Nd)), (applyA root M l).1 = 0 → applyA root M (l ++ [e]) = if oneE root (applyA root M l).2 e = 0 then (0, oneM root (applyA root M l).2 e) else (oneE root (applyA root M l).2 e, (applyA root M l).2)
  | [], M, _ => rfl
  | x :: l, M, h => by
    rw [List.cons_append]
    by_cases h0 : oneE root M x = 0
    · have hx := applyA_pos (l := l) h0
      have hx2 := applyA_pos (l := l ++ [e]) h0
      rw [hx] at h
      rw [hx2, applyA_snoc root e l _ h]
      simp only [hx]
    · rw [applyA_neg h0] at h
      exact absurd h h0
theorem applyA_stop (root : Bytes) (l2 : List Eff) : ∀ (l : List Eff) (M : List (Bytes × Nd)), (applyA root M l).1 ≠ 0 → applyA root M (l ++ l2) = applyA root M l
  | [], M, h => by simp [applyA] at h
  | x :: l, M, h => by
    simp only [List.cons_append, applyA] at h ⊢
    split at h
    · rename_i h0
      rw [if_pos h0, if_pos h0]
      exact applyA_stop root l2 l _ h
    · rename_i h0
      rw [if_neg h0, if_neg h0]
/-- How much a tree holds. -/
structure Fit (M : List (Bytes × Nd)) : Prop where
  len : M.length ≤ 48
  path : ∀ x ∈ M, x.1.length ≤ 1000
  data : ∀ x ∈ M, x.2.data.length ≤ 1000000
structure FitE (e : Eff) : Prop where
  path : e.path.length ≤ 1000
  data : e.node.data.length ≤ 1000000
theorem putA_mem {p : Bytes} {d : Nd} : ∀ {M : List (Bytes × Nd)} {x : Bytes × Nd}, x ∈ putA p d M → x = (p, d) ∨ x ∈ M
  | [], x, h => by simp [putA] at h; exact .inl h
  | y :: M, x, h => by
    unfold putA at h
    split at h
    · rcases List.mem_cons.1 h with h | h
      · exact .inl h
      · exact .inr (List.mem_cons_of_mem _ h)
    · rcases List.mem_cons.1 h with h | h
      · exact .inr (h ▸ List.mem_cons_self ..)
      · rcases putA_mem h with h | h
        · exact .inl h
        · exact .inr (List.mem_cons_of_mem _ h)
theorem putA_length {p : Bytes} {d : Nd} : ∀ {M : List (Bytes × Nd)}, (putA p d M).length = if (getA p M).isSome then M.length else M.length + 1
  | [] => by simp [putA, getA]
  | y :: M => by
    unfold putA getA
    split
    · simp
    · rw [List.length_cons, putA_length]
      split <;> simp
theorem delA_sub {p : Bytes} : ∀ {M : List (Bytes × Nd)}, (delA p M).Sublist M
  | [] => List.Sublist.refl _
  | y :: M => by
    unfold delA
    split
    · exact List.sublist_cons_self _ _
    · exact delA_sub.cons_cons _
theorem Fit.one {root : Bytes} {M : List (Bytes × Nd)} (h : Fit M) {e : Eff} (he : FitE e) : Fit (oneM root M e) := by
  unfold oneM
  split
  · exact h
  · split
    · unfold goneM
      split
      · exact ⟨Nat.le_trans (delA_sub.length_le) h.len, fun x hx => h.path x (delA_sub.subset hx), fun x hx => h.data x (delA_sub.subset hx)⟩
      · exact h
    · unfold putM
      split
      · rename_i h0
        refine ⟨?_, fun x hx => ?_, fun x hx => ?_⟩
        · rw [putA_length]
          unfold putE at h0
          split at h0
          · cases h0
          · split at h0
            · cases h0
            · rename_i h2
              have := h.len
              split
              · exact h.len
              · rename_i h3
                have h3 : (getA e.path M).isSome = false := by simpa using h3
                have : ¬ 48 ≤ M.length := fun h4 => h2 ⟨h3, h4⟩
                omega
        · rcases putA_mem hx with rfl | hx
          · exact he.path
          · exact h.path x hx
        · rcases putA_mem hx with rfl | hx
          · exact he.data
          · exact h.data x hx
      · exact h
theorem Fit.all {root : Bytes} : ∀ {E : List Eff} {M : List (Bytes × Nd)}, Fit M → (∀ e ∈ E, FitE e) → Fit (applyA root M E).2
  | [], M, h, _ => h
  | e :: E, M, h, hE => by
    unfold applyA
    split
    · exact Fit.all (h.one (hE e (List.mem_cons_self ..))) (fun x hx => hE x (List.mem_cons_of_mem _ hx))
    · exact h
end Go.Proofs.YtnclkfhdpkkakaaGreatDoor

namespace Go.Proofs.YtnclkfhdpkkakaaGreatDoor
set_option linter.unusedVariables false
set_option linter.unusedSimpArgs false
set_option linter.unusedVariables false
set_option linter.unusedSimpArgs false

def parentC (l : Bytes) : Bytes := match partsC l with
  | none => []
  | some L => if L = [] then l else ofL L.dropLast
theorem parentL_eq (l : Bytes) : parentL l = parentC l := by unfold parentL parentC; rw [partsL_eq]; rfl
def baseC (l : Bytes) : Bytes := match partsC l with
  | none => []
  | some L => L.getLast?.getD []
theorem baseL_eq (l : Bytes) : baseL l = baseC l := by unfold baseL baseC; rw [partsL_eq]; rfl
def kidC (root p q : Bytes) : Bool := !decide (q = p) && !decide (q = root) && decide (parentC q = p)
theorem kidB_eq (root p q : Bytes) : kidB root p q = kidC root p q := by unfold kidB kidC; rw [parentL_eq]
/-- How many children. -/
theorem kids_count (root : Bytes) (M : List (Bytes × Nd)) (p : Bytes) : (kidsS root M p).length = (M.filter fun x => kidB root p x.1).length := by
  have h1 : (kidsS root M p).length = _ := (sortS_perm _).length_eq
  rw [h1, List.length_map]
  have h2 := ((sortS_perm (M.map (·.1))).filter (kidB root p)).length_eq
  unfold keysS
  rw [h2, List.filter_map, List.length_map]
  rfl
theorem kids_pos (root : Bytes) (M : List (Bytes × Nd)) (p : Bytes) : (0 < (kidsS root M p).length) ↔ (M.any fun x => kidB root p x.1) = true := by
  rw [kids_count, List.length_pos_iff_exists_mem, List.any_eq_true]
  constructor
  · rintro ⟨x, hx⟩
    have := List.mem_filter.1 hx
    exact ⟨x, this.1, this.2⟩
  · rintro ⟨x, h1, h2⟩
    exact ⟨x, List.mem_filter.2 ⟨h1, h2⟩⟩
def goneEC (root : Bytes) (M : List (Bytes × Nd)) (p : Bytes) : Int := if p = root then 30 else if (getA p M).isSome = false then 31 else if (M.any fun x => kidC root p x.1) = true then 33 else 0
theorem goneE_eq (root : Bytes) (M : List (Bytes × Nd)) (p : Bytes) : goneE root M p = goneEC root M p := by
  unfold goneE goneEC
  simp only [kids_pos, kidB_eq]
def goneMC (root : Bytes) (M : List (Bytes × Nd)) (p : Bytes) : List (Bytes × Nd) := if goneEC root M p = 0 then delA p M else M
def putEC (root : Bytes) (M : List (Bytes × Nd)) (p : Bytes) : Int := if p ≠ root ∧ (getA (parentC p) M).isSome = false then 31 else if (getA p M).isSome = false ∧ 48 ≤ M.length then 36 else 0
theorem putE_eq (root : Bytes) (M : List (Bytes × Nd)) (p : Bytes) : putE root M p = putEC root M p := by
  unfold putE putEC
  rw [parentL_eq]
def putMC (root : Bytes) (M : List (Bytes × Nd)) (p : Bytes) (d : Nd) : List (Bytes × Nd) := if putEC root M p = 0 then putA p d M else M
def oneEC (root : Bytes) (M : List (Bytes × Nd)) (e : Eff) : Int := if underC e.path root = false then 30 else if e.gone = true then goneEC root M e.path else putEC root M e.path
def oneMC (root : Bytes) (M : List (Bytes × Nd)) (e : Eff) : List (Bytes × Nd) := if underC e.path root = false then M else if e.gone = true then goneMC root M e.path else putMC root M e.path e.node
theorem oneE_eq (root : Bytes) (M : List (Bytes × Nd)) (e : Eff) : oneE root M e = oneEC root M e := by
  unfold oneE oneEC
  rw [underB_eq, goneE_eq, putE_eq]
theorem oneM_eq (root : Bytes) (M : List (Bytes × Nd)) (e : Eff) : oneM root M e = oneMC root M e := by
  unfold oneM oneMC goneM goneMC putM putMC
  rw [underB_eq, goneE_eq, putE_eq]
def applyC (root : Bytes) : List (Bytes × Nd) → List Eff → Int × List (Bytes × Nd)
  | M, [] => (0, M)
  | M, e :: l => if oneEC root M e = 0 then applyC root (oneMC root M e) l else (oneEC root M e, M)
theorem applyA_eq (root : Bytes) : ∀ (l : List Eff) (M : List (Bytes × Nd)), applyA root M l = applyC root M l
  | [], M => rfl
  | e :: l, M => by
    unfold applyA applyC
    rw [oneE_eq, oneM_eq]
    split
    · exact applyA_eq root l _
    · rfl
theorem sortS_is {L L' : List Bytes} (h1 : L'.Pairwise (fun x y => x ≤ y)) (h2 : L'.Perm L) : sortS L = L' := sorted_unique (sortS_sorted L) h1 ((sortS_perm L).trans h2.symm)
/-- An effect that puts a path as its own data. -/
def putF (p : Bytes) : Eff := ⟨p, false, ⟨p, zNums⟩⟩
def goneF (p : Bytes) : Eff := ⟨p, true, zNd⟩
/-- '/r', '/r/a', .. -/
def pR : Bytes := [47, 114]
def pRA : Bytes := [47, 114, 47, 97]
def pRBC : Bytes := [47, 114, 47, 98, 47, 99]
def pRAB : Bytes := [47, 114, 47, 97, 47, 98]
def M0 : List (Bytes × Nd) := [(pR, zNd)]
def M1 : List (Bytes × Nd) := [(pR, zNd), (pRA, ⟨pRA, zNums⟩)]
theorem grow1 : applyA pR M0 [putF pRA] = (0, M1) := by rw [applyA_eq]; decide +kernel
theorem grow2 : (applyA pR M1 [putF pRBC]).1 = 31 := by rw [applyA_eq]; decide +kernel
theorem grow3 : (applyA pR M1 [putF pRAB, goneF pRA]).1 = 33 := by rw [applyA_eq]; decide +kernel
theorem grow4 : keysS M1 = [pR, pRA] := sortS_is (by decide +kernel) (List.isPerm_iff.1 (by decide +kernel))
theorem grow5 : kidsS pR M1 pR = [[97]] := by
  unfold kidsS
  rw [grow4]
  simp only [List.filter, kidB_eq]
  rw [show kidC pR pR pR = false by decide +kernel, show kidC pR pR pRA = true by decide +kernel]
  simp only [List.map, baseL_eq]
  rw [show baseC pRA = [97] by decide +kernel]
  exact sortS_is (by decide +kernel) (List.Perm.refl _)
theorem rootsR : (partsL pR).isSome = true := by rw [partsL_eq]; decide +kernel
end Go.Proofs.YtnclkfhdpkkakaaGreatDoor
