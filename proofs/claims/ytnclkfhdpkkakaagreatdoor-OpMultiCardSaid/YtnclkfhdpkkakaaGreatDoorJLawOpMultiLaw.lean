/-
  Trees that are alike but for times: operations do the same on them.
  A multi's replies, one by one, as plain lists; a tree beside another one.
  OpMulti, walked.
  OpMulti: over whatever arguments can be read.
-/
import Derived.Test.YtnclkfhdpkkakaaGreatDoorJOpFitP
import Derived.Test.YtnclkfhdpkkakaaGreatDoorShaped
import Derived.ProofKit
namespace Go.Proofs.YtnclkfhdpkkakaaGreatDoor
set_option linter.unusedVariables false
set_option linter.unusedSimpArgs false
open Go Go.RowKit Go.Shelf Go.MapKept Go.ChangeMaps Go.Maps Go.Sort
/-- A node without its times. -/
def stripN (d : Nd) : Bytes × Int × Int × Int × Int × Int := (d.data, d.num.ver, d.num.kin, d.num.next, d.num.os, d.num.on)
def Sim (M M' : List (Bytes × Nd)) : Prop := M.map (fun x => (x.1, stripN x.2)) = M'.map (fun x => (x.1, stripN x.2))
theorem Sim.refl (M : List (Bytes × Nd)) : Sim M M := rfl
theorem Sim.keys {M M' : List (Bytes × Nd)} (h : Sim M M') : M.map (·.1) = M'.map (·.1) := by
  have := congrArg (List.map Prod.fst) h
  simpa [List.map_map, Function.comp_def] using this
theorem Sim.len {M M' : List (Bytes × Nd)} (h : Sim M M') : M.length = M'.length := by
  have := congrArg List.length h
  simpa using this
theorem Sim.cases {x : Bytes × Nd} {M M' : List (Bytes × Nd)} (h : Sim (x :: M) M') : ∃ y N, M' = y :: N ∧ y.1 = x.1 ∧ stripN y.2 = stripN x.2 ∧ Sim M N := by
  cases M' with
  | nil => simp [Sim] at h
  | cons y N =>
    unfold Sim at h
    simp only [List.map_cons, List.cons.injEq, Prod.mk.injEq] at h
    exact ⟨y, N, rfl, h.1.1.symm, h.1.2.symm, h.2⟩
theorem Sim.nil {M' : List (Bytes × Nd)} (h : Sim [] M') : M' = [] := by
  unfold Sim at h
  simpa using h.symm
theorem Sim.get (p : Bytes) : ∀ {M M' : List (Bytes × Nd)}, Sim M M' → (getA p M).map stripN = (getA p M').map stripN
  | [], M', h => by rw [h.nil]
  | x :: M, M', h => by
    obtain ⟨y, N, rfl, h1, h2, h3⟩ := h.cases
    rw [getA, getA, h1]
    by_cases e : x.1 = p
    · rw [if_pos e, if_pos e]
      simp [h2]
    · rw [if_neg e, if_neg e]
      exact h3.get p
theorem Sim.isSome {M M' : List (Bytes × Nd)} (h : Sim M M') (p : Bytes) : (getA p M).isSome = (getA p M').isSome := by
  have := congrArg Option.isSome (h.get p)
  simpa using this
theorem Sim.someN {M M' : List (Bytes × Nd)} (h : Sim M M') {p : Bytes} {d : Nd} (hd : getA p M = some d) : ∃ d', getA p M' = some d' ∧ stripN d' = stripN d := by
  have := h.get p
  rw [hd] at this
  obtain ⟨d', h1, h2⟩ := Option.map_eq_some_iff.1 this.symm
  exact ⟨d', h1, h2⟩
theorem Sim.noneN {M M' : List (Bytes × Nd)} (h : Sim M M') {p : Bytes} (hd : getA p M = none) : getA p M' = none := by
  have := h.get p
  rw [hd] at this
  exact Option.map_eq_none_iff.1 this.symm
theorem Sim.getD {M M' : List (Bytes × Nd)} (h : Sim M M') (p : Bytes) : stripN ((getA p M).getD zNd) = stripN ((getA p M').getD zNd) := by
  cases hd : getA p M with
  | none => rw [h.noneN hd]
  | some d =>
    obtain ⟨d', h1, h2⟩ := h.someN hd
    rw [h1]
    exact h2.symm
theorem Sim.put (p : Bytes) {d d' : Nd} (hd : stripN d = stripN d') : ∀ {M M' : List (Bytes × Nd)}, Sim M M' → Sim (putA p d M) (putA p d' M')
  | [], M', h => by
    rw [h.nil]
    unfold Sim putA
    simp [hd]
  | x :: M, M', h => by
    obtain ⟨y, N, rfl, h1, h2, h3⟩ := h.cases
    rw [putA, putA, h1]
    by_cases e : x.1 = p
    · rw [if_pos e, if_pos e]
      unfold Sim at h3 ⊢
      simp [hd, h3]
    · rw [if_neg e, if_neg e]
      have ih := h3.put p hd
      unfold Sim at ih ⊢
      simp [h1, h2, ih]
theorem Sim.del (p : Bytes) : ∀ {M M' : List (Bytes × Nd)}, Sim M M' → Sim (delA p M) (delA p M')
  | [], M', h => by rw [h.nil]; exact Sim.refl _
  | x :: M, M', h => by
    obtain ⟨y, N, rfl, h1, h2, h3⟩ := h.cases
    rw [delA, delA, h1]
    by_cases e : x.1 = p
    · rw [if_pos e, if_pos e]
      exact h3
    · rw [if_neg e, if_neg e]
      have ih := h3.del p
      unfold Sim at ih ⊢
      simp [h1, h2, ih]
section
variable {root : Bytes} {M M' : List (Bytes × Nd)} {a a' : Int} {who : Sess} {o : Opl}
theorem strip_eq {d d' : Nd} (h : stripN d = stripN d') : d.data = d'.data ∧ d.num.ver = d'.num.ver ∧ d.num.kin = d'.num.kin ∧ d.num.next = d'.num.next ∧ d.num.os = d'.num.os ∧ d.num.on = d'.num.on := by
  unfold stripN at h
  simp only [Prod.mk.injEq] at h
  exact h
theorem strip_mk {d d' : Nd} (h : d.data = d'.data ∧ d.num.ver = d'.num.ver ∧ d.num.kin = d'.num.kin ∧ d.num.next = d'.num.next ∧ d.num.os = d'.num.os ∧ d.num.on = d'.num.on) : stripN d = stripN d' := by
  obtain ⟨h1, h2, h3, h4, h5, h6⟩ := h
  unfold stripN
  rw [h1, h2, h3, h4, h5, h6]
theorem strip_up {d d' : Nd} (h : stripN d = stripN d') : stripN (upN d a) = stripN (upN d' a') := by
  obtain ⟨h1, h2, h3, h4, h5, h6⟩ := strip_eq h
  exact strip_mk ⟨h1, h2, congrArg inc32 h3, h4, h5, h6⟩
theorem strip_next {d d' : Nd} (h : stripN d = stripN d') : stripN (nextN d) = stripN (nextN d') := by
  obtain ⟨h1, h2, h3, h4, h5, h6⟩ := strip_eq h
  exact strip_mk ⟨h1, h2, h3, congrArg inc32 h4, h5, h6⟩
theorem strip_set {d d' : Nd} (h : stripN d = stripN d') (D : Bytes) : stripN (setN d D a) = stripN (setN d' D a') := by
  obtain ⟨h1, h2, h3, h4, h5, h6⟩ := strip_eq h
  exact strip_mk ⟨rfl, congrArg inc32 h2, h3, h4, h5, h6⟩
theorem strip_new (D : Bytes) (e : Bool) : stripN (newN D a who e) = stripN (newN D a' who e) := rfl
theorem Sim.kids (h : Sim M M') (p : Bytes) : kidsS root M p = kidsS root M' p := by
  have e : keysS M = keysS M' := by unfold keysS; rw [h.keys]
  unfold kidsS
  rw [e]
theorem Sim.newPath (h : Sim M M') : newPath M o = newPath M' o := by
  unfold Go.Proofs.YtnclkfhdpkkakaaGreatDoor.newPath
  rw [(strip_eq (h.getD (parentL o.path))).2.2.2.1]
theorem Sim.createE (h : Sim M M') : createE root M who o = createE root M' who o := by
  unfold Go.Proofs.YtnclkfhdpkkakaaGreatDoor.createE
  rw [h.newPath, h.isSome, h.len]
  cases hd : getA (parentL (Go.Proofs.YtnclkfhdpkkakaaGreatDoor.newPath M' o)) M with
  | none => rw [h.noneN hd]
  | some d =>
    obtain ⟨d', h1, h2⟩ := h.someN hd
    obtain ⟨_, _, _, _, h5, h6⟩ := strip_eq h2
    rw [h1]
    dsimp only
    rw [h5, h6]
theorem Sim.verE (h : Sim M M') : verE M o = verE M' o := by
  unfold Go.Proofs.YtnclkfhdpkkakaaGreatDoor.verE
  cases hd : getA o.path M with
  | none => rw [h.noneN hd]
  | some d =>
    obtain ⟨d', h1, h2⟩ := h.someN hd
    rw [h1]
    dsimp only
    rw [(strip_eq h2).2.1]
theorem Sim.opE (h : Sim M M') : opE root M who o = opE root M' who o := by
  unfold Go.Proofs.YtnclkfhdpkkakaaGreatDoor.opE Go.Proofs.YtnclkfhdpkkakaaGreatDoor.removeE
  rw [h.createE, h.verE, h.isSome, h.kids]
theorem Sim.createU (h : Sim M M') : stripN (createU M a o) = stripN (createU M' a' o) := by
  unfold Go.Proofs.YtnclkfhdpkkakaaGreatDoor.createU
  rw [h.newPath]
  have h1 := h.getD (parentL (Go.Proofs.YtnclkfhdpkkakaaGreatDoor.newPath M' o))
  split
  · exact strip_next (strip_up h1)
  · exact strip_up h1
theorem Sim.op (h : Sim M M') : Sim (opM root M a who o) (opM root M' a' who o) := by
  unfold opM
  rw [h.opE]
  by_cases hE : Go.Proofs.YtnclkfhdpkkakaaGreatDoor.opE root M' who o ≠ 0
  · rw [if_pos hE, if_pos hE]
    exact h
  · rw [if_neg hE, if_neg hE]
    by_cases h1 : o.kind = 1
    · rw [if_pos h1, if_pos h1]
      unfold createM
      rw [h.newPath]
      exact (h.put _ h.createU).put _ (strip_new _ _)
    · rw [if_neg h1, if_neg h1]
      by_cases h2 : o.kind = 2
      · rw [if_pos h2, if_pos h2]
        unfold removeM
        exact (h.del _).put _ (strip_up (h.getD _))
      · rw [if_neg h2, if_neg h2]
        by_cases h3 : o.kind = 3
        · rw [if_pos h3, if_pos h3]
          unfold setM nodeAt
          exact h.put _ (strip_set (h.getD _) _)
        · rw [if_neg h3, if_neg h3]
          exact h
/-- What is answered, but for times. -/
theorem Sim.ans (h : Sim M M') : (opR root M a who o).e = (opR root M' a' who o).e ∧ (opR root M a who o).a.path = (opR root M' a' who o).a.path ∧ (opR root M a who o).a.kids = (opR root M' a' who o).a.kids ∧ stripN (opR root M a who o).a.node = stripN (opR root M' a' who o).a.node := by
  unfold opR
  rw [h.opE]
  by_cases hE : Go.Proofs.YtnclkfhdpkkakaaGreatDoor.opE root M' who o ≠ 0
  · rw [if_pos hE, if_pos hE]
    exact ⟨rfl, rfl, rfl, rfl⟩
  · rw [if_neg hE, if_neg hE]
    refine ⟨rfl, ?_⟩
    unfold opA
    by_cases h1 : o.kind = 1
    · rw [if_pos h1, if_pos h1, h.newPath]
      exact ⟨rfl, rfl, strip_new _ _⟩
    · rw [if_neg h1, if_neg h1]
      by_cases h2 : o.kind = 2
      · rw [if_pos h2, if_pos h2]
        exact ⟨rfl, rfl, rfl⟩
      · rw [if_neg h2, if_neg h2]
        by_cases h3 : o.kind = 3
        · rw [if_pos h3, if_pos h3]
          exact ⟨rfl, rfl, strip_set (h.getD _) _⟩
        · rw [if_neg h3, if_neg h3]
          by_cases h6 : o.kind = 6
          · rw [if_pos h6, if_pos h6, h.kids]
            exact ⟨rfl, rfl, h.getD _⟩
          · rw [if_neg h6, if_neg h6]
            exact ⟨rfl, rfl, h.getD _⟩
theorem Sim.keysS (h : Sim M M') : keysS M = keysS M' := by unfold Go.Proofs.YtnclkfhdpkkakaaGreatDoor.keysS; rw [h.keys]
end
end Go.Proofs.YtnclkfhdpkkakaaGreatDoor

namespace Go.Proofs.YtnclkfhdpkkakaaGreatDoor
set_option linter.unusedVariables false
set_option linter.unusedSimpArgs false
open Go Go.RowKit Go.Shelf Go.MapKept Go.ChangeMaps Go.Maps Go.Sort
section
variable {root : Bytes} {at_ : Int} {who : Sess}
theorem runR_prefix (l2 : List Opl) : ∀ (l : List Opl) (M : List (Bytes × Nd)), ∃ T, runR root at_ who M (l ++ l2) = runR root at_ who M l ++ T
  | [], M => ⟨_, rfl⟩
  | o :: l, M => by
    by_cases h : opE root M who o = 0
    · obtain ⟨T, hT⟩ := runR_prefix l2 l (opM root M at_ who o)
      refine ⟨T, ?_⟩
      rw [List.cons_append, runR, if_pos h, runR, if_pos h, hT, List.cons_append]
    · exact ⟨[], by rw [List.cons_append, runR, if_neg h, runR, if_neg h, List.append_nil]⟩
theorem take_snoc_at {ps : List Opl} {k : Nat} {p : Opl} (hp : ps[k]? = some p) : ps.take (k + 1) = ps.take k ++ [p] := by rw [List.take_add_one, hp]; rfl
theorem runR_at {ps : List Opl} {k : Nat} {p : Opl} {M : List (Bytes × Nd)} (hp : ps[k]? = some p) (h : runE root at_ who M (ps.take k) = 0) :
    (runR root at_ who M ps)[k]? = some (opR root (runM root at_ who M (ps.take k)) at_ who p) := by
  obtain ⟨_, _, _, e4⟩ := run_snoc (root := root) (at_ := at_) (who := who) p (ps.take k) M h
  have hps : ps = (ps.take k ++ [p]) ++ ps.drop (k + 1) := by rw [← take_snoc_at hp, List.take_append_drop]
  obtain ⟨T, hT⟩ := runR_prefix (root := root) (at_ := at_) (who := who) (ps.drop (k + 1)) (ps.take k ++ [p]) M
  rw [← hps, e4] at hT
  have hl := runR_len (root := root) (at_ := at_) (who := who) (ps.take k) M h
  have hk := (List.getElem?_eq_some_iff.1 hp).1
  rw [List.length_take] at hl
  have hk2 : min k ps.length = k := by omega
  rw [hk2] at hl
  rw [hT, List.append_assoc, List.getElem?_append_right (by omega), hl, Nat.sub_self]
  rfl
/-- One of the parts goes wrong. -/
theorem run_bad {ps : List Opl} {k : Nat} {p : Opl} {M : List (Bytes × Nd)} (hp : ps[k]? = some p) (h : runE root at_ who M (ps.take k) = 0) (hx : opE root (runM root at_ who M (ps.take k)) who p ≠ 0) :
    runE root at_ who M ps = opE root (runM root at_ who M (ps.take k)) who p ∧ (runR root at_ who M ps).length = k + 1 := by
  obtain ⟨e1, _, _, e4⟩ := run_snoc (root := root) (at_ := at_) (who := who) p (ps.take k) M h
  have hps : ps = (ps.take k ++ [p]) ++ ps.drop (k + 1) := by rw [← take_snoc_at hp, List.take_append_drop]
  obtain ⟨s1, s2⟩ := run_stop (root := root) (at_ := at_) (who := who) (ps.drop (k + 1)) (ps.take k ++ [p]) M (by rw [e1]; exact hx)
  rw [← hps] at s1 s2
  have hl := runR_len (root := root) (at_ := at_) (who := who) (ps.take k) M h
  have hk := (List.getElem?_eq_some_iff.1 hp).1
  rw [List.length_take] at hl
  exact ⟨by rw [s1, e1], by rw [s2, e4, List.length_append, hl, List.length_singleton]; omega⟩
end
theorem St.other {w0 w w' : World} {b b2 : Nat} {root root2 : Bytes} {at_ at2 : Int} {M M2 : List (Bytes × Nd)} (S : St w0 w b root at_ M) (R2 : St w0 w b2 root2 at2 M2) (hne : b ≠ b2) (hk : Kept (· = b2) w w') : St w0 w' b root at_ M :=
  ⟨S.tr.other R2.tr hne hk, S.inv, S.nice, S.tab, S.lo⟩
theorem St.cloned {w0 w w' : World} {b b2 : Nat} {root : Bytes} {at_ : Int} {M : List (Bytes × Nd)} (S : St w0 w b root at_ M) (R2 : TR w0 w' b2 root at_ M) : St w0 w' b2 root at_ M := ⟨R2, S.inv, S.nice, S.tab, S.lo⟩
/-- What a part is, that a check let by. -/
structure PartIn (w : World) (pa : Option Addr) (k : Nat) (q : RawO) (p : Opl) : Prop where
  lies : ∃ b off, pa = some ⟨b, off, none⟩ ∧ b < w.heap.size ∧ w.rangeAt b (off + k * 7) q.cells
  opin : OpIn w q ⟨p, []⟩ 0
theorem OpIn.part {w : World} {r : RawO} {o : OpV} (h : OpIn w r o 0) (h7 : o.leaf.kind = 7) {k : Nat} {p : Opl} (hp : o.parts[k]? = some p) : ∃ g off q, r.pa = some ⟨g, off, none⟩ ∧ g < w.heap.size ∧ w.rangeAt g (off + k * 7) q.cells ∧ LeafO w (fun k => k < w.heap.size) q p ∧ Leafy p := by
  rcases h.good rfl with ⟨hk, _⟩ | ⟨_, _, _, hpa⟩
  · exact absurd h7 hk
  · exact hpa k p hp
theorem ce_parts {r : RawO} {Q : List RawO} (h : ceOf r Q = 0) {q : RawO} (hq : q ∈ Q) : 1 ≤ q.kind ∧ q.kind ≤ 6 ∧ q.pn = 0 ∧ q.dn ≤ 64 := by
  unfold ceOf checkE at h
  split at h
  · cases h
  · split at h
    · cases h
    · rename_i h2
      split at h
      · cases h
      · rename_i h3
        have hmem : q.info ∈ Q.map RawO.info := List.mem_map_of_mem hq
        have hbad : PartI.bad q.info = false := by
          cases hb : PartI.bad q.info with
          | false => rfl
          | true => exact absurd (List.any_eq_true.2 ⟨_, hmem, hb⟩) h2
        have hlong : PartI.long q.info = false := by
          cases hb : PartI.long q.info with
          | false => rfl
          | true => exact absurd (.inr (List.any_eq_true.2 ⟨_, hmem, hb⟩)) h3
        unfold PartI.bad RawO.info at hbad
        unfold PartI.long RawO.info at hlong
        simp at hbad hlong
        omega
theorem part_in {w : World} {q : RawO} {p : Opl} (h : OpOk w q p) (hk : 1 ≤ q.kind ∧ q.kind ≤ 6 ∧ q.pn = 0 ∧ q.dn ≤ 64) (hp : p.path.length ≤ 900) : OpIn w q ⟨p, []⟩ 0 := by
  obtain ⟨k1, k2, k3, k4⟩ := hk
  have e1 : q.kind = p.kind := h.leaf.kind
  have e2 : q.dn = p.data.length := h.leaf.len
  have hl : Leafy p := ⟨by omega, by omega, hp, by omega⟩
  exact ⟨h.leaf, check_leaf w q p e1 hl k3 k4, fun _ => .inl ⟨by show p.kind ≠ 7; omega, k3, hl⟩⟩
theorem opR_e (root : Bytes) (M : List (Bytes × Nd)) (at_ : Int) (who : Sess) (o : Opl) : (opR root M at_ who o).e = opE root M who o := by
  unfold opR
  split
  · rfl
  · rename_i h
    exact (Classical.not_not.1 h).symm
theorem ans_kids (root : Bytes) (M : List (Bytes × Nd)) (at_ : Int) (who : Sess) (o : Opl) : (opR root M at_ who o).a.kids.length ≤ M.length := by
  unfold opR
  split
  · exact Nat.zero_le _
  · unfold opA
    have hk : (kidsS root M o.path).length ≤ M.length := by
      have h1 : (kidsS root M o.path).length = (((keysS M).filter (kidB root o.path)).map baseL).length := (sortS_perm _).length_eq
      have h2 := kids_len root M o.path
      omega
    dsimp only
    split
    · exact Nat.zero_le _
    · split
      · exact Nat.zero_le _
      · split
        · exact Nat.zero_le _
        · split
          · exact hk
          · exact Nat.zero_le _
/-- A part's reply in its box. -/
def PartBox (wr : World) (e2 : Int) (A : Ans) (v : Value) (wc : World) : Prop :=
  ∃ (Bx : Nat) (y : Raw) (la : Option Addr) (lc : Nat) (ma : Option Addr) (mc : Nat), v = .pointer (some ⟨Bx, 0, none⟩) ∧ wr.heap.size ≤ Bx ∧ Below wr.heap.size wr wc ∧ wc.heap[Bx]? = some (.cells (repCells e2 A.path y la A.kids.length lc ma 0 mc).toArray 43 (0, 0)) ∧ Reads wc (fun _ => True) y A.node ∧ StrLo wc (fun _ => True) la A.kids
theorem part_box {wr w2 : World} {Bx : Nat} {e2 : Int} {A : Ans} {y : Raw} {la : Option Addr} {lc : Nat} {ma : Option Addr} {mc : Nat} {lo : Nat → Prop} (hb : Below wr.heap.size wr w2) (hB : wr.heap.size ≤ Bx) {cs : Array Value} (kB : w2.heap[Bx]? = some (.cells cs 43 (0, 0))) (hc : cs.size = 13)
    (hr : Reads w2 lo y A.node) (hk : StrLo w2 lo la A.kids) (hlo : ∀ k, lo k → k < w2.heap.size → k ≠ Bx) : PartBox wr e2 A (.pointer (some ⟨Bx, 0, none⟩)) (w2.setCells Bx 0 (repCells e2 A.path y la A.kids.length lc ma 0 mc)) := by
  have K : Kept (· = Bx) w2 (w2.setCells Bx 0 (repCells e2 A.path y la A.kids.length lc ma 0 mc)) := Kept.setCells (S := (· = Bx)) (p := Bx) rfl _ 0 (Kept.refl _ w2)
  exact ⟨Bx, y, la, lc, ma, mc, rfl, hB, hb.trans (K.below hb.size (fun k e => by have e : k = Bx := e; omega)), cells_set kB (by rw [hc]; rfl), (hr.keptS K hlo).monoB (fun _ _ _ => trivial), (hk.keptS K hlo).mono (fun _ _ _ => trivial)⟩
theorem StrSl.upW {w w' : World} {a : Option Addr} {K : List Bytes} (h : StrSl w w.heap.size a K) (hb : Below w.heap.size w w') : StrSl w' w'.heap.size a K := fun k p hk => by
  obtain ⟨b, off, h1, h2, h3⟩ := h k p hk
  exact ⟨b, off, h1, Nat.lt_of_lt_of_le h2 hb.size, (hb.cell (p := ⟨b, off + k, none⟩) h2).trans h3⟩
theorem RepsAt.monoB {w : World} {lo lo' : Nat → Prop} {pa : Option Addr} {X : List Rep} (h : RepsAt w lo pa X) (hl : ∀ k, lo k → k < w.heap.size → lo' k) : RepsAt w lo' pa X := fun k x hx => by
  obtain ⟨g, off, r, h1, h2, h3, h4, h5⟩ := h k x hx
  exact ⟨g, off, r, h1, hl g h2 h3, h3, h4, h5.mono hl⟩
theorem asks_single {w : World} {g : Nat} {x : AskRaw} (hg : w.heap[g]? = some (.cells x.cells.toArray 31 (0, 0))) (hx : AskOk w x) : AsksAt w (some ⟨g, 0, none⟩) [x] := fun k y hy => by
  have hk : k = 0 := by have := (List.getElem?_eq_some_iff.1 hy).1; simp at this; exact this
  subst hk
  simp at hy
  subst hy
  exact ⟨g, 0, rfl, lt_of_block hg, by rw [Nat.zero_mul]; exact range_blk hg, hx⟩
theorem great_single {x : AskRaw} (h : greatL [x] = false) : askGreat x = false := (great_not h).2 x (by simp)
/-- The loop of the law: k parts have gone well on both trees. -/
def MuSt (w4 w9 : World) (b b2 : Nat) (at_ : Int) (M : List (Bytes × Nd)) (who : Sess) (ps : List Opl) (k : Nat) (wr : World) : Prop :=
  St w4 wr b pR at_ M ∧ (∃ cM cat, St w4 wr b2 pR cat cM ∧ cat ≤ at_ + k ∧ Sim (runM pR (at_ + 1) who M (ps.take k)) cM) ∧ runE pR (at_ + 1) who M (ps.take k) = 0 ∧ Kept (· = b2) w9 wr
end Go.Proofs.YtnclkfhdpkkakaaGreatDoor

namespace Go.Proofs.YtnclkfhdpkkakaaGreatDoor
set_option linter.unusedVariables false
set_option linter.unusedSimpArgs false
open Go Go.RowKit Go.Shelf Go.MapKept Go.ChangeMaps Go.Maps Go.Sort
set_option maxRecDepth 100000 in
set_option maxHeartbeats 64000000 in
theorem opMulti_core (w : World) (hm : MaxInt w) (PT : PowTab w) (a : Option Addr) (c : Nat) (L : List AskRaw) (hat : AsksAt w a L) (hl : L.length ≤ maxLen) (qa : Option Addr) (qc : Nat) (Q : List RawO) (n1 : Nat) (hoq : OpsAt w n1 qa Q) (hql : Q.length ≤ maxLen) (who : Sess) (hws : SessOk who) :
    Calls Tryz.prog 4 #[.slice a L.length c, .slice qa Q.length qc, .agg #[.int .i64 who.site, .int .u32 who.n]] w fun e w' => e = .returned (.bool true) ∧ Below w.heap.size w w' := by
  obtain ⟨s, sn⟩ := who
  dsimp only
  obtain ⟨n, hn⟩ : ∃ n, n = L.length := ⟨_, rfl⟩
  obtain ⟨qn, hqn⟩ : ∃ qn, qn = Q.length := ⟨_, rfl⟩
  obtain ⟨ps, hpsl, hpsa⟩ := hoq.plain
  have hy : AskOk w (⟨⟨7, [], none, 0, 0, 0, false, false, qa, qn, qc⟩, ⟨7, [], [], 0, false, false⟩, Q, ps, ⟨s, sn⟩⟩ : AskRaw) := ⟨⟨⟨rfl, rfl, rfl, rfl, rfl, rfl, bytes_none _ _ _ _, fun _ => ⟨rfl, rfl⟩⟩, ⟨show (0 : Int) ≤ 7 by decide, show (7 : Int) ≤ 255 by decide⟩, by unfold I64; exact ⟨show (-9223372036854775808 : Int) ≤ 0 by decide, show (0 : Int) < 9223372036854775808 by decide⟩, Nat.zero_le _, Nat.zero_le _, Nat.le_refl _, by show qn ≤ maxLen; rw [hqn]; exact hql⟩, hws, hqn, ⟨n1, hoq⟩, hpsl, hpsa⟩
  rw [← hn, ← hqn]
  obtain ⟨w1, hw1⟩ : ∃ w1, w1 = (w.alloc (.cells #[.int .i64 s, .int .u32 sn] 29)).alloc (.cells #[.int .u8 7, .string ⟨#[]⟩, .slice none 0 0, .int .i64 0, .bool false, .bool false, .slice qa qn qc, .int .i64 s, .int .u32 sn] 31) := ⟨_, rfl⟩
  have B1 : Below w.heap.size w w1 := by rw [hw1]; exact belowA (belowA (Below.refl _ w) _) _
  have hs1 : w1.heap.size = w.heap.size + 2 := by rw [hw1]; simp
  have kS : w1.heap[w.heap.size]? = some (.cells #[.int .i64 s, .int .u32 sn] 29 (0, 0)) := by rw [hw1]; exact (heap_alloc_old _ _ (by simp)).trans (heap_alloc_new w _)
  have kA : w1.heap[w.heap.size + 1]? = some (.cells #[.int .u8 7, .string ⟨#[]⟩, .slice none 0 0, .int .i64 0, .bool false, .bool false, .slice qa qn qc, .int .i64 s, .int .u32 sn] 31 (0, 0)) := by
    have := heap_alloc_new (w.alloc (.cells #[.int .i64 s, .int .u32 sn] 29)) (.cells #[.int .u8 7, .string ⟨#[]⟩, .slice none 0 0, .int .i64 0, .bool false, .bool false, .slice qa qn qc, .int .i64 s, .int .u32 sn] 31)
    rw [World.size_alloc] at this
    rw [hw1]
    exact this
  have hrs0 : (w.alloc (.cells #[.int .i64 s, .int .u32 sn] 29)).rangeAt w.heap.size 0 [.int .i64 s, .int .u32 sn] := range_blk (heap_alloc_new w _)
  have hgr := asks_great w1 a c L (hat.below B1) hl
  rw [← hn] at hgr
  have HSO : Hid ((Tryz.prog.info? 26).map (·.size) = some 7) := Lib.hid (by kernel_rfl)
  have HSS : Hid ((Tryz.prog.info? 29).map (·.size) = some 2) := Lib.hid (by kernel_rfl)
  have HSR : Hid ((Tryz.prog.info? 43).map (·.size) = some 13) := Lib.hid infoReply13
  have HGR := Lib.hid hgr
  have HRS0 := Lib.hid hrs0
  have HM := Lib.hid (And.intro hm (And.intro PT (And.intro hat (And.intro hy (And.intro hn hqn)))))
  have H1 := Lib.hid (And.intro B1 (And.intro kS (And.intro kA (And.intro hs1 hw1))))
  clear hgr hm PT hat hy hn hqn B1 kS kA hs1 hw1 hl hrs0 hoq hql hws
  have HPS := Lib.hid (And.intro hpsl hpsa)
  clear hpsl hpsa
  obtain ⟨gl, hgl⟩ : ∃ gl, gl = greatL L := ⟨_, rfl⟩
  rw [← hgl] at HGR
  have HGL := Lib.hid hgl
  clear hgl
  go_enter Tryz.func4, Tryz.ntmps4
  go_upto_region 2 with (refine wpList_load_mid rfl 29 (.tmp 5) rfl w.heap.size 0 rfl [.int .i64 s, .int .u32 sn] _ HRS0.out Tryz.underlying29 rfl HSS.out ?_)
  rw [← H1.out.2.2.2.2]
  go_wp2_with fail
  refine HGR.out.mono ?_
  rintro e w2 ⟨rfl, B2⟩
  have HB2_ := Lib.hid (And.intro (H1.out.1.trans (B2.mono H1.out.1.size)) B2)
  have kA2 := (B2.block (w.heap.size + 1) (lt_of_block H1.out.2.2.1)).trans H1.out.2.2.1
  have kS2 := (B2.block w.heap.size (lt_of_block H1.out.2.1)).trans H1.out.2.1
  have e2_0 : w2.cell? ⟨w.heap.size + 1, 0, none⟩ = some (.int .u8 7) := cell_of_row _ _ 0 _ 31 (0, 0) kA2
  have e2_1 : w2.cell? ⟨w.heap.size + 1, 1, none⟩ = some (.string ⟨#[]⟩) := cell_of_row _ _ 1 _ 31 (0, 0) kA2
  have e2_2 : w2.cell? ⟨w.heap.size + 1, 2, none⟩ = some (.slice none 0 0) := cell_of_row _ _ 2 _ 31 (0, 0) kA2
  have e2_3 : w2.cell? ⟨w.heap.size + 1, 3, none⟩ = some (.int .i64 0) := cell_of_row _ _ 3 _ 31 (0, 0) kA2
  have e2_4 : w2.cell? ⟨w.heap.size + 1, 4, none⟩ = some (.bool false) := cell_of_row _ _ 4 _ 31 (0, 0) kA2
  have e2_5 : w2.cell? ⟨w.heap.size + 1, 5, none⟩ = some (.bool false) := cell_of_row _ _ 5 _ 31 (0, 0) kA2
  have e2_6 : w2.cell? ⟨w.heap.size + 1, 6, none⟩ = some (.slice qa qn qc) := cell_of_row _ _ 6 _ 31 (0, 0) kA2
  have e2_7 : w2.cell? ⟨w.heap.size + 1, 7, none⟩ = some (.int .i64 s) := cell_of_row _ _ 7 _ 31 (0, 0) kA2
  have e2_8 : w2.cell? ⟨w.heap.size + 1, 8, none⟩ = some (.int .u32 sn) := cell_of_row _ _ 8 _ 31 (0, 0) kA2
  have HK2 := Lib.hid (And.intro kA2 kS2)
  clear B2 kA2 kS2
  cases gl
  rotate_left
  · go_wp2
    go_ret
    exact ⟨rfl, HB2_.out.1⟩
  obtain ⟨w3, hw3⟩ : ∃ w3, w3 = w2.alloc (.cells #[.int .u8 7, .string ⟨#[]⟩, .slice none 0 0, .int .i64 0, .bool false, .bool false, .slice qa qn qc, .int .i64 s, .int .u32 sn] 31) := ⟨_, rfl⟩
  have B3 : Below w2.heap.size w2 w3 := by rw [hw3]; exact belowA (Below.refl _ w2) _
  have k3 : w3.heap[w2.heap.size]? = some (.cells #[.int .u8 7, .string ⟨#[]⟩, .slice none 0 0, .int .i64 0, .bool false, .bool false, .slice qa qn qc, .int .i64 s, .int .u32 sn] 31 (0, 0)) := by rw [hw3]; exact heap_alloc_new w2 _
  have hb3 : Below w.heap.size w w3 := HB2_.out.1.trans (B3.mono HB2_.out.1.size)
  have hgr := asks_great w3 (some ⟨w2.heap.size, 0, none⟩) 1 [(⟨⟨7, [], none, 0, 0, 0, false, false, qa, qn, qc⟩, ⟨7, [], [], 0, false, false⟩, Q, ps, ⟨s, sn⟩⟩ : AskRaw)] (asks_single k3 (HM.out.2.2.2.1.below hb3)) (show 1 ≤ maxLen by unfold maxLen; decide)
  obtain ⟨gx, hgx⟩ : ∃ gx, gx = greatL [(⟨⟨7, [], none, 0, 0, 0, false, false, qa, qn, qc⟩, ⟨7, [], [], 0, false, false⟩, Q, ps, ⟨s, sn⟩⟩ : AskRaw)] := ⟨_, rfl⟩
  rw [← hgx] at hgr
  have HGX := Lib.hid hgx
  have HGR2 := Lib.hid hgr
  have H3 := Lib.hid (And.intro hb3 (And.intro B3 hw3))
  clear hgr hgx hb3 B3 k3 hw3
  go_wp2_with fail
  rw [← H3.out.2.2]
  clear e2_0 e2_1 e2_2 e2_3 e2_4 e2_5 e2_6 e2_7 e2_8
  refine HGR2.out.mono ?_
  rintro e w4 ⟨rfl, B4⟩
  have HB4 := Lib.hid (And.intro (H3.out.1.trans (B4.mono H3.out.1.size)) (H3.out.2.1.trans (B4.mono H3.out.2.1.size)))
  clear B4
  cases gx
  rotate_left
  · go_wp2
    go_ret
    exact ⟨rfl, HB4.out.1⟩
  have hgw := grown_any w4 (HM.out.1.kept HB4.out.1) (tab_below HM.out.2.1 HB4.out.1) a c L (HM.out.2.2.1.below HB4.out.1) HGL.out.symm
  rw [← HM.out.2.2.2.2.1] at hgw
  have HGW := Lib.hid hgw
  clear hgw
  go_wp2_with fail
  refine HGW.out.mono ?_
  rintro e w5 ⟨b, rfl, hb4, S5, hat5, B5⟩
  generalize (grownS L).1 = at_ at S5 hat5
  generalize (grownS L).2 = M at S5
  have hb5 : Below w.heap.size w w5 := HB4.out.1.trans (B5.mono HB4.out.1.size)
  have hin := (HM.out.2.2.2.1.below hb5).opIn (great_single HGX.out.symm)
  have hqn10 : qn ≤ 10 := (great_parts (great_single HGX.out.symm)).2.2.1
  obtain ⟨ce, hce⟩ : ∃ ce, ce = (⟨⟨7, [], none, 0, 0, 0, false, false, qa, qn, qc⟩, ⟨7, [], [], 0, false, false⟩, Q, ps, ⟨s, sn⟩⟩ : AskRaw).ce := ⟨_, rfl⟩
  rw [← hce] at hin
  have hin : OpIn w5 (⟨7, [], none, 0, 0, 0, false, false, qa, qn, qc⟩ : RawO) (⟨⟨7, [], [], 0, false, false⟩, ps⟩ : OpV) ce := hin
  have b45 := HB4.out.2.trans (B5.mono HB4.out.2.size)
  have k5A := (b45.block (w.heap.size + 1) (lt_of_block HK2.out.1)).trans HK2.out.1
  have k5S := (b45.block w.heap.size (lt_of_block HK2.out.2)).trans HK2.out.2
  have hck := hin.chk w5 (Below.refl _ _)
  unfold RawO.val RawO.cells at hck
  dsimp only at hck
  have HCK := Lib.hid hck
  have HIN := Lib.hid hin
  have HCE := Lib.hid hce
  have HQN := Lib.hid hqn10
  have H5 := Lib.hid (And.intro S5 (And.intro hb5 (And.intro hb4 (And.intro k5A k5S))))
  have HAT := Lib.hid hat5
  have HR5 : Hid (w5.rangeAt (w.heap.size + 1) 0 [.int .u8 7, .string ⟨#[]⟩, .slice none 0 0, .int .i64 0, .bool false, .bool false, .slice qa qn qc]) := Lib.hid (ask_cells (x := (⟨⟨7, [], none, 0, 0, 0, false, false, qa, qn, qc⟩, ⟨7, [], [], 0, false, false⟩, Q, ps, ⟨s, sn⟩⟩ : AskRaw)) (range_blk k5A)).1
  clear hin hck hce S5 hb5 hb4 k5A k5S B5 hat5 b45 hqn10
  go_wp2_with (refine wpList_load_mid rfl 26 (.tmp 31) rfl (w.heap.size + 1) 0 rfl [.int .u8 7, .string ⟨#[]⟩, .slice none 0 0, .int .i64 0, .bool false, .bool false, .slice qa qn qc] _ HR5.out Tryz.underlying26 rfl HSO.out ?_)
  refine HCK.out.mono ?_
  rintro e w6 ⟨rfl, B6⟩
  have hb6 := H5.out.2.1.trans (B6.mono H5.out.2.1.size)
  have k6A := (B6.block (w.heap.size + 1) (lt_of_block H5.out.2.2.2.1)).trans H5.out.2.2.2.1
  have k6S := (B6.block w.heap.size (lt_of_block H5.out.2.2.2.2)).trans H5.out.2.2.2.2
  have hdo := (H5.out.1.below B6).do_op (Int.le_trans HAT.out (by decide)) (HIN.out.below B6) ⟨s, sn⟩
  unfold RawO.val RawO.cells whoV at hdo
  dsimp only at hdo
  have HDO := Lib.hid hdo
  have HR6 : Hid (w6.rangeAt (w.heap.size + 1) 0 [.int .u8 7, .string ⟨#[]⟩, .slice none 0 0, .int .i64 0, .bool false, .bool false, .slice qa qn qc] ∧ w6.rangeAt w.heap.size 0 [.int .i64 s, .int .u32 sn]) := Lib.hid ⟨(ask_cells (x := (⟨⟨7, [], none, 0, 0, 0, false, false, qa, qn, qc⟩, ⟨7, [], [], 0, false, false⟩, Q, ps, ⟨s, sn⟩⟩ : AskRaw)) (range_blk k6A)).1, range_blk k6S⟩
  have H6 := Lib.hid (And.intro (H5.out.1.below B6) (And.intro hb6 (And.intro B6 k6S)))
  clear hdo hb6 B6 k6A k6S
  go_wp2_with (first
    | (refine wpList_load_mid rfl 26 (.tmp 36) rfl (w.heap.size + 1) 0 rfl [.int .u8 7, .string ⟨#[]⟩, .slice none 0 0, .int .i64 0, .bool false, .bool false, .slice qa qn qc] _ HR6.out.1 Tryz.underlying26 rfl HSO.out ?_)
    | (refine wpList_load_mid rfl 29 (.tmp 5) rfl w.heap.size 0 rfl [.int .i64 s, .int .u32 sn] _ HR6.out.2 Tryz.underlying29 rfl HSS.out ?_))
  refine HDO.out.mono ?_
  rintro e w7 ⟨u1, u2, rfl, hEO, ⟨⟨ra, rn, rc, ⟨r1, r2, r3, r4, r5, r6, r7, r8⟩⟩, ka, kc, pa, pc, rfl, hrd, hkd, hpd⟩, B7⟩
  obtain ⟨xa, xc, XL, rfl, hxA, hxL⟩ := hEO
  obtain ⟨x, hx⟩ : ∃ x, x = doE pR M at_ ⟨s, sn⟩ ce (⟨⟨7, [], [], 0, false, false⟩, ps⟩ : OpV) := ⟨_, rfl⟩
  obtain ⟨px, hpx⟩ : ∃ px, px = (doA pR M at_ ⟨s, sn⟩ ce (⟨⟨7, [], [], 0, false, false⟩, ps⟩ : OpV)).path := ⟨_, rfl⟩
  obtain ⟨kn, hkn⟩ : ∃ kn, kn = (doA pR M at_ ⟨s, sn⟩ ce (⟨⟨7, [], [], 0, false, false⟩, ps⟩ : OpV)).kids.length := ⟨_, rfl⟩
  obtain ⟨pn, hpn⟩ : ∃ pn, pn = (doR pR M at_ ⟨s, sn⟩ ce (⟨⟨7, [], [], 0, false, false⟩, ps⟩ : OpV)).length := ⟨_, rfl⟩
  obtain ⟨xn, hxn⟩ : ∃ xn, xn = (doX pR M at_ ⟨s, sn⟩ ce (⟨⟨7, [], [], 0, false, false⟩, ps⟩ : OpV)).length := ⟨_, rfl⟩
  rw [← hx, ← hpx, ← hkn, ← hpn, ← hxn]
  unfold repCells Raw.cells Nums.cells
  dsimp only [List.cons_append, List.nil_append]
  obtain ⟨w8, hw8⟩ : ∃ w8, w8 = w7.alloc (.cells #[.int .i64 x, .string (bs px), .slice ra rn rc, .int .u32 r1, .int .u32 r2, .int .u32 r3, .int .i64 r4, .int .u32 r5, .int .u64 r6, .int .u64 r7, .int .u64 r8, .slice ka kn kc, .slice pa pn pc] 43) := ⟨_, rfl⟩
  have B78 : Below w7.heap.size w7 w8 := by rw [hw8]; exact belowA (Below.refl _ w7) _
  have k8 : w8.heap[w7.heap.size]? = some (.cells #[.int .i64 x, .string (bs px), .slice ra rn rc, .int .u32 r1, .int .u32 r2, .int .u32 r3, .int .i64 r4, .int .u32 r5, .int .u64 r6, .int .u64 r7, .int .u64 r8, .slice ka kn kc, .slice pa pn pc] 43 (0, 0)) := by rw [hw8]; exact heap_alloc_new w7 _
  have B68 : Below w6.heap.size w6 w8 := B7.trans (B78.mono B7.size)
  have HS8 := Lib.hid (H6.out.1.below B68)
  have HB8 := Lib.hid (H6.out.2.1.trans (B68.mono H6.out.2.1.size))
  have HEO : Hid (EffsOut w8 (.slice xa xn xc) (doX pR M at_ ⟨s, sn⟩ ce (⟨⟨7, [], [], 0, false, false⟩, ps⟩ : OpV))) := Lib.hid (EffsOut.below ⟨xa, xc, XL, by rw [hxn], hxA, hxL⟩ B78)
  have HPD : Hid (RepsAt w8 (fun j => j < w7.heap.size) pa (doR pR M at_ ⟨s, sn⟩ ce (⟨⟨7, [], [], 0, false, false⟩, ps⟩ : OpV))) := Lib.hid ((hpd.monoB (fun _ _ h => h)).below B78)
  have HV := Lib.hid (And.intro hx (And.intro hpx (And.intro hkn (And.intro hpn hxn))))
  have HK8 := Lib.hid (And.intro k8 ((B68.block _ (lt_of_block H6.out.2.2.2)).trans H6.out.2.2.2))
  have HW8 := Lib.hid hw8
  have y0 : w8.cell? ⟨w7.heap.size, 0, none⟩ = some (.int .i64 x) := cell_of_row _ _ 0 _ 43 (0, 0) k8
  clear hrd hkd hpd hx hpx hkn hpn hxn hxA hxL hw8 B78 k8 B68 B7
  go_upto_region 9 with fail
  rw [← HW8.out]
  by_cases hc0 : ce = 0
  rotate_left
  · have tc : (ce != 0) = true := by simpa using hc0
    have hxc : x = ce := by rw [HV.out.1]; unfold doE; rw [if_pos hc0]
    have hxz : xn = 0 := by rw [HV.out.2.2.2.2, doX_none (by rw [← HV.out.1, hxc]; exact hc0)]; rfl
    have v1 : (x == ce) = true := by rw [hxc]; simp
    have v2 : ((xn : Int) == 0) = true := by rw [hxz]; rfl
    clear hc0 hxc hxz
    go_wp2_with fail
    refine (works_any _ HS8.out.tr.max HS8.out.pow).mono ?_
    rintro e wz ⟨rfl, BZ⟩
    have HZ := Lib.hid (HB8.out.trans (BZ.mono HB8.out.size))
    clear BZ
    go_wp2
    go_ret
    exact ⟨rfl, HZ.out⟩
  subst hc0
  have hre : doE pR M at_ ⟨s, sn⟩ 0 (⟨⟨7, [], [], 0, false, false⟩, ps⟩ : OpV) = runE pR (at_ + 1) ⟨s, sn⟩ M ps := by unfold doE; rw [if_neg (by simp)]; rfl
  have hrr : doR pR M at_ ⟨s, sn⟩ 0 (⟨⟨7, [], [], 0, false, false⟩, ps⟩ : OpV) = runR pR (at_ + 1) ⟨s, sn⟩ M ps := by unfold doR; rw [if_pos ⟨rfl, rfl⟩]
  have HRE := Lib.hid hre
  have HRR := Lib.hid hrr
  clear hre hrr
  have HCL := Lib.hid HS8.out.tr.clone
  go_wp2_with fail
  refine HCL.out.mono ?_
  rintro e w9 ⟨b2, rfl, R9, hb28, B9⟩
  have h9 : Hid (MuSt w4 w9 b b2 at_ M ⟨s, sn⟩ ps 0 w9) := Lib.hid ⟨HS8.out.below B9, ⟨M, at_, HS8.out.cloned R9, by omega, Sim.refl _⟩, rfl, Kept.refl _ _⟩
  have HB9 := Lib.hid (And.intro (HB8.out.trans (B9.mono HB8.out.size)) B9)
  have HB2 : Hid (b ≠ b2 ∧ w.heap.size + 2 ≤ b2 ∧ w7.heap.size < b2 ∧ w.heap.size < b2) := Lib.hid (by
    have h1 := HS8.out.tr.lt
    have h2 := lt_of_block HK8.out.1
    have h3 := HB8.out.size
    have h4 := lt_of_block HK8.out.2
    have h5 := H1.out.2.2.2.1
    have h6 := HB2_.out.2.size
    have h7 := HB4.out.2.size
    have h8 := H5.out.2.2.1
    exact ⟨by omega, by omega, by omega, by omega⟩)
  have HPD9 := Lib.hid (HPD.out.below B9)
  have HK9 := Lib.hid (And.intro ((B9.block _ (lt_of_block HK8.out.1)).trans HK8.out.1) ((B9.block _ (lt_of_block HK8.out.2)).trans HK8.out.2))
  have HEO9 := Lib.hid (HEO.out.below B9)
  clear R9 hb28 B9
  go_wp2_with fail
  go_loopw [13] (fun iv wr => ∃ k : Nat, k ≤ qn ∧ iv = .int .i64 k ∧ Hid (MuSt w4 w9 b b2 at_ M ⟨s, sn⟩ ps k wr)) (fun iv _ => qn - (intOf iv).toNat)
  case atStart => exact ⟨0, by omega, rfl, h9⟩
  case round =>
    obtain ⟨k, hk, rfl, HS⟩ := hrel
    by_cases hlt : k < qn
    · have hq10 := HQN.out
      have tlt : decide ((k : Int) < (qn : Int)) = true := by simp; omega
      have tltn : decide (k < qn) = true := by simp; omega
      have hbr : Below w.heap.size w wr := HB9.out.1.trans (HS.out.2.2.2.below HB9.out.1.size (fun j e => by have e : j = b2 := e; have := HB2.out.2.1; omega))
      obtain ⟨q, hq⟩ : ∃ q, Q[k]? = some q := ⟨_, List.getElem?_eq_getElem (by rw [← HM.out.2.2.2.2.2]; exact hlt)⟩
      obtain ⟨p, hp, hok, g, off, hqa, hgl, hrg⟩ := HPS.out.2 k q hq
      subst hqa
      have hkd := ce_parts (r := (⟨7, [], none, 0, 0, 0, false, false, (some ⟨g, off, none⟩), qn, qc⟩ : RawO)) (Q := Q) HCE.out.symm (List.mem_of_getElem? hq)
      have hgp := ((great_parts (great_single HGX.out.symm)).2.2.2 q (List.mem_of_getElem? hq)).1
      have hpath : q.path = p.path := hok.leaf.path
      have hpi := part_in hok hkd (by rw [← hpath]; omega)
      have hp7 : p.kind ≠ 7 := by have h1 : q.kind = p.kind := hok.leaf.kind; omega
      obtain ⟨cM, cat, Sc, hcat, hsim⟩ := HS.out.2.1
      obtain ⟨pk, pp, da, dn, dc, pv, psq, pse, fa, fn, fc⟩ := q
      have hrw : ∀ W, Below wr.heap.size wr W → W.rangeAt g (off + k * 7) [.int .u8 pk, .string (bs pp), .slice da dn dc, .int .i64 pv, .bool psq, .bool pse, .slice fa fn fc] ∧ W.rangeAt w.heap.size 0 [.int .i64 s, .int .u32 sn] := fun W hb => ⟨range_kept (range_kept hrg hbr hgl) hb (Nat.lt_of_lt_of_le hgl hbr.size), range_kept (range_blk ((HS.out.2.2.2.block w.heap.size (lt_of_block HK9.out.2) (fun e => by have e : w.heap.size = b2 := e; have := HB2.out.2.2.2; omega)).trans HK9.out.2)) hb (by have := lt_of_block HK9.out.2; have := HS.out.2.2.2.size; omega)⟩
      have hdo := (Sc.below (Below.refl _ wr).drew).do_op (by have := HAT.out; have := HQN.out; omega) (hpi.below hbr.drew) ⟨s, sn⟩
      have hdoA : ∀ W, Below wr.heap.size wr W → Calls Tryz.prog 14 #[.pointer (some ⟨b2, 0, none⟩), .agg #[.int .u8 pk, .string (bs pp), .slice da dn dc, .int .i64 pv, .bool psq, .bool pse, .slice fa fn fc], .agg #[.int .i64 s, .int .u32 sn]] W (DoEnd W pR cM cat ⟨s, sn⟩ 0 ⟨p, []⟩) := fun W hb => (Sc.below hb).do_op (by have := HAT.out; have := HQN.out; omega) (hpi.below (hbr.trans (hb.mono hbr.size))) ⟨s, sn⟩
      have hrk := runR_at (root := pR) (at_ := at_ + 1) (who := ⟨s, sn⟩) (M := M) hp HS.out.2.2.1
      have hreps : RepsAt wr (fun j => j < w7.heap.size) pa (runR pR (at_ + 1) ⟨s, sn⟩ M ps) := by
        have h := HPD9.out
        rw [HRR.out] at h
        exact h.keptS HS.out.2.2.2 (fun j hj _ e => by have e : j = b2 := e; have := HB2.out.2.2.1; have hj : j < w7.heap.size := hj; omega)
      obtain ⟨g2, off2, ⟨e2, pz, ⟨za, zn, zc, ⟨yv, z2, z3, z4, z5, z6, z7, z8⟩⟩, ha, ln, hc⟩, hpa, hg2a, hg2l, hg2r, hrr⟩ := hreps k _ hrk
      subst hpa
      obtain ⟨s1_, s2_, s3_, s4_⟩ := hsim.ans (root := pR) (a := at_ + 1) (a' := cat + 1) (who := ⟨s, sn⟩) (o := p)
      have one := do_one (root := pR) (M := cM) (at_ := cat) (who := ⟨s, sn⟩) (o := ⟨p, []⟩) hp7
      have he2 : e2 = opE pR (runM pR (at_ + 1) ⟨s, sn⟩ M (ps.take k)) ⟨s, sn⟩ p := (show e2 = _ from hrr.e).trans (opR_e _ _ _ _ _)
      have hpz : pz = (opR pR cM (cat + 1) ⟨s, sn⟩ p).a.path := (show pz = _ from hrr.path).trans s2_
      have hln : ln = (opR pR cM (cat + 1) ⟨s, sn⟩ p).a.kids.length := (show ln = _ from hrr.kn).trans (by rw [s3_])
      have hE : doE pR cM cat ⟨s, sn⟩ 0 ⟨p, []⟩ = e2 := by rw [one.1, he2, hsim.opE]
      have hyv : (opR pR cM (cat + 1) ⟨s, sn⟩ p).a.node.num.ver = yv := by
        have h := (strip_eq s4_).2.1
        rw [← h]
        exact congrArg Nums.ver (show _ = Nums.mk yv z2 z3 z4 z5 z6 z7 z8 from hrr.node.num.symm)
      obtain ⟨A2, hA2⟩ : ∃ A2, A2 = (opR pR cM (cat + 1) ⟨s, sn⟩ p).a := ⟨_, rfl⟩
      obtain ⟨DD, hDD⟩ : ∃ DD, DD = (opR pR cM (cat + 1) ⟨s, sn⟩ p).a.node.data := ⟨_, rfl⟩
      have hzd : (opR pR (runM pR (at_ + 1) ⟨s, sn⟩ M (ps.take k)) (at_ + 1) ⟨s, sn⟩ p).a.node.data = DD := by rw [hDD]; exact (strip_eq s4_).1
      obtain ⟨KK, hKK⟩ : ∃ KK, KK = (opR pR cM (cat + 1) ⟨s, sn⟩ p).a.kids := ⟨_, rfl⟩
      have hzk : StrLo wr (fun j => j < w7.heap.size) ha KK := by
        have h := hrr.kids
        rw [s3_, ← hKK] at h
        exact h
      have hzb : zn = DD.length ∧ ByteSl wr (fun j => j < w7.heap.size) wr.heap.size za DD ∧ (za = none → DD = [] ∧ zc = 0) := by
        have h1 : zn = _ := hrr.node.len
        have h2 := hrr.node.data
        have h3 := hrr.node.nil
        rw [hzd] at h1 h2 h3
        exact ⟨h1, h2, h3⟩
      have HRW := Lib.hid hrw
      have HPR : Hid (∀ W, Below wr.heap.size wr W → W.drew.rangeAt g (off + k * 7) [.int .u8 pk, .string (bs pp), .slice da dn dc, .int .i64 pv, .bool psq, .bool pse, .slice fa fn fc] ∧ W.drew.rangeAt w.heap.size 0 [.int .i64 s, .int .u32 sn]) := Lib.hid (fun W hb => hrw W.drew hb.drew)
      have HDOA := Lib.hid hdoA
      have HSC := Lib.hid Sc
      have HSIM := Lib.hid hsim
      have HCAT := Lib.hid hcat
      have HPK := Lib.hid hp
      have HPK7 := Lib.hid hp7
      have HPI := Lib.hid hpi
      have HBWR := Lib.hid hbr
      have HGP := Lib.hid hgl
      have HBR : Hid (wr.heap[w7.heap.size]? = _) := Lib.hid ((HS.out.2.2.2.block w7.heap.size (lt_of_block HK9.out.1) (fun e => by have e : w7.heap.size = b2 := e; have := HB2.out.2.2.1; omega)).trans HK9.out.1)
      have HZR : Hid (wr.rangeAt g2 (off2 + k * 13) [.int .i64 e2, .string (bs pz), .slice za zn zc, .int .u32 yv, .int .u32 z2, .int .u32 z3, .int .i64 z4, .int .u32 z5, .int .u64 z6, .int .u64 z7, .int .u64 z8, .slice ha ln hc, .slice none 0 0] ∧ g2 < wr.heap.size) := Lib.hid ⟨hg2r, hg2l⟩
      have HTG : Hid (decide ((pn : Int) ≤ (k : Int)) = false) := Lib.hid (by
        have h1 := (List.getElem?_eq_some_iff.1 hrk).1
        have h2 := HV.out.2.2.2.1
        rw [HRR.out] at h2
        simp
        omega)
      have HTGn : Hid (decide (pn ≤ k) = false) := Lib.hid (by have := HTG.out; simp at this; simp; omega)
      have HLP : Hid (k < pn) := Lib.hid (by have := HTGn.out; simp at this; exact this)
      have HE2 := Lib.hid he2
      have HLT := Lib.hid hlt
      have HONE : Hid (doE pR cM cat ⟨s, sn⟩ 0 ⟨p, []⟩ = e2 ∧ doA pR cM cat ⟨s, sn⟩ 0 ⟨p, []⟩ = A2 ∧ doR pR cM cat ⟨s, sn⟩ 0 ⟨p, []⟩ = []) := Lib.hid ⟨hE, by rw [hA2]; exact one.2.2.1, one.2.2.2⟩
      have HA2 : Hid (A2.path = pz ∧ A2.kids.length = ln ∧ A2.node.num.ver = yv ∧ A2.node.data = DD ∧ A2.kids = KK ∧ A2.kids.length ≤ 1000) := Lib.hid ⟨by rw [hA2, hpz], by rw [hA2, hln], by rw [hA2, hyv], by rw [hA2, hDD], by rw [hA2, hKK], by
        have h1 := ans_kids pR cM (cat + 1) ⟨s, sn⟩ p
        have h2 := Sc.tr.fit.len
        rw [hA2]
        omega⟩
      have HZB := Lib.hid (And.intro hzb hzk)
      clear hrw hdoA Sc hsim hcat hp hp7 hpi hbr hgl hg2r hg2l hg2a he2 one hpz hln hyv hDD hKK hA2 hzb hzk hzd hrr s1_ s2_ s3_ s4_ hrk hreps hkd hgp hpath hok hq hrg hdo hE hk
      go_wp2_with fail
      go_cut [15] (fun v wc => PartBox wr e2 A2 v wc)
      case first =>
        refine wp_region_held_drew (S := fun w' => Below wr.heap.size wr w') (by kernel_rfl) (Below.refl _ wr).drew (fun hS => ?_)
        generalize wr.drew = wd at hS ⊢
        refine took_in 0 rfl (by kernel_rfl) (by kernel_rfl) (by kernel_rfl) (by rfl) hS (fun w' hS' => by go_simp <;> rfl) (fun _ _ _ h => h) ?_
        simp only [Act.put, List.setIfInBounds_toArray, List.set_cons_zero, List.set_cons_succ]
        refine took_in 1 rfl (by kernel_rfl) (by kernel_rfl) (by kernel_rfl) (by rfl) hS (fun w' hS' => by go_simp <;> rfl) (fun _ _ _ h => h) ?_
        simp only [Act.put, List.setIfInBounds_toArray, List.set_cons_zero, List.set_cons_succ]
        refine took_in 2 rfl (by kernel_rfl) (by kernel_rfl) (by kernel_rfl) (by rfl) hS (fun w' hS' => by go_simp <;> rfl) (fun _ _ _ h => h) ?_
        simp only [Act.put, List.setIfInBounds_toArray, List.set_cons_zero, List.set_cons_succ]
        refine took_in 3 rfl (by kernel_rfl) (by kernel_rfl) (by kernel_rfl) (by rfl) hS (fun w' hS' => by go_simp <;> rfl) (fun _ _ _ h => h) ?_
        simp only [Act.put, List.setIfInBounds_toArray, List.set_cons_zero, List.set_cons_succ]
        refine took_load 4 rfl (by kernel_rfl) (by kernel_rfl) (by kernel_rfl) (by rfl) hS 26 (.tmp 68) rfl g (off + k * 7) rfl [.int .u8 pk, .string (bs pp), .slice da dn dc, .int .i64 pv, .bool psq, .bool pse, .slice fa fn fc] _ (fun w' h => (HRW.out w' h).1) Tryz.underlying26 rfl HSO.out (fun _ _ _ h => h) ?_
        simp only [Act.put, List.setIfInBounds_toArray, List.set_cons_zero, List.set_cons_succ]
        refine took_load 5 rfl (by kernel_rfl) (by kernel_rfl) (by kernel_rfl) (by rfl) hS 29 (.tmp 5) rfl w.heap.size 0 rfl [.int .i64 s, .int .u32 sn] _ (fun w' h => (HRW.out w' h).2) Tryz.underlying29 rfl HSS.out (fun _ _ _ h => h) ?_
        simp only [Act.put, List.setIfInBounds_toArray, List.set_cons_zero, List.set_cons_succ]
        refine call_or 6 10 rfl rfl (by kernel_rfl) (by rfl) (by rfl) _ _ (by go_simp <;> first | rfl | exact ⟨rfl, rfl⟩) (.pointer (some ⟨wd.heap.size, 0, none⟩)) (wd.alloc (.cells #[.int .i64 0, .string ⟨#[]⟩, .slice none 0 0, .int .u32 0, .int .u32 0, .int .u32 0, .int .i64 0, .int .u32 0, .int .u64 0, .int .u64 0, .int .u64 0, .slice none 0 0, .slice none 0 0] 43)) (by go_simp <;> first | rfl | exact ⟨rfl, rfl⟩) ?_ (hS.alloc hS.size _) ?_
        · refine (HDOA.out _ hS).mono ?_
          rintro e wy ⟨u1, u2, rfl, _, ⟨⟨ya, yn, yc, ⟨v1_, y2, y3, y4, y5, y6, y7, y8⟩⟩, la, lc, ma, mc, rfl, yrd, ykd, _⟩, bd⟩
          rw [HONE.out.2.1] at yrd ykd
          rw [HONE.out.1, HONE.out.2.1, HONE.out.2.2, HA2.out.1, HA2.out.2.1]
          unfold repCells Raw.cells Nums.cells
          dsimp only [List.cons_append, List.nil_append, List.length_nil]
          have by_ := hS.trans (bd.mono hS.size)
          refine ⟨by_, ?_⟩
          try dsimp only
          simp only [Act.put, List.setIfInBounds_toArray, List.set_cons_zero, List.set_cons_succ]
          refine took_in 7 rfl (by kernel_rfl) (by kernel_rfl) (by kernel_rfl) (by rfl) by_ (fun w' hS' => by go_simp <;> rfl) (fun _ _ _ h => h) ?_
          simp only [Act.put, List.setIfInBounds_toArray, List.set_cons_zero, List.set_cons_succ]
          refine took_in 8 rfl (by kernel_rfl) (by kernel_rfl) (by kernel_rfl) (by rfl) by_ (fun w' hS' => by go_simp <;> rfl) (fun _ _ _ h => h) ?_
          simp only [Act.put, List.setIfInBounds_toArray, List.set_cons_zero, List.set_cons_succ]
          refine took_in 9 rfl (by kernel_rfl) (by kernel_rfl) (by kernel_rfl) (by rfl) by_ (fun w' hS' => by go_simp <;> rfl) (fun _ _ _ h => h) ?_
          simp only [Act.put, List.setIfInBounds_toArray, List.set_cons_zero, List.set_cons_succ]
          have b4 := by_.alloc by_.size (.cells #[.int .i64 0, .string ⟨#[]⟩, .slice none 0 0, .int .u32 0, .int .u32 0, .int .u32 0, .int .i64 0, .int .u32 0, .int .u64 0, .int .u64 0, .int .u64 0, .slice none 0 0, .slice none 0 0] 43)
          refine give_in 10 rfl (by kernel_rfl) (by rfl) (.pointer (some ⟨wy.heap.size, 0, none⟩)) (wy.alloc (.cells #[.int .i64 0, .string ⟨#[]⟩, .slice none 0 0, .int .u32 0, .int .u32 0, .int .u32 0, .int .i64 0, .int .u32 0, .int .u64 0, .int .u64 0, .int .u64 0, .slice none 0 0, .slice none 0 0] 43)) (by go_simp <;> first | rfl | exact ⟨rfl, rfl⟩) b4 ?_
          simp only [Act.put, List.setIfInBounds_toArray, List.set_cons_zero, List.set_cons_succ]
          refine took_in 11 rfl (by kernel_rfl) (by kernel_rfl) (by kernel_rfl) (by rfl) b4 (fun w' hS' => by go_simp <;> rfl) (fun _ _ _ h => h) ?_
          simp only [Act.put, List.setIfInBounds_toArray, List.set_cons_zero, List.set_cons_succ]
          have yrd := (yrd.monoB (lo' := fun k => k < wy.heap.size) (fun _ _ h => h)).below (belowA (Below.refl _ wy) (.cells #[.int .i64 0, .string ⟨#[]⟩, .slice none 0 0, .int .u32 0, .int .u32 0, .int .u32 0, .int .i64 0, .int .u32 0, .int .u64 0, .int .u64 0, .int .u64 0, .slice none 0 0, .slice none 0 0] 43))
          have ykd := (ykd.mono (lo' := fun k => k < wy.heap.size) (fun _ _ h => h)).below (belowA (Below.refl _ wy) (.cells #[.int .i64 0, .string ⟨#[]⟩, .slice none 0 0, .int .u32 0, .int .u32 0, .int .u32 0, .int .i64 0, .int .u32 0, .int .u64 0, .int .u64 0, .int .u64 0, .slice none 0 0, .slice none 0 0] 43))
          have hpb := part_box (e2 := e2) (A := A2) (y := ⟨ya, yn, yc, ⟨v1_, y2, y3, y4, y5, y6, y7, y8⟩⟩) (la := la) (lc := lc) (ma := ma) (mc := mc) b4 by_.size (heap_alloc_new wy _) rfl yrd ykd (fun k h _ => Nat.ne_of_lt h)
          unfold repCells Raw.cells Nums.cells at hpb
          dsimp only [List.cons_append, List.nil_append] at hpb
          rw [HA2.out.1, HA2.out.2.1] at hpb
          obtain ⟨w9b, hw9b⟩ : ∃ w9b, w9b = World.setCells (wy.alloc (.cells #[.int .i64 0, .string ⟨#[]⟩, .slice none 0 0, .int .u32 0, .int .u32 0, .int .u32 0, .int .i64 0, .int .u32 0, .int .u64 0, .int .u64 0, .int .u64 0, .slice none 0 0, .slice none 0 0] 43)) wy.heap.size 0 [.int .i64 e2, .string (bs pz), .slice ya yn yc, .int .u32 v1_, .int .u32 y2, .int .u32 y3, .int .i64 y4, .int .u32 y5, .int .u64 y6, .int .u64 y7, .int .u64 y8, .slice la ln lc, .slice ma 0 mc] := ⟨_, rfl⟩
          rw [← hw9b] at hpb
          have hS9 : Below wr.heap.size wr w9b := hpb.choose_spec.choose_spec.choose_spec.choose_spec.choose_spec.choose_spec.2.2.1
          have HONR : Hid ((#[.int .i64 e2, .string (bs pz), .slice ya yn yc, .int .u32 v1_, .int .u32 y2, .int .u32 y3, .int .i64 y4, .int .u32 y5, .int .u64 y6, .int .u64 y7, .int .u64 y8, .slice la ln lc, .slice ma 0 mc] : Array Value).all (·.oneCell') = true) := Lib.hid (by simp [Value.oneCell'])
          refine store_in 12 rfl (by kernel_rfl) (by rfl) 43 (.tmp 15) (.tmp 73) rfl wy.heap.size 0 #[.int .i64 e2, .string (bs pz), .slice ya yn yc, .int .u32 v1_, .int .u32 y2, .int .u32 y3, .int .i64 y4, .int .u32 y5, .int .u64 y6, .int .u64 y7, .int .u64 y8, .slice la ln lc, .slice ma 0 mc] rfl rfl (there_of (heap_alloc_new wy _) (by simp)) HSR.out HONR.out (by rw [← hw9b]; exact hS9) ?_
          simp only [Act.put, List.setIfInBounds_toArray, List.set_cons_zero, List.set_cons_succ]
          rw [← hw9b]
          refine wpAnyH_done (by kernel_rfl) ?_ _
          go_wp2_with fail
          go_meet
          case rel => exact hpb
        · skip
          simp only [Act.put, List.setIfInBounds_toArray, List.set_cons_zero, List.set_cons_succ]
          refine call_in 6 rfl (by kernel_rfl) (by rfl) _ _ (by go_simp <;> first | rfl | exact ⟨rfl, rfl⟩) ?_
          have b2_ := hS.alloc hS.size (.cells #[.int .i64 0, .string ⟨#[]⟩, .slice none 0 0, .int .u32 0, .int .u32 0, .int .u32 0, .int .i64 0, .int .u32 0, .int .u64 0, .int .u64 0, .int .u64 0, .slice none 0 0, .slice none 0 0] 43)
          refine (HDOA.out _ b2_).mono ?_
          rintro e wy ⟨u1, u2, rfl, _, ⟨⟨ya, yn, yc, ⟨v1_, y2, y3, y4, y5, y6, y7, y8⟩⟩, la, lc, ma, mc, rfl, yrd, ykd, _⟩, bd⟩
          rw [HONE.out.2.1] at yrd ykd
          rw [HONE.out.1, HONE.out.2.1, HONE.out.2.2, HA2.out.1, HA2.out.2.1]
          unfold repCells Raw.cells Nums.cells
          dsimp only [List.cons_append, List.nil_append, List.length_nil]
          have by_ := b2_.trans (bd.mono b2_.size)
          refine ⟨by_, ?_⟩
          try dsimp only
          simp only [Act.put, List.setIfInBounds_toArray, List.set_cons_zero, List.set_cons_succ]
          refine took_in 7 rfl (by kernel_rfl) (by kernel_rfl) (by kernel_rfl) (by rfl) by_ (fun w' hS' => by go_simp <;> rfl) (fun _ _ _ h => h) ?_
          simp only [Act.put, List.setIfInBounds_toArray, List.set_cons_zero, List.set_cons_succ]
          refine took_in 8 rfl (by kernel_rfl) (by kernel_rfl) (by kernel_rfl) (by rfl) by_ (fun w' hS' => by go_simp <;> rfl) (fun _ _ _ h => h) ?_
          simp only [Act.put, List.setIfInBounds_toArray, List.set_cons_zero, List.set_cons_succ]
          refine took_in 9 rfl (by kernel_rfl) (by kernel_rfl) (by kernel_rfl) (by rfl) by_ (fun w' hS' => by go_simp <;> rfl) (fun _ _ _ h => h) ?_
          simp only [Act.put, List.setIfInBounds_toArray, List.set_cons_zero, List.set_cons_succ]
          refine took_in 11 rfl (by kernel_rfl) (by kernel_rfl) (by kernel_rfl) (by rfl) by_ (fun w' hS' => by go_simp <;> rfl) (fun _ _ _ h => h) ?_
          simp only [Act.put, List.setIfInBounds_toArray, List.set_cons_zero, List.set_cons_succ]
          have hpb := part_box (e2 := e2) (A := A2) (y := ⟨ya, yn, yc, ⟨v1_, y2, y3, y4, y5, y6, y7, y8⟩⟩) (la := la) (lc := lc) (ma := ma) (mc := mc) by_ hS.size ((bd.block _ (by simp)).trans (heap_alloc_new wd _)) rfl yrd ykd (fun k h _ e => by have h : (wd.alloc (.cells #[.int .i64 0, .string ⟨#[]⟩, .slice none 0 0, .int .u32 0, .int .u32 0, .int .u32 0, .int .i64 0, .int .u32 0, .int .u64 0, .int .u64 0, .int .u64 0, .slice none 0 0, .slice none 0 0] 43)).heap.size ≤ k := h; rw [World.size_alloc] at h; omega)
          unfold repCells Raw.cells Nums.cells at hpb
          dsimp only [List.cons_append, List.nil_append] at hpb
          rw [HA2.out.1, HA2.out.2.1] at hpb
          obtain ⟨w9b, hw9b⟩ : ∃ w9b, w9b = World.setCells wy wd.heap.size 0 [.int .i64 e2, .string (bs pz), .slice ya yn yc, .int .u32 v1_, .int .u32 y2, .int .u32 y3, .int .i64 y4, .int .u32 y5, .int .u64 y6, .int .u64 y7, .int .u64 y8, .slice la ln lc, .slice ma 0 mc] := ⟨_, rfl⟩
          rw [← hw9b] at hpb
          have hS9 : Below wr.heap.size wr w9b := hpb.choose_spec.choose_spec.choose_spec.choose_spec.choose_spec.choose_spec.2.2.1
          have HONR : Hid ((#[.int .i64 e2, .string (bs pz), .slice ya yn yc, .int .u32 v1_, .int .u32 y2, .int .u32 y3, .int .i64 y4, .int .u32 y5, .int .u64 y6, .int .u64 y7, .int .u64 y8, .slice la ln lc, .slice ma 0 mc] : Array Value).all (·.oneCell') = true) := Lib.hid (by simp [Value.oneCell'])
          refine store_in 12 rfl (by kernel_rfl) (by rfl) 43 (.tmp 15) (.tmp 73) rfl wd.heap.size 0 #[.int .i64 e2, .string (bs pz), .slice ya yn yc, .int .u32 v1_, .int .u32 y2, .int .u32 y3, .int .i64 y4, .int .u32 y5, .int .u64 y6, .int .u64 y7, .int .u64 y8, .slice la ln lc, .slice ma 0 mc] rfl rfl (there_of ((bd.block _ (by simp)).trans (heap_alloc_new wd _)) (by simp)) HSR.out HONR.out (by rw [← hw9b]; exact hS9) ?_
          simp only [Act.put, List.setIfInBounds_toArray, List.set_cons_zero, List.set_cons_succ]
          rw [← hw9b]
          refine wpAnyH_done (by kernel_rfl) ?_ _
          go_wp2_with fail
          go_meet
          case rel => exact hpb
      case rest =>
      obtain ⟨Bx, ⟨ya, yn, yc, ⟨v1_, y2, y3, y4, y5, y6, y7, y8⟩⟩, la, lc, ma, mc, rfl, hBx, bx, kx, yrd, ykd⟩ := hcut
      obtain ⟨W, hWW⟩ : ∃ W, W = wc := ⟨_, rfl⟩
      subst hWW
      unfold repCells Raw.cells Nums.cells at kx
      dsimp only [List.cons_append, List.nil_append] at kx
      rw [HA2.out.1, HA2.out.2.1] at kx
      obtain rfl : yv = v1_ := by
        rw [← HA2.out.2.2.1]
        exact congrArg Nums.ver (show A2.node.num = Nums.mk v1_ y2 y3 y4 y5 y6 y7 y8 from yrd.num.symm)
      have HCV : Hid ((yn = DD.length ∧ ByteSl W (fun _ => True) W.heap.size ya DD ∧ (ya = none → DD = [] ∧ yc = 0)) ∧ (zn = DD.length ∧ ByteSl wr (fun j => j < w7.heap.size) wr.heap.size za DD ∧ (za = none → DD = [] ∧ zc = 0))) := Lib.hid ⟨by
        have h1 : yn = _ := yrd.len
        have h2 := yrd.data
        have h3 := yrd.nil
        rw [HA2.out.2.2.2.1] at h1 h2 h3
        exact ⟨h1, h2, h3⟩, HZB.out.1⟩
      have hkids : ∀ w', Below W.heap.size W w' → Calls Tryz.prog 24 #[.slice la ln lc, .slice ha ln hc] w' fun e w'' => e = .returned (.bool true) ∧ Below W.heap.size W w'' := fun w' h => by
        have h1 := ykd
        have h2 := HA2.out.2.2.2.2.2
        rw [HA2.out.2.2.2.2.1] at h1 h2
        have h3 : KK.length = ln := by rw [← HA2.out.2.2.2.2.1, HA2.out.2.1]
        rw [← h3]
        exact (refTexts_same h2 ((h1.below h).sl) ((HZB.out.2.below (bx.trans (h.mono bx.size))).sl)).mono fun e w'' ⟨g1, g2⟩ => ⟨g1, h.trans (g2.mono h.size)⟩
      clear yrd ykd hBx
      have HW := Lib.hid (And.intro kx bx)
      have Sc7 := HSC.out.below bx
      have St7 := HS.out.1.below bx
      have hB7 := (bx.block w7.heap.size (lt_of_block HBR.out)).trans HBR.out
      have n2 : ∀ w', Below W.heap.size W w' → w'.rangeAt g2 (off2 + k * 13) [.int .i64 e2, .string (bs pz), .slice za zn zc, .int .u32 yv, .int .u32 z2, .int .u32 z3, .int .i64 z4, .int .u32 z5, .int .u64 z6, .int .u64 z7, .int .u64 z8, .slice ha ln hc, .slice none 0 0] := fun w' h => range_kept (range_kept HZR.out.1 bx HZR.out.2) h (Nat.lt_of_lt_of_le HZR.out.2 bx.size)
      have fB12 : ∀ w', Below W.heap.size W w' → w'.cell? ⟨w7.heap.size, 12, none⟩ = some (.slice (some ⟨g2, off2, none⟩) pn pc) := fun w' h => (h.cell (p := ⟨w7.heap.size, 12, none⟩) (lt_of_block hB7)).trans (cell_of_row _ _ 12 _ 43 (0, 0) hB7)
      have fx0 : ∀ w', Below W.heap.size W w' → w'.cell? ⟨Bx, 0, none⟩ = some (.int .i64 e2) := fun w' h => (h.cell (p := ⟨Bx, 0, none⟩) (lt_of_block kx)).trans (cell_of_row _ _ 0 _ 43 (0, 0) kx)
      have fx1 : ∀ w', Below W.heap.size W w' → w'.cell? ⟨Bx, 1, none⟩ = some (.string (bs pz)) := fun w' h => (h.cell (p := ⟨Bx, 1, none⟩) (lt_of_block kx)).trans (cell_of_row _ _ 1 _ 43 (0, 0) kx)
      have fx2 : ∀ w', Below W.heap.size W w' → w'.cell? ⟨Bx, 2, none⟩ = some (.slice ya yn yc) := fun w' h => (h.cell (p := ⟨Bx, 2, none⟩) (lt_of_block kx)).trans (cell_of_row _ _ 2 _ 43 (0, 0) kx)
      have fx3 : ∀ w', Below W.heap.size W w' → w'.cell? ⟨Bx, 3, none⟩ = some (.int .u32 yv) := fun w' h => (h.cell (p := ⟨Bx, 3, none⟩) (lt_of_block kx)).trans (cell_of_row _ _ 3 _ 43 (0, 0) kx)
      have fx11 : ∀ w', Below W.heap.size W w' → w'.cell? ⟨Bx, 11, none⟩ = some (.slice la ln lc) := fun w' h => (h.cell (p := ⟨Bx, 11, none⟩) (lt_of_block kx)).trans (cell_of_row _ _ 11 _ 43 (0, 0) kx)
      have fr0 : ∀ w', Below W.heap.size W w' → w'.cell? ⟨g2, off2 + k * 13, none⟩ = some (.int .i64 e2) := fun w' h => n2 w' h 0 _ rfl
      have fr1 : ∀ w', Below W.heap.size W w' → w'.cell? ⟨g2, off2 + k * 13 + 1, none⟩ = some (.string (bs pz)) := fun w' h => n2 w' h 1 _ rfl
      have fr2 : ∀ w', Below W.heap.size W w' → w'.cell? ⟨g2, off2 + k * 13 + 2, none⟩ = some (.slice za zn zc) := fun w' h => n2 w' h 2 _ rfl
      have fr3 : ∀ w', Below W.heap.size W w' → w'.cell? ⟨g2, off2 + k * 13 + 2 + 1, none⟩ = some (.int .u32 yv) := fun w' h => n2 w' h 3 _ rfl
      have fr11 : ∀ w', Below W.heap.size W w' → w'.cell? ⟨g2, off2 + k * 13 + 11, none⟩ = some (.slice ha ln hc) := fun w' h => n2 w' h 11 _ rfl
      have cv1 : ∀ w', Below W.heap.size W w' → (convert 23 9 (.slice ya yn yc)).run Tryz.prog w' = .ok (.string (bs DD)) w' := fun w' h => conv_len HCV.out.1.1 (HCV.out.1.2.1.below h) HCV.out.1.2.2
      have cv2 : ∀ w', Below W.heap.size W w' → (convert 23 9 (.slice za zn zc)).run Tryz.prog w' = .ok (.string (bs DD)) w' := fun w' h => conv_len HCV.out.2.1 (HCV.out.2.2.1.below (bx.trans (h.mono bx.size))) HCV.out.2.2.2
      have te : ∀ w', Below W.heap.size W w' → (e2 != e2) = false := fun _ _ => by simp
      have tp : ∀ w', Below W.heap.size W w' → ((bs pz).toList != (bs pz).toList) = false := fun _ _ => by simp
      have td : ∀ w', Below W.heap.size W w' → ((bs DD).toList != (bs DD).toList) = false := fun _ _ => by simp
      have tv : ∀ w', Below W.heap.size W w' → (yv != yv) = false := fun _ _ => by simp
      have tg : ∀ w', Below W.heap.size W w' → decide (pn ≤ k) = false := fun _ _ => HTGn.out
      have ti : ∀ w', Below W.heap.size W w' → k < pn := fun _ _ => HLP.out
      have HTX := Lib.hid (fun (w' : World) (h : Below W.heap.size W w') => hkids w' h)
      clear hkids hB7
      go_wp2_with fail
      refine wp_region_held_drew (S := fun w' => Below W.heap.size W w') (by kernel_rfl) (Below.refl _ W).drew (fun hS => ?_)
      refine took_in 0 rfl (by kernel_rfl) (by kernel_rfl) (by kernel_rfl) (by rfl) hS (fun w' hS' => by go_simp <;> rfl) (fun _ _ _ h => h) ?_
      simp only [Act.put, List.setIfInBounds_toArray, List.set_cons_zero, List.set_cons_succ]
      refine took_in 1 rfl (by kernel_rfl) (by kernel_rfl) (by kernel_rfl) (by rfl) hS (fun w' hS' => by go_simp <;> rfl) (fun _ _ _ h => h) ?_
      simp only [Act.put, List.setIfInBounds_toArray, List.set_cons_zero, List.set_cons_succ]
      refine took_in 2 rfl (by kernel_rfl) (by kernel_rfl) (by kernel_rfl) (by rfl) hS (fun w' hS' => by have := fB12 w' hS'; go_simp <;> rfl) (fun _ _ _ h => h) ?_
      simp only [Act.put, List.setIfInBounds_toArray, List.set_cons_zero, List.set_cons_succ]
      refine took_in 3 rfl (by kernel_rfl) (by kernel_rfl) (by kernel_rfl) (by rfl) hS (fun w' hS' => by go_simp <;> rfl) (fun _ _ _ h => h) ?_
      simp only [Act.put, List.setIfInBounds_toArray, List.set_cons_zero, List.set_cons_succ]
      refine took_in 4 rfl (by kernel_rfl) (by kernel_rfl) (by kernel_rfl) (by rfl) hS (fun w' hS' => by have := tg w' hS'; go_simp <;> rfl) (fun _ _ _ h => h) ?_
      simp only [Act.put, List.setIfInBounds_toArray, List.set_cons_zero, List.set_cons_succ]
      refine took_in 5 rfl (by kernel_rfl) (by kernel_rfl) (by kernel_rfl) (by rfl) hS (fun w' hS' => by go_simp <;> rfl) (fun _ _ _ h => h) ?_
      simp only [Act.put, List.setIfInBounds_toArray, List.set_cons_zero, List.set_cons_succ]
      refine took_in 6 rfl (by kernel_rfl) (by kernel_rfl) (by kernel_rfl) (by rfl) hS (fun w' hS' => by go_simp <;> rfl) (fun _ _ _ h => h) ?_
      simp only [Act.put, List.setIfInBounds_toArray, List.set_cons_zero, List.set_cons_succ]
      refine took_in 7 rfl (by kernel_rfl) (by kernel_rfl) (by kernel_rfl) (by rfl) hS (fun w' hS' => by have := fx0 w' hS'; go_simp <;> rfl) (fun _ _ _ h => h) ?_
      simp only [Act.put, List.setIfInBounds_toArray, List.set_cons_zero, List.set_cons_succ]
      refine took_in 8 rfl (by kernel_rfl) (by kernel_rfl) (by kernel_rfl) (by rfl) hS (fun w' hS' => by go_simp <;> rfl) (fun _ _ _ h => h) ?_
      simp only [Act.put, List.setIfInBounds_toArray, List.set_cons_zero, List.set_cons_succ]
      refine took_in 9 rfl (by kernel_rfl) (by kernel_rfl) (by kernel_rfl) (by rfl) hS (fun w' hS' => by have := fB12 w' hS'; go_simp <;> rfl) (fun _ _ _ h => h) ?_
      simp only [Act.put, List.setIfInBounds_toArray, List.set_cons_zero, List.set_cons_succ]
      refine took_in 10 rfl (by kernel_rfl) (by kernel_rfl) (by kernel_rfl) (by rfl) hS (fun w' hS' => by go_simp <;> rfl) (fun _ _ _ h => h) ?_
      simp only [Act.put, List.setIfInBounds_toArray, List.set_cons_zero, List.set_cons_succ]
      refine took_in 11 rfl (by kernel_rfl) (by kernel_rfl) (by kernel_rfl) (by rfl) hS (fun w' hS' => by have := ti w' hS'; go_simp <;> rfl) (fun _ _ _ h => h) ?_
      simp only [Act.put, List.setIfInBounds_toArray, List.set_cons_zero, List.set_cons_succ]
      refine took_in 12 rfl (by kernel_rfl) (by kernel_rfl) (by kernel_rfl) (by rfl) hS (fun w' hS' => by go_simp <;> rfl) (fun _ _ _ h => h) ?_
      simp only [Act.put, List.setIfInBounds_toArray, List.set_cons_zero, List.set_cons_succ]
      refine took_in 13 rfl (by kernel_rfl) (by kernel_rfl) (by kernel_rfl) (by rfl) hS (fun w' hS' => by have := fr0 w' hS'; go_simp <;> rfl) (fun _ _ _ h => h) ?_
      simp only [Act.put, List.setIfInBounds_toArray, List.set_cons_zero, List.set_cons_succ]
      refine took_in 14 rfl (by kernel_rfl) (by kernel_rfl) (by kernel_rfl) (by rfl) hS (fun w' hS' => by have := te w' hS'; go_simp <;> rfl) (fun _ _ _ h => h) ?_
      simp only [Act.put, List.setIfInBounds_toArray, List.set_cons_zero, List.set_cons_succ]
      refine took_in 15 rfl (by kernel_rfl) (by kernel_rfl) (by kernel_rfl) (by rfl) hS (fun w' hS' => by go_simp <;> rfl) (fun _ _ _ h => h) ?_
      simp only [Act.put, List.setIfInBounds_toArray, List.set_cons_zero, List.set_cons_succ]
      refine took_in 16 rfl (by kernel_rfl) (by kernel_rfl) (by kernel_rfl) (by rfl) hS (fun w' hS' => by go_simp <;> rfl) (fun _ _ _ h => h) ?_
      simp only [Act.put, List.setIfInBounds_toArray, List.set_cons_zero, List.set_cons_succ]
      refine took_in 17 rfl (by kernel_rfl) (by kernel_rfl) (by kernel_rfl) (by rfl) hS (fun w' hS' => by go_simp <;> rfl) (fun _ _ _ h => h) ?_
      simp only [Act.put, List.setIfInBounds_toArray, List.set_cons_zero, List.set_cons_succ]
      refine took_in 18 rfl (by kernel_rfl) (by kernel_rfl) (by kernel_rfl) (by rfl) hS (fun w' hS' => by have := fx1 w' hS'; go_simp <;> rfl) (fun _ _ _ h => h) ?_
      simp only [Act.put, List.setIfInBounds_toArray, List.set_cons_zero, List.set_cons_succ]
      refine took_in 19 rfl (by kernel_rfl) (by kernel_rfl) (by kernel_rfl) (by rfl) hS (fun w' hS' => by go_simp <;> rfl) (fun _ _ _ h => h) ?_
      simp only [Act.put, List.setIfInBounds_toArray, List.set_cons_zero, List.set_cons_succ]
      refine took_in 20 rfl (by kernel_rfl) (by kernel_rfl) (by kernel_rfl) (by rfl) hS (fun w' hS' => by have := fB12 w' hS'; go_simp <;> rfl) (fun _ _ _ h => h) ?_
      simp only [Act.put, List.setIfInBounds_toArray, List.set_cons_zero, List.set_cons_succ]
      refine took_in 21 rfl (by kernel_rfl) (by kernel_rfl) (by kernel_rfl) (by rfl) hS (fun w' hS' => by go_simp <;> rfl) (fun _ _ _ h => h) ?_
      simp only [Act.put, List.setIfInBounds_toArray, List.set_cons_zero, List.set_cons_succ]
      refine took_in 22 rfl (by kernel_rfl) (by kernel_rfl) (by kernel_rfl) (by rfl) hS (fun w' hS' => by have := ti w' hS'; go_simp <;> rfl) (fun _ _ _ h => h) ?_
      simp only [Act.put, List.setIfInBounds_toArray, List.set_cons_zero, List.set_cons_succ]
      refine took_in 23 rfl (by kernel_rfl) (by kernel_rfl) (by kernel_rfl) (by rfl) hS (fun w' hS' => by go_simp <;> rfl) (fun _ _ _ h => h) ?_
      simp only [Act.put, List.setIfInBounds_toArray, List.set_cons_zero, List.set_cons_succ]
      refine took_in 24 rfl (by kernel_rfl) (by kernel_rfl) (by kernel_rfl) (by rfl) hS (fun w' hS' => by have := fr1 w' hS'; go_simp <;> rfl) (fun _ _ _ h => h) ?_
      simp only [Act.put, List.setIfInBounds_toArray, List.set_cons_zero, List.set_cons_succ]
      refine took_in 25 rfl (by kernel_rfl) (by kernel_rfl) (by kernel_rfl) (by rfl) hS (fun w' hS' => by have := tp w' hS'; go_simp <;> rfl) (fun _ _ _ h => h) ?_
      simp only [Act.put, List.setIfInBounds_toArray, List.set_cons_zero, List.set_cons_succ]
      refine took_in 26 rfl (by kernel_rfl) (by kernel_rfl) (by kernel_rfl) (by rfl) hS (fun w' hS' => by go_simp <;> rfl) (fun _ _ _ h => h) ?_
      simp only [Act.put, List.setIfInBounds_toArray, List.set_cons_zero, List.set_cons_succ]
      refine took_in 27 rfl (by kernel_rfl) (by kernel_rfl) (by kernel_rfl) (by rfl) hS (fun w' hS' => by go_simp <;> rfl) (fun _ _ _ h => h) ?_
      simp only [Act.put, List.setIfInBounds_toArray, List.set_cons_zero, List.set_cons_succ]
      refine took_in 28 rfl (by kernel_rfl) (by kernel_rfl) (by kernel_rfl) (by rfl) hS (fun w' hS' => by go_simp <;> rfl) (fun _ _ _ h => h) ?_
      simp only [Act.put, List.setIfInBounds_toArray, List.set_cons_zero, List.set_cons_succ]
      refine took_in 29 rfl (by kernel_rfl) (by kernel_rfl) (by kernel_rfl) (by rfl) hS (fun w' hS' => by have := fx11 w' hS'; go_simp <;> rfl) (fun _ _ _ h => h) ?_
      simp only [Act.put, List.setIfInBounds_toArray, List.set_cons_zero, List.set_cons_succ]
      refine took_in 30 rfl (by kernel_rfl) (by kernel_rfl) (by kernel_rfl) (by rfl) hS (fun w' hS' => by go_simp <;> rfl) (fun _ _ _ h => h) ?_
      simp only [Act.put, List.setIfInBounds_toArray, List.set_cons_zero, List.set_cons_succ]
      refine took_in 31 rfl (by kernel_rfl) (by kernel_rfl) (by kernel_rfl) (by rfl) hS (fun w' hS' => by have := fB12 w' hS'; go_simp <;> rfl) (fun _ _ _ h => h) ?_
      simp only [Act.put, List.setIfInBounds_toArray, List.set_cons_zero, List.set_cons_succ]
      refine took_in 32 rfl (by kernel_rfl) (by kernel_rfl) (by kernel_rfl) (by rfl) hS (fun w' hS' => by go_simp <;> rfl) (fun _ _ _ h => h) ?_
      simp only [Act.put, List.setIfInBounds_toArray, List.set_cons_zero, List.set_cons_succ]
      refine took_in 33 rfl (by kernel_rfl) (by kernel_rfl) (by kernel_rfl) (by rfl) hS (fun w' hS' => by have := ti w' hS'; go_simp <;> rfl) (fun _ _ _ h => h) ?_
      simp only [Act.put, List.setIfInBounds_toArray, List.set_cons_zero, List.set_cons_succ]
      refine took_in 34 rfl (by kernel_rfl) (by kernel_rfl) (by kernel_rfl) (by rfl) hS (fun w' hS' => by go_simp <;> rfl) (fun _ _ _ h => h) ?_
      simp only [Act.put, List.setIfInBounds_toArray, List.set_cons_zero, List.set_cons_succ]
      refine took_in 35 rfl (by kernel_rfl) (by kernel_rfl) (by kernel_rfl) (by rfl) hS (fun w' hS' => by have := fr11 w' hS'; go_simp <;> rfl) (fun _ _ _ h => h) ?_
      simp only [Act.put, List.setIfInBounds_toArray, List.set_cons_zero, List.set_cons_succ]
      refine call_in 36 rfl (by kernel_rfl) (by rfl) _ _ (by go_simp <;> first | rfl | exact ⟨rfl, rfl⟩) ?_
      refine (HTX.out _ hS).mono ?_
      rintro e wt ⟨rfl, ct⟩
      refine ⟨ct, ?_⟩
      try dsimp only
      simp only [Act.put, List.setIfInBounds_toArray, List.set_cons_zero, List.set_cons_succ]
      refine took_in 37 rfl (by kernel_rfl) (by kernel_rfl) (by kernel_rfl) (by rfl) ct (fun w' hS' => by go_simp <;> rfl) (fun _ _ _ h => h) ?_
      simp only [Act.put, List.setIfInBounds_toArray, List.set_cons_zero, List.set_cons_succ]
      refine took_in 38 rfl (by kernel_rfl) (by kernel_rfl) (by kernel_rfl) (by rfl) ct (fun w' hS' => by go_simp <;> rfl) (fun _ _ _ h => h) ?_
      simp only [Act.put, List.setIfInBounds_toArray, List.set_cons_zero, List.set_cons_succ]
      refine took_in 39 rfl (by kernel_rfl) (by kernel_rfl) (by kernel_rfl) (by rfl) ct (fun w' hS' => by go_simp <;> rfl) (fun _ _ _ h => h) ?_
      simp only [Act.put, List.setIfInBounds_toArray, List.set_cons_zero, List.set_cons_succ]
      refine took_in 40 rfl (by kernel_rfl) (by kernel_rfl) (by kernel_rfl) (by rfl) ct (fun w' hS' => by go_simp <;> rfl) (fun _ _ _ h => h) ?_
      simp only [Act.put, List.setIfInBounds_toArray, List.set_cons_zero, List.set_cons_succ]
      refine took_in 41 rfl (by kernel_rfl) (by kernel_rfl) (by kernel_rfl) (by rfl) ct (fun w' hS' => by go_simp <;> rfl) (fun _ _ _ h => h) ?_
      simp only [Act.put, List.setIfInBounds_toArray, List.set_cons_zero, List.set_cons_succ]
      refine took_in 42 rfl (by kernel_rfl) (by kernel_rfl) (by kernel_rfl) (by rfl) ct (fun w' hS' => by have := fx2 w' hS'; go_simp <;> rfl) (fun _ _ _ h => h) ?_
      simp only [Act.put, List.setIfInBounds_toArray, List.set_cons_zero, List.set_cons_succ]
      refine took_in 43 rfl (by kernel_rfl) (by kernel_rfl) (by kernel_rfl) (by rfl) ct (fun w' hS' => by have := cv1 w' hS'; go_simp <;> rfl) (fun _ _ _ h => h) ?_
      simp only [Act.put, List.setIfInBounds_toArray, List.set_cons_zero, List.set_cons_succ]
      refine took_in 44 rfl (by kernel_rfl) (by kernel_rfl) (by kernel_rfl) (by rfl) ct (fun w' hS' => by go_simp <;> rfl) (fun _ _ _ h => h) ?_
      simp only [Act.put, List.setIfInBounds_toArray, List.set_cons_zero, List.set_cons_succ]
      refine took_in 45 rfl (by kernel_rfl) (by kernel_rfl) (by kernel_rfl) (by rfl) ct (fun w' hS' => by have := fB12 w' hS'; go_simp <;> rfl) (fun _ _ _ h => h) ?_
      simp only [Act.put, List.setIfInBounds_toArray, List.set_cons_zero, List.set_cons_succ]
      refine took_in 46 rfl (by kernel_rfl) (by kernel_rfl) (by kernel_rfl) (by rfl) ct (fun w' hS' => by go_simp <;> rfl) (fun _ _ _ h => h) ?_
      simp only [Act.put, List.setIfInBounds_toArray, List.set_cons_zero, List.set_cons_succ]
      refine took_in 47 rfl (by kernel_rfl) (by kernel_rfl) (by kernel_rfl) (by rfl) ct (fun w' hS' => by have := ti w' hS'; go_simp <;> rfl) (fun _ _ _ h => h) ?_
      simp only [Act.put, List.setIfInBounds_toArray, List.set_cons_zero, List.set_cons_succ]
      refine took_in 48 rfl (by kernel_rfl) (by kernel_rfl) (by kernel_rfl) (by rfl) ct (fun w' hS' => by go_simp <;> rfl) (fun _ _ _ h => h) ?_
      simp only [Act.put, List.setIfInBounds_toArray, List.set_cons_zero, List.set_cons_succ]
      refine took_in 49 rfl (by kernel_rfl) (by kernel_rfl) (by kernel_rfl) (by rfl) ct (fun w' hS' => by go_simp <;> rfl) (fun _ _ _ h => h) ?_
      simp only [Act.put, List.setIfInBounds_toArray, List.set_cons_zero, List.set_cons_succ]
      refine took_in 50 rfl (by kernel_rfl) (by kernel_rfl) (by kernel_rfl) (by rfl) ct (fun w' hS' => by have := fr2 w' hS'; go_simp <;> rfl) (fun _ _ _ h => h) ?_
      simp only [Act.put, List.setIfInBounds_toArray, List.set_cons_zero, List.set_cons_succ]
      refine took_in 51 rfl (by kernel_rfl) (by kernel_rfl) (by kernel_rfl) (by rfl) ct (fun w' hS' => by have := cv2 w' hS'; go_simp <;> rfl) (fun _ _ _ h => h) ?_
      simp only [Act.put, List.setIfInBounds_toArray, List.set_cons_zero, List.set_cons_succ]
      refine took_in 52 rfl (by kernel_rfl) (by kernel_rfl) (by kernel_rfl) (by rfl) ct (fun w' hS' => by have := td w' hS'; go_simp <;> rfl) (fun _ _ _ h => h) ?_
      simp only [Act.put, List.setIfInBounds_toArray, List.set_cons_zero, List.set_cons_succ]
      refine took_in 53 rfl (by kernel_rfl) (by kernel_rfl) (by kernel_rfl) (by rfl) ct (fun w' hS' => by go_simp <;> rfl) (fun _ _ _ h => h) ?_
      simp only [Act.put, List.setIfInBounds_toArray, List.set_cons_zero, List.set_cons_succ]
      refine took_in 54 rfl (by kernel_rfl) (by kernel_rfl) (by kernel_rfl) (by rfl) ct (fun w' hS' => by go_simp <;> rfl) (fun _ _ _ h => h) ?_
      simp only [Act.put, List.setIfInBounds_toArray, List.set_cons_zero, List.set_cons_succ]
      refine took_in 55 rfl (by kernel_rfl) (by kernel_rfl) (by kernel_rfl) (by rfl) ct (fun w' hS' => by go_simp <;> rfl) (fun _ _ _ h => h) ?_
      simp only [Act.put, List.setIfInBounds_toArray, List.set_cons_zero, List.set_cons_succ]
      refine took_in 56 rfl (by kernel_rfl) (by kernel_rfl) (by kernel_rfl) (by rfl) ct (fun w' hS' => by go_simp <;> rfl) (fun _ _ _ h => h) ?_
      simp only [Act.put, List.setIfInBounds_toArray, List.set_cons_zero, List.set_cons_succ]
      refine took_in 57 rfl (by kernel_rfl) (by kernel_rfl) (by kernel_rfl) (by rfl) ct (fun w' hS' => by have := fx3 w' hS'; go_simp <;> rfl) (fun _ _ _ h => h) ?_
      simp only [Act.put, List.setIfInBounds_toArray, List.set_cons_zero, List.set_cons_succ]
      refine took_in 58 rfl (by kernel_rfl) (by kernel_rfl) (by kernel_rfl) (by rfl) ct (fun w' hS' => by go_simp <;> rfl) (fun _ _ _ h => h) ?_
      simp only [Act.put, List.setIfInBounds_toArray, List.set_cons_zero, List.set_cons_succ]
      refine took_in 59 rfl (by kernel_rfl) (by kernel_rfl) (by kernel_rfl) (by rfl) ct (fun w' hS' => by have := fB12 w' hS'; go_simp <;> rfl) (fun _ _ _ h => h) ?_
      simp only [Act.put, List.setIfInBounds_toArray, List.set_cons_zero, List.set_cons_succ]
      refine took_in 60 rfl (by kernel_rfl) (by kernel_rfl) (by kernel_rfl) (by rfl) ct (fun w' hS' => by go_simp <;> rfl) (fun _ _ _ h => h) ?_
      simp only [Act.put, List.setIfInBounds_toArray, List.set_cons_zero, List.set_cons_succ]
      refine took_in 61 rfl (by kernel_rfl) (by kernel_rfl) (by kernel_rfl) (by rfl) ct (fun w' hS' => by have := ti w' hS'; go_simp <;> rfl) (fun _ _ _ h => h) ?_
      simp only [Act.put, List.setIfInBounds_toArray, List.set_cons_zero, List.set_cons_succ]
      refine took_in 62 rfl (by kernel_rfl) (by kernel_rfl) (by kernel_rfl) (by rfl) ct (fun w' hS' => by go_simp <;> rfl) (fun _ _ _ h => h) ?_
      simp only [Act.put, List.setIfInBounds_toArray, List.set_cons_zero, List.set_cons_succ]
      refine took_in 63 rfl (by kernel_rfl) (by kernel_rfl) (by kernel_rfl) (by rfl) ct (fun w' hS' => by go_simp <;> rfl) (fun _ _ _ h => h) ?_
      simp only [Act.put, List.setIfInBounds_toArray, List.set_cons_zero, List.set_cons_succ]
      refine took_in 64 rfl (by kernel_rfl) (by kernel_rfl) (by kernel_rfl) (by rfl) ct (fun w' hS' => by have := fr3 w' hS'; go_simp <;> rfl) (fun _ _ _ h => h) ?_
      simp only [Act.put, List.setIfInBounds_toArray, List.set_cons_zero, List.set_cons_succ]
      refine took_in 65 rfl (by kernel_rfl) (by kernel_rfl) (by kernel_rfl) (by rfl) ct (fun w' hS' => by have := tv w' hS'; go_simp <;> rfl) (fun _ _ _ h => h) ?_
      simp only [Act.put, List.setIfInBounds_toArray, List.set_cons_zero, List.set_cons_succ]
      refine took_in 66 rfl (by kernel_rfl) (by kernel_rfl) (by kernel_rfl) (by rfl) ct (fun w' hS' => by go_simp <;> rfl) (fun _ _ _ h => h) ?_
      simp only [Act.put, List.setIfInBounds_toArray, List.set_cons_zero, List.set_cons_succ]
      refine wpAnyH_done (by kernel_rfl) ?_ _
      have HT := Lib.hid (And.intro ct (And.intro bx kx))
      have zx : wt.cell? ⟨Bx, 0, none⟩ = some (.int .i64 e2) := fx0 _ ct
      have HSCt := Lib.hid (Sc7.below ct)
      have HSTt := Lib.hid (St7.below ct)
      have hB12 : wt.cell? ⟨w7.heap.size, 12, none⟩ = some (.slice (some ⟨g2, off2, none⟩) pn pc) := fB12 _ ct
      have hBR := (ct.block w7.heap.size (by have := lt_of_block HBR.out; have := bx.size; omega)).trans ((bx.block w7.heap.size (lt_of_block HBR.out)).trans HBR.out)
      have zb : wt.cell? ⟨w7.heap.size, 0, none⟩ = some (.int .i64 x) := cell_of_row _ _ 0 _ 43 (0, 0) hBR
      have hbrt : Below wr.heap.size wr wt := bx.trans (ct.mono bx.size)
      have HBT := Lib.hid hbrt
      have HBWt := Lib.hid (HBWR.out.trans (hbrt.mono HBWR.out.size))
      clear fB12 fx0 fx1 fx2 fx3 fx11 fr0 fr1 fr2 fr3 fr11 cv1 cv2 te tp td tv tg ti n2 hS ct Sc7 St7 hBR hbrt
      by_cases he : e2 = 0
      · have t0 : (e2 != 0) = false := by rw [he]; rfl
        have hE0 : opE pR (runM pR (at_ + 1) ⟨s, sn⟩ M (ps.take k)) ⟨s, sn⟩ p = 0 := by rw [← HE2.out, he]
        have hEc : opE pR cM ⟨s, sn⟩ p = 0 := by rw [← HSIM.out.opE]; exact hE0
        have hinr := HPI.out.below (HBWt.out.drew)
        have hdid := (HSCt.out.below (Below.refl _ wt).drew).did_op (by have := HCAT.out; have := HAT.out; have := HLT.out; have := HQN.out; omega) hinr ⟨s, sn⟩
        obtain ⟨r1_, r2_⟩ := HPR.out wt HBT.out
        unfold RawO.val RawO.cells whoV at hdid
        dsimp only at hdid
        have HDID := Lib.hid hdid
        have HR2 : Hid (wt.drew.rangeAt g (off + k * 7) [.int .u8 pk, .string (bs pp), .slice da dn dc, .int .i64 pv, .bool psq, .bool pse, .slice fa fn fc] ∧ wt.drew.rangeAt w.heap.size 0 [.int .i64 s, .int .u32 sn]) := Lib.hid ⟨r1_, r2_⟩
        have HE0 := Lib.hid (And.intro hE0 hEc)
        have hltk := HLT.out
        clear hdid hinr r1_ r2_ hE0 hEc he
        go_wp2_with fail
        refine wp_region_held_drew (S := fun w' => World.rangeAt w' g (off + k * 7) [.int .u8 pk, .string (bs pp), .slice da dn dc, .int .i64 pv, .bool psq, .bool pse, .slice fa fn fc] ∧ World.rangeAt w' w.heap.size 0 [.int .i64 s, .int .u32 sn]) (by kernel_rfl) HR2.out (fun hS => ?_)
        refine took_in 0 rfl (by kernel_rfl) (by kernel_rfl) (by kernel_rfl) (by rfl) hS (fun w' hS' => by go_simp <;> rfl) (fun _ _ _ h => h) ?_
        simp only [Act.put, List.setIfInBounds_toArray, List.set_cons_zero, List.set_cons_succ]
        refine took_in 1 rfl (by kernel_rfl) (by kernel_rfl) (by kernel_rfl) (by rfl) hS (fun w' hS' => by go_simp <;> rfl) (fun _ _ _ h => h) ?_
        simp only [Act.put, List.setIfInBounds_toArray, List.set_cons_zero, List.set_cons_succ]
        refine took_in 2 rfl (by kernel_rfl) (by kernel_rfl) (by kernel_rfl) (by rfl) hS (fun w' hS' => by go_simp <;> rfl) (fun _ _ _ h => h) ?_
        simp only [Act.put, List.setIfInBounds_toArray, List.set_cons_zero, List.set_cons_succ]
        refine took_in 3 rfl (by kernel_rfl) (by kernel_rfl) (by kernel_rfl) (by rfl) hS (fun w' hS' => by go_simp <;> rfl) (fun _ _ _ h => h) ?_
        simp only [Act.put, List.setIfInBounds_toArray, List.set_cons_zero, List.set_cons_succ]
        refine took_load 4 rfl (by kernel_rfl) (by kernel_rfl) (by kernel_rfl) (by rfl) hS 26 (.tmp 168) rfl g (off + k * 7) rfl [.int .u8 pk, .string (bs pp), .slice da dn dc, .int .i64 pv, .bool psq, .bool pse, .slice fa fn fc] _ (fun _ h => h.1) Tryz.underlying26 rfl HSO.out (fun _ _ _ h => h) ?_
        simp only [Act.put, List.setIfInBounds_toArray, List.set_cons_zero, List.set_cons_succ]
        refine took_load 5 rfl (by kernel_rfl) (by kernel_rfl) (by kernel_rfl) (by rfl) hS 29 (.tmp 5) rfl w.heap.size 0 rfl [.int .i64 s, .int .u32 sn] _ (fun _ h => h.2) Tryz.underlying29 rfl HSS.out (fun _ _ _ h => h) ?_
        simp only [Act.put, List.setIfInBounds_toArray, List.set_cons_zero, List.set_cons_succ]
        refine call_in 6 rfl (by kernel_rfl) (by rfl) _ _ (by go_simp <;> first | rfl | exact ⟨rfl, rfl⟩) ?_
        refine HDID.out.mono ?_
        rintro e wd Dd
        obtain ⟨⟨ud, rfl, _⟩, Sd, Kd⟩ := Dd
        have hgb : g ≠ b2 ∧ w.heap.size ≠ b2 := by have := HB2.out; have := HGP.out; omega
        have hSd : World.rangeAt wd g (off + k * 7) [.int .u8 pk, .string (bs pp), .slice da dn dc, .int .i64 pv, .bool psq, .bool pse, .slice fa fn fc] ∧ World.rangeAt wd w.heap.size 0 [.int .i64 s, .int .u32 sn] := ⟨fun j u hu => (Kd.cell (p := ⟨g, off + k * 7 + j, none⟩) (World.block_lt_of_cell? _ _ (hS.1 j u hu)) (fun e => hgb.1 e)).trans (hS.1 j u hu), fun j u hu => (Kd.cell (p := ⟨w.heap.size, 0 + j, none⟩) (World.block_lt_of_cell? _ _ (hS.2 j u hu)) (fun e => hgb.2 e)).trans (hS.2 j u hu)⟩
        have hMs : Hid (MuSt w4 w9 b b2 at_ M ⟨s, sn⟩ ps (k + 1) wd) := Lib.hid (by
          have ht := take_snoc_at HPK.out
          obtain ⟨q1, q2, _, _⟩ := run_snoc (root := pR) (at_ := at_ + 1) (who := ⟨s, sn⟩) p (ps.take k) M HS.out.2.2.1
          refine ⟨(HSTt.out.below (Below.refl _ wt).drew).other (HSCt.out.below (Below.refl _ wt).drew) HB2.out.1 Kd, ⟨_, _, Sd, ?_, ?_⟩, by rw [ht, q1]; exact HE0.out.1, HS.out.2.2.2.trans ((Kept.ofBelow (S := (· = b2)) HBT.out).trans ((Kept.refl _ wt).drew.trans Kd))⟩
          · have := HCAT.out
            split <;> omega
          · rw [ht, q2]
            have e1 := leaf_all (M := cM) (at_ := cat) (who := ⟨s, sn⟩) (v := ⟨p, []⟩) HSC.out.inv HPK7.out (by rw [(do_one (root := pR) (M := cM) (at_ := cat) (who := ⟨s, sn⟩) (o := ⟨p, []⟩) HPK7.out).1]; exact HE0.out.2)
            rw [e1.2.2.1]
            exact HSIM.out.op)
        clear Sd Kd hS
        refine ⟨hSd, ?_⟩
        clear hSd
        try dsimp only
        simp only [Act.put, List.setIfInBounds_toArray, List.set_cons_zero, List.set_cons_succ]
        refine wpAnyH_done (by kernel_rfl) ?_ _
        go_wp2_with fail
        go_roundw
        case rel => exact ⟨k + 1, by omega, by go_num, hMs⟩
        case measure => simp [intOf]; omega
      · have t0 : (e2 != 0) = true := by simpa using he
        have hbad := run_bad (root := pR) (at_ := at_ + 1) (who := ⟨s, sn⟩) HPK.out HS.out.2.2.1 (by rw [← HE2.out]; exact he)
        have hxe : x = e2 := by rw [HV.out.1, HRE.out, hbad.1, HE2.out]
        have hpnk : pn = k + 1 := by rw [HV.out.2.2.2.1, HRR.out]; exact hbad.2
        have hxz : xn = 0 := by rw [HV.out.2.2.2.2, doX_none (by rw [HRE.out, hbad.1, ← HE2.out]; exact he)]; rfl
        have v1 : (x == e2) = true := by rw [hxe]; simp
        have v2 : ((xn : Int) == 0) = true := by rw [hxz]; rfl
        have v3 : ((pn : Int) == (k : Int) + 1) = true := by rw [hpnk]; simp
        have v4 : ∀ _ : True, IntKind.i64.wrap ((k : Int) + 1) = (k : Int) + 1 := fun _ => IntWalk.i64_in _ (by have := HLT.out; have := HQN.out; omega)
        clear he hbad hxe hpnk hxz
        go_wp2_with fail
        refine (works_any _ HSTt.out.tr.max HSTt.out.pow).mono ?_
        rintro e wz ⟨rfl, BZ⟩
        have HZ := Lib.hid (HBWt.out.trans (BZ.mono HBWt.out.size))
        clear BZ
        go_wp2
        go_ret
        exact ⟨rfl, HZ.out⟩
    · obtain rfl : qn = k := by omega
      have tlt : decide ((qn : Int) < (qn : Int)) = false := by simp
      have htk : ps.take qn = ps := List.take_of_length_le (by rw [HPS.out.1, ← HM.out.2.2.2.2.2]; exact Nat.le_refl _)
      have hE : runE pR (at_ + 1) ⟨s, sn⟩ M ps = 0 := by
        have h := HS.out.2.2.1
        rw [htk] at h
        exact h
      have hx0 : x = 0 := by rw [HV.out.1, HRE.out, hE]
      have hpq : pn = qn := by rw [HV.out.2.2.2.1, HRR.out, runR_len _ _ hE, HPS.out.1, ← HM.out.2.2.2.2.2]
      obtain ⟨cM, cat, S2, _, hsm⟩ := HS.out.2.1
      rw [htk] at hsm
      have hbX : Below w.heap.size w wr := HB9.out.1.trans (HS.out.2.2.2.below HB9.out.1.size (fun j e => by have e : j = b2 := e; have := HB2.out.2.1; omega))
      have hb8 : Below w8.heap.size w8 wr := HB9.out.2.trans (HS.out.2.2.2.below HB9.out.2.size (fun j e => by
        have e : j = b2 := e
        have h1 := HB2.out.2.2.1
        have h2 : w8.heap.size = w7.heap.size + 1 := by rw [HW8.out, World.size_alloc]
        omega))
      have hBR : wr.heap[w7.heap.size]? = _ := (HS.out.2.2.2.block w7.heap.size (lt_of_block HK9.out.1) (fun e => by have e : w7.heap.size = b2 := e; have := HB2.out.2.2.1; omega)).trans HK9.out.1
      have z0 : wr.cell? ⟨w7.heap.size, 0, none⟩ = some (.int .i64 x) := cell_of_row _ _ 0 _ 43 (0, 0) hBR
      have z12 : wr.cell? ⟨w7.heap.size, 12, none⟩ = some (.slice pa pn pc) := cell_of_row _ _ 12 _ 43 (0, 0) hBR
      have S1 := HS.out.1
      have hDM : doM pR M at_ ⟨s, sn⟩ 0 (⟨⟨7, [], [], 0, false, false⟩, ps⟩ : OpV) = runM pR (at_ + 1) ⟨s, sn⟩ M ps := by unfold doM; rw [if_neg (by rw [HRE.out, hE]; simp)]; rfl
      have v1 : (x != 0) = false := by rw [hx0]; rfl
      have v2 : ((pn : Int) != (qn : Int)) = false := by rw [hpq]; simp
      have v2n : (pn != qn) = false := by rw [hpq]; simp
      clear hBR hpq hx0 hE htk hk hlt
      by_cases hxn : xn = 0
      · have hXX : doX pR M at_ ⟨s, sn⟩ 0 (⟨⟨7, [], [], 0, false, false⟩, ps⟩ : OpV) = [] := List.length_eq_zero_iff.1 (by rw [← HV.out.2.2.2.2, hxn])
        have hMM : M = runM pR (at_ + 1) ⟨s, sn⟩ M ps := by
          have h := do_fits (at_ := at_) (who := ⟨s, sn⟩) (ce := 0) (o := (⟨⟨7, [], [], 0, false, false⟩, ps⟩ : OpV)) S1.inv
          rw [hXX, hDM] at h
          exact congrArg Prod.snd h
        have tx : decide ((0 : Int) < (xn : Int)) = false := by rw [hxn]; rfl
        have txn : decide (0 < xn) = false := by rw [hxn]; rfl
        rw [← hMM] at hsm
        obtain ⟨MX, hMX⟩ : ∃ MX, MX = M := ⟨_, rfl⟩
        rw [← hMX] at S1 hsm
        clear hXX hMM hDM hb8 hxn hMX
        obtain ⟨m1, hm1⟩ : ∃ m1, m1 = (keysS MX).length := ⟨_, rfl⟩
        have hp1 := S1.tr.paths
        have hp2 : ∀ w', Below wr.heap.size wr w' → Calls Tryz.prog 26 #[.pointer (some ⟨b2, 0, none⟩)] w' fun e w'' => ∃ a c, e = .returned (.slice a m1 c) ∧ StrSl w'' w''.heap.size a (keysS MX) ∧ Below w'.heap.size w' w'' := fun w' h => by
          have h1 := (S2.below h).tr.paths
          rw [← hsm.keysS, ← keysS_len cM, ← hsm.keysS, ← hm1] at h1
          exact h1
        have hm2 : m1 ≤ 1000 := by
          have h2 := S1.tr.fit.len
          have h3 := keysS_len MX
          omega
        rw [← keysS_len MX, ← hm1] at hp1
        have HP1 := Lib.hid hp1
        have HP2 := Lib.hid hp2
        have HMM := Lib.hid (And.intro hm1 hm2)
        have HSX := Lib.hid S1
        have HBX := Lib.hid hbX
        clear hp1 hp2 hm1 hm2 S1 S2 hsm hbX
        go_wp2_with fail
        refine HP1.out.mono ?_
        rintro e p1 ⟨a1, c1, rfl, hs1, B1⟩
        have HQ1 := Lib.hid (And.intro hs1 B1)
        clear hs1 B1
        go_wp2_with fail
        refine (HP2.out _ HQ1.out.2).mono ?_
        rintro e p2 ⟨a2, c2, rfl, hs2, B2⟩
        have htx := refTexts_same (w := p2) (a := a1) (b := a2) (c := c1) (d := c2) (K := keysS MX) (by rw [← HMM.out.1]; exact HMM.out.2) (HQ1.out.1.upW B2) hs2
        rw [← HMM.out.1] at htx
        have HTX := Lib.hid htx
        have hb12 := HQ1.out.2.trans (B2.mono HQ1.out.2.size)
        have HSX2 := Lib.hid (HSX.out.below hb12)
        have HBX2 := Lib.hid (HBX.out.trans (hb12.mono HBX.out.size))
        clear htx hb12 hs2 B2
        go_wp2_with fail
        refine HTX.out.mono ?_
        rintro e p3 ⟨rfl, B3⟩
        have HSX3 := Lib.hid (HSX2.out.below B3)
        have HBX3 := Lib.hid (HBX2.out.trans (B3.mono HBX2.out.size))
        clear B3
        go_wp2_with fail
        refine (works_any _ HSX3.out.tr.max HSX3.out.pow).mono ?_
        rintro e wz ⟨rfl, BZ⟩
        have HZ := Lib.hid (HBX3.out.trans (BZ.mono HBX3.out.size))
        clear BZ
        go_wp2
        go_ret
        exact ⟨rfl, HZ.out⟩
      · have hXX : doX pR M at_ ⟨s, sn⟩ 0 (⟨⟨7, [], [], 0, false, false⟩, ps⟩ : OpV) ≠ [] := fun e => hxn (by rw [HV.out.2.2.2.2, e]; rfl)
        have hap := S1.apply_do (Int.le_trans HAT.out (by decide)) HIN.out (HEO.out.below hb8) hXX
        rw [hDM] at hap
        have tx : decide ((0 : Int) < (xn : Int)) = true := by simp; omega
        have txn : decide (0 < xn) = true := by simp; omega
        obtain ⟨MX, hMX⟩ : ∃ MX, MX = runM pR (at_ + 1) ⟨s, sn⟩ M ps := ⟨_, rfl⟩
        rw [← hMX] at hap hsm
        have HAP := Lib.hid hap
        have HSM := Lib.hid (And.intro hsm (And.intro S2 hbX))
        clear hXX hap hDM hb8 hxn hMX S1 S2 hsm hbX
        go_wp2_with fail
        refine HAP.out.mono ?_
        rintro e wq ⟨rfl, S1, KQ⟩
        have S2 := HSM.out.2.1.other HS.out.1 (fun e => HB2.out.1 e.symm) KQ
        have hsm := HSM.out.1
        have hbX : Below w.heap.size w wq := HSM.out.2.2.trans (KQ.below HSM.out.2.2.size (fun j e => by
          have e : j = b := e
          have h1 := H5.out.2.2.1
          have h2 := HB4.out.1.size
          omega))
        clear KQ z0 z12
        obtain ⟨m1, hm1⟩ : ∃ m1, m1 = (keysS MX).length := ⟨_, rfl⟩
        have hp1 := S1.tr.paths
        have hp2 : ∀ w', Below wq.heap.size wq w' → Calls Tryz.prog 26 #[.pointer (some ⟨b2, 0, none⟩)] w' fun e w'' => ∃ a c, e = .returned (.slice a m1 c) ∧ StrSl w'' w''.heap.size a (keysS MX) ∧ Below w'.heap.size w' w'' := fun w' h => by
          have h1 := (S2.below h).tr.paths
          rw [← hsm.keysS, ← keysS_len cM, ← hsm.keysS, ← hm1] at h1
          exact h1
        have hm2 : m1 ≤ 1000 := by
          have h2 := S1.tr.fit.len
          have h3 := keysS_len MX
          omega
        rw [← keysS_len MX, ← hm1] at hp1
        have HP1 := Lib.hid hp1
        have HP2 := Lib.hid hp2
        have HMM := Lib.hid (And.intro hm1 hm2)
        have HSX := Lib.hid S1
        have HBX := Lib.hid hbX
        clear hp1 hp2 hm1 hm2 S1 S2 hsm hbX
        go_wp2_with fail
        refine HP1.out.mono ?_
        rintro e p1 ⟨a1, c1, rfl, hs1, B1⟩
        have HQ1 := Lib.hid (And.intro hs1 B1)
        clear hs1 B1
        go_wp2_with fail
        refine (HP2.out _ HQ1.out.2).mono ?_
        rintro e p2 ⟨a2, c2, rfl, hs2, B2⟩
        have htx := refTexts_same (w := p2) (a := a1) (b := a2) (c := c1) (d := c2) (K := keysS MX) (by rw [← HMM.out.1]; exact HMM.out.2) (HQ1.out.1.upW B2) hs2
        rw [← HMM.out.1] at htx
        have HTX := Lib.hid htx
        have hb12 := HQ1.out.2.trans (B2.mono HQ1.out.2.size)
        have HSX2 := Lib.hid (HSX.out.below hb12)
        have HBX2 := Lib.hid (HBX.out.trans (hb12.mono HBX.out.size))
        clear htx hb12 hs2 B2
        go_wp2_with fail
        refine HTX.out.mono ?_
        rintro e p3 ⟨rfl, B3⟩
        have HSX3 := Lib.hid (HSX2.out.below B3)
        have HBX3 := Lib.hid (HBX2.out.trans (B3.mono HBX2.out.size))
        clear B3
        go_wp2_with fail
        refine (works_any _ HSX3.out.tr.max HSX3.out.pow).mono ?_
        rintro e wz ⟨rfl, BZ⟩
        have HZ := Lib.hid (HBX3.out.trans (BZ.mono HBX3.out.size))
        clear BZ
        go_wp2
        go_ret
        exact ⟨rfl, HZ.out⟩
end Go.Proofs.YtnclkfhdpkkakaaGreatDoor

namespace Go.Proofs.YtnclkfhdpkkakaaGreatDoor
set_option linter.unusedVariables false
set_option linter.unusedSimpArgs false
open Go Go.RowKit Go.ChangeShapes Go.WideShapes Go.Deep
section
variable {H : Type} {enc : TypeId × Value → H} {w : World} {base : Nat} {spare : Nat → Bool} {held : Bool}
/-- A row of operations that came in. -/
theorem ops_open {fuel : Nat} {cs : List Value} {y : DataW H × List MemPlace} (h : DataW.trod enc Tryz.prog w base spare held fuel 24 cs = some y) : ∃ a c n, ∃ Q : List RawO, cs = [.slice a Q.length c] ∧ Q.length ≤ maxLen ∧ OpsAt w n a Q := by
  obtain ⟨a, len, cap, m, rfl, l1, l2, _, hi⟩ := rows_openF (P := Tryz.prog) Tryz.underlying24 cellsOp (by omega) h
  obtain ⟨Q, hQ, hat⟩ := list_of (fun i (r : RawO) => ∃ (b off : Nat) (o : Opl) (Q : List RawO), a = some ⟨b, off, none⟩ ∧ b < w.heap.size ∧ w.rangeAt b (off + i * 7) r.cells ∧ OpOk w r o ∧ r.pn = Q.length ∧ OpsAt w m r.pa Q) len (fun i hil => by
    obtain ⟨b, off, cs', y', h1, h2, h3, h4, h5⟩ := hi i hil
    obtain ⟨r, o, Q, rfl, h6, h7, h8⟩ := op_open m h5
    exact ⟨r, b, off, o, Q, h1, h2, h4, h6, h7, h8⟩)
  have hat : OpsAt w (m + 1) a Q := hat
  exact ⟨a, cap, m + 1, Q, by rw [hQ], by rw [hQ]; exact Nat.le_trans l1 l2, hat⟩
end
set_option maxRecDepth 100000 in
theorem opMulti_law {H : Type} (enc : TypeId × Value → H) (W : World)
    (v0 : Value) (d0 : DataW H) (p0 : List MemPlace) (h0 : DataW.Trod enc Tryz.prog W 0 (fun _ => true) true 22 v0 d0 p0) (o0 : ∃ b, Value.okWide Tryz.prog W .any b 22 v0)
    (v1 : Value) (d1 : DataW H) (p1 : List MemPlace) (h1 : DataW.Trod enc Tryz.prog W 0 (fun _ => true) true 24 v1 d1 p1) (o1 : ∃ b, Value.okWide Tryz.prog W .any b 24 v1)
    (v2 : Value) (d2 : DataW H) (p2 : List MemPlace) (h2 : DataW.Trod enc Tryz.prog W 0 (fun _ => true) true 29 v2 d2 p2) (o2 : ∃ b, Value.okWide Tryz.prog W .any b 29 v2) (hm : MaxInt W) (PT : PowTab W) :
    Calls Tryz.prog 4 #[v0, v1, v2] W fun e W' => e = .returned (.bool true) ∧ Below W.heap.size W W' := by
  obtain ⟨b0, o0⟩ := o0
  obtain ⟨b1, o1⟩ := o1
  obtain ⟨b2, o2⟩ := o2
  obtain ⟨a0, len0, cap0, rfl⟩ := okWide_slice Tryz.underlying22 o0
  obtain ⟨a1, len1, cap1, rfl⟩ := okWide_slice Tryz.underlying24 o1
  obtain ⟨cs, rfl, _⟩ := okWide_struct Tryz.underlying29 o2
  obtain ⟨f0, h0⟩ := h0
  obtain ⟨f1, h1⟩ := h1
  obtain ⟨f2, h2⟩ := h2
  obtain ⟨a, c, L, e0, l0, hat⟩ := asks_open h0
  obtain ⟨qa, qc, n1, Q, e1, l1, hoq⟩ := ops_open h1
  obtain ⟨who, e2, hw⟩ := who_open h2
  simp [Value.cells] at e0 e1
  obtain ⟨rfl, rfl, rfl⟩ := e0
  obtain ⟨rfl, rfl, rfl⟩ := e1
  have e2 : cs = #[.int .i64 who.site, .int .u32 who.n] := by
    have e3 : cs.toList = [.int .i64 who.site, .int .u32 who.n] := by simpa [Value.cells] using e2
    rw [← e3]
  subst e2
  exact opMulti_core W hm PT _ _ L hat l0 _ _ Q n1 hoq l1 who hw
end Go.Proofs.YtnclkfhdpkkakaaGreatDoor
