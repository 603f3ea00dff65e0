/-
  Operations one behind the other, on a tree's nodes: errors, effects, answers.
-/
import Derived.Test.YtnclkfhdpkkakaaGreatDoorOp0
namespace Go.Proofs.YtnclkfhdpkkakaaGreatDoor
set_option linter.unusedVariables false
set_option linter.unusedSimpArgs false
set_option linter.unusedVariables false
set_option linter.unusedSimpArgs false

/-- The nodes behind one operation. -/
def opM (root : Bytes) (M : List (Bytes × Nd)) (at_ : Int) (who : Sess) (o : Opl) : List (Bytes × Nd) :=
  if opE root M who o ≠ 0 then M else if o.kind = 1 then createM M at_ who o else if o.kind = 2 then removeM M at_ o else if o.kind = 3 then setM M at_ o else M
/-- Its effects. -/
def opXs (root : Bytes) (M : List (Bytes × Nd)) (at_ : Int) (who : Sess) (o : Opl) : List Eff := if opE root M who o ≠ 0 then [] else opX M at_ who o
/-- A reply to one operation. -/
structure Rep where
  e : Int
  a : Ans
  deriving DecidableEq
def opR (root : Bytes) (M : List (Bytes × Nd)) (at_ : Int) (who : Sess) (o : Opl) : Rep := if opE root M who o ≠ 0 then ⟨opE root M who o, noAns⟩ else ⟨0, opA root M at_ who o⟩
theorem opE_create {root : Bytes} {M : List (Bytes × Nd)} {who : Sess} {o : Opl} (hk : o.kind = 1) (h : opE root M who o = 0) : underB o.path root = true ∧ createE root M who o = 0 := by
  unfold opE at h
  split at h
  · cases h
  · rename_i hu
    exact ⟨by simpa using hu, h⟩
theorem opE_remove {root : Bytes} {M : List (Bytes × Nd)} {who : Sess} {o : Opl} (hk : o.kind = 2) (h : opE root M who o = 0) : underB o.path root = true ∧ removeE root M o = 0 := by
  unfold opE at h
  split at h
  · cases h
  · rename_i hu
    rw [if_neg (by omega)] at h
    exact ⟨by simpa using hu, h⟩
theorem opE_set {root : Bytes} {M : List (Bytes × Nd)} {who : Sess} {o : Opl} (hk : o.kind = 3) (h : opE root M who o = 0) : underB o.path root = true ∧ verE M o = 0 := by
  unfold opE at h
  split at h
  · cases h
  · rename_i hu
    rw [if_neg (by omega), if_neg (by omega), if_pos (.inl hk)] at h
    exact ⟨by simpa using hu, h⟩
section
variable {root : Bytes} {M : List (Bytes × Nd)} {at_ : Int} {who : Sess}
theorem op_fits (I : Inv root M) (o : Opl) : applyA root M (opXs root M at_ who o) = (0, opM root M at_ who o) := by
  unfold opXs opM
  by_cases h : opE root M who o = 0
  · rw [if_neg (by simpa using h), if_neg (by simpa using h)]
    unfold opX
    by_cases h1 : o.kind = 1
    · rw [if_pos h1, if_pos h1]
      have := opE_create h1 h
      exact create_fits I this.1 this.2
    · rw [if_neg h1, if_neg h1]
      by_cases h2 : o.kind = 2
      · rw [if_pos h2, if_pos h2]
        have := opE_remove h2 h
        exact remove_fits I this.1 this.2
      · rw [if_neg h2, if_neg h2]
        by_cases h3 : o.kind = 3
        · rw [if_pos h3, if_pos h3]
          exact set_fits I (opE_set h3 h).2
        · rw [if_neg h3, if_neg h3]
          rfl
  · rw [if_pos h, if_pos h]
    rfl
theorem Inv.op (I : Inv root M) (o : Opl) : Inv root (opM root M at_ who o) := by
  have := I.all (E := opXs root M at_ who o)
  rw [op_fits I o] at this
  exact this
theorem applyA_append (root : Bytes) (F : List Eff) : ∀ (E : List Eff) (M M' : List (Bytes × Nd)), applyA root M E = (0, M') → applyA root M (E ++ F) = applyA root M' F
  | [], M, M', h => by cases h; rfl
  | e :: E, M, M', h => by
    by_cases h0 : oneE root M e = 0
    · rw [applyA_pos h0] at h
      rw [List.cons_append, applyA_pos h0]
      exact applyA_append root F E _ _ h
    · rw [applyA_neg h0] at h
      exact absurd (congrArg Prod.fst h) h0
end
/-- Operations one behind the other, till one goes wrong: the error. -/
def runE (root : Bytes) (at_ : Int) (who : Sess) : List (Bytes × Nd) → List Opl → Int
  | M, [] => 0
  | M, o :: l => if opE root M who o = 0 then runE root at_ who (opM root M at_ who o) l else opE root M who o
def runM (root : Bytes) (at_ : Int) (who : Sess) : List (Bytes × Nd) → List Opl → List (Bytes × Nd)
  | M, [] => M
  | M, o :: l => if opE root M who o = 0 then runM root at_ who (opM root M at_ who o) l else M
def runX (root : Bytes) (at_ : Int) (who : Sess) : List (Bytes × Nd) → List Opl → List Eff
  | M, [] => []
  | M, o :: l => if opE root M who o = 0 then opXs root M at_ who o ++ runX root at_ who (opM root M at_ who o) l else []
def runR (root : Bytes) (at_ : Int) (who : Sess) : List (Bytes × Nd) → List Opl → List Rep
  | M, [] => []
  | M, o :: l => opR root M at_ who o :: (if opE root M who o = 0 then runR root at_ who (opM root M at_ who o) l else [])
section
variable {root : Bytes} {at_ : Int} {who : Sess}
theorem run_fits : ∀ (l : List Opl) {M : List (Bytes × Nd)}, Inv root M → applyA root M (runX root at_ who M l) = (0, runM root at_ who M l)
  | [], M, I => rfl
  | o :: l, M, I => by
    unfold runX runM
    by_cases h : opE root M who o = 0
    · rw [if_pos h, if_pos h, applyA_append root _ _ M _ (op_fits I o)]
      exact run_fits l (I.op o)
    · rw [if_neg h, if_neg h]
      rfl
theorem Inv.run (l : List Opl) {M : List (Bytes × Nd)} (I : Inv root M) : Inv root (runM root at_ who M l) := by
  have := I.all (E := runX root at_ who M l)
  rw [run_fits l I] at this
  exact this
/-- One more, behind those that went well. -/
theorem run_snoc (o : Opl) : ∀ (l : List Opl) (M : List (Bytes × Nd)), runE root at_ who M l = 0 →
    runE root at_ who M (l ++ [o]) = opE root (runM root at_ who M l) who o
    ∧ runM root at_ who M (l ++ [o]) = opM root (runM root at_ who M l) at_ who o
    ∧ runX root at_ who M (l ++ [o]) = runX root at_ who M l ++ opXs root (runM root at_ who M l) at_ who o
    ∧ runR root at_ who M (l ++ [o]) = runR root at_ who M l ++ [opR root (runM root at_ who M l) at_ who o]
  | [], M, _ => by
    unfold runE runM runX runR
    simp only [List.nil_append, runE, runM, runX, runR]
    by_cases h : opE root M who o = 0
    · simp [h]
    · simp [h, opM, opXs]
  | x :: l, M, h => by
    unfold runE at h
    split at h
    · rename_i h0
      obtain ⟨h1, h2, h3, h4⟩ := run_snoc o l _ h
      refine ⟨?_, ?_, ?_, ?_⟩
      · rw [List.cons_append, runE, if_pos h0, h1, runM, if_pos h0]
      · rw [List.cons_append, runM, if_pos h0, h2, runM, if_pos h0]
      · rw [List.cons_append, runX, if_pos h0, h3, runX, if_pos h0, runM, if_pos h0, List.append_assoc]
      · rw [List.cons_append, runR, if_pos h0, h4, runR, if_pos h0, runM, if_pos h0, List.cons_append]
    · rename_i h0
      exact absurd h h0
theorem run_stop (l2 : List Opl) : ∀ (l : List Opl) (M : List (Bytes × Nd)), runE root at_ who M l ≠ 0 →
    runE root at_ who M (l ++ l2) = runE root at_ who M l ∧ runR root at_ who M (l ++ l2) = runR root at_ who M l
  | [], M, h => absurd rfl h
  | x :: l, M, h => by
    unfold runE at h
    split at h
    · rename_i h0
      obtain ⟨h1, h4⟩ := run_stop l2 l _ h
      refine ⟨?_, ?_⟩
      · rw [List.cons_append, runE, if_pos h0, h1, runE, if_pos h0]
      · rw [List.cons_append, runR, if_pos h0, h4, runR, if_pos h0]
    · rename_i h0
      refine ⟨?_, ?_⟩
      · rw [List.cons_append, runE, if_neg h0, runE, if_neg h0]
      · rw [List.cons_append, runR, if_neg h0, runR, if_neg h0]
theorem runR_len (l : List Opl) : ∀ M : List (Bytes × Nd), runE root at_ who M l = 0 → (runR root at_ who M l).length = l.length := by
  induction l with
  | nil => intro M _; rfl
  | cons o l ih =>
    intro M h
    unfold runE at h
    split at h
    · rename_i h0
      rw [runR, if_pos h0, List.length_cons, List.length_cons, ih _ h]
    · rename_i h0; exact absurd h h0
end
/-- An operation with its parts. -/
structure OpV where
  leaf : Opl
  parts : List Opl
def OpV.seq (o : OpV) : List Opl := if o.leaf.kind = 7 then o.parts else [o.leaf]
/-- What a Do comes to, ce being what its check answers. -/
def doE (root : Bytes) (M : List (Bytes × Nd)) (at_ : Int) (who : Sess) (ce : Int) (o : OpV) : Int := if ce ≠ 0 then ce else runE root (at_ + 1) who M o.seq
def doX (root : Bytes) (M : List (Bytes × Nd)) (at_ : Int) (who : Sess) (ce : Int) (o : OpV) : List Eff := if doE root M at_ who ce o ≠ 0 then [] else runX root (at_ + 1) who M o.seq
def doM (root : Bytes) (M : List (Bytes × Nd)) (at_ : Int) (who : Sess) (ce : Int) (o : OpV) : List (Bytes × Nd) := if doE root M at_ who ce o ≠ 0 then M else runM root (at_ + 1) who M o.seq
def doA (root : Bytes) (M : List (Bytes × Nd)) (at_ : Int) (who : Sess) (ce : Int) (o : OpV) : Ans := if ce = 0 ∧ o.leaf.kind ≠ 7 then (opR root M (at_ + 1) who o.leaf).a else noAns
def doR (root : Bytes) (M : List (Bytes × Nd)) (at_ : Int) (who : Sess) (ce : Int) (o : OpV) : List Rep := if ce = 0 ∧ o.leaf.kind = 7 then runR root (at_ + 1) who M o.parts else []
theorem do_fits {root : Bytes} {M : List (Bytes × Nd)} {at_ : Int} {who : Sess} {ce : Int} {o : OpV} (I : Inv root M) : applyA root M (doX root M at_ who ce o) = (0, doM root M at_ who ce o) := by
  unfold doX doM
  by_cases h : doE root M at_ who ce o = 0
  · rw [if_neg (by simpa using h), if_neg (by simpa using h)]
    exact run_fits _ I
  · rw [if_pos h, if_pos h]
    rfl
theorem Inv.does {root : Bytes} {M : List (Bytes × Nd)} {at_ : Int} {who : Sess} {ce : Int} {o : OpV} (I : Inv root M) : Inv root (doM root M at_ who ce o) := by
  have := I.all (E := doX root M at_ who ce o)
  rw [do_fits I] at this
  exact this
end Go.Proofs.YtnclkfhdpkkakaaGreatDoor
