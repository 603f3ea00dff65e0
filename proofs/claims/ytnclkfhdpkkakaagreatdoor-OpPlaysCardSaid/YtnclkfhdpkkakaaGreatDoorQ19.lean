/-
  Operations one behind the other, on a tree's nodes: errors, effects, answers. A number's ten digits. The document's list and the tree's map: what they share. Sorting by swaps, as the document does it.
-/
import Derived.Test.YtnclkfhdpkkakaaGreatDoorQ18
import Derived.Test.YtnclkfhdpkkakaaGreatDoorQ4
namespace Go.Proofs.YtnclkfhdpkkakaaGreatDoor
set_option linter.unusedVariables false
set_option linter.unusedSimpArgs false
set_option linter.unusedVariables false
set_option linter.unusedSimpArgs false
def opM (root : Bytes) (M : List (Bytes × Nd)) (at_ : Int) (who : Sess) (o : Opl) : List (Bytes × Nd) :=
 if opE root M who o ≠ 0 then M else if o.kind = 1 then createM M at_ who o else if o.kind = 2 then removeM M at_ o else if o.kind = 3 then setM M at_ o else M
def opXs (root : Bytes) (M : List (Bytes × Nd)) (at_ : Int) (who : Sess) (o : Opl) : List Eff := if opE root M who o ≠ 0 then [] else opX M at_ who o
structure Rep where
 e : Int
 a : Ans
 deriving DecidableEq
def opR (root : Bytes) (M : List (Bytes × Nd)) (at_ : Int) (who : Sess) (o : Opl) : Rep := if opE root M who o ≠ 0 then ⟨opE root M who o, noAns⟩ else ⟨0, opA root M at_ who o⟩
theorem opE_create {root : Bytes} {M : List (Bytes × Nd)} {who : Sess} {o : Opl} (hk : o.kind = 1) (h : opE root M who o = 0) : underB o.path root = true ∧ createE root M who o = 0 := by
 unfold opE at h
 split at h
 ·cases h
 ·rename_i hu
  exact ⟨by simpa using hu, h⟩
theorem opE_remove {root : Bytes} {M : List (Bytes × Nd)} {who : Sess} {o : Opl} (hk : o.kind = 2) (h : opE root M who o = 0) : underB o.path root = true ∧ removeE root M o = 0 := by
 unfold opE at h
 split at h
 ·cases h
 ·rename_i hu
  rw [if_neg (by omega)] at h
  exact ⟨by simpa using hu, h⟩
theorem opE_set {root : Bytes} {M : List (Bytes × Nd)} {who : Sess} {o : Opl} (hk : o.kind = 3) (h : opE root M who o = 0) : underB o.path root = true ∧ verE M o = 0 := by
 unfold opE at h
 split at h
 ·cases h
 ·rename_i hu
  rw [if_neg (by omega), if_neg (by omega), if_pos (.inl hk)] at h
  exact ⟨by simpa using hu, h⟩
section
variable {root : Bytes} {M : List (Bytes × Nd)} {at_ : Int} {who : Sess}
theorem op_fits (I : Inv root M) (o : Opl) : applyA root M (opXs root M at_ who o) = (0, opM root M at_ who o) := by
 unfold opXs opM
 by_cases h : opE root M who o = 0
 ·rw [if_neg (by simpa using h), if_neg (by simpa using h)]
  unfold opX
  by_cases h1 : o.kind = 1
  ·rw [if_pos h1, if_pos h1]
   have := opE_create h1 h
   exact create_fits I this.1 this.2
  ·rw [if_neg h1, if_neg h1]
   by_cases h2 : o.kind = 2
   ·rw [if_pos h2, if_pos h2]
    have := opE_remove h2 h
    exact remove_fits I this.1 this.2
   ·rw [if_neg h2, if_neg h2]
    by_cases h3 : o.kind = 3
    ·rw [if_pos h3, if_pos h3]
     exact set_fits I (opE_set h3 h).2
    ·rw [if_neg h3, if_neg h3]
     rfl
 ·rw [if_pos h, if_pos h]
  rfl
theorem Inv.op (I : Inv root M) (o : Opl) : Inv root (opM root M at_ who o) := by
 have := I.all (E := opXs root M at_ who o)
 rw [op_fits I o] at this
 exact this
theorem applyA_append (root : Bytes) (F : List Eff) : ∀ (E : List Eff) (M M' : List (Bytes × Nd)), applyA root M E = (0, M') → applyA root M (E ++ F) = applyA root M' F
 | [], M, M', h => by cases h; rfl
 | e :: E, M, M', h => by
  by_cases h0 : oneE root M e = 0
  ·rw [applyA_pos h0] at h
   rw [List.cons_append, applyA_pos h0]
   exact applyA_append root F E _ _ h
  ·rw [applyA_neg h0] at h
   exact absurd (congrArg Prod.fst h) h0
end
def runE (root : Bytes) (at_ : Int) (who : Sess) : List (Bytes × Nd) → List Opl → Int
 | M, [] => 0
 | M, o :: l => if opE root M who o = 0 then runE root at_ who (opM root M at_ who o) l else opE root M who o
def runM (root : Bytes) (at_ : Int) (who : Sess) : List (Bytes × Nd) → List Opl → List (Bytes × Nd)
 | M, [] => M
 | M, o :: l => if opE root M who o = 0 then runM root at_ who (opM root M at_ who o) l else M
def runX (root : Bytes) (at_ : Int) (who : Sess) : List (Bytes × Nd) → List Opl → List Eff
 | M, [] => []
 | M, o :: l => if opE root M who o = 0 then opXs root M at_ who o ++ runX root at_ who (opM root M at_ who o) l else []
def runR (root : Bytes) (at_ : Int) (who : Sess) : List (Bytes × Nd) → List Opl → List Rep
 | M, [] => []
 | M, o :: l => opR root M at_ who o :: (if opE root M who o = 0 then runR root at_ who (opM root M at_ who o) l else [])
section
variable {root : Bytes} {at_ : Int} {who : Sess}
theorem run_fits : ∀ (l : List Opl) {M : List (Bytes × Nd)}, Inv root M → applyA root M (runX root at_ who M l) = (0, runM root at_ who M l)
 | [], M, I => rfl
 | o :: l, M, I => by
  unfold runX runM
  by_cases h : opE root M who o = 0
  ·rw [if_pos h, if_pos h, applyA_append root _ _ M _ (op_fits I o)]
   exact run_fits l (I.op o)
  ·rw [if_neg h, if_neg h]
   rfl
theorem Inv.run (l : List Opl) {M : List (Bytes × Nd)} (I : Inv root M) : Inv root (runM root at_ who M l) := by
 have := I.all (E := runX root at_ who M l)
 rw [run_fits l I] at this
 exact this
theorem run_snoc (o : Opl) : ∀ (l : List Opl) (M : List (Bytes × Nd)), runE root at_ who M l = 0 →
  runE root at_ who M (l ++ [o]) = opE root (runM root at_ who M l) who o
  ∧ runM root at_ who M (l ++ [o]) = opM root (runM root at_ who M l) at_ who o
  ∧ runX root at_ who M (l ++ [o]) = runX root at_ who M l ++ opXs root (runM root at_ who M l) at_ who o
  ∧ runR root at_ who M (l ++ [o]) = runR root at_ who M l ++ [opR root (runM root at_ who M l) at_ who o]
 | [], M, _ => by
  unfold runE runM runX runR
  simp only [List.nil_append, runE, runM, runX, runR]
  by_cases h : opE root M who o = 0
  ·simp [h]
  ·simp [h, opM, opXs]
 | x :: l, M, h => by
  unfold runE at h
  split at h
  ·rename_i h0
   obtain ⟨h1, h2, h3, h4⟩ := run_snoc o l _ h
   refine ⟨?_, ?_, ?_, ?_⟩
   ·rw [List.cons_append, runE, if_pos h0, h1, runM, if_pos h0]
   ·rw [List.cons_append, runM, if_pos h0, h2, runM, if_pos h0]
   ·rw [List.cons_append, runX, if_pos h0, h3, runX, if_pos h0, runM, if_pos h0, List.append_assoc]
   ·rw [List.cons_append, runR, if_pos h0, h4, runR, if_pos h0, runM, if_pos h0, List.cons_append]
  ·rename_i h0
   exact absurd h h0
theorem run_stop (l2 : List Opl) : ∀ (l : List Opl) (M : List (Bytes × Nd)), runE root at_ who M l ≠ 0 →
  runE root at_ who M (l ++ l2) = runE root at_ who M l ∧ runR root at_ who M (l ++ l2) = runR root at_ who M l
 | [], M, h => absurd rfl h
 | x :: l, M, h => by
  unfold runE at h
  split at h
  ·rename_i h0
   obtain ⟨h1, h4⟩ := run_stop l2 l _ h
   refine ⟨?_, ?_⟩
   ·rw [List.cons_append, runE, if_pos h0, h1, runE, if_pos h0]
   ·rw [List.cons_append, runR, if_pos h0, h4, runR, if_pos h0]
  ·rename_i h0
   refine ⟨?_, ?_⟩
   ·rw [List.cons_append, runE, if_neg h0, runE, if_neg h0]
   ·rw [List.cons_append, runR, if_neg h0, runR, if_neg h0]
end
structure OpV where
 leaf : Opl
 parts : List Opl
def OpV.seq (o : OpV) : List Opl := if o.leaf.kind = 7 then o.parts else [o.leaf]
def doE (root : Bytes) (M : List (Bytes × Nd)) (at_ : Int) (who : Sess) (ce : Int) (o : OpV) : Int := if ce ≠ 0 then ce else runE root (at_ + 1) who M o.seq
def doX (root : Bytes) (M : List (Bytes × Nd)) (at_ : Int) (who : Sess) (ce : Int) (o : OpV) : List Eff := if doE root M at_ who ce o ≠ 0 then [] else runX root (at_ + 1) who M o.seq
def doM (root : Bytes) (M : List (Bytes × Nd)) (at_ : Int) (who : Sess) (ce : Int) (o : OpV) : List (Bytes × Nd) := if doE root M at_ who ce o ≠ 0 then M else runM root (at_ + 1) who M o.seq
def doA (root : Bytes) (M : List (Bytes × Nd)) (at_ : Int) (who : Sess) (ce : Int) (o : OpV) : Ans := if ce = 0 ∧ o.leaf.kind ≠ 7 then (opR root M (at_ + 1) who o.leaf).a else noAns
def doR (root : Bytes) (M : List (Bytes × Nd)) (at_ : Int) (who : Sess) (ce : Int) (o : OpV) : List Rep := if ce = 0 ∧ o.leaf.kind = 7 then runR root (at_ + 1) who M o.parts else []
theorem do_fits {root : Bytes} {M : List (Bytes × Nd)} {at_ : Int} {who : Sess} {ce : Int} {o : OpV} (I : Inv root M) : applyA root M (doX root M at_ who ce o) = (0, doM root M at_ who ce o) := by
 unfold doX doM
 by_cases h : doE root M at_ who ce o = 0
 ·rw [if_neg (by simpa using h), if_neg (by simpa using h)]
  exact run_fits _ I
 ·rw [if_pos h, if_pos h]
  rfl
theorem Inv.does {root : Bytes} {M : List (Bytes × Nd)} {at_ : Int} {who : Sess} {ce : Int} {o : OpV} (I : Inv root M) : Inv root (doM root M at_ who ce o) := by
 have := I.all (E := doX root M at_ who ce o)
 rw [do_fits I] at this
 exact this
end Go.Proofs.YtnclkfhdpkkakaaGreatDoor
namespace Go.Proofs.YtnclkfhdpkkakaaGreatDoor
set_option linter.unusedVariables false
set_option linter.unusedSimpArgs false
set_option linter.unusedVariables false
set_option linter.unusedSimpArgs false
open Go Go.RowKit Go.Shelf Go.MapKept Go.ChangeMaps Go.Maps Go.Sort
theorem fmt_inner (i : Nat) (h : i < 100) (w : World) : Calls Tryz.prog 129 #[.int .u64 i, .int .i64 10] w fun e w' => e = .returned (.string (bs (Lib.decDigits i))) ∧ w' = w := by
 have hs := Lib.hid (Tryz.internal_strconv_small i h w)
 have t1 : decide ((i : Int) < 100) = true := by simp; omega
 have hwr : ∀ _ : True, IntKind.i64.wrap (i : Int) = (i : Int) := fun _ => IntWalk.i64_in _ (by omega)
 clear h
 go_enter Tryz.func129, Tryz.ntmps129
 go_wp2_with fail
 refine hs.out.mono ?_
 rintro e w1 ⟨rfl, rfl⟩
 go_wp2
 go_ret
 exact ⟨rfl, rfl⟩
theorem fmt_small (i : Nat) (h : i < 100) (w : World) : Calls Tryz.prog 110 #[.int .u64 i, .int .i64 10] w fun e w' => e = .returned (.string (bs (Lib.decDigits i))) ∧ w' = w := by
 have hs := Lib.hid (fmt_inner i h w)
 clear h
 go_enter Tryz.func110, Tryz.ntmps110
 go_wp2_with fail
 refine hs.out.mono ?_
 rintro e w1 ⟨rfl, rfl⟩
 go_wp2
 go_ret
 exact ⟨rfl, rfl⟩
theorem repeat_zero (c : Nat) (hc : c ≤ 10) (w : World) : Calls Tryz.prog 111 #[.string (bs [48]), .int .i64 c] w fun e w' => e = .returned (.string (bs (List.replicate c 48))) ∧ Below w.heap.size w w' := by
 refine (Tryz.strings_Repeat (bs [48]) c w (by omega) (by rw [size_bs]; simp; omega)).mono ?_
 rintro e w' ⟨rfl, hb⟩
 refine ⟨?_, hb⟩
 have : Lib.repeatL (bs [48]).data.toList c = List.replicate c 48 := by
  rw [data_bs]
  clear hc hb
  induction c with
  | zero => rfl
  | succ c ih => simp [Lib.repeatL, List.replicate_succ] at ih ⊢; first | exact ih | simp [ih]
 rw [this]
 rfl
end Go.Proofs.YtnclkfhdpkkakaaGreatDoor
namespace Go.Proofs.YtnclkfhdpkkakaaGreatDoor
set_option linter.unusedVariables false
set_option linter.unusedSimpArgs false
set_option linter.unusedVariables false
set_option linter.unusedSimpArgs false
theorem getA_del_other {p q : Bytes} (h : q ≠ p) : ∀ {M : List (Bytes × Nd)}, getA q (delA p M) = getA q M
 | [] => rfl
 | y :: M => by
  unfold delA
  split
  ·rename_i e
   simp only [getA]
   rw [if_neg (fun e2 => h (e2.symm.trans e))]
  ·simp only [getA]
   rw [getA_del_other h]
theorem getA_del_same {p : Bytes} {M : List (Bytes × Nd)} (hn : (M.map (·.1)).Nodup) : getA p (delA p M) = none := by
 have h : (getA p (delA p M)).isSome = false := by
  rw [getA_no, delA_keys hn]
  simp
 simpa using h
structure Rel (M L : List (Bytes × Nd)) : Prop where
 sorted : (L.map (·.1)).Pairwise (· < ·)
 get : ∀ q, getA q L = getA q M
theorem Rel.nodup {M L : List (Bytes × Nd)} (h : Rel M L) : (L.map (·.1)).Nodup := h.sorted.imp fun {a b} hab e => by
 subst e
 exact absurd hab (List.lt_irrefl a)
theorem Rel.perm {M L : List (Bytes × Nd)} (h : Rel M L) (hn : (M.map (·.1)).Nodup) : (L.map (·.1)).Perm (M.map (·.1)) :=
 (List.perm_ext_iff_of_nodup h.nodup hn).2 fun q => by rw [← getA_some, ← getA_some, h.get]
theorem Rel.len {M L : List (Bytes × Nd)} (h : Rel M L) (hn : (M.map (·.1)).Nodup) : L.length = M.length := by
 have := (h.perm hn).length_eq
 simpa using this
theorem Rel.keys {M L : List (Bytes × Nd)} (h : Rel M L) (hn : (M.map (·.1)).Nodup) : keysS M = L.map (·.1) :=
 sortS_is (h.sorted.imp fun {a b} hab => List.le_of_lt hab) (h.perm hn)
def goP (p : Bytes) (d : Nd) : Bool → List (Bytes × Nd) → List (Bytes × Nd)
 | done, [] => if done then [] else [(p, d)]
 | done, y :: L => (if !done && decide (p ≤ y.1) then [(p, d)] else []) ++ ((if y.1 = p then [] else [y]) ++ goP p d (done || decide (p ≤ y.1)) L)
theorem goP_true (p : Bytes) (d : Nd) : ∀ L, goP p d true L = L.filter fun y => decide (y.1 ≠ p)
 | [] => rfl
 | y :: L => by
  unfold goP
  rw [Bool.true_or, goP_true p d L]
  by_cases h : y.1 = p
  ·simp [h]
  ·simp [h]
theorem getA_filter (p q : Bytes) : ∀ L : List (Bytes × Nd), q ≠ p → getA q (L.filter fun y => decide (y.1 ≠ p)) = getA q L
 | [], _ => rfl
 | y :: L, h => by
  by_cases e : y.1 = p
  ·rw [List.filter_cons_of_neg (by simpa using e), getA_filter p q L h]
   simp only [getA]
   rw [if_neg (fun e2 => h (e2.symm.trans e))]
  ·rw [List.filter_cons_of_pos (by simpa using e)]
   simp only [getA]
   rw [getA_filter p q L h]
theorem getA_goP (p : Bytes) (d : Nd) (q : Bytes) : ∀ L, getA q (goP p d false L) = if q = p then some d else getA q L
 | [] => by
  by_cases h : q = p
  ·simp [goP, getA, h]
  ·simp [goP, getA, h, Ne.symm h]
 | y :: L => by
  unfold goP
  by_cases hle : p ≤ y.1
  ·rw [decide_eq_true hle, Bool.or_true, goP_true]
   by_cases h : q = p
   ·subst h
    simp [getA]
   ·rw [if_neg h]
    by_cases e : y.1 = p
    ·simp only [Bool.not_false, Bool.true_and, if_pos, if_pos e, List.nil_append, List.singleton_append, getA, if_neg (Ne.symm h)]
     rw [getA_filter p q L h, if_neg (fun e2 => h (e2.symm.trans e))]
    ·simp only [Bool.not_false, Bool.true_and, if_pos, if_neg e, List.singleton_append, getA, if_neg (Ne.symm h)]
     rw [getA_filter p q L h]
  ·have e : y.1 ≠ p := fun e => hle (e ▸ List.le_refl _)
   rw [decide_eq_false hle, Bool.or_false, if_neg e]
   simp only [Bool.and_false, Bool.false_eq_true, if_false, List.nil_append, List.singleton_append, getA]
   rw [getA_goP p d q L]
   by_cases h : q = p
   ·subst h
    simp [e]
   ·simp [h]
theorem goP_keys (p : Bytes) (d : Nd) : ∀ L, ∀ x ∈ goP p d false L, x.1 = p ∨ x ∈ L
 | [], x, h => by simp [goP] at h; exact .inl (by rw [h])
 | y :: L, x, h => by
  unfold goP at h
  rcases List.mem_append.1 h with h | h
  ·split at h
   ·simp at h; exact .inl (by rw [h])
   ·simp at h
  ·rcases List.mem_append.1 h with h | h
   ·split at h
    ·simp at h
    ·simp at h; subst h; exact .inr (List.mem_cons_self ..)
   ·by_cases hle : p ≤ y.1
    ·rw [decide_eq_true hle, Bool.or_true, goP_true] at h
     exact .inr (List.mem_cons_of_mem _ (List.mem_filter.1 h).1)
    ·rw [decide_eq_false hle, Bool.or_false] at h
     rcases goP_keys p d L x h with h | h
     ·exact .inl h
     ·exact .inr (List.mem_cons_of_mem _ h)
theorem goP_sorted (p : Bytes) (d : Nd) : ∀ L : List (Bytes × Nd), (L.map (·.1)).Pairwise (· < ·) → ((goP p d false L).map (·.1)).Pairwise (· < ·)
 | [], _ => by simp [goP]
 | y :: L, h => by
  rw [List.map_cons, List.pairwise_cons] at h
  obtain ⟨h1, h2⟩ := h
  unfold goP
  by_cases hle : p ≤ y.1
  ·rw [decide_eq_true hle, Bool.or_true, goP_true]
   have hf : ((L.filter fun y => decide (y.1 ≠ p)).map (·.1)).Pairwise (· < ·) := h2.sublist (List.filter_sublist.map _)
   have hm : ∀ q ∈ (L.filter fun y => decide (y.1 ≠ p)).map (·.1), y.1 < q := fun q hq => h1 q ((List.filter_sublist.map _).subset hq)
   by_cases e : y.1 = p
   ·simp only [Bool.not_false, Bool.true_and, if_pos, if_pos e, List.nil_append, List.singleton_append, List.map_cons, List.pairwise_cons]
    exact ⟨fun q hq => e ▸ hm q hq, hf⟩
   ·have hlt : p < y.1 := Decidable.byContradiction fun hn => e (List.le_antisymm (List.not_lt.1 hn) hle)
    simp only [Bool.not_false, Bool.true_and, if_pos, if_neg e, List.singleton_append, List.map_cons, List.pairwise_cons, List.mem_cons]
    exact ⟨fun q hq => by
     rcases hq with rfl | hq
     ·exact hlt
     ·exact List.lt_trans hlt (hm q hq), hm, hf⟩
  ·have e : y.1 ≠ p := fun e => hle (e ▸ List.le_refl _)
   have hlt : y.1 < p := List.not_le.1 hle
   rw [decide_eq_false hle, Bool.or_false, if_neg e]
   simp only [Bool.and_false, Bool.false_eq_true, if_false, List.nil_append, List.singleton_append, List.map_cons, List.pairwise_cons]
   refine ⟨fun q hq => ?_, goP_sorted p d L h2⟩
   obtain ⟨x, hx, rfl⟩ := List.mem_map.1 hq
   rcases goP_keys p d L x hx with h | h
   ·rw [h]; exact hlt
   ·exact h1 _ (List.mem_map_of_mem h)
theorem Rel.put {M L : List (Bytes × Nd)} (h : Rel M L) (p : Bytes) (d : Nd) : Rel (putA p d M) (goP p d false L) := ⟨goP_sorted p d L h.sorted, fun q => by
 rw [getA_goP]
 by_cases e : q = p
 ·subst e
  rw [if_pos rfl, getA_putA_same]
 ·rw [if_neg e, getA_putA_other _ e, h.get]⟩
theorem Rel.del {M L : List (Bytes × Nd)} (h : Rel M L) (hn : (M.map (·.1)).Nodup) {k : Nat} {x : Bytes × Nd} (hx : L[k]? = some x) : Rel (delA x.1 M) (L.take k ++ L.drop (k + 1)) := by
 have he : L.take k ++ L.drop (k + 1) = delA x.1 L := by
  rw [delA_of_at h.nodup (show L[k]? = some (x.1, x.2) from hx), List.eraseIdx_eq_take_drop_succ]
 rw [he]
 refine ⟨h.sorted.sublist (delA_sub.map _), fun q => ?_⟩
 by_cases e : q = x.1
 ·subst e
  rw [getA_del_same h.nodup, getA_del_same hn]
 ·rw [getA_del_other e, getA_del_other e, h.get]
end Go.Proofs.YtnclkfhdpkkakaaGreatDoor
namespace Go.Proofs.YtnclkfhdpkkakaaGreatDoor
set_option linter.unusedVariables false
set_option linter.unusedSimpArgs false
set_option linter.unusedVariables false
set_option linter.unusedSimpArgs false
def swapL (L : List Bytes) (i k : Nat) (x y : Bytes) : List Bytes := (L.set i y).set k x
theorem swapL_perm {L : List Bytes} {i k : Nat} {x y : Bytes} (hx : L[i]? = some x) (hy : L[k]? = some y) : (swapL L i k x y).Perm L := by
 obtain ⟨h1, rfl⟩ := List.getElem?_eq_some_iff.1 hx
 obtain ⟨h2, rfl⟩ := List.getElem?_eq_some_iff.1 hy
 unfold swapL
 exact List.set_set_perm h1 h2
def Upto (L : List Bytes) (i : Nat) : Prop := ∀ a b x y, a < i → a < b → L[a]? = some x → L[b]? = some y → x ≤ y
def UptoK (L : List Bytes) (i k : Nat) : Prop := Upto L i ∧ ∀ b x y, i < b → b < k → L[i]? = some x → L[b]? = some y → x ≤ y
theorem upto_zero (L : List Bytes) : Upto L 0 := fun a b x y h => by omega
theorem uptoK_start {L : List Bytes} {i : Nat} (h : Upto L i) : UptoK L i (i + 1) := ⟨h, fun b x y h1 h2 => by omega⟩
theorem uptoK_end {L : List Bytes} {i k : Nat} (h : UptoK L i k) (hk : L.length ≤ k) : Upto L (i + 1) := fun a b x y h1 h2 hx hy => by
 by_cases ha : a < i
 ·exact h.1 a b x y ha h2 hx hy
 ·obtain rfl : a = i := by omega
  exact h.2 b x y h2 (by have := (List.getElem?_eq_some_iff.1 hy).1; omega) hx hy
theorem uptoK_keep {L : List Bytes} {i k : Nat} {x y : Bytes} (h : UptoK L i k) (hx : L[i]? = some x) (hy : L[k]? = some y) (hle : x ≤ y) : UptoK L i (k + 1) := ⟨h.1, fun b x' y' h1 h2 hx' hy' => by
 by_cases hb : b < k
 ·exact h.2 b x' y' h1 hb hx' hy'
 ·obtain rfl : b = k := by omega
  rw [hx] at hx'
  rw [hy] at hy'
  cases hx'
  cases hy'
  exact hle⟩
theorem swapL_at {L : List Bytes} {i k : Nat} {x y : Bytes} (hik : i < k) (hx : L[i]? = some x) (hy : L[k]? = some y) (b : Nat) : (swapL L i k x y)[b]? = if b = k then some x else if b = i then some y else L[b]? := by
 have h1 := (List.getElem?_eq_some_iff.1 hx).1
 have h2 := (List.getElem?_eq_some_iff.1 hy).1
 unfold swapL
 by_cases hb : b = k
 ·subst hb
  rw [if_pos rfl, List.getElem?_set_self (by simpa using h2)]
 ·rw [if_neg hb, List.getElem?_set_ne (Ne.symm hb)]
  by_cases hi : b = i
  ·subst hi
   rw [if_pos rfl, List.getElem?_set_self h1]
  ·rw [if_neg hi, List.getElem?_set_ne (Ne.symm hi)]
theorem uptoK_swap {L : List Bytes} {i k : Nat} {x y : Bytes} (h : UptoK L i k) (hik : i < k) (hx : L[i]? = some x) (hy : L[k]? = some y) (hlt : y < x) : UptoK (swapL L i k x y) i (k + 1) := by
 have hle : y ≤ x := List.le_of_lt hlt
 refine ⟨fun a b x' y' ha hab hx' hy' => ?_, fun b x' y' h1 h2 hx' hy' => ?_⟩
 ·rw [swapL_at hik hx hy, if_neg (by omega), if_neg (by omega)] at hx'
  rw [swapL_at hik hx hy] at hy'
  by_cases hb : b = k
  ·rw [if_pos hb] at hy'
   cases hy'
   exact h.1 a i x' x ha ha hx' hx
  ·rw [if_neg hb] at hy'
   by_cases hi : b = i
   ·rw [if_pos hi] at hy'
    cases hy'
    exact h.1 a k x' y ha (by omega) hx' hy
   ·rw [if_neg hi] at hy'
    exact h.1 a b x' y' ha hab hx' hy'
 ·rw [swapL_at hik hx hy, if_neg (by omega), if_pos rfl] at hx'
  cases hx'
  rw [swapL_at hik hx hy] at hy'
  by_cases hb : b = k
  ·rw [if_pos hb] at hy'
   cases hy'
   exact hle
  ·rw [if_neg hb, if_neg (by omega)] at hy'
   exact List.le_trans hle (h.2 b x y' h1 (by omega) hx hy')
theorem upto_sorted {L : List Bytes} (h : Upto L L.length) : L.Pairwise (· ≤ ·) := by
 rw [List.pairwise_iff_getElem]
 intro a b ha hb hab
 exact h a b _ _ ha hab (List.getElem?_eq_getElem ha) (List.getElem?_eq_getElem hb)
end Go.Proofs.YtnclkfhdpkkakaaGreatDoor
