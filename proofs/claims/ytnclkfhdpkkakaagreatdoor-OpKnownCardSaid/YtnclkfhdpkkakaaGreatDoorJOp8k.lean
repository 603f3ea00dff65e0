/-
  A region that draws its order, walked by hand: what yields is taken first, a call or a store that alone may come up comes up.
  Operations one behind the other, on a tree's nodes: errors, effects, answers.
  The doer's check, walked.
  The doer's kids, walked.
-/
import Derived.Test.YtnclkfhdpkkakaaGreatDoorJOp7
import Derived.Test.YtnclkfhdpkkakaaGreatDoorJOp0
namespace Go.Proofs.YtnclkfhdpkkakaaGreatDoor
set_option linter.unusedVariables false
set_option linter.unusedSimpArgs false
set_option linter.unusedVariables false
set_option linter.unusedSimpArgs false
open Go Go.RowKit Go.Shelf Go.MapKept Go.ChangeMaps Go.Maps Go.Sort
section
variable {P : Program} {l : List Oper} {Q : Exit → Act → World → Prop} {md : Region.Mode} {S : World → Prop}
theorem drop_get {i : Nat} {oi : Oper} {r : List Oper} (h : l.drop i = oi :: r) : l.toArray[i]? = some oi := by
  have h1 : (l.drop i)[0]? = some oi := by rw [h]; rfl
  rw [List.getElem?_drop, Nat.add_zero] at h1
  simpa using h1
/-- Number i yields: it is taken first. -/
theorem took_in (i : Nat) {oi : Oper} {r : List Oper} {v : Value} {fuel : Nat} {listed : Array Bool} {a : Act} {w : World} (hi : l.drop i = oi :: r)
    (hs : Region.noSelect l.toArray = true) (hf : Region.free md l.toArray listed i = true) (hr : (Region.ready md l.toArray listed).contains i = true)
    (hw : Region.wanted oi (yielded l.toArray a.tmps) = true) (hS : S w) (hy : ∀ w', S w' → (execOp a.eval oi).run P w' = .ok (.value v) w')
    (hQ : ∀ c a w, Q (.panic c) (a.put oi.dst v) w → Q (.panic c) a w)
    (h : wpAnyH P md l.toArray Q S fuel (listed.setIfInBounds i true) (a.put oi.dst v) w) : wpAnyH P md l.toArray Q S (fuel + 1) listed a w :=
  wpAnyH_take (drop_get hi) hs hf hr hQ (.inl ⟨hw, hy⟩) hS h
/-- A load of a whole struct is taken first. -/
theorem took_load (i : Nat) {oi : Oper} {r : List Oper} {fuel : Nat} {listed : Array Bool} {a : Act} {w : World} (hi : l.drop i = oi :: r)
    (hs : Region.noSelect l.toArray = true) (hf : Region.free md l.toArray listed i = true) (hr : (Region.ready md l.toArray listed).contains i = true)
    (hw : Region.wanted oi (yielded l.toArray a.tmps) = true) (hS : S w) (ty : TypeId) (x : Operand) (ho : oi.op = .load ty x)
    (b o : Nat) (hx : a.eval x = .pointer (some ⟨b, o, none⟩)) (cs : List Value) (d : TypeDesc) (hc : ∀ w', S w' → w'.rangeAt b o cs)
    (hu : P.underlying ty = some d) (hd : d.isRow = true) (hn : (P.info? ty).map (·.size) = some cs.length)
    (hQ : ∀ c a w, Q (.panic c) (a.put oi.dst (.agg cs.toArray)) w → Q (.panic c) a w)
    (h : wpAnyH P md l.toArray Q S fuel (listed.setIfInBounds i true) (a.put oi.dst (.agg cs.toArray)) w) : wpAnyH P md l.toArray Q S (fuel + 1) listed a w :=
  wpAnyH_take (drop_get hi) hs hf hr hQ (yieldsIf_load_mid hw ty x ho b o hx cs d hc hu hd hn) hS h
/-- A guarded operation that is not wanted is taken first. -/
theorem took_not (i : Nat) {oi : Oper} {r : List Oper} {fuel : Nat} {listed : Array Bool} {a : Act} {w : World} (hi : l.drop i = oi :: r)
    (hs : Region.noSelect l.toArray = true) (hf : Region.free md l.toArray listed i = true) (hr : (Region.ready md l.toArray listed).contains i = true)
    (hw : Region.wanted oi (yielded l.toArray a.tmps) = false) (hS : S w)
    (hQ : ∀ c a w, Q (.panic c) (a.put oi.dst undef) w → Q (.panic c) a w)
    (h : wpAnyH P md l.toArray Q S fuel (listed.setIfInBounds i true) (a.put oi.dst undef) w) : wpAnyH P md l.toArray Q S (fuel + 1) listed a w :=
  wpAnyH_take (drop_get hi) hs hf hr hQ (.inr ⟨hw, rfl⟩) hS h
/-- Number i alone may come up: what it does is shown at this world. -/
theorem ran_in (i : Nat) {oi : Oper} {r : List Oper} {fuel : Nat} {listed : Array Bool} {a : Act} {w : World} (hi : l.drop i = oi :: r)
    (hr : Region.ready md l.toArray listed = [i]) (hw : Region.wanted oi (yielded l.toArray a.tmps) = true)
    (h : Oper.wp P oi a w (fun a' w' => S w' ∧ wpAnyH P md l.toArray Q S fuel (listed.setIfInBounds i true) a' w') Q) : wpAnyH P md l.toArray Q S (fuel + 1) listed a w := by
  refine wpAnyH_all hr (by simp) fun j hj => ?_
  have hji : j = i := by simpa using hj
  subst hji
  unfold wpOp
  rw [drop_get hi]
  dsimp only
  rw [if_pos hw]
  exact .inl h
/-- A call that alone may come up. -/
theorem call_in (i : Nat) {oi : Oper} {r : List Oper} {fuel : Nat} {listed : Array Bool} {a : Act} {w : World} (hi : l.drop i = oi :: r)
    (hr : Region.ready md l.toArray listed = [i]) (hw : Region.wanted oi (yielded l.toArray a.tmps) = true)
    (f : FuncId) (args : Array Value) (hx : (execOp a.eval oi).run P w = .ok (.enter f args) w)
    (h : Calls P f args w (fun
      | .returned v, w' => S w' ∧ wpAnyH P md l.toArray Q S fuel (listed.setIfInBounds i true) (a.put oi.dst v) w'
      | .panicked c, w' => Q (.panic c) a w'
      | .outgrown, _ => False)) : wpAnyH P md l.toArray Q S (fuel + 1) listed a w := by
  refine ran_in i hi hr hw ?_
  unfold Oper.wp
  rw [hx, Oper.upon_enter]
  refine Calls.mono h fun e w' he => ?_
  cases e with
  | returned v => exact he
  | panicked c => exact he
  | outgrown => exact (he : False).elim
/-- A store of a whole struct that alone may come up. -/
theorem store_in (i : Nat) {oi : Oper} {r : List Oper} {fuel : Nat} {listed : Array Bool} {a : Act} {w : World} (hi : l.drop i = oi :: r)
    (hr : Region.ready md l.toArray listed = [i]) (hw : Region.wanted oi (yielded l.toArray a.tmps) = true)
    (ty : TypeId) (x y : Operand) (ho : oi.op = .store ty x y)
    (b o : Nat) (cells : Array Value) (hx : a.eval x = .pointer (some ⟨b, o, none⟩)) (hy : a.eval y = .agg cells)
    (ht : w.there b o cells.size) (hn : (P.info? ty).map (·.size) = some cells.size) (h1 : cells.all (·.oneCell') = true)
    (hS : S (w.setCells b o cells.toList)) (h : wpAnyH P md l.toArray Q S fuel (listed.setIfInBounds i true) (a.put oi.dst undef) (w.setCells b o cells.toList)) : wpAnyH P md l.toArray Q S (fuel + 1) listed a w :=
  ran_in i hi hr hw (wp_store_mid ty x y ho b o cells hx hy ht hn h1 ⟨hS, h⟩)
/-- An operation that alone may come up, that turns the world and yields nothing. -/
theorem do_in (i : Nat) {oi : Oper} {r : List Oper} {fuel : Nat} {listed : Array Bool} {a : Act} {w : World} (hi : l.drop i = oi :: r)
    (hr : Region.ready md l.toArray listed = [i]) (hw : Region.wanted oi (yielded l.toArray a.tmps) = true) (w' : World)
    (hx : (execOp a.eval oi).run P w = .ok .skip w') (hS : S w') (h : wpAnyH P md l.toArray Q S fuel (listed.setIfInBounds i true) (a.put oi.dst undef) w') : wpAnyH P md l.toArray Q S (fuel + 1) listed a w := by
  refine ran_in i hi hr hw ?_
  unfold Oper.wp
  rw [hx, Oper.upon_skip]
  exact ⟨hS, h⟩
/-- An operation that alone may come up, that turns the world and yields a value. -/
theorem give_in (i : Nat) {oi : Oper} {r : List Oper} {fuel : Nat} {listed : Array Bool} {a : Act} {w : World} (hi : l.drop i = oi :: r)
    (hr : Region.ready md l.toArray listed = [i]) (hw : Region.wanted oi (yielded l.toArray a.tmps) = true) (v : Value) (w' : World)
    (hx : (execOp a.eval oi).run P w = .ok (.value v) w') (hS : S w') (h : wpAnyH P md l.toArray Q S fuel (listed.setIfInBounds i true) (a.put oi.dst v) w') : wpAnyH P md l.toArray Q S (fuel + 1) listed a w := by
  refine ran_in i hi hr hw ?_
  unfold Oper.wp
  rw [hx, Oper.upon_value]
  exact ⟨hS, h⟩
end
/-- The two boxes of a method: its operation, its result. -/
theorem op_boxes (w : World) (ok : Int) (op : Bytes) (oa : Option Addr) (on oc : Nat) (ov : Int) (os oe : Bool) (pa : Option Addr) (pn pc : Nat) :
    ∃ w1, w1 = (w.alloc (.cells #[.int .u8 ok, .string (bs op), .slice oa on oc, .int .i64 ov, .bool os, .bool oe, .slice pa pn pc] 26)).alloc (.cells #[.int .i64 0, .string ⟨#[]⟩, .slice none 0 0, .int .u32 0, .int .u32 0, .int .u32 0, .int .i64 0, .int .u32 0, .int .u64 0, .int .u64 0, .int .u64 0, .slice none 0 0, .slice none 0 0] 43) ∧ Below w.heap.size w w1 ∧ w1.heap.size = w.heap.size + 2
      ∧ w1.heap[w.heap.size]? = some (.cells #[.int .u8 ok, .string (bs op), .slice oa on oc, .int .i64 ov, .bool os, .bool oe, .slice pa pn pc] 26 (0, 0)) ∧ w1.heap[w.heap.size + 1]? = some (.cells #[.int .i64 0, .string ⟨#[]⟩, .slice none 0 0, .int .u32 0, .int .u32 0, .int .u32 0, .int .i64 0, .int .u32 0, .int .u64 0, .int .u64 0, .int .u64 0, .slice none 0 0, .slice none 0 0] 43 (0, 0)) ∧ w1.rangeAt w.heap.size 0 [.int .u8 ok, .string (bs op), .slice oa on oc, .int .i64 ov, .bool os, .bool oe, .slice pa pn pc] := by
  have k0 : ((w.alloc (.cells #[.int .u8 ok, .string (bs op), .slice oa on oc, .int .i64 ov, .bool os, .bool oe, .slice pa pn pc] 26)).alloc (.cells #[.int .i64 0, .string ⟨#[]⟩, .slice none 0 0, .int .u32 0, .int .u32 0, .int .u32 0, .int .i64 0, .int .u32 0, .int .u64 0, .int .u64 0, .int .u64 0, .slice none 0 0, .slice none 0 0] 43)).heap[w.heap.size]? = some (.cells #[.int .u8 ok, .string (bs op), .slice oa on oc, .int .i64 ov, .bool os, .bool oe, .slice pa pn pc] 26 (0, 0)) := (heap_alloc_old _ _ (by simp)).trans (heap_alloc_new w _)
  refine ⟨_, rfl, belowA (belowA (Below.refl _ w) _) _, by simp, k0, ?_, ?_⟩
  · have := heap_alloc_new (w.alloc (.cells #[.int .u8 ok, .string (bs op), .slice oa on oc, .int .i64 ov, .bool os, .bool oe, .slice pa pn pc] 26)) (.cells #[.int .i64 0, .string ⟨#[]⟩, .slice none 0 0, .int .u32 0, .int .u32 0, .int .u32 0, .int .i64 0, .int .u32 0, .int .u64 0, .int .u64 0, .int .u64 0, .slice none 0 0, .slice none 0 0] 43)
    rw [World.size_alloc] at this
    exact this
  · intro j u hu
    rw [Nat.zero_add, cell_of_row _ _ j _ 26 (0, 0) k0]
    simpa using hu
theorem range_set {w : World} {b o B o' : Nat} {cs cs' : List Value} (h : w.rangeAt b o cs) (hn : b ≠ B) : (w.setCells B o' cs').rangeAt b o cs := fun j u hu => by
  have hk : Kept (· = B) w (w.setCells B o' cs') := Kept.setCells (S := (· = B)) (p := B) rfl _ o' (Kept.refl _ w)
  have h1 := h j u hu
  exact (hk.cell (p := ⟨b, o + j, none⟩) (World.block_lt_of_cell? _ _ h1) (fun e => hn e)).trans h1
/-- In a branch that cannot be: something is left that the walk may go on with. -/
theorem by_shut {S : World → Prop} {K R : Act → World → Prop} (hK : Shut (∀ a w, S w → (S w → R a w) → K a w)) {G : Prop} (hf : Hid False) (a : Act) (w : World) (h : K a w) : G := hf.out.elim
end Go.Proofs.YtnclkfhdpkkakaaGreatDoor

namespace Go.Proofs.YtnclkfhdpkkakaaGreatDoor
set_option linter.unusedVariables false
set_option linter.unusedSimpArgs false
set_option linter.unusedVariables false
set_option linter.unusedSimpArgs false

/-- The nodes behind one operation. -/
def opM (root : Bytes) (M : List (Bytes × Nd)) (at_ : Int) (who : Sess) (o : Opl) : List (Bytes × Nd) :=
  if opE root M who o ≠ 0 then M else if o.kind = 1 then createM M at_ who o else if o.kind = 2 then removeM M at_ o else if o.kind = 3 then setM M at_ o else M
/-- Its effects. -/
def opXs (root : Bytes) (M : List (Bytes × Nd)) (at_ : Int) (who : Sess) (o : Opl) : List Eff := if opE root M who o ≠ 0 then [] else opX M at_ who o
/-- A reply to one operation. -/
structure Rep where
  e : Int
  a : Ans
  deriving DecidableEq
def opR (root : Bytes) (M : List (Bytes × Nd)) (at_ : Int) (who : Sess) (o : Opl) : Rep := if opE root M who o ≠ 0 then ⟨opE root M who o, noAns⟩ else ⟨0, opA root M at_ who o⟩
theorem opE_create {root : Bytes} {M : List (Bytes × Nd)} {who : Sess} {o : Opl} (hk : o.kind = 1) (h : opE root M who o = 0) : underB o.path root = true ∧ createE root M who o = 0 := by
  unfold opE at h
  split at h
  · cases h
  · rename_i hu
    exact ⟨by simpa using hu, h⟩
theorem opE_remove {root : Bytes} {M : List (Bytes × Nd)} {who : Sess} {o : Opl} (hk : o.kind = 2) (h : opE root M who o = 0) : underB o.path root = true ∧ removeE root M o = 0 := by
  unfold opE at h
  split at h
  · cases h
  · rename_i hu
    rw [if_neg (by omega)] at h
    exact ⟨by simpa using hu, h⟩
theorem opE_set {root : Bytes} {M : List (Bytes × Nd)} {who : Sess} {o : Opl} (hk : o.kind = 3) (h : opE root M who o = 0) : underB o.path root = true ∧ verE M o = 0 := by
  unfold opE at h
  split at h
  · cases h
  · rename_i hu
    rw [if_neg (by omega), if_neg (by omega), if_pos (.inl hk)] at h
    exact ⟨by simpa using hu, h⟩
section
variable {root : Bytes} {M : List (Bytes × Nd)} {at_ : Int} {who : Sess}
theorem op_fits (I : Inv root M) (o : Opl) : applyA root M (opXs root M at_ who o) = (0, opM root M at_ who o) := by
  unfold opXs opM
  by_cases h : opE root M who o = 0
  · rw [if_neg (by simpa using h), if_neg (by simpa using h)]
    unfold opX
    by_cases h1 : o.kind = 1
    · rw [if_pos h1, if_pos h1]
      have := opE_create h1 h
      exact create_fits I this.1 this.2
    · rw [if_neg h1, if_neg h1]
      by_cases h2 : o.kind = 2
      · rw [if_pos h2, if_pos h2]
        have := opE_remove h2 h
        exact remove_fits I this.1 this.2
      · rw [if_neg h2, if_neg h2]
        by_cases h3 : o.kind = 3
        · rw [if_pos h3, if_pos h3]
          exact set_fits I (opE_set h3 h).2
        · rw [if_neg h3, if_neg h3]
          rfl
  · rw [if_pos h, if_pos h]
    rfl
theorem Inv.op (I : Inv root M) (o : Opl) : Inv root (opM root M at_ who o) := by
  have := I.all (E := opXs root M at_ who o)
  rw [op_fits I o] at this
  exact this
theorem applyA_append (root : Bytes) (F : List Eff) : ∀ (E : List Eff) (M M' : List (Bytes × Nd)), applyA root M E = (0, M') → applyA root M (E ++ F) = applyA root M' F
  | [], M, M', h => by cases h; rfl
  | e :: E, M, M', h => by
    by_cases h0 : oneE root M e = 0
    · rw [applyA_pos h0] at h
      rw [List.cons_append, applyA_pos h0]
      exact applyA_append root F E _ _ h
    · rw [applyA_neg h0] at h
      exact absurd (congrArg Prod.fst h) h0
end
/-- Operations one behind the other, till one goes wrong: the error. -/
def runE (root : Bytes) (at_ : Int) (who : Sess) : List (Bytes × Nd) → List Opl → Int
  | M, [] => 0
  | M, o :: l => if opE root M who o = 0 then runE root at_ who (opM root M at_ who o) l else opE root M who o
def runM (root : Bytes) (at_ : Int) (who : Sess) : List (Bytes × Nd) → List Opl → List (Bytes × Nd)
  | M, [] => M
  | M, o :: l => if opE root M who o = 0 then runM root at_ who (opM root M at_ who o) l else M
def runX (root : Bytes) (at_ : Int) (who : Sess) : List (Bytes × Nd) → List Opl → List Eff
  | M, [] => []
  | M, o :: l => if opE root M who o = 0 then opXs root M at_ who o ++ runX root at_ who (opM root M at_ who o) l else []
def runR (root : Bytes) (at_ : Int) (who : Sess) : List (Bytes × Nd) → List Opl → List Rep
  | M, [] => []
  | M, o :: l => opR root M at_ who o :: (if opE root M who o = 0 then runR root at_ who (opM root M at_ who o) l else [])
section
variable {root : Bytes} {at_ : Int} {who : Sess}
theorem run_fits : ∀ (l : List Opl) {M : List (Bytes × Nd)}, Inv root M → applyA root M (runX root at_ who M l) = (0, runM root at_ who M l)
  | [], M, I => rfl
  | o :: l, M, I => by
    unfold runX runM
    by_cases h : opE root M who o = 0
    · rw [if_pos h, if_pos h, applyA_append root _ _ M _ (op_fits I o)]
      exact run_fits l (I.op o)
    · rw [if_neg h, if_neg h]
      rfl
theorem Inv.run (l : List Opl) {M : List (Bytes × Nd)} (I : Inv root M) : Inv root (runM root at_ who M l) := by
  have := I.all (E := runX root at_ who M l)
  rw [run_fits l I] at this
  exact this
/-- One more, behind those that went well. -/
theorem run_snoc (o : Opl) : ∀ (l : List Opl) (M : List (Bytes × Nd)), runE root at_ who M l = 0 →
    runE root at_ who M (l ++ [o]) = opE root (runM root at_ who M l) who o
    ∧ runM root at_ who M (l ++ [o]) = opM root (runM root at_ who M l) at_ who o
    ∧ runX root at_ who M (l ++ [o]) = runX root at_ who M l ++ opXs root (runM root at_ who M l) at_ who o
    ∧ runR root at_ who M (l ++ [o]) = runR root at_ who M l ++ [opR root (runM root at_ who M l) at_ who o]
  | [], M, _ => by
    unfold runE runM runX runR
    simp only [List.nil_append, runE, runM, runX, runR]
    by_cases h : opE root M who o = 0
    · simp [h]
    · simp [h, opM, opXs]
  | x :: l, M, h => by
    unfold runE at h
    split at h
    · rename_i h0
      obtain ⟨h1, h2, h3, h4⟩ := run_snoc o l _ h
      refine ⟨?_, ?_, ?_, ?_⟩
      · rw [List.cons_append, runE, if_pos h0, h1, runM, if_pos h0]
      · rw [List.cons_append, runM, if_pos h0, h2, runM, if_pos h0]
      · rw [List.cons_append, runX, if_pos h0, h3, runX, if_pos h0, runM, if_pos h0, List.append_assoc]
      · rw [List.cons_append, runR, if_pos h0, h4, runR, if_pos h0, runM, if_pos h0, List.cons_append]
    · rename_i h0
      exact absurd h h0
theorem run_stop (l2 : List Opl) : ∀ (l : List Opl) (M : List (Bytes × Nd)), runE root at_ who M l ≠ 0 →
    runE root at_ who M (l ++ l2) = runE root at_ who M l ∧ runR root at_ who M (l ++ l2) = runR root at_ who M l
  | [], M, h => absurd rfl h
  | x :: l, M, h => by
    unfold runE at h
    split at h
    · rename_i h0
      obtain ⟨h1, h4⟩ := run_stop l2 l _ h
      refine ⟨?_, ?_⟩
      · rw [List.cons_append, runE, if_pos h0, h1, runE, if_pos h0]
      · rw [List.cons_append, runR, if_pos h0, h4, runR, if_pos h0]
    · rename_i h0
      refine ⟨?_, ?_⟩
      · rw [List.cons_append, runE, if_neg h0, runE, if_neg h0]
      · rw [List.cons_append, runR, if_neg h0, runR, if_neg h0]
theorem runR_len (l : List Opl) : ∀ M : List (Bytes × Nd), runE root at_ who M l = 0 → (runR root at_ who M l).length = l.length := by
  induction l with
  | nil => intro M _; rfl
  | cons o l ih =>
    intro M h
    unfold runE at h
    split at h
    · rename_i h0
      rw [runR, if_pos h0, List.length_cons, List.length_cons, ih _ h]
    · rename_i h0; exact absurd h h0
end
/-- An operation with its parts. -/
structure OpV where
  leaf : Opl
  parts : List Opl
def OpV.seq (o : OpV) : List Opl := if o.leaf.kind = 7 then o.parts else [o.leaf]
/-- What a Do comes to, ce being what its check answers. -/
def doE (root : Bytes) (M : List (Bytes × Nd)) (at_ : Int) (who : Sess) (ce : Int) (o : OpV) : Int := if ce ≠ 0 then ce else runE root (at_ + 1) who M o.seq
def doX (root : Bytes) (M : List (Bytes × Nd)) (at_ : Int) (who : Sess) (ce : Int) (o : OpV) : List Eff := if doE root M at_ who ce o ≠ 0 then [] else runX root (at_ + 1) who M o.seq
def doM (root : Bytes) (M : List (Bytes × Nd)) (at_ : Int) (who : Sess) (ce : Int) (o : OpV) : List (Bytes × Nd) := if doE root M at_ who ce o ≠ 0 then M else runM root (at_ + 1) who M o.seq
def doA (root : Bytes) (M : List (Bytes × Nd)) (at_ : Int) (who : Sess) (ce : Int) (o : OpV) : Ans := if ce = 0 ∧ o.leaf.kind ≠ 7 then (opR root M (at_ + 1) who o.leaf).a else noAns
def doR (root : Bytes) (M : List (Bytes × Nd)) (at_ : Int) (who : Sess) (ce : Int) (o : OpV) : List Rep := if ce = 0 ∧ o.leaf.kind = 7 then runR root (at_ + 1) who M o.parts else []
theorem do_fits {root : Bytes} {M : List (Bytes × Nd)} {at_ : Int} {who : Sess} {ce : Int} {o : OpV} (I : Inv root M) : applyA root M (doX root M at_ who ce o) = (0, doM root M at_ who ce o) := by
  unfold doX doM
  by_cases h : doE root M at_ who ce o = 0
  · rw [if_neg (by simpa using h), if_neg (by simpa using h)]
    exact run_fits _ I
  · rw [if_pos h, if_pos h]
    rfl
theorem Inv.does {root : Bytes} {M : List (Bytes × Nd)} {at_ : Int} {who : Sess} {ce : Int} {o : OpV} (I : Inv root M) : Inv root (doM root M at_ who ce o) := by
  have := I.all (E := doX root M at_ who ce o)
  rw [do_fits I] at this
  exact this
end Go.Proofs.YtnclkfhdpkkakaaGreatDoor

namespace Go.Proofs.YtnclkfhdpkkakaaGreatDoor
set_option linter.unusedVariables false
set_option linter.unusedSimpArgs false
open Go Go.RowKit Go.Shelf Go.MapKept Go.ChangeMaps Go.Maps Go.Sort
section
variable {X : Nat → Prop} {w0 w : World} {d b : Nat} {root : Bytes} {at_ cnt : Int} {M : List (Bytes × Nd)} {who : Sess} {v : Value} {L : List RawE} {E : List Eff}
set_option maxRecDepth 100000 in
set_option maxHeartbeats 8000000 in
theorem DoerAt.check_ok (D : DoerAt X w0 w d b root at_ cnt M who v L E) (r : RawO) (o : Opl) {lo : Nat → Prop} (hr : LeafO w lo r o) (hp : o.path.length ≤ 1000) {nd : Nd} (h : getA o.path M = some nd) (hv : ¬ (0 ≤ o.ver ∧ o.ver ≠ IntKind.i64.wrap nd.num.ver)) :
    Calls Tryz.prog 88 #[.pointer (some ⟨d, 0, none⟩), r.val] w (OpDone X w0 w d b root at_ cnt M M who v E ⟨o.path, nd, []⟩) := by
  obtain ⟨ok, op, oa, on, oc, ov, os, oe, pa, pn, pc⟩ := r
  obtain ⟨okd, opp, odata, over, oseq, oeph⟩ := o
  obtain ⟨q1, q2, q3, q4, q5, q6, q7, q8⟩ := hr
  clear q6 q7 q8
  dsimp only at q1 q2 q3 q4 q5 hp h hv
  subst q1 q2 q3 q4 q5
  unfold RawO.val RawO.cells
  try dsimp only
  obtain ⟨w1, hw1, hb1, hs1, k0, k1, ho1⟩ := op_boxes w ok op oa on oc ov os oe pa pn pc
  have HSO : Hid ((Tryz.prog.info? 26).map (·.size) = some 7) := Lib.hid (by kernel_rfl)
  have HSR : Hid ((Tryz.prog.info? 43).map (·.size) = some 13) := Lib.hid (by kernel_rfl)
  have D1 := D.below hb1
  have H1 := Lib.hid (And.intro hb1 (And.intro hs1 (And.intro k0 (And.intro k1 (And.intro hw1 ho1)))))
  have hg := fun (w' : World) (hb : Below w1.heap.size w1 w') => (D1.below hb).ver_ok ⟨ok, op, oa, on, oc, ov, os, oe, pa, pn, pc⟩ hp h hv
  unfold RawO.val RawO.cells at hg
  dsimp only at hg
  have HG := Lib.hid hg
  have HD := Lib.hid D
  have y1 : ∀ w', World.rangeAt w' w.heap.size 0 [.int .u8 ok, .string (bs op), .slice oa on oc, .int .i64 ov, .bool os, .bool oe, .slice pa pn pc] → w'.cell? ⟨w.heap.size, 1, none⟩ = some (.string (bs op)) := fun w' h => h 1 _ rfl
  have hs0 : w.heap.size < w1.heap.size := by omega
  have HR1 := Lib.hid ho1
  clear D D1 hg hb1 hs1 k0 k1 hw1 ho1 h hv
  go_enter Tryz.func88, Tryz.ntmps88
  go_wp2_with fail
  rw [← H1.out.2.2.2.2.1]
  refine wp_region_held_drew (S := fun w' => World.rangeAt w' w.heap.size 0 [.int .u8 ok, .string (bs op), .slice oa on oc, .int .i64 ov, .bool os, .bool oe, .slice pa pn pc]) (by kernel_rfl) HR1.out (fun hS => ?_)
  refine took_in 0 rfl (by kernel_rfl) (by kernel_rfl) (by kernel_rfl) (by rfl) hS (fun w' hS' => by go_simp <;> rfl) (fun _ _ _ h => h) ?_
  simp only [Act.put, List.setIfInBounds_toArray, List.set_cons_zero, List.set_cons_succ]
  refine took_in 1 rfl (by kernel_rfl) (by kernel_rfl) (by kernel_rfl) (by rfl) hS (fun w' hS' => by have := y1 w' hS'; go_simp <;> rfl) (fun _ _ _ h => h) ?_
  simp only [Act.put, List.setIfInBounds_toArray, List.set_cons_zero, List.set_cons_succ]
  refine took_in 2 rfl (by kernel_rfl) (by kernel_rfl) (by kernel_rfl) (by rfl) hS (fun w' hS' => by go_simp <;> rfl) (fun _ _ _ h => h) ?_
  simp only [Act.put, List.setIfInBounds_toArray, List.set_cons_zero, List.set_cons_succ]
  refine took_load 3 rfl (by kernel_rfl) (by kernel_rfl) (by kernel_rfl) (by rfl) hS 26 (.tmp 3) rfl w.heap.size 0 rfl [.int .u8 ok, .string (bs op), .slice oa on oc, .int .i64 ov, .bool os, .bool oe, .slice pa pn pc] _ (fun _ h => h) Tryz.underlying26 rfl HSO.out (fun _ _ _ h => h) ?_
  simp only [Act.put, List.setIfInBounds_toArray, List.set_cons_zero, List.set_cons_succ]
  refine call_in 4 rfl (by kernel_rfl) (by rfl) _ _ (by go_simp <;> first | rfl | exact ⟨rfl, rfl⟩) ?_
  refine (HG.out _ (Below.refl _ _).drew).mono ?_
  rintro e w2 ⟨⟨ra, rn, rc, ⟨r1, r2, r3, r4, r5, r6, r7, r8⟩⟩, rfl, hrd, B2', hfree⟩
  have B2 : Below w1.heap.size w1 w2 := (Below.refl _ w1).drew.trans B2'
  have ht2 : w2.there (w.heap.size + 1) 0 13 := there_of ((B2.block _ (by have := H1.out.2.1; omega)).trans H1.out.2.2.2.1) (by simp)
  have ct : World.rangeAt w2 w.heap.size 0 [.int .u8 ok, .string (bs op), .slice oa on oc, .int .i64 ov, .bool os, .bool oe, .slice pa pn pc] := range_kept HR1.out B2 hs0
  have H2 := Lib.hid (And.intro ht2 (And.intro hrd B2))
  clear ht2 hrd B2 B2' hfree hS
  unfold Raw.val Raw.cells Nums.cells
  try dsimp only
  refine ⟨ct, ?_⟩
  try dsimp only
  simp only [Act.put, List.setIfInBounds_toArray, List.set_cons_zero, List.set_cons_succ]
  refine took_in 5 rfl (by kernel_rfl) (by kernel_rfl) (by kernel_rfl) (by rfl) ct (fun w' hS' => by go_simp <;> rfl) (fun _ _ _ h => h) ?_
  simp only [Act.put, List.setIfInBounds_toArray, List.set_cons_zero, List.set_cons_succ]
  have HON : Hid ((#[.int .i64 0, .string (bs op), .slice ra rn rc, .int .u32 r1, .int .u32 r2, .int .u32 r3, .int .i64 r4, .int .u32 r5, .int .u64 r6, .int .u64 r7, .int .u64 r8, .slice none 0 0, .slice none 0 0] : Array Value).all (·.oneCell') = true) := Lib.hid (by simp [Value.oneCell'])
  refine store_in 6 rfl (by kernel_rfl) (by rfl) 43 (.tmp 4) (.tmp 10) rfl (w.heap.size + 1) 0 #[.int .i64 0, .string (bs op), .slice ra rn rc, .int .u32 r1, .int .u32 r2, .int .u32 r3, .int .i64 r4, .int .u32 r5, .int .u64 r6, .int .u64 r7, .int .u64 r8, .slice none 0 0, .slice none 0 0] rfl rfl H2.out.1 HSR.out HON.out (range_set ct (by omega)) ?_
  simp only [Act.put, List.setIfInBounds_toArray, List.set_cons_zero, List.set_cons_succ]
  refine wpAnyH_done (by kernel_rfl) ?_ _
  go_wp2_with fail
  refine bodyPost_ret (results_cell_mid rfl _ _ (w.heap.size + 1) 0 [.int .i64 0, .string (bs op), .slice ra rn rc, .int .u32 r1, .int .u32 r2, .int .u32 r3, .int .i64 r4, .int .u32 r5, .int .u64 r6, .int .u64 r7, .int .u64 r8, .slice none 0 0, .slice none 0 0] _ rfl (World.rangeAt_setCells_same _ _ _ _ H2.out.1) Tryz.underlying43 rfl HSR.out) rfl ?_
  obtain ⟨hb1, hs1, k0, k1, _, _⟩ := H1.out
  obtain ⟨g1, g2, g3⟩ := H2.out
  have K9 : Kept (· = w.heap.size + 1) w2 (w2.setCells (w.heap.size + 1) 0 [.int .i64 0, .string (bs op), .slice ra rn rc, .int .u32 r1, .int .u32 r2, .int .u32 r3, .int .i64 r4, .int .u32 r5, .int .u64 r6, .int .u64 r7, .int .u64 r8, .slice none 0 0, .slice none 0 0]) := Kept.setCells (S := (· = w.heap.size + 1)) (p := w.heap.size + 1) rfl _ 0 (Kept.refl _ w2)
  have hb2 : Below w.heap.size w w2 := hb1.trans (g3.mono hb1.size)
  have D9 := (HD.out.below hb2).turn ((g3.block (w.heap.size + 1) (by omega)).trans k1) zr_free (by decide) (by decide) (by decide) (by have := HD.out.tree.bl.size; omega) K9
  refine ⟨⟨v, _, ⟨ra, rn, rc, ⟨r1, r2, r3, r4, r5, r6, r7, r8⟩⟩, none, 0, rfl, D9, fun k h => .inl h, ?_, StrLo.nil _ _ _⟩, ?_⟩
  · refine (g2.cells (fun k hk e => by have hk : w1.heap.size ≤ k := hk; omega) _).mono (fun k hk => ?_)
    have hk : w1.heap.size ≤ k := hk
    refine ⟨by omega, fun e => ?_⟩
    have := (HD.out.row.own.lt k e).2
    omega
  · exact (Kept.ofBelow hb2).newK K9 (by omega)
set_option maxRecDepth 100000 in
set_option maxHeartbeats 8000000 in
theorem DoerAt.check_err (D : DoerAt X w0 w d b root at_ cnt M who v L E) (r : RawO) (o : Opl) {lo : Nat → Prop} (hr : LeafO w lo r o) (hp : o.path.length ≤ 1000) {x : Int} (h : verE M o = x) (hv : x ≠ 0) :
    Calls Tryz.prog 88 #[.pointer (some ⟨d, 0, none⟩), r.val] w (OpFail w x) := by
  obtain ⟨ok, op, oa, on, oc, ov, os, oe, pa, pn, pc⟩ := r
  obtain ⟨okd, opp, odata, over, oseq, oeph⟩ := o
  obtain ⟨q1, q2, q3, q4, q5, q6, q7, q8⟩ := hr
  clear q6 q7 q8
  dsimp only at q1 q2 q3 q4 q5 hp h hv
  subst q1 q2 q3 q4 q5
  unfold RawO.val RawO.cells
  try dsimp only
  obtain ⟨w1, hw1, hb1, hs1, k0, k1, ho1⟩ := op_boxes w ok op oa on oc ov os oe pa pn pc
  have HSO : Hid ((Tryz.prog.info? 26).map (·.size) = some 7) := Lib.hid (by kernel_rfl)
  have HSR : Hid ((Tryz.prog.info? 43).map (·.size) = some 13) := Lib.hid (by kernel_rfl)
  have D1 := D.below hb1
  have H1 := Lib.hid (And.intro hb1 (And.intro hs1 (And.intro k0 (And.intro k1 (And.intro hw1 ho1)))))
  have hg := fun (w' : World) (hb : Below w1.heap.size w1 w') => (D1.below hb).ver_err ⟨ok, op, oa, on, oc, ov, os, oe, pa, pn, pc⟩ ⟨ok, op, odata, ov, os, oe⟩ rfl rfl hp h hv
  unfold RawO.val RawO.cells OpFail at hg
  dsimp only at hg
  have HG := Lib.hid hg
  have y1 : ∀ w', World.rangeAt w' w.heap.size 0 [.int .u8 ok, .string (bs op), .slice oa on oc, .int .i64 ov, .bool os, .bool oe, .slice pa pn pc] → w'.cell? ⟨w.heap.size, 1, none⟩ = some (.string (bs op)) := fun w' h => h 1 _ rfl
  have hs0 : w.heap.size < w1.heap.size := by omega
  have HR1 := Lib.hid ho1
  clear D D1 hg hb1 hs1 k0 k1 hw1 ho1 h hv
  go_enter Tryz.func88, Tryz.ntmps88
  go_wp2_with fail
  rw [← H1.out.2.2.2.2.1]
  refine wp_region_held_drew (S := fun w' => World.rangeAt w' w.heap.size 0 [.int .u8 ok, .string (bs op), .slice oa on oc, .int .i64 ov, .bool os, .bool oe, .slice pa pn pc]) (by kernel_rfl) HR1.out (fun hS => ?_)
  refine took_in 0 rfl (by kernel_rfl) (by kernel_rfl) (by kernel_rfl) (by rfl) hS (fun w' hS' => by go_simp <;> rfl) (fun _ _ _ h => h) ?_
  simp only [Act.put, List.setIfInBounds_toArray, List.set_cons_zero, List.set_cons_succ]
  refine took_in 1 rfl (by kernel_rfl) (by kernel_rfl) (by kernel_rfl) (by rfl) hS (fun w' hS' => by have := y1 w' hS'; go_simp <;> rfl) (fun _ _ _ h => h) ?_
  simp only [Act.put, List.setIfInBounds_toArray, List.set_cons_zero, List.set_cons_succ]
  refine took_in 2 rfl (by kernel_rfl) (by kernel_rfl) (by kernel_rfl) (by rfl) hS (fun w' hS' => by go_simp <;> rfl) (fun _ _ _ h => h) ?_
  simp only [Act.put, List.setIfInBounds_toArray, List.set_cons_zero, List.set_cons_succ]
  refine took_load 3 rfl (by kernel_rfl) (by kernel_rfl) (by kernel_rfl) (by rfl) hS 26 (.tmp 3) rfl w.heap.size 0 rfl [.int .u8 ok, .string (bs op), .slice oa on oc, .int .i64 ov, .bool os, .bool oe, .slice pa pn pc] _ (fun _ h => h) Tryz.underlying26 rfl HSO.out (fun _ _ _ h => h) ?_
  simp only [Act.put, List.setIfInBounds_toArray, List.set_cons_zero, List.set_cons_succ]
  refine call_in 4 rfl (by kernel_rfl) (by rfl) _ _ (by go_simp <;> first | rfl | exact ⟨rfl, rfl⟩) ?_
  refine (HG.out _ (Below.refl _ _).drew).mono ?_
  rintro e w2 ⟨rfl, B2'⟩
  have HB2 := Lib.hid (H1.out.1.trans (((Below.refl _ w1).drew.trans B2').mono H1.out.1.size))
  clear B2' hS
  unfold panicV
  try dsimp only
  go_wp2_with fail
  exact ⟨rfl, rfl, HB2.out⟩
end
end Go.Proofs.YtnclkfhdpkkakaaGreatDoor

namespace Go.Proofs.YtnclkfhdpkkakaaGreatDoor
set_option linter.unusedVariables false
set_option linter.unusedSimpArgs false
open Go Go.RowKit Go.Shelf Go.MapKept Go.ChangeMaps Go.Maps Go.Sort
theorem Reads.keptS {w w' : World} {lo S : Nat → Prop} {r : Raw} {nd : Nd} (h : Reads w lo r nd) (hk : Kept S w w') (hn : ∀ k, lo k → k < w.heap.size → ¬ S k) : Reads w' lo r nd :=
  ⟨h.num, h.len, (h.data.kept hk (Nat.le_refl _) (fun b hb hl _ => hn b hb hl)).mono (fun _ h => h) hk.size, h.nil⟩
theorem rep_free (x : Int) (p : ByteArray) (a k q : Option Addr) (n c r1 r2 r3 r4 r5 r6 r7 r8 kn kc qn qc) : ∀ y ∈ (#[.int .i64 x, .string p, .slice a n c, .int .u32 r1, .int .u32 r2, .int .u32 r3, .int .i64 r4, .int .u32 r5, .int .u64 r6, .int .u64 r7, .int .u64 r8, .slice k kn kc, .slice q qn qc] : Array Value).toList, ∀ m, y ≠ .int .u8 m := by
  intro y hy m
  simp at hy
  rcases hy with rfl | rfl | rfl | rfl | rfl | rfl | rfl | rfl | rfl | rfl | rfl | rfl | rfl <;> simp
section
variable {X : Nat → Prop} {w0 w : World} {d b : Nat} {root : Bytes} {at_ cnt : Int} {M : List (Bytes × Nd)} {who : Sess} {v : Value} {L : List RawE} {E : List Eff}
theorem DoerAt.kidsC (D : DoerAt X w0 w d b root at_ cnt M who v L E) (p : Bytes) :
    Calls Tryz.prog 28 #[.pointer (some ⟨b, 0, none⟩), .string (bs p)] w fun e w' => ∃ a c, e = .returned (.slice a (kidsS root M p).length c) ∧ StrLo w' (From w.heap.size) a (kidsS root M p) ∧ Below w.heap.size w w' := by
  have R := D.tree
  obtain ⟨lo, mb, T⟩ := R.tree
  refine (T.kids_any R.short R.max R.fit.path p).mono ?_
  rintro e w' ⟨v, rfl, hr, hb⟩
  rcases hr with ⟨rfl, h0⟩ | ⟨g, cap, rfl, h2, h3, h4, h5⟩
  · rw [h0]
    exact ⟨none, 0, rfl, StrLo.nil _ _ _, hb⟩
  · refine ⟨_, cap, rfl, fun k q hk => ⟨g, 0, rfl, h2, h3, ?_⟩, hb⟩
    rw [Nat.zero_add]
    exact h5 k q hk
set_option maxRecDepth 100000 in
set_option maxHeartbeats 8000000 in
theorem DoerAt.kids_none (D : DoerAt X w0 w d b root at_ cnt M who v L E) (r : RawO) (o : Opl) {lo : Nat → Prop} (hr : LeafO w lo r o) (hp : o.path.length ≤ 1000) (h : getA o.path M = none) :
    Calls Tryz.prog 90 #[.pointer (some ⟨d, 0, none⟩), r.val] w (OpFail w 31) := by
  obtain ⟨ok, op, oa, on, oc, ov, os, oe, pa, pn, pc⟩ := r
  obtain ⟨okd, opp, odata, over, oseq, oeph⟩ := o
  obtain ⟨q1, q2, q3, q4, q5, q6, q7, q8⟩ := hr
  clear q6 q7 q8
  dsimp only at q1 q2 q3 q4 q5 hp h
  subst q1 q2 q3 q4 q5
  unfold RawO.val RawO.cells
  try dsimp only
  obtain ⟨w1, hw1, hb1, hs1, k0, k1, ho1⟩ := op_boxes w ok op oa on oc ov os oe pa pn pc
  have HSO : Hid ((Tryz.prog.info? 26).map (·.size) = some 7) := Lib.hid (by kernel_rfl)
  have HSR : Hid ((Tryz.prog.info? 43).map (·.size) = some 13) := Lib.hid (by kernel_rfl)
  have D1 := D.below hb1
  have H1 := Lib.hid (And.intro hb1 (And.intro hs1 (And.intro k0 (And.intro k1 (And.intro hw1 ho1)))))
  have y1 : w1.cell? ⟨w.heap.size, 1, none⟩ = some (.string (bs op)) := ho1 1 _ rfl
  have hg := D1.told_none op hp h
  have HG := Lib.hid hg
  clear D D1 hg h hb1 hs1 k0 k1 hw1 ho1
  go_enter Tryz.func90, Tryz.ntmps90
  go_wp2_with (rw [← H1.out.2.2.2.2.1])
  refine HG.out.mono ?_
  rintro e w2 ⟨rfl, B2⟩
  have HB2 := Lib.hid (H1.out.1.trans (B2.mono H1.out.1.size))
  clear B2
  unfold panicV
  go_wp2
  exact ⟨rfl, rfl, HB2.out⟩
set_option maxRecDepth 100000 in
set_option maxHeartbeats 8000000 in
theorem DoerAt.kids_ok (D : DoerAt X w0 w d b root at_ cnt M who v L E) (r : RawO) (o : Opl) {lo : Nat → Prop} (hr : LeafO w lo r o) (hp : o.path.length ≤ 1000) {nd : Nd} (h : getA o.path M = some nd) :
    Calls Tryz.prog 90 #[.pointer (some ⟨d, 0, none⟩), r.val] w (OpDone X w0 w d b root at_ cnt M M who v E ⟨o.path, nd, kidsS root M o.path⟩) := by
  obtain ⟨ok, op, oa, on, oc, ov, os, oe, pa, pn, pc⟩ := r
  obtain ⟨okd, opp, odata, over, oseq, oeph⟩ := o
  obtain ⟨q1, q2, q3, q4, q5, q6, q7, q8⟩ := hr
  clear q6 q7 q8
  dsimp only at q1 q2 q3 q4 q5 hp h
  subst q1 q2 q3 q4 q5
  unfold RawO.val RawO.cells
  try dsimp only
  obtain ⟨w1, hw1, hb1, hs1, k0, k1, ho1⟩ := op_boxes w ok op oa on oc ov os oe pa pn pc
  have HSO : Hid ((Tryz.prog.info? 26).map (·.size) = some 7) := Lib.hid (by kernel_rfl)
  have HSR : Hid ((Tryz.prog.info? 43).map (·.size) = some 13) := Lib.hid (by kernel_rfl)
  have D1 := D.below hb1
  have H1 := Lib.hid (And.intro hb1 (And.intro hs1 (And.intro k0 (And.intro k1 (And.intro hw1 ho1)))))
  have y1 : w1.cell? ⟨w.heap.size, 1, none⟩ = some (.string (bs op)) := ho1 1 _ rfl
  have hg := D1.told_some op hp h
  have HG := Lib.hid hg
  have HD := Lib.hid D
  have HDL := Lib.hid D.lt
  clear D D1 hg h hb1 hs1 k0 k1 hw1 ho1
  go_enter Tryz.func90, Tryz.ntmps90
  go_wp2_with (rw [← H1.out.2.2.2.2.1])
  refine HG.out.mono ?_
  rintro e w2 ⟨⟨ra, rn, rc, ⟨r1, r2, r3, r4, r5, r6, r7, r8⟩⟩, rfl, hrd, B2, hfree⟩
  unfold repCells Raw.cells Nums.cells
  dsimp only [List.cons_append, List.nil_append]
  obtain ⟨w3, hw3⟩ : ∃ w3, w3 = w2.alloc (.cells #[.int .i64 0, .string (bs op), .slice ra rn rc, .int .u32 r1, .int .u32 r2, .int .u32 r3, .int .i64 r4, .int .u32 r5, .int .u64 r6, .int .u64 r7, .int .u64 r8, .slice none 0 0, .slice none 0 0] 43) := ⟨_, rfl⟩
  have hb3 : Below w2.heap.size w2 w3 := by rw [hw3]; exact belowA (Below.refl _ w2) _
  have k3 : w3.heap[w2.heap.size]? = some (.cells #[.int .i64 0, .string (bs op), .slice ra rn rc, .int .u32 r1, .int .u32 r2, .int .u32 r3, .int .i64 r4, .int .u32 r5, .int .u64 r6, .int .u64 r7, .int .u64 r8, .slice none 0 0, .slice none 0 0] 43 (0, 0)) := by rw [hw3]; exact heap_alloc_new w2 _
  have hb13 : Below w1.heap.size w1 w3 := B2.trans (hb3.mono B2.size)
  have hs3 : w3.heap.size = w2.heap.size + 1 := by rw [hw3]; simp
  have D3 := (HD.out.below H1.out.1).below hb13
  have y0 : ∀ w', Kept (· = w2.heap.size) w3 w' → w'.cell? ⟨d, 0, none⟩ = some (.pointer (some ⟨b, 0, none⟩)) := fun w' hk => (hk.cell (p := ⟨d, 0, none⟩) D3.lt (fun e => by have e : d = w2.heap.size := e; have := HDL.out; have := B2.size; have := H1.out.2.1; omega)).trans D3.c0
  have y2 : ∀ w', Kept (· = w2.heap.size) w3 w' → w'.cell? ⟨w.heap.size, 1, none⟩ = some (.string (bs op)) := fun w' hk => (hk.cell (p := ⟨w.heap.size, 1, none⟩) (by have := B2.size; have := H1.out.2.1; show w.heap.size < w3.heap.size; omega) (fun e => by have e : w.heap.size = w2.heap.size := e; have := B2.size; have := H1.out.2.1; omega)).trans ((hb13.cell (p := ⟨w.heap.size, 1, none⟩) (by have := H1.out.2.1; show w.heap.size < w1.heap.size; omega)).trans y1)
  have HC := Lib.hid ((D3.below (Below.refl _ w3).drew).kidsC op)
  have H3 := Lib.hid (And.intro hw3 (And.intro hb3 (And.intro k3 (And.intro hb13 (And.intro hs3 (And.intro hrd B2))))))
  have HK3 : Hid (Kept (· = w2.heap.size) w3 w3.drew) := Lib.hid (Kept.refl _ w3).drew
  clear hb3 k3 hb13 hs3 D3 hrd B2 hfree hw3
  go_wp2_with fail
  rw [← H3.out.1]
  refine wp_region_held_drew (S := Kept (· = w2.heap.size) w3) (by kernel_rfl) HK3.out (fun hS => ?_)
  refine took_in 0 rfl (by kernel_rfl) (by kernel_rfl) (by kernel_rfl) (by rfl) hS (fun w' hS' => by go_simp <;> rfl) (fun _ _ _ h => h) ?_
  simp only [Act.put, List.setIfInBounds_toArray, List.set_cons_zero, List.set_cons_succ]
  refine took_in 1 rfl (by kernel_rfl) (by kernel_rfl) (by kernel_rfl) (by rfl) hS (fun w' hS' => by go_simp <;> rfl) (fun _ _ _ h => h) ?_
  simp only [Act.put, List.setIfInBounds_toArray, List.set_cons_zero, List.set_cons_succ]
  refine took_in 2 rfl (by kernel_rfl) (by kernel_rfl) (by kernel_rfl) (by rfl) hS (fun w' hS' => by go_simp <;> rfl) (fun _ _ _ h => h) ?_
  simp only [Act.put, List.setIfInBounds_toArray, List.set_cons_zero, List.set_cons_succ]
  refine took_in 3 rfl (by kernel_rfl) (by kernel_rfl) (by kernel_rfl) (by rfl) hS (fun w' hS' => by have := y0 w' hS'; go_simp <;> rfl) (fun _ _ _ h => h) ?_
  simp only [Act.put, List.setIfInBounds_toArray, List.set_cons_zero, List.set_cons_succ]
  refine took_in 4 rfl (by kernel_rfl) (by kernel_rfl) (by kernel_rfl) (by rfl) hS (fun w' hS' => by go_simp <;> rfl) (fun _ _ _ h => h) ?_
  simp only [Act.put, List.setIfInBounds_toArray, List.set_cons_zero, List.set_cons_succ]
  refine took_in 5 rfl (by kernel_rfl) (by kernel_rfl) (by kernel_rfl) (by rfl) hS (fun w' hS' => by have := y2 w' hS'; go_simp <;> rfl) (fun _ _ _ h => h) ?_
  simp only [Act.put, List.setIfInBounds_toArray, List.set_cons_zero, List.set_cons_succ]
  refine call_in 6 rfl (by kernel_rfl) (by rfl) _ _ (by go_simp <;> first | rfl | exact ⟨rfl, rfl⟩) ?_
  refine HC.out.mono ?_
  rintro e w4 ⟨ka, kc, rfl, hsl, B4'⟩
  obtain ⟨kn, hkn⟩ : ∃ kn, kn = (kidsS root M op).length := ⟨_, rfl⟩
  rw [← hkn]
  have B4 : Below w3.heap.size w3 w4 := (Below.refl _ w3).drew.trans B4'
  have S4 : Kept (· = w2.heap.size) w3 w4 := Kept.ofBelow B4
  have k4 : w4.heap[w2.heap.size]? = some (.cells #[.int .i64 0, .string (bs op), .slice ra rn rc, .int .u32 r1, .int .u32 r2, .int .u32 r3, .int .i64 r4, .int .u32 r5, .int .u64 r6, .int .u64 r7, .int .u64 r8, .slice none 0 0, .slice none 0 0] 43 (0, 0)) := (B4.block _ (by have := H3.out.2.2.2.2.1; omega)).trans H3.out.2.2.1
  have c4 : w4.cell? ⟨w2.heap.size, 11, none⟩ = some (.slice none 0 0) := cell_of_row _ _ 11 _ 43 (0, 0) k4
  have f4 : w4.frozen? ⟨w2.heap.size, 11, none⟩ = false := by simp [World.frozen?, k4]
  obtain ⟨w5, hw5⟩ : ∃ w5, w5 = w4.setCell ⟨w2.heap.size, 11, none⟩ (.slice ka kn kc) := ⟨_, rfl⟩
  have K5 : Kept (· = w2.heap.size) w4 w5 := by rw [hw5]; exact Kept.setCell (S := (· = w2.heap.size)) (p := ⟨w2.heap.size, 11, none⟩) (Kept.refl _ w4) rfl _
  have S5 : Kept (· = w2.heap.size) w3 w5 := S4.trans K5
  have k5 : w5.heap[w2.heap.size]? = some (.cells #[.int .i64 0, .string (bs op), .slice ra rn rc, .int .u32 r1, .int .u32 r2, .int .u32 r3, .int .i64 r4, .int .u32 r5, .int .u64 r6, .int .u64 r7, .int .u64 r8, .slice ka kn kc, .slice none 0 0] 43 (0, 0)) := by
    rw [hw5]
    simp [World.setCell, Array.getElem?_modify, k4]
  have ht5 : w5.there (w.heap.size + 1) 0 13 := there_of ((K5.block (w.heap.size + 1) (by have := B4.size; have := H3.out.2.2.2.2.1; have := H3.out.2.2.2.2.2.2.size; have := H1.out.2.1; omega) (fun e => by have e : w.heap.size + 1 = w2.heap.size := e; have := H3.out.2.2.2.2.2.2.size; have := H1.out.2.1; omega)).trans ((B4.block (w.heap.size + 1) (by have := H3.out.2.2.2.2.1; have := H3.out.2.2.2.2.2.2.size; have := H1.out.2.1; omega)).trans ((H3.out.2.2.2.1.block (w.heap.size + 1) (by have := H1.out.2.1; omega)).trans H1.out.2.2.2.1))) (by simp)
  have hr5 : w5.rangeAt w2.heap.size 0 [.int .i64 0, .string (bs op), .slice ra rn rc, .int .u32 r1, .int .u32 r2, .int .u32 r3, .int .i64 r4, .int .u32 r5, .int .u64 r6, .int .u64 r7, .int .u64 r8, .slice ka kn kc, .slice none 0 0] := fun j u hu => by
    rw [Nat.zero_add, cell_of_row _ _ j _ 43 (0, 0) k5]
    simpa using hu
  have H4 := Lib.hid (And.intro hsl (And.intro B4 (And.intro k4 (And.intro K5 (And.intro k5 (And.intro ht5 (And.intro hr5 (And.intro hw5 hkn))))))))
  clear hsl B4' B4 k4 K5 k5 ht5 hr5 hkn
  refine ⟨S4, ?_⟩
  try dsimp only
  simp only [Act.put, List.setIfInBounds_toArray, List.set_cons_zero, List.set_cons_succ]
  refine took_in 7 rfl (by kernel_rfl) (by kernel_rfl) (by kernel_rfl) (by rfl) S4 (fun w' hS' => by go_simp <;> rfl) (fun _ _ _ h => h) ?_
  simp only [Act.put, List.setIfInBounds_toArray, List.set_cons_zero, List.set_cons_succ]
  refine do_in 8 rfl (by kernel_rfl) (by rfl) w5 (by rw [hw5]; go_simp <;> first | rfl | exact ⟨rfl, rfl⟩) S5 ?_
  clear hw5 c4 f4 S4 S5 y0 y2 hS
  simp only [Act.put, List.setIfInBounds_toArray, List.set_cons_zero, List.set_cons_succ]
  refine wpAnyH_done (by kernel_rfl) ?_ _
  have HON : Hid ((#[.int .i64 0, .string (bs op), .slice ra rn rc, .int .u32 r1, .int .u32 r2, .int .u32 r3, .int .i64 r4, .int .u32 r5, .int .u64 r6, .int .u64 r7, .int .u64 r8, .slice ka kn kc, .slice none 0 0] : Array Value).all (·.oneCell') = true) := Lib.hid (by simp [Value.oneCell'])
  go_wp2_with (first
    | (refine wpList_load_mid rfl 43 (.tmp 5) rfl w2.heap.size 0 rfl [.int .i64 0, .string (bs op), .slice ra rn rc, .int .u32 r1, .int .u32 r2, .int .u32 r3, .int .i64 r4, .int .u32 r5, .int .u64 r6, .int .u64 r7, .int .u64 r8, .slice ka kn kc, .slice none 0 0] _ H4.out.2.2.2.2.2.2.1 Tryz.underlying43 rfl HSR.out ?_)
    | (refine wpList_store_mid rfl 43 (.tmp 4) (.tmp 18) rfl (w.heap.size + 1) 0 #[.int .i64 0, .string (bs op), .slice ra rn rc, .int .u32 r1, .int .u32 r2, .int .u32 r3, .int .i64 r4, .int .u32 r5, .int .u64 r6, .int .u64 r7, .int .u64 r8, .slice ka kn kc, .slice none 0 0] rfl rfl H4.out.2.2.2.2.2.1 HSR.out HON.out ?_))
  refine bodyPost_ret (results_cell_mid rfl _ _ (w.heap.size + 1) 0 [.int .i64 0, .string (bs op), .slice ra rn rc, .int .u32 r1, .int .u32 r2, .int .u32 r3, .int .i64 r4, .int .u32 r5, .int .u64 r6, .int .u64 r7, .int .u64 r8, .slice ka kn kc, .slice none 0 0] _ rfl (World.rangeAt_setCells_same _ _ _ _ H4.out.2.2.2.2.2.1) Tryz.underlying43 rfl HSR.out) rfl ?_
  obtain ⟨hb1, hs1, k0, k1, _, _⟩ := H1.out
  obtain ⟨_, g2, g3, g4, g5, g6, g7⟩ := H3.out
  obtain ⟨h1, h2, h3, h4, h5, h6, h7, _, hkn⟩ := H4.out
  have s12 := g7.size
  have s34 := h2.size
  have s45 := h4.size
  have K9 : Kept (· = w.heap.size + 1) w5 (w5.setCells (w.heap.size + 1) 0 [.int .i64 0, .string (bs op), .slice ra rn rc, .int .u32 r1, .int .u32 r2, .int .u32 r3, .int .i64 r4, .int .u32 r5, .int .u64 r6, .int .u64 r7, .int .u64 r8, .slice ka kn kc, .slice none 0 0]) := Kept.setCells (S := (· = w.heap.size + 1)) (p := w.heap.size + 1) rfl _ 0 (Kept.refl _ w5)
  have hb03 : Below w.heap.size w w3 := hb1.trans (g4.mono hb1.size)
  have hb4 : Below w.heap.size w w4 := hb03.trans (h2.mono hb03.size)
  have k1' : w5.heap[w.heap.size + 1]? = _ := (h4.block (w.heap.size + 1) (by omega) (fun e => by have e : w.heap.size + 1 = w2.heap.size := e; omega)).trans ((h2.block (w.heap.size + 1) (by omega)).trans ((g4.block (w.heap.size + 1) (by omega)).trans k1))
  have D5 := (HD.out.below hb4).turn h3 (rep_free _ _ _ _ _ _ _ _ _ _ _ _ _ _ _ _ _ _ _) (by decide) (by decide) (by decide) (by have := HD.out.tree.bl.size; omega) h4
  have D9 := D5.turn k1' zr_free (by decide) (by decide) (by decide) (by have := HD.out.tree.bl.size; omega) K9
  have hvl : ∀ k, v.ownBlock = some k → k < w.heap.size := fun k e => (HD.out.row.own.lt k e).2
  subst hkn
  refine ⟨⟨v, _, ⟨ra, rn, rc, ⟨r1, r2, r3, r4, r5, r6, r7, r8⟩⟩, ka, kc, rfl, D9, fun k h => .inl h, ?_, ?_⟩, ?_⟩
  · have e1 := g6.monoB (lo' := fun k => w1.heap.size ≤ k ∧ k < w2.heap.size) (fun k hk hl => ⟨hk, hl⟩)
    have e2 := e1.keptS (Kept.ofBelow (S := fun _ => False) (g2.trans (h2.mono g2.size))) (fun _ _ _ h => h)
    have e3 := e2.keptS h4 (fun k hk _ e => by have e : k = w2.heap.size := e; omega)
    have e4 := e3.keptS K9 (fun k hk _ e => by have e : k = w.heap.size + 1 := e; omega)
    exact e4.mono (fun k hk => ⟨by omega, fun e => by have := hvl k e; omega⟩)
  · have e3 := h1.keptS h4 (fun k hk _ e => by have hk : w3.heap.size ≤ k := hk; have e : k = w2.heap.size := e; omega)
    have e4 := e3.keptS K9 (fun k hk _ e => by have hk : w3.heap.size ≤ k := hk; have e : k = w.heap.size + 1 := e; omega)
    exact e4.mono (fun k hk _ => by have hk : w3.heap.size ≤ k := hk; exact ⟨by omega, fun e => by have := hvl k e; omega⟩)
  · have q1 : Kept (fun k => k = b ∨ k = d ∨ v.ownBlock = some k) w w5 := (Kept.ofBelow hb4).newK h4 (by omega)
    exact q1.newK K9 (by omega)
end
end Go.Proofs.YtnclkfhdpkkakaaGreatDoor
