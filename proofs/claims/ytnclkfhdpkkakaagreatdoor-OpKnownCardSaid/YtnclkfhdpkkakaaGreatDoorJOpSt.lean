/-
  Operations on nodes, in a form that can be reckoned.
  A tree in a run of operations: one bundle; did of one operation.
-/
import Derived.Test.YtnclkfhdpkkakaaGreatDoorJOpDid
import Derived.Test.YtnclkfhdpkkakaaGreatDoorTrEval
namespace Go.Proofs.YtnclkfhdpkkakaaGreatDoor
set_option linter.unusedVariables false
set_option linter.unusedSimpArgs false
theorem digs_eq {n : Int} (h : n.toNat < 10 ^ 10) : digs n = (List.range 10).map fun i => Lib.dg n.toNat (9 - i) := by
  unfold digs
  rw [Lib.decDigits_length]
  have hk := nDigits_le 9 n.toNat h
  have hp := Lib.lt_pow_nDigits n.toNat
  rw [Lib.decDigits_eq]
  generalize Lib.nDigits n.toNat = k at hk hp ⊢
  generalize n.toNat = u at hp ⊢
  apply List.ext_getElem
  · simp; omega
  · intro i h1 h2
    simp at h1 h2
    by_cases hi : i < 10 - k
    · rw [List.getElem_append_left (by simpa using hi)]
      simp
      have h3 : u / 10 ^ (9 - i) = 0 := Nat.div_eq_of_lt (Nat.lt_of_lt_of_le hp (Nat.pow_le_pow_right (by decide) (by omega)))
      unfold Lib.dg
      rw [h3]
      rfl
    · rw [List.getElem_append_right (by simpa using hi)]
      simp
      congr 1
      omega
def digsC (n : Int) : Bytes := (List.range 10).map fun i => Lib.dg n.toNat (9 - i)
def newPathC (M : List (Bytes × Nd)) (o : Opl) : Bytes := if o.seq then o.path ++ digsC ((getA (parentC o.path) M).getD zNd).num.next else o.path
theorem newPath_eq {M : List (Bytes × Nd)} {o : Opl} (h : Nice M) : newPath M o = newPathC M o := by
  unfold newPath newPathC
  rw [parentL_eq]
  split
  · congr 1
    refine digs_eq ?_
    obtain ⟨un, h1, h2⟩ := next_nat h (parentC o.path)
    rw [← h1]
    simp
    omega
  · rfl
def createEC (root : Bytes) (M : List (Bytes × Nd)) (who : Sess) (o : Opl) : Int :=
  if o.path = root then (if o.seq then 30 else 32)
  else if (partsC (newPathC M o)).isSome = false then 30
  else match getA (parentC (newPathC M o)) M with
  | none => 31
  | some u => if noSess u.num.os u.num.on = false then 34 else if o.eph = true ∧ noSess who.site who.n = true then 63 else if (getA (newPathC M o) M).isSome = true then 32 else if 48 ≤ M.length then 36 else 0
theorem createE_eq {root : Bytes} {M : List (Bytes × Nd)} {who : Sess} {o : Opl} (h : Nice M) : createE root M who o = createEC root M who o := by
  unfold createE createEC
  rw [newPath_eq h, partsL_eq, parentL_eq]
  rfl
def createUC (M : List (Bytes × Nd)) (at_ : Int) (o : Opl) : Nd := if o.seq then nextN (upN ((getA (parentC (newPathC M o)) M).getD zNd) at_) else upN ((getA (parentC (newPathC M o)) M).getD zNd) at_
def createMC (M : List (Bytes × Nd)) (at_ : Int) (who : Sess) (o : Opl) : List (Bytes × Nd) := putA (newPathC M o) (newN o.data at_ who o.eph) (putA (parentC (newPathC M o)) (createUC M at_ o) M)
theorem createM_eq {M : List (Bytes × Nd)} {at_ : Int} {who : Sess} {o : Opl} (h : Nice M) : createM M at_ who o = createMC M at_ who o := by
  unfold createM createMC createU createUC
  rw [newPath_eq h, parentL_eq]
def removeEC (root : Bytes) (M : List (Bytes × Nd)) (o : Opl) : Int := if o.path = root then 30 else if verE M o ≠ 0 then verE M o else if (M.any fun x => kidC root o.path x.1) = true then 33 else 0
theorem removeE_eq {root : Bytes} {M : List (Bytes × Nd)} {o : Opl} : removeE root M o = removeEC root M o := by
  unfold removeE removeEC
  have h := kids_pos root M o.path
  have h2 : (M.any fun x => kidB root o.path x.1) = (M.any fun x => kidC root o.path x.1) := by
    congr 1
    funext x
    exact kidB_eq _ _ _
  rw [h2] at h
  split
  · rfl
  · split
    · rfl
    · by_cases hk : (M.any fun x => kidC root o.path x.1) = true
      · rw [if_pos hk, if_pos (h.2 hk)]
      · rw [if_neg hk, if_neg (fun h3 => hk (h.1 h3))]
def removeMC (M : List (Bytes × Nd)) (at_ : Int) (o : Opl) : List (Bytes × Nd) := putA (parentC o.path) (upN ((getA (parentC o.path) M).getD zNd) at_) (delA o.path M)
def opEC (root : Bytes) (M : List (Bytes × Nd)) (who : Sess) (o : Opl) : Int :=
  if underC o.path root = false then 30
  else if o.kind = 1 then createEC root M who o
  else if o.kind = 2 then removeEC root M o
  else if o.kind = 3 ∨ o.kind = 4 then verE M o
  else if (getA o.path M).isSome = false then 31 else 0
theorem opE_eq {root : Bytes} {M : List (Bytes × Nd)} {who : Sess} {o : Opl} (h : Nice M) : opE root M who o = opEC root M who o := by
  unfold opE opEC
  rw [underB_eq, createE_eq h, removeE_eq]
def opMC (root : Bytes) (M : List (Bytes × Nd)) (at_ : Int) (who : Sess) (o : Opl) : List (Bytes × Nd) :=
  if opEC root M who o ≠ 0 then M else if o.kind = 1 then createMC M at_ who o else if o.kind = 2 then removeMC M at_ o else if o.kind = 3 then setM M at_ o else M
theorem opM_eq {root : Bytes} {M : List (Bytes × Nd)} {at_ : Int} {who : Sess} {o : Opl} (h : Nice M) : opM root M at_ who o = opMC root M at_ who o := by
  unfold opM opMC removeM removeMC
  rw [opE_eq h, createM_eq h, parentL_eq]
/-- What is answered, but for children. -/
def opAC (M : List (Bytes × Nd)) (at_ : Int) (who : Sess) (o : Opl) : Ans :=
  if o.kind = 1 then ⟨newPathC M o, newN o.data at_ who o.eph, []⟩
  else if o.kind = 2 then ⟨o.path, zNd, []⟩
  else if o.kind = 3 then ⟨o.path, setN (nodeAt M o.path) o.data at_, []⟩
  else ⟨o.path, nodeAt M o.path, []⟩
theorem opA_eq {root : Bytes} {M : List (Bytes × Nd)} {at_ : Int} {who : Sess} {o : Opl} (h : Nice M) (hk : o.kind ≠ 6) : opA root M at_ who o = opAC M at_ who o := by
  unfold opA opAC
  rw [newPath_eq h, if_neg hk]
/-- Numbers stay numbers. -/
theorem nice_put {M : List (Bytes × Nd)} {p : Bytes} {d : Nd} (h : Nice M) (hd : 0 ≤ d.num.next ∧ d.num.next < 4294967296) : Nice (putA p d M) := fun x hx => by
  rcases putA_mem hx with rfl | hx
  · exact hd
  · exact h x hx
theorem nice_node {M : List (Bytes × Nd)} (h : Nice M) (p : Bytes) : 0 ≤ ((getA p M).getD zNd).num.next ∧ ((getA p M).getD zNd).num.next < 4294967296 := by
  obtain ⟨un, h1, h2⟩ := next_nat h p
  omega
theorem inc32_in (n : Int) : 0 ≤ inc32 n ∧ inc32 n < 4294967296 := by
  unfold inc32
  rw [IntKind.wrap_u32]
  omega
theorem Nice.op {root : Bytes} {M : List (Bytes × Nd)} {at_ : Int} {who : Sess} (h : Nice M) (o : Opl) : Nice (opM root M at_ who o) := by
  unfold opM
  split
  · exact h
  · split
    · refine nice_put (nice_put h ?_) ⟨by show (0 : Int) ≤ 0; omega, by show (0 : Int) < 4294967296; omega⟩
      unfold createU
      split
      · exact inc32_in _
      · exact nice_node h _
    · split
      · exact nice_put (fun x hx => h x (delA_sub.subset hx)) (nice_node h _)
      · split
        · exact nice_put h (nice_node h _)
        · exact h
end Go.Proofs.YtnclkfhdpkkakaaGreatDoor

namespace Go.Proofs.YtnclkfhdpkkakaaGreatDoor
set_option linter.unusedVariables false
set_option linter.unusedSimpArgs false
open Go Go.RowKit Go.Shelf Go.MapKept Go.ChangeMaps Go.Maps Go.Sort
/-- A tree that operations are done on, in a call that began at w0. -/
structure St (w0 w : World) (b : Nat) (root : Bytes) (at_ : Int) (M : List (Bytes × Nd)) : Prop where
  tr : TR w0 w b root at_ M
  inv : Inv root M
  nice : Nice M
  tab : PowTab w0
  lo : 0 ≤ at_
section
variable {w0 w : World} {b : Nat} {root : Bytes} {at_ : Int} {M : List (Bytes × Nd)}
theorem St.below (S : St w0 w b root at_ M) {w' : World} (hb : Below w.heap.size w w') : St w0 w' b root at_ M := ⟨S.tr.below hb, S.inv, S.nice, S.tab, S.lo⟩
theorem St.pow (S : St w0 w b root at_ M) : PowTab w := tab_below S.tab S.tr.bl
theorem LeafO.lift {w w' : World} {r : RawO} {o : Opl} (h : LeafO w (fun k => k < w.heap.size) r o) (hb : Below w.heap.size w w') : LeafO w' (fun k => k < w'.heap.size) r o :=
  ⟨h.kind, h.path, h.ver, h.seq, h.eph, h.len, ((h.data.below hb).mono (fun k hk => Nat.lt_of_lt_of_le hk hb.size) hb.size), h.nil⟩
theorem check_leaf (w : World) (r : RawO) (o : Opl) (hk : r.kind = o.kind) (hl : Leafy o) (hpn : r.pn = 0) (hdn : r.dn ≤ 64) : ∀ w', Below w.heap.size w w' → Calls Tryz.prog 22 #[r.val] w' (CheckIs w' 0) := fun w' _ => by
  have h := check_any 0 w' r [] (by rw [hpn]; rfl) rfl (by unfold maxLen; omega)
  have e : checkE r.kind r.dn [] = 0 := by
    obtain ⟨k1, k6, _⟩ := hl
    unfold checkE
    rw [if_neg, if_neg (by simp), if_neg]
    · simp; omega
    · simp; omega
  rw [e] at h
  exact h
/-- What did answers of one operation. -/
structure DidOne (w0 w : World) (b : Nat) (root : Bytes) (at_ : Int) (M : List (Bytes × Nd)) (who : Sess) (o : Opl) (e : Ending) (w' : World) : Prop where
  ret : ∃ (r : Raw) (ka : Option Addr) (kc : Nat) (pa : Option Addr) (pc : Nat), e = .returned (.agg (repCells (opE root M who o) (opR root M (at_ + 1) who o).a.path r ka (opR root M (at_ + 1) who o).a.kids.length kc pa 0 pc).toArray) ∧ Reads w' (From w.heap.size) r (opR root M (at_ + 1) who o).a.node ∧ StrLo w' (From w.heap.size) ka (opR root M (at_ + 1) who o).a.kids
  st : St w0 w' b root (if opXs root M (at_ + 1) who o = [] then at_ else at_ + 1) (opM root M (at_ + 1) who o)
  kept : Kept (· = b) w w'
theorem opXs_len {root : Bytes} {M : List (Bytes × Nd)} {at_ : Int} {who : Sess} {o : Opl} : (opXs root M at_ who o).length ≤ 2 := by
  unfold opXs opX
  split
  · simp
  · split
    · simp [createX]
    · split
      · simp [removeX]
      · split
        · simp [setX]
        · simp
theorem St.do_leaf (S : St w0 w b root at_ M) (h1 : at_ ≤ 90000) (r : RawO) (o : Opl) (who : Sess) (hr : LeafO w (fun k => k < w.heap.size) r o) (hl : Leafy o) (hpn : r.pn = 0) (hdn : r.dn ≤ 64) :
    Calls Tryz.prog 14 #[.pointer (some ⟨b, 0, none⟩), r.val, whoV who] w (DoEnd w root M at_ who 0 ⟨o, []⟩) :=
  Go.Proofs.YtnclkfhdpkkakaaGreatDoor.do_leaf S.tr S.inv S.tr.max S.lo h1 S.nice S.pow r ⟨o, []⟩ who hr (check_leaf w r o hr.kind hl hpn hdn) ⟨by have := hl.2.1; show o.kind ≠ 7; omega, hpn, hl⟩
theorem St.did (S : St w0 w b root at_ M) (h1 : at_ ≤ 90000) (r : RawO) (o : Opl) (who : Sess) (hr : LeafO w (fun k => k < w.heap.size) r o) (hl : Leafy o) (hpn : r.pn = 0) (hdn : r.dn ≤ 64) :
    Calls Tryz.prog 25 #[.pointer (some ⟨b, 0, none⟩), r.val, whoV who] w (DidOne w0 w b root at_ M who o) := by
  have hk7 : o.kind ≠ 7 := by have := hl.2.1; omega
  obtain ⟨e1, e2, e3, e4⟩ := do_one (root := root) (M := M) (at_ := at_) (who := who) (o := ⟨o, []⟩) hk7
  have hfine : (⟨o, []⟩ : OpV).fine := by
    intro p hp
    unfold OpV.seq at hp
    rw [if_neg hk7] at hp
    simp at hp
    rw [hp]
    exact hl
  have hM : doM root M at_ who 0 ⟨o, []⟩ = opM root M (at_ + 1) who o := by
    have h1 := do_fits (at_ := at_) (who := who) (ce := 0) (o := ⟨o, []⟩) S.inv
    rw [e2] at h1
    have h2 := op_fits (at_ := at_ + 1) (who := who) S.inv o
    rw [h1] at h2
    exact congrArg Prod.snd h2
  refine (did_any S.tr S.inv S.lo h1 r ⟨o, []⟩ who 0 (fun _ => hfine) (fun w' hb => (S.below hb).do_leaf h1 r o who (hr.lift hb) hl hpn hdn) (by rw [e2]; exact Nat.le_trans opXs_len (by decide))).mono ?_
  rintro e w' ⟨u, rfl, hrep, hT, hK⟩
  rw [e1, e3, e4] at hrep
  rw [e2, hM] at hT
  obtain ⟨rr, ka, kc, pa, pc, rfl, h3, h4, _⟩ := hrep
  refine ⟨⟨rr, ka, kc, pa, pc, rfl, h3, h4⟩, ⟨hT, S.inv.op o, S.nice.op o, S.tab, ?_⟩, hK⟩
  have := S.lo
  split <;> omega
end
end Go.Proofs.YtnclkfhdpkkakaaGreatDoor
