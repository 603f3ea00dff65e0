/-
  An operation on a tree's nodes: its error, its effects, its answer; effects fit.
  must, walked; operations as they lie; the doer.
-/
import Derived.Test.YtnclkfhdpkkakaaGreatDoorTrInv
import Derived.Lib.ItoaNum
import Derived.Test.YtnclkfhdpkkakaaGreatDoorGnRow
import Derived.WalkLawsBesides
namespace Go.Proofs.YtnclkfhdpkkakaaGreatDoor
set_option linter.unusedVariables false
set_option linter.unusedSimpArgs false
set_option linter.unusedVariables false
set_option linter.unusedSimpArgs false

/-- A session. -/
structure Sess where
  site : Int
  n : Int
  deriving DecidableEq
/-- An operation that is no multi. -/
structure Opl where
  kind : Int
  path : Bytes
  data : Bytes
  ver : Int
  seq : Bool
  eph : Bool
  deriving DecidableEq
/-- What is answered. -/
structure Ans where
  path : Bytes
  node : Nd
  kids : List Bytes
  deriving DecidableEq
def noAns : Ans := ⟨[], zNd, []⟩
/-- A number of 32 bits, one more. -/
def inc32 (n : Int) : Int := IntKind.u32.wrap (n + 1)
/-- Ten digits. -/
def digs (n : Int) : Bytes := List.replicate (10 - (Lib.decDigits n.toNat).length) 48 ++ Lib.decDigits n.toNat
/-- The parent behind a change of its children. -/
def upN (d : Nd) (at_ : Int) : Nd := ⟨d.data, { d.num with kin := inc32 d.num.kin, tch := at_ }⟩
def nextN (d : Nd) : Nd := ⟨d.data, { d.num with next := inc32 d.num.next }⟩
def newN (data : Bytes) (at_ : Int) (who : Sess) (eph : Bool) : Nd := ⟨data, ⟨0, 0, 0, if eph then who.site else 0, if eph then who.n else 0, at_, at_, at_⟩⟩
def setN (d : Nd) (data : Bytes) (at_ : Int) : Nd := ⟨data, { d.num with ver := inc32 d.num.ver, chg := at_ }⟩
def noSess (s n : Int) : Bool := decide (s = 0) && decide (n = 0)
/-- The path that is made. -/
def newPath (M : List (Bytes × Nd)) (o : Opl) : Bytes := if o.seq then o.path ++ digs ((getA (parentL o.path) M).getD zNd).num.next else o.path
def createE (root : Bytes) (M : List (Bytes × Nd)) (who : Sess) (o : Opl) : Int :=
  if o.path = root then (if o.seq then 30 else 32)
  else if (partsL (newPath M o)).isSome = false then 30
  else match getA (parentL (newPath M o)) M with
  | none => 31
  | some u => if noSess u.num.os u.num.on = false then 34 else if o.eph = true ∧ noSess who.site who.n = true then 63 else if (getA (newPath M o) M).isSome = true then 32 else if 48 ≤ M.length then 36 else 0
def createU (M : List (Bytes × Nd)) (at_ : Int) (o : Opl) : Nd := if o.seq then nextN (upN ((getA (parentL (newPath M o)) M).getD zNd) at_) else upN ((getA (parentL (newPath M o)) M).getD zNd) at_
def createX (M : List (Bytes × Nd)) (at_ : Int) (who : Sess) (o : Opl) : List Eff := [⟨parentL (newPath M o), false, createU M at_ o⟩, ⟨newPath M o, false, newN o.data at_ who o.eph⟩]
/-- A node of the version that is asked for. -/
def verE (M : List (Bytes × Nd)) (o : Opl) : Int := match getA o.path M with
  | none => 31
  | some d => if 0 ≤ o.ver ∧ o.ver ≠ IntKind.i64.wrap d.num.ver then 35 else 0
def removeE (root : Bytes) (M : List (Bytes × Nd)) (o : Opl) : Int := if o.path = root then 30 else if verE M o ≠ 0 then verE M o else if 0 < (kidsS root M o.path).length then 33 else 0
def removeX (M : List (Bytes × Nd)) (at_ : Int) (o : Opl) : List Eff := [⟨o.path, true, zNd⟩, ⟨parentL o.path, false, upN ((getA (parentL o.path) M).getD zNd) at_⟩]
def nodeAt (M : List (Bytes × Nd)) (p : Bytes) : Nd := (getA p M).getD zNd
def setX (M : List (Bytes × Nd)) (at_ : Int) (o : Opl) : List Eff := [⟨o.path, false, setN (nodeAt M o.path) o.data at_⟩]
/-- The error of an operation; none is 0. -/
def opE (root : Bytes) (M : List (Bytes × Nd)) (who : Sess) (o : Opl) : Int :=
  if underB o.path root = false then 30
  else if o.kind = 1 then createE root M who o
  else if o.kind = 2 then removeE root M o
  else if o.kind = 3 ∨ o.kind = 4 then verE M o
  else if (getA o.path M).isSome = false then 31 else 0
def opX (M : List (Bytes × Nd)) (at_ : Int) (who : Sess) (o : Opl) : List Eff :=
  if o.kind = 1 then createX M at_ who o else if o.kind = 2 then removeX M at_ o else if o.kind = 3 then setX M at_ o else []
def opA (root : Bytes) (M : List (Bytes × Nd)) (at_ : Int) (who : Sess) (o : Opl) : Ans :=
  if o.kind = 1 then ⟨newPath M o, newN o.data at_ who o.eph, []⟩
  else if o.kind = 2 then ⟨o.path, zNd, []⟩
  else if o.kind = 3 then ⟨o.path, setN (nodeAt M o.path) o.data at_, []⟩
  else if o.kind = 6 then ⟨o.path, nodeAt M o.path, kidsS root M o.path⟩
  else ⟨o.path, nodeAt M o.path, []⟩
/-! ### the path that is made -/
theorem segs_more (d : Bytes) (hd : (47 : UInt8) ∉ d) : ∀ r : Bytes, segs (r ++ d) = (segs r).dropLast ++ [(segs r).getLast (segs_ne r) ++ d]
  | [] => by
    rw [List.nil_append, segs_alone d hd]
    simp [segs]
  | c :: r => by
    have ih := segs_more d hd r
    by_cases hc : c = 47
    · subst hc
      rw [List.cons_append, segs_slash, ih]
      simp only [segs_slash]
      rw [List.dropLast_cons_of_ne_nil (segs_ne r), List.getLast_cons (segs_ne r)]
      rfl
    · obtain ⟨h, t, e1, e2⟩ := segs_other c r hc
      obtain ⟨h', t', e3, e4⟩ := segs_other c (r ++ d) hc
      rw [List.cons_append, e4]
      rw [ih] at e3
      simp only [e1] at e3
      simp only [e2]
      cases t with
      | nil =>
        simp at e3
        obtain ⟨rfl, rfl⟩ := e3
        simp
      | cons y t =>
        simp at e3
        obtain ⟨rfl, rfl⟩ := e3
        simp
theorem dec_free : ∀ u : Nat, (47 : UInt8) ∉ Lib.decDigits u := fun u => by
  induction u using Nat.strongRecOn with
  | ind u ih =>
    intro h
    rw [Lib.decDigits] at h
    have key : ∀ n : Nat, n < 10 → (47 : UInt8) ≠ UInt8.ofNat (48 + n) := fun n hn e => by
      have := congrArg UInt8.toNat e
      rw [UInt8.toNat_ofNat'] at this
      have h47 : (47 : UInt8).toNat = 47 := rfl
      omega
    split at h
    · rename_i h10
      simp only [List.mem_singleton] at h
      exact key u h10 h
    · rcases List.mem_append.1 h with h | h
      · exact ih (u / 10) (by omega) h
      · simp only [List.mem_singleton] at h
        exact key (u % 10) (by omega) h
theorem digs_free (n : Int) : (47 : UInt8) ∉ digs n := by
  intro h
  unfold digs at h
  rcases List.mem_append.1 h with h | h
  · exact absurd (List.mem_replicate.1 h).2 (by decide)
  · exact dec_free _ h
theorem newPath_ok {root : Bytes} {M : List (Bytes × Nd)} {o : Opl} (hu : underB o.path root = true) (hne : o.path ≠ root) (hok : (partsL (newPath M o)).isSome = true) :
    underB (newPath M o) root = true ∧ newPath M o ≠ root ∧ parentL (newPath M o) = parentL o.path := by
  unfold newPath at hok ⊢
  cases hs : o.seq with
  | false => simp only [hs, Bool.false_eq_true, if_false] at hok ⊢; exact ⟨hu, hne, trivial⟩
  | true =>
    simp only [hs, if_true] at hok ⊢
    have hd := digs_free ((getA (parentL o.path) M).getD zNd).num.next
    generalize digs ((getA (parentL o.path) M).getD zNd).num.next = d at hok hd ⊢
    obtain ⟨LP, R, h1, h2, t, ht⟩ := under_of hu
    have e1 := ofL_parts h1
    have e2 := ofL_parts h2
    have htn : t ≠ [] := fun e => hne (by rw [← e1, ← e2, ← ht, e, List.append_nil])
    obtain ⟨L', hL'⟩ := Option.isSome_iff_exists.1 hok
    obtain ⟨r, hr, _, hcase⟩ := partsL_some h1
    rcases hcase with ⟨rfl, rfl⟩ | ⟨hrn, rfl, hall⟩
    · exact absurd (List.append_eq_nil_iff.1 ht).2 htn
    · obtain ⟨r', hr', _, hcase'⟩ := partsL_some hL'
      have hrr : r' = r ++ d := by
        rw [hr, List.cons_append] at hr'
        exact (List.cons.inj hr').2.symm
      subst hrr
      rcases hcase' with ⟨h0, _⟩ | ⟨_, rfl, _⟩
      · exact absurd (List.append_eq_nil_iff.1 h0).1 hrn
      · obtain ⟨y, hseg⟩ : ∃ y, segs (r ++ d) = (segs r).dropLast ++ [y] := ⟨_, segs_more d hd r⟩
        have hdl : (segs (r ++ d)).dropLast = (segs r).dropLast := by rw [hseg, List.dropLast_concat]
        refine ⟨?_, ?_, ?_⟩
        · refine (under_parts hL' h2).2 ?_
          rw [hseg, ← ht, List.dropLast_append_of_ne_nil htn, List.append_assoc]
          exact List.prefix_append _ _
        · intro e
          rw [e, h2] at hL'
          have hlen := congrArg List.length (Option.some.inj hL')
          rw [hseg, ← ht, List.dropLast_append_of_ne_nil htn] at hlen
          have := List.length_pos_iff.2 htn
          simp at hlen
          try omega
        · unfold parentL
          rw [h1, hL']
          dsimp only
          rw [if_neg (segs_ne _), if_neg (segs_ne _), hdl]
/-! ### effects fit -/
section
variable {root : Bytes} {M : List (Bytes × Nd)} {at_ : Int} {who : Sess} {o : Opl}
theorem put_fits {p : Bytes} {d : Nd} (hu : underB p root = true) (hp : p = root ∨ (getA (parentL p) M).isSome = true) (h : (getA p M).isSome = true ∨ M.length < 48) : oneE root M ⟨p, false, d⟩ = 0 ∧ oneM root M ⟨p, false, d⟩ = putA p d M := by
  have h0 : putE root M p = 0 := by
    unfold putE
    rw [if_neg, if_neg]
    · rintro ⟨h1, h2⟩
      rcases h with h3 | h3
      · rw [h3] at h1; cases h1
      · omega
    · rintro ⟨h1, h2⟩
      rcases hp with h3 | h3
      · exact h1 h3
      · rw [h3] at h2; cases h2
  have hn : ¬ underB p root = false := by rw [hu]; simp
  unfold oneE oneM putM
  dsimp only
  rw [if_neg hn, if_neg hn, if_neg (by simp), if_neg (by simp), h0]
  exact ⟨rfl, rfl⟩
/-- A node that is there is put anew. -/
theorem put_there {p : Bytes} {d : Nd} (I : Inv root M) (h : (getA p M).isSome = true) : oneE root M ⟨p, false, d⟩ = 0 ∧ oneM root M ⟨p, false, d⟩ = putA p d M := by
  have hm := getA_some.1 h
  refine put_fits (I.under p hm) ?_ (.inl h)
  by_cases hr : p = root
  · exact .inl hr
  · exact .inr (getA_some.2 (I.parent p hm hr))
theorem applyA_two {e f : Eff} (h1 : oneE root M e = 0) (h2 : oneE root (oneM root M e) f = 0) : applyA root M [e, f] = (0, oneM root (oneM root M e) f) := by
  rw [applyA_pos h1, applyA_pos h2]
  rfl
theorem applyA_one {e : Eff} (h1 : oneE root M e = 0) : applyA root M [e] = (0, oneM root M e) := by
  rw [applyA_pos h1]
  rfl
/-- What a create does. -/
def createM (M : List (Bytes × Nd)) (at_ : Int) (who : Sess) (o : Opl) : List (Bytes × Nd) := putA (newPath M o) (newN o.data at_ who o.eph) (putA (parentL (newPath M o)) (createU M at_ o) M)
theorem create_parts (h : createE root M who o = 0) : o.path ≠ root ∧ (partsL (newPath M o)).isSome = true ∧ (∃ u, getA (parentL (newPath M o)) M = some u ∧ noSess u.num.os u.num.on = true) ∧ ¬ (o.eph = true ∧ noSess who.site who.n = true) ∧ (getA (newPath M o) M).isSome = false ∧ M.length < 48 := by
  unfold createE at h
  split at h
  · split at h <;> cases h
  · rename_i h1
    split at h
    · cases h
    · rename_i h2
      split at h
      · cases h
      · rename_i u hu
        split at h
        · cases h
        · rename_i h3
          split at h
          · cases h
          · rename_i h4
            split at h
            · cases h
            · rename_i h5
              split at h
              · cases h
              · rename_i h6
                exact ⟨h1, by cases hb : (partsL (newPath M o)).isSome; exact absurd hb h2; rfl, ⟨u, hu, by simpa using h3⟩, h4, by simpa using h5, by omega⟩
theorem create_fits (I : Inv root M) (hu : underB o.path root = true) (h : createE root M who o = 0) : applyA root M (createX M at_ who o) = (0, createM M at_ who o) := by
  obtain ⟨h1, h2, ⟨u, h3, _⟩, _, h5, h6⟩ := create_parts h
  obtain ⟨g1, g2, g3⟩ := newPath_ok hu h1 h2
  have hs : (getA (parentL (newPath M o)) M).isSome = true := by rw [h3]; rfl
  obtain ⟨a1, a2⟩ := put_there (d := createU M at_ o) I hs
  have hne : newPath M o ≠ parentL (newPath M o) := fun e => (under_parent g1 g2).2 e.symm
  obtain ⟨b1, b2⟩ := put_fits (M := putA (parentL (newPath M o)) (createU M at_ o) M) (d := newN o.data at_ who o.eph) g1 (.inr (by rw [getA_putA_same]; rfl)) (.inr (by rw [putA_length, hs]; exact h6))
  unfold createX createM
  rw [applyA_two a1 (by rw [a2]; exact b1), a2, b2]
theorem ver_there (h : verE M o = 0) : ∃ d, getA o.path M = some d ∧ ¬ (0 ≤ o.ver ∧ o.ver ≠ IntKind.i64.wrap d.num.ver) := by
  unfold verE at h
  split at h
  · cases h
  · rename_i d hd
    split at h
    · cases h
    · rename_i h2; exact ⟨d, hd, h2⟩
def setM (M : List (Bytes × Nd)) (at_ : Int) (o : Opl) : List (Bytes × Nd) := putA o.path (setN (nodeAt M o.path) o.data at_) M
theorem set_fits (I : Inv root M) (h : verE M o = 0) : applyA root M (setX M at_ o) = (0, setM M at_ o) := by
  obtain ⟨d, hd, _⟩ := ver_there h
  obtain ⟨a1, a2⟩ := put_there (d := setN (nodeAt M o.path) o.data at_) I (by rw [hd]; rfl)
  unfold setX setM
  rw [applyA_one a1, a2]
def removeM (M : List (Bytes × Nd)) (at_ : Int) (o : Opl) : List (Bytes × Nd) := putA (parentL o.path) (upN ((getA (parentL o.path) M).getD zNd) at_) (delA o.path M)
theorem remove_parts (h : removeE root M o = 0) : o.path ≠ root ∧ verE M o = 0 ∧ (kidsS root M o.path).length = 0 := by
  unfold removeE at h
  split at h
  · cases h
  · rename_i h1
    split at h
    · rename_i h2; exact absurd h h2
    · rename_i h2
      split at h
      · cases h
      · rename_i h3; exact ⟨h1, by simpa using h2, by omega⟩
theorem remove_fits (I : Inv root M) (hu : underB o.path root = true) (h : removeE root M o = 0) : applyA root M (removeX M at_ o) = (0, removeM M at_ o) := by
  obtain ⟨h1, h2, h3⟩ := remove_parts h
  obtain ⟨d, hd, _⟩ := ver_there h2
  have hs : (getA o.path M).isSome = true := by rw [hd]; rfl
  have hg : goneE root M o.path = 0 := by unfold goneE; rw [if_neg h1, if_neg (by rw [hs]; simp), if_neg (by omega)]
  have hn : ¬ underB o.path root = false := by rw [hu]; simp
  have a1 : oneE root M ⟨o.path, true, zNd⟩ = 0 := by unfold oneE; dsimp only; rw [if_neg hn, if_pos rfl, hg]
  have a2 : oneM root M ⟨o.path, true, zNd⟩ = delA o.path M := by unfold oneM goneM; dsimp only; rw [if_neg hn, if_pos rfl, hg]; rfl
  have I2 : Inv root (delA o.path M) := by rw [← a2]; exact I.one _
  have hpar := I.parent o.path (getA_some.1 hs) h1
  have hp2 : (getA (parentL o.path) (delA o.path M)).isSome = true := getA_some.2 ((delA_keys I.nodup _).2 ⟨hpar, (under_parent hu h1).2⟩)
  obtain ⟨b1, b2⟩ := put_there (d := upN ((getA (parentL o.path) M).getD zNd) at_) I2 hp2
  unfold removeX removeM
  rw [applyA_two a1 (by rw [a2]; exact b1), a2, b2]
end
end Go.Proofs.YtnclkfhdpkkakaaGreatDoor

namespace Go.Proofs.YtnclkfhdpkkakaaGreatDoor
set_option linter.unusedVariables false
set_option linter.unusedSimpArgs false
set_option linter.unusedVariables false
set_option linter.unusedSimpArgs false
open Go Go.RowKit Go.Shelf Go.MapKept Go.ChangeMaps Go.Maps Go.Sort

/-- An error that a panic carries. -/
def errV (x : Int) : Value := .iface 36 (.int .i64 x)
def panicV (x : Int) : Ending := .panicked [{ v := errV x, recovered := false }]
theorem must_yes (x : Int) (w : World) : Calls Tryz.prog 58 #[.bool true, .int .i64 x] w fun e w' => e = .returned (.tuple #[]) ∧ w' = w := by
  go_enter Tryz.func58, Tryz.ntmps58
  go_wp2
  (try simp only [Exit.inBlock, Exit.then]); refine bodyPost_end (results_none rfl _ _ _) rfl ?_
  exact ⟨rfl, rfl⟩
theorem must_no (x : Int) (w : World) : Calls Tryz.prog 58 #[.bool false, .int .i64 x] w fun e w' => e = panicV x ∧ w' = w := by
  go_enter Tryz.func58, Tryz.ntmps58
  go_wp2
  exact ⟨rfl, rfl, rfl⟩
/-- An operation as it lies. -/
structure RawO where
  kind : Int
  path : Bytes
  da : Option Addr
  dn : Nat
  dc : Nat
  ver : Int
  seq : Bool
  eph : Bool
  pa : Option Addr
  pn : Nat
  pc : Nat
def RawO.cells (r : RawO) : List Value := [.int .u8 r.kind, .string (bs r.path), .slice r.da r.dn r.dc, .int .i64 r.ver, .bool r.seq, .bool r.eph, .slice r.pa r.pn r.pc]
def RawO.val (r : RawO) : Value := .agg r.cells.toArray
/-- It reads as an operation; its data lie in blocks of lo. -/
structure LeafO (w : World) (lo : Nat → Prop) (r : RawO) (o : Opl) : Prop where
  kind : r.kind = o.kind
  path : r.path = o.path
  ver : r.ver = o.ver
  seq : r.seq = o.seq
  eph : r.eph = o.eph
  len : r.dn = o.data.length
  data : ByteSl w lo w.heap.size r.da o.data
  nil : r.da = none → o.data = [] ∧ r.dc = 0
theorem LeafO.below {w w' : World} {lo : Nat → Prop} {r : RawO} {o : Opl} (h : LeafO w lo r o) (hb : Below w.heap.size w w') : LeafO w' lo r o := ⟨h.kind, h.path, h.ver, h.seq, h.eph, h.len, (h.data.below hb).mono (fun _ h => h) hb.size, h.nil⟩
/-- The doer at block d: its tree at block b; what the tree's data lie in are no blocks of X. -/
structure DoerAt (X : Nat → Prop) (w0 w : World) (d b : Nat) (root : Bytes) (at_ cnt : Int) (M : List (Bytes × Nd)) (who : Sess) (v : Value) (L : List RawE) (E : List Eff) : Prop where
  tree : TR w0 w b root cnt M
  blk : w.heap[d]? = some (.cells #[.pointer (some ⟨b, 0, none⟩), .int .u64 at_, .int .i64 who.site, .int .u32 who.n, v] 82 (0, 0))
  row : EffRow w w0.heap.size v L E
  hd : w0.heap.size ≤ d
  inv : Inv root M
  rlike : LikeE w (fun k => v.ownBlock ≠ some k ∧ ¬ X k) L E
  old : ∀ k, X k → k < w.heap.size
  far : ∃ lo mb, TreeAt w lo b mb root cnt M ∧ ∀ k, lo k → (v.ownBlock ≠ some k ∧ k ≠ d) ∧ ¬ X k
theorem DoerAt.c0 {X : Nat → Prop} {w0 w : World} {d b : Nat} {root : Bytes} {at_ cnt : Int} {M : List (Bytes × Nd)} {who : Sess} {v : Value} {L : List RawE} {E : List Eff} (D : DoerAt X w0 w d b root at_ cnt M who v L E) : w.cell? ⟨d, 0, none⟩ = some (.pointer (some ⟨b, 0, none⟩)) := cell_of_row _ _ 0 _ 82 (0, 0) D.blk
end Go.Proofs.YtnclkfhdpkkakaaGreatDoor
