/-
  Plain laws of this claim's own on memory: 'Kept' (which blocks a call may have turned) and 'HasMap' (a block that is a map of known entries): look-up, store, delete, length. They speak of no program text. Maps of known entries: length, delete, the entry's way back.
-/
import Derived.Maps.Keyed
import Derived.Maps.Own
import Derived.WalkKit
import Derived.Deep.Draws
import Derived.WideKeyEntry
namespace Go.Proofs.YtnclkfhdpkkakaaGreatDoor
set_option linter.unusedVariables false
set_option linter.unusedSimpArgs false
open Go.RowKit Go.MapKept Go.ChangeMaps
open Go.Maps (Keyed)
structure Kept (S : Nat → Prop) (w w' : World) : Prop where
 os : w'.os = w.os
 tape : w'.tape = w.tape
 output : w'.output = w.output
 size : w.heap.size ≤ w'.heap.size
 block : ∀ k, k < w.heap.size → ¬ S k → w'.heap[k]? = w.heap[k]?
def Nothing : Nat → Prop := fun _ => False
theorem Kept.refl (S : Nat → Prop) (w : World) : Kept S w w := ⟨rfl, rfl, rfl, Nat.le_refl _, fun _ _ _ => rfl⟩
theorem Kept.trans {S : Nat → Prop} {a b c : World} (h : Kept S a b) (k : Kept S b c) : Kept S a c :=
 ⟨k.os.trans h.os, k.tape.trans h.tape, k.output.trans h.output, Nat.le_trans h.size k.size,
  fun i hi hs => (k.block i (Nat.lt_of_lt_of_le hi h.size) hs).trans (h.block i hi hs)⟩
theorem Kept.mono {S T : Nat → Prop} {a b : World} (h : Kept S a b) (hs : ∀ k, k < a.heap.size → S k → T k) : Kept T a b :=
 ⟨h.os, h.tape, h.output, h.size, fun i hi hn => h.block i hi (fun e => hn (hs i hi e))⟩
theorem Kept.drewN {S : Nat → Prop} {a b : World} (h : Kept S a b) (n : Nat) : Kept S a (b.drewN n) := ⟨h.os, h.tape, h.output, h.size, h.block⟩
theorem Kept.drew {S : Nat → Prop} {a b : World} (h : Kept S a b) : Kept S a b.drew := ⟨h.os, h.tape, h.output, h.size, h.block⟩
theorem Kept.alloc {S : Nat → Prop} {a b : World} (h : Kept S a b) (o : Obj) : Kept S a (b.alloc o) :=
 h.trans ⟨rfl, rfl, rfl, by simp, fun k hk _ => Below.heap_alloc _ _ _ hk⟩
theorem Kept.setCell {S : Nat → Prop} {a b : World} (h : Kept S a b) {p : Addr} (hp : S p.block) (u : Value) : Kept S a (b.setCell p u) :=
 h.trans ⟨rfl, rfl, rfl, by simp [World.setCell], fun k _ hn => Below.heap_setCell _ _ _ _ (fun e => hn (e ▸ hp))⟩
theorem Kept.grown {S : Nat → Prop} {a b c : World} {row : Option Nat} (h : Kept S a b) (hg : b.grownBy c row) (hr : ∀ k, row = some k → a.heap.size ≤ k ∨ S k) : Kept S a c :=
 ⟨hg.os.trans h.os, hg.tape.trans h.tape, hg.output.trans h.output, Nat.le_trans h.size hg.size,
  fun i hi hn => (hg.block i (Nat.lt_of_lt_of_le hi h.size) (fun e => by rcases hr i e.symm with h1 | h1; omega; exact hn h1)).trans (h.block i hi hn)⟩
theorem Kept.below {S : Nat → Prop} {a b : World} (h : Kept S a b) {B : Nat} (hB : B ≤ a.heap.size) (hs : ∀ k, S k → B ≤ k) : Below B a b :=
 ⟨h.os, h.tape, h.output, h.size, fun k hk => h.block k (by omega) (fun e => by have := hs k e; omega)⟩
theorem Kept.cell {S : Nat → Prop} {a b : World} (h : Kept S a b) {p : Addr} (hp : p.block < a.heap.size) (hn : ¬ S p.block) : b.cell? p = a.cell? p :=
 World.cell?_of_block (w := a) (h.block _ hp hn)
theorem Kept.frozen {S : Nat → Prop} {a b : World} (h : Kept S a b) {p : Addr} (hp : p.block < a.heap.size) (hn : ¬ S p.block) : b.frozen? p = a.frozen? p :=
 World.frozen?_of_block (w := a) (h.block _ hp hn)
theorem Kept.same {S : Nat → Prop} {a b : World} (h : Kept S a b) {k : Nat} {o : Obj} (ho : a.heap[k]? = some o) (hn : ¬ S k) : b.heap[k]? = some o :=
 (h.block k (lt_of_block ho) hn).trans ho
section
variable {κ ν : Type} [DecidableEq κ]
def getA (a : κ) : List (κ × ν) → Option ν
 | [] => none
 | p :: r => if p.1 = a then some p.2 else getA a r
def putA (a : κ) (v : ν) : List (κ × ν) → List (κ × ν)
 | [] => [(a, v)]
 | p :: r => if p.1 = a then (a, v) :: r else p :: putA a v r
def delA (a : κ) : List (κ × ν) → List (κ × ν)
 | [] => []
 | p :: r => if p.1 = a then r else p :: delA a r
theorem getA_putA_same (a : κ) (v : ν) : ∀ m : List (κ × ν), getA a (putA a v m) = some v
 | [] => by simp [putA, getA]
 | p :: r => by
  unfold putA
  split
  ·simp [getA]
  ·rename_i h; simp only [getA, if_neg h]; exact getA_putA_same a v r
theorem getA_putA_other {a c : κ} (v : ν) (h : c ≠ a) : ∀ m : List (κ × ν), getA c (putA a v m) = getA c m
 | [] => by simp [putA, getA, Ne.symm h]
 | p :: r => by
  unfold putA
  split
  ·rename_i h'; subst h'; simp [getA, Ne.symm h]
  ·simp only [getA]; rw [getA_putA_other v h r]
theorem getA_none {a : κ} : ∀ {m : List (κ × ν)}, getA a m = none ↔ ∀ p ∈ m, p.1 ≠ a
 | [] => by simp [getA]
 | p :: r => by
  unfold getA
  split
  ·rename_i h; simp [h]
  ·rename_i h; rw [getA_none]; simp [h]
def HasMap (P : Program) (k : TypeId) (fk : κ → Value) (fv : ν → Value) (w : World) (b : Nat) (m : List (κ × ν)) : Prop :=
 ∃ es clock, w.heap[b]? = some (.map es clock) ∧ Stamped es clock ∧ (∀ x ∈ es.toList, ∃ l, keyOf P k x.key = some l) ∧ es.toList.map (fun x => (x.key, x.val)) = m.map (fun p => (fk p.1, fv p.2))
variable {P : Program} {k : TypeId} {fk : κ → Value} {fv : ν → Value} {w : World} {b : Nat} {m : List (κ × ν)}
omit [DecidableEq κ] in
theorem HasMap.lt (h : HasMap P k fk fv w b m) : b < w.heap.size := by
 obtain ⟨es, c, hb, _⟩ := h
 exact lt_of_block hb
omit [DecidableEq κ] in
theorem HasMap.of_block (h : HasMap P k fk fv w b m) {w' : World} (hb : w'.heap[b]? = w.heap[b]?) : HasMap P k fk fv w' b m := by
 obtain ⟨es, c, h1, h2⟩ := h
 exact ⟨es, c, hb.trans h1, h2⟩
omit [DecidableEq κ] in
theorem HasMap.kept (h : HasMap P k fk fv w b m) {S : Nat → Prop} {w' : World} (hk : Kept S w w') (hn : ¬ S b) : HasMap P k fk fv w' b m :=
 h.of_block (hk.block b h.lt hn)
omit [DecidableEq κ] in
theorem HasMap.made (P : Program) (k : TypeId) (fk : κ → Value) (fv : ν → Value) (w : World) : HasMap P k fk fv (w.alloc (.map #[] 0)) w.heap.size ([] : List (κ × ν)) :=
 ⟨#[], 0, (MapKept.heap_alloc w _).1, stamped_empty 0, by simp, rfl⟩
omit [DecidableEq κ] in
theorem zip_at {es : List MapEntry} {m : List (κ × ν)} (h : es.map (fun x => (x.key, x.val)) = m.map (fun p => (fk p.1, fv p.2))) {j : Nat} {e : MapEntry} (he : es[j]? = some e) :
  ∃ p, m[j]? = some p ∧ e.key = fk p.1 ∧ e.val = fv p.2 := by
 have h1 : (es.map (fun x => (x.key, x.val)))[j]? = some (e.key, e.val) := by simp [he]
 rw [h] at h1
 simp only [List.getElem?_map, Option.map_eq_some_iff, Prod.mk.injEq] at h1
 obtain ⟨p, hp, h2, h3⟩ := h1
 exact ⟨p, hp, h2.symm, h3.symm⟩
omit [DecidableEq κ] in
theorem zip_at' {es : List MapEntry} {m : List (κ × ν)} (h : es.map (fun x => (x.key, x.val)) = m.map (fun p => (fk p.1, fv p.2))) {j : Nat} {p : κ × ν} (hp : m[j]? = some p) :
  ∃ e, es[j]? = some e ∧ e.key = fk p.1 ∧ e.val = fv p.2 := by
 have h1 : (m.map (fun p => (fk p.1, fv p.2)))[j]? = some (fk p.1, fv p.2) := by simp [hp]
 rw [← h] at h1
 simp only [List.getElem?_map, Option.map_eq_some_iff, Prod.mk.injEq] at h1
 exact h1
omit [DecidableEq κ] in
theorem keys_nodup {es : List MapEntry} {m : List (κ × ν)} (h : es.map (fun x => (x.key, x.val)) = m.map (fun p => (fk p.1, fv p.2))) (hn : (es.map (·.key)).Nodup) : (m.map (·.1)).Nodup := by
 have h1 : es.map (·.key) = (m.map (·.1)).map fk := by
  have := congrArg (List.map Prod.fst) h
  simpa [List.map_map, Function.comp_def] using this
 rw [h1] at hn
 exact List.Pairwise.of_map fk (fun _ _ h e => h (congrArg fk e)) hn
omit [DecidableEq κ] in
theorem HasMap.nodup (h : HasMap P k fk fv w b m) : (m.map (·.1)).Nodup := by
 obtain ⟨es, c, _, h2, _, h4⟩ := h
 exact keys_nodup h4 h2.2.2
theorem getA_of_at {a : κ} {v : ν} : ∀ {m : List (κ × ν)} {j : Nat}, (m.map (·.1)).Nodup → m[j]? = some (a, v) → getA a m = some v
 | [], j, _, h => by simp at h
 | p :: r, 0, _, h => by simp at h; subst h; simp [getA]
 | p :: r, j + 1, hn, h => by
  simp only [List.getElem?_cons_succ] at h
  have hm : (a, v) ∈ r := List.mem_of_getElem? h
  simp only [List.map_cons, List.nodup_cons] at hn
  have : p.1 ≠ a := fun e => hn.1 (e ▸ List.mem_map.2 ⟨_, hm, rfl⟩)
  simp only [getA, if_neg this]
  exact getA_of_at hn.2 h
theorem putA_of_at {a : κ} {v u : ν} : ∀ {m : List (κ × ν)} {j : Nat}, (m.map (·.1)).Nodup → m[j]? = some (a, v) → putA a u m = m.set j (a, u)
 | [], j, _, h => by simp at h
 | p :: r, 0, _, h => by simp at h; subst h; simp [putA]
 | p :: r, j + 1, hn, h => by
  simp only [List.getElem?_cons_succ] at h
  have hm : (a, v) ∈ r := List.mem_of_getElem? h
  simp only [List.map_cons, List.nodup_cons] at hn
  have : p.1 ≠ a := fun e => hn.1 (e ▸ List.mem_map.2 ⟨_, hm, rfl⟩)
  simp only [putA, if_neg this, List.set_cons_succ]
  rw [putA_of_at hn.2 h]
theorem delA_of_at {a : κ} {v : ν} : ∀ {m : List (κ × ν)} {j : Nat}, (m.map (·.1)).Nodup → m[j]? = some (a, v) → delA a m = m.eraseIdx j
 | [], j, _, h => by simp at h
 | p :: r, 0, _, h => by simp at h; subst h; simp [delA]
 | p :: r, j + 1, hn, h => by
  simp only [List.getElem?_cons_succ] at h
  have hm : (a, v) ∈ r := List.mem_of_getElem? h
  simp only [List.map_cons, List.nodup_cons] at hn
  have : p.1 ≠ a := fun e => hn.1 (e ▸ List.mem_map.2 ⟨_, hm, rfl⟩)
  simp only [delA, if_neg this, List.eraseIdx_cons_succ]
  rw [delA_of_at hn.2 h]
theorem putA_new {a : κ} {u : ν} : ∀ {m : List (κ × ν)}, (∀ p ∈ m, p.1 ≠ a) → putA a u m = m ++ [(a, u)]
 | [], _ => rfl
 | p :: r, h => by
  have h1 : p.1 ≠ a := h p (List.mem_cons_self ..)
  simp only [putA, if_neg h1, List.cons_append]
  rw [putA_new (fun q hq => h q (List.mem_cons_of_mem _ hq))]
theorem delA_new {a : κ} : ∀ {m : List (κ × ν)}, (∀ p ∈ m, p.1 ≠ a) → delA a m = m
 | [], _ => rfl
 | p :: r, h => by
  have h1 : p.1 ≠ a := h p (List.mem_cons_self ..)
  simp only [delA, if_neg h1]
  rw [delA_new (fun q hq => h q (List.mem_cons_of_mem _ hq))]
theorem HasMap.find (K : Keyed P k) (hinj : ∀ x y, fk x = fk y → x = y) {es : Array MapEntry} (hkeys : ∀ x ∈ es.toList, ∃ l, keyOf P k x.key = some l) (hnd : (es.toList.map (·.key)).Nodup)
  (hm : es.toList.map (fun x => (x.key, x.val)) = m.map (fun p => (fk p.1, fv p.2))) {a : κ} {l : Lit} (ha : keyOf P k (fk a) = some l) (w : World) :
  ((Instr.findKey k (fk a) es.toList).run P w = .ok none w ∧ (∀ e ∈ es.toList, e.key ≠ fk a) ∧ getA a m = none) ∨
  ∃ j e v, (Instr.findKey k (fk a) es.toList).run P w = .ok (some (j, e.val)) w ∧ es.toList[j]? = some e ∧ e.key = fk a ∧ e.val = fv v ∧ m[j]? = some (a, v) ∧ getA a m = some v := by
 rcases K.find w ha es.toList hkeys with ⟨h1, h2⟩ | ⟨j, e, h1, h2, h3⟩
 ·refine .inl ⟨h1, h2, getA_none.2 ?_⟩
  intro p hp e
  obtain ⟨j, hj⟩ := List.getElem?_of_mem hp
  obtain ⟨x, hx, hxk, _⟩ := zip_at' hm hj
  exact h2 x (List.mem_of_getElem? hx) (by rw [hxk, e])
 ·obtain ⟨p, hp, hk, hv⟩ := zip_at hm h2
  have e1 : p.1 = a := hinj _ _ (by rw [← hk, h3])
  obtain ⟨pa, pv⟩ := p
  dsimp only at e1 hk hv
  subst e1
  exact .inr ⟨j, e, pv, h1, h2, h3, hv, hp, getA_of_at (keys_nodup hm hnd) hp⟩
theorem HasMap.lookup (h : HasMap P k fk fv w b m) (K : Keyed P k) (hinj : ∀ x y, fk x = fk y → x = y) {t e : TypeId} (ht : P.underlying t = some (.map k e)) {z : Value} (hz : (zeroValue e).run P w = .ok z w)
  {a : κ} {l : Lit} (ha : keyOf P k (fk a) = some l) :
  (Instr.lookup t (.map (some b)) (fk a) false).run P w = .ok (((getA a m).map fv).getD z) w := by
 obtain ⟨es, c, hb, hst, hkeys, hm⟩ := h
 rcases HasMap.find K hinj hkeys hst.2.2 hm ha w with ⟨h1, _, h3⟩ | ⟨j, e0, v, h1, _, _, hv, _, h4⟩
 ·simp [Instr.lookup, run_underlying ht, MapKept.run_getObj_map hb, K.check w _ ha, h1, h3, hz, Result.andThen]
 ·simp [Instr.lookup, run_underlying ht, MapKept.run_getObj_map hb, K.check w _ ha, h1, h4, hv, Result.andThen]
theorem HasMap.lookup_ok (h : HasMap P k fk fv w b m) (K : Keyed P k) (hinj : ∀ x y, fk x = fk y → x = y) {t e : TypeId} (ht : P.underlying t = some (.map k e)) {z : Value} (hz : (zeroValue e).run P w = .ok z w)
  {a : κ} {l : Lit} (ha : keyOf P k (fk a) = some l) :
  (Instr.lookup t (.map (some b)) (fk a) true).run P w = .ok (.tuple #[((getA a m).map fv).getD z, .bool (getA a m).isSome]) w := by
 obtain ⟨es, c, hb, hst, hkeys, hm⟩ := h
 rcases HasMap.find K hinj hkeys hst.2.2 hm ha w with ⟨h1, _, h3⟩ | ⟨j, e0, v, h1, _, _, hv, _, h4⟩
 ·simp [Instr.lookup, run_underlying ht, MapKept.run_getObj_map hb, K.check w _ ha, h1, h3, hz, Result.andThen]
 ·simp [Instr.lookup, run_underlying ht, MapKept.run_getObj_map hb, K.check w _ ha, h1, h4, hv, Result.andThen]
theorem kept_setBlock (hb : b < w.heap.size) (o : Obj) : Kept (· = b) w (setBlock w b o) :=
 ⟨rfl, rfl, rfl, by simp [setBlock], fun i _ hn => by simp only [setBlock, Array.getElem?_setIfInBounds]; rw [if_neg (fun e => hn e.symm)]⟩
theorem HasMap.update (h : HasMap P k fk fv w b m) (K : Keyed P k) (hinj : ∀ x y, fk x = fk y → x = y) {t e : TypeId} (ht : P.underlying t = some (.map k e)) (v : ν)
  {a : κ} {l : Lit} (ha : keyOf P k (fk a) = some l) :
  ∃ o, (∀ w' : World, w'.heap[b]? = w.heap[b]? → (Instr.mapUpdate t (.map (some b)) (fk a) (fv v)).run P w' = .ok () (setBlock w' b o) ∧ HasMap P k fk fv (setBlock w' b o) b (putA a v m)) := by
 obtain ⟨es, c, hb0, hst, hkeys, hm⟩ := h
 rcases HasMap.find K hinj hkeys hst.2.2 hm ha w with ⟨_, h2, h3⟩ | ⟨j, e0, u, _, h2, h3, hv, hmj, h4⟩
 ·refine ⟨.map (es.push ⟨fk a, fv v, c⟩) (c + 1), fun w' hw' => ?_⟩
  have hb := hw'.trans hb0
  rcases K.find w' ha es.toList hkeys with ⟨h1, _⟩ | ⟨j, e, _, h5, h6⟩
  ·refine ⟨?_, ?_⟩
   ·simp [Instr.mapUpdate, run_underlying ht, MapKept.run_getObj_map hb, K.check w' _ ha, h1, MapKept.run_setObj_map _ hb, Result.andThen, setBlock]
   ·refine ⟨es.push ⟨fk a, fv v, c⟩, c + 1, heap_setBlock_same hb _, stamped_push hst h2, ?_, ?_⟩
    ·intro x hx
     simp only [Array.toList_push, List.mem_append, List.mem_singleton] at hx
     rcases hx with hx | rfl
     ·exact hkeys x hx
     ·exact ⟨l, ha⟩
    ·rw [putA_new (getA_none.1 h3)]
     simp [hm]
  ·exact absurd h6 (h2 e (List.mem_of_getElem? h5))
 ·have hj : es[j]? = some e0 := by simpa using h2
  have hlist : (es.modify j (fun e' => { e' with key := fk a, val := fv v })).toList = es.toList.set j { e0 with key := fk a, val := fv v } := by
   rw [Array.toList_modify, modify_eq_set _ _ _ _ h2]
  refine ⟨.map (es.modify j (fun e' => { e' with key := fk a, val := fv v })) c, fun w' hw' => ?_⟩
  have hb := hw'.trans hb0
  rcases HasMap.find K hinj hkeys hst.2.2 hm ha w' with ⟨_, h6, _⟩ | ⟨j', e', u', h1, h6, h7, _, hmj', _⟩
  ·exact absurd h3 (h6 e0 (List.mem_of_getElem? h2))
  ·have hjj : j' = j := by
    have hn := keys_nodup hm hst.2.2
    have h8 : (m.map (·.1))[j']? = some a := by simp [hmj']
    have h9 : (m.map (·.1))[j]? = some a := by simp [hmj]
    obtain ⟨g1, g2⟩ := List.getElem?_eq_some_iff.1 h8
    obtain ⟨g3, g4⟩ := List.getElem?_eq_some_iff.1 h9
    exact (List.getElem_inj hn).1 (g2.trans g4.symm)
   subst hjj
   refine ⟨?_, ?_⟩
   ·simp [Instr.mapUpdate, run_underlying ht, MapKept.run_getObj_map hb, K.check w' _ ha, h1, hj, h3, K.stays w' ha, MapKept.run_setObj_map _ hb, Result.andThen, setBlock]
   ·refine ⟨_, c, heap_setBlock_same hb _, stamped_modify hst _ _ (fun _ _ => rfl) (fun e' _ he' => by rw [hj] at he'; cases he'; exact h3.symm), ?_, ?_⟩
    ·intro x hx
     rw [hlist] at hx
     rcases List.mem_or_eq_of_mem_set hx with hx | rfl
     ·exact hkeys x hx
     ·exact ⟨l, ha⟩
    ·rw [hlist, List.map_set, hm, putA_of_at (keys_nodup hm hst.2.2) hmj, List.map_set]
end
end Go.Proofs.YtnclkfhdpkkakaaGreatDoor
namespace Go.Proofs.YtnclkfhdpkkakaaGreatDoor
set_option linter.unusedVariables false
set_option linter.unusedSimpArgs false
set_option linter.unusedVariables false
set_option linter.unusedSimpArgs false
open Go.RowKit Go.MapKept Go.ChangeMaps Go.WideElems
open Go.Maps (Keyed)
section
variable {κ ν : Type} [DecidableEq κ] {P : Program} {k : TypeId} {fk : κ → Value} {fv : ν → Value} {w : World} {b : Nat} {m : List (κ × ν)}
omit [DecidableEq κ] in
theorem HasMap.size (h : HasMap P k fk fv w b m) : ∃ es c, w.heap[b]? = some (.map es c) ∧ es.size = m.length := by
 obtain ⟨es, c, hb, _, _, hm⟩ := h
 refine ⟨es, c, hb, ?_⟩
 have := congrArg List.length hm
 simpa using this
omit [DecidableEq κ] in
theorem HasMap.run_len (h : HasMap P k fk fv w b m) {t e : TypeId} (ht : P.underlying t = some (.map k e)) (ty : TypeId) :
  (Builtin.len_ #[t] ty #[.map (some b)]).run P w = .ok (.int .i64 (m.length : Int)) w := by
 obtain ⟨es, c, hb, hs⟩ := h.size
 simp [Builtin.len_, run_underlying ht, MapKept.run_getObj_map hb, goInt, hs]
theorem HasMap.drop (h : HasMap P k fk fv w b m) (K : Keyed P k) (hinj : ∀ x y, fk x = fk y → x = y) {t e : TypeId} (ht : P.underlying t = some (.map k e))
  {a : κ} {l : Lit} (ha : keyOf P k (fk a) = some l) :
  ∃ o, (∀ (w' : World) (ty : TypeId), w'.heap[b]? = w.heap[b]? → (Builtin.delete_ #[t, k] ty #[.map (some b), fk a]).run P w' = .ok (.tuple #[]) (setBlock w' b o) ∧ HasMap P k fk fv (setBlock w' b o) b (delA a m)) := by
 obtain ⟨es, c, hb0, hst, hkeys, hm⟩ := h
 rcases HasMap.find K hinj hkeys hst.2.2 hm ha w with ⟨_, h2, h3⟩ | ⟨j, e0, u, _, h2, h3, hv, hmj, h4⟩
 ·refine ⟨.map es c, fun w' ty hw' => ?_⟩
  have hb := hw'.trans hb0
  rcases HasMap.find K hinj hkeys hst.2.2 hm ha w' with ⟨h1, _, _⟩ | ⟨j', e', u', _, _, _, _, _, h9⟩
  ·refine ⟨?_, es, c, heap_setBlock_same hb _, hst, hkeys, ?_⟩
   ·simp [Builtin.delete_, run_underlying ht, MapKept.run_getObj_map hb, K.check w' _ ha, h1, MapKept.run_setObj_map _ hb, Result.andThen, setBlock]
   ·rw [delA_new (getA_none.1 h3)]
    exact hm
  ·rw [h3] at h9
   cases h9
 ·have hjs : j < es.size := by simpa using (List.getElem?_eq_some_iff.1 h2).1
  have hsub : (es.eraseIdxIfInBounds j).toList = es.toList.eraseIdx j := by
   unfold Array.eraseIdxIfInBounds
   rw [dif_pos hjs]
   simp
  refine ⟨.map (es.eraseIdxIfInBounds j) c, fun w' ty hw' => ?_⟩
  have hb := hw'.trans hb0
  rcases HasMap.find K hinj hkeys hst.2.2 hm ha w' with ⟨_, h6, _⟩ | ⟨j', e', u', h1, h6, h7, _, hmj', _⟩
  ·exact absurd h3 (h6 e0 (List.mem_of_getElem? h2))
  ·have hn := keys_nodup hm hst.2.2
   have hjj : j' = j := by
    have h8 : (m.map (·.1))[j']? = some a := by simp [hmj']
    have h9 : (m.map (·.1))[j]? = some a := by simp [hmj]
    obtain ⟨g1, g2⟩ := List.getElem?_eq_some_iff.1 h8
    obtain ⟨g3, g4⟩ := List.getElem?_eq_some_iff.1 h9
    exact (List.getElem_inj hn).1 (g2.trans g4.symm)
   subst hjj
   refine ⟨?_, es.eraseIdxIfInBounds j', c, heap_setBlock_same hb _, stamped_erase hst j', ?_, ?_⟩
   ·simp [Builtin.delete_, run_underlying ht, MapKept.run_getObj_map hb, K.check w' _ ha, h1, MapKept.run_setObj_map _ hb, Result.andThen, setBlock]
   ·intro x hx
    rw [hsub] at hx
    exact hkeys x ((List.eraseIdx_sublist _ _).subset hx)
   ·rw [hsub, delA_of_at hn hmj, map_eraseIdx, hm, map_eraseIdx]
end
end Go.Proofs.YtnclkfhdpkkakaaGreatDoor
