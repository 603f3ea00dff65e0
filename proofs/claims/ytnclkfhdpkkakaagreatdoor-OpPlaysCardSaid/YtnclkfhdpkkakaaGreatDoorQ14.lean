/-
  append on a slice that the call owns, inside a fence, saying besides where the new slice lies; a row in a box that a loop over an iterator turns: what stands ('KeepR'). The iterator over a tree's paths that a condition holds of, walked. Paths, walked: the iterator's paths collected.
-/
import Derived.Test.YtnclkfhdpkkakaaGreatDoorQ1
import Derived.Test.YtnclkfhdpkkakaaGreatDoorQ2
import Derived.OwnWalkIn
import Derived.RangeFuncBox
import Derived.RangeFuncNested
import Derived.RangeFuncLeaves
import Derived.RangeFuncCalls
import Derived.Shelf.Abstract
import Derived.TacticsInMore
import Derived.LoopNIn
import Derived.LoopIn
import Derived.Maps.AppendAt
import Derived.Lib.Hide
import Derived.Deep.Onto
import Derived.Test.YtnclkfhdpkkakaaGreatDoorQ13
import Derived.Maps.OwnSet
namespace Go.Proofs.YtnclkfhdpkkakaaGreatDoor
set_option linter.unusedVariables false
set_option linter.unusedSimpArgs false
open Go.RowKit
theorem wpListIn_append_new {F : Fence} {n : Nat} {P : Program} (w : World) {ops : Array Oper} {rest : List Oper} {o : Oper} {a : Act} {Q : Exit → Act → World → Prop}
  (hg : o.guard = none) (s x : Operand) (t : TypeId) (hop : o.op = Op.call { callee := Callee.builtin Builtin.append, args := #[s, x], argTypes := #[t, t] })
  (base : Nat) (e : TypeId) (i : TypeInfo) (z : Value) (size bytes : Nat) (h1 : P.underlying t = some (.slice e)) (h2 : P.info? e = some i) (h3 : i.zero = some z) (h4 : i.size = size) (h5 : i.bytes = bytes) (h6 : z.cells.size = size) (h7 : 0 < size)
  (v : Value) (k : Nat) (xs : List Value) (hs : a.eval s = v) (hown : w.ownsRow base e size v k xs) (ad : Addr) (m c : Nat) (news : List Value) (hx : a.eval x = .slice (some ad) m c) (hn : news.length = m * size)
  (hc : ∀ j u, news[j]? = some u → w.cell? (ad.add j) = some u) (h1c : ∀ u ∈ news, u.oneCell' = true) (b1 : k + m ≤ maxLen) (b2 : (k + m) * bytes ≤ 140737488355328) (b3 : base ≤ w.heap.size)
  (hK : ∀ v' w', w'.ownsRow base e size v' (k + m) (xs ++ news) → w.grownBy w' v.ownBlock → (∀ j, v'.ownBlock = some j → v.ownBlock = some j ∨ w.heap.size ≤ j) → wpListIn F n P ops Q rest (a.put o.dst v') w') :
  wpListIn F n P ops Q (o :: rest) a w := by
 refine wpListIn_plain hg fun K hK' => ?_
 obtain ⟨v', w', hrun, r1, r2, r3⟩ := run_append_new (P := P) (w := w) base t o.type e i z size bytes h1 h2 h3 h4 h5 h6 h7 v k xs hown ad m c news hn hc h1c b1 b2 b3
 unfold Oper.wpIn
 refine ⟨?_, ?_⟩
 ·simp [Oper.about, hop, resolve, Target.leads, Sem.run_pure]
 ·rw [Oper.semAt_plain F _ _ (by rw [hop]; intro c hc'; cases hc')]
  simp [execOp, hop, resolve, invoke, builtin, hs, hx, hrun, Result.andThen]
  exact hK' _ _ (hK v' w' r1 r2 r3)
theorem stepIn_append_run {F : Fence} {n : Nat} {P : Program} {ops : Array Oper} {o : Oper} {a : Act} {w : World} {K : Act → World → Prop} {Q : Exit → Act → World → Prop} {E : Prop}
  (hg : o.guard = none) (s x : Operand) (t : TypeId) (hop : o.op = Op.call { callee := Callee.builtin Builtin.append, args := #[s, x], argTypes := #[t, t] })
  (v u v' : Value) (w' : World) (hs : a.eval s = v) (hx : a.eval x = u) (hr : (Builtin.append_ #[t, t] o.type #[v, u]).run P w = .ok v' w') (hK : K (a.put o.dst v') w') :
  if Region.wanted o (yielded ops a.tmps) = true then Oper.wpIn F n P o a w K Q else E := by
 have hw : Region.wanted o (yielded ops a.tmps) = true := by simp [Region.wanted, hg]
 rw [if_pos hw]
 unfold Oper.wpIn
 refine ⟨?_, ?_⟩
 ·simp [Oper.about, hop, resolve, Target.leads, Sem.run_pure]
 ·rw [Oper.semAt_plain F _ _ (by rw [hop]; intro c hc'; cases hc')]
  simp [execOp, hop, resolve, invoke, builtin, hs, hx, hr, Result.andThen]
  exact hK
def rowOf (W : World) (OB : Nat) : Option Nat := (W.cell? ⟨OB, 0, none⟩).bind Value.ownBlock
structure KeepR (n OB : Nat) (W W' : World) : Prop where
 os : W'.os = W.os
 tape : W'.tape = W.tape
 output : W'.output = W.output
 size : W.heap.size ≤ W'.heap.size
 block : ∀ k, k < n → k ≠ OB → W'.heap[k]? = W.heap[k]?
 cells : ∀ (k : Nat) (o : Obj), W.heap[k]? = some o → o.isCells = true → k ≠ OB → rowOf W OB ≠ some k → W'.heap[k]? = some o
 row : ∀ g, rowOf W' OB = some g → rowOf W OB = some g ∨ W.heap.size ≤ g
theorem keepR_refl (n OB : Nat) (W : World) : KeepR n OB W W := ⟨rfl, rfl, rfl, Nat.le_refl _, fun _ _ _ => rfl, fun _ _ h _ _ _ => h, fun _ h => .inl h⟩
theorem keepR_t {n OB : Nat} {A B C : World} (h : KeepR n OB A B) (k : KeepR n OB B C) : KeepR n OB A C := by
 refine ⟨k.os.trans h.os, k.tape.trans h.tape, k.output.trans h.output, Nat.le_trans h.size k.size, fun i hi hn => (k.block i hi hn).trans (h.block i hi hn), fun i o hi ho hn hr => ?_, ?_⟩
 ·refine k.cells i o (h.cells i o hi ho hn hr) ho hn fun e => ?_
  have hl : i < A.heap.size := (Array.getElem?_eq_some_iff.1 hi).1
  rcases h.row i e with hr2 | hg
  ·exact hr hr2
  ·omega
 ·intro g hg
  rcases k.row g hg with h2 | h2
  ·exact h.row g h2
  ·exact .inr (Nat.le_trans h.size h2)
theorem rowOf_block {W W' : World} {OB : Nat} (h : W'.heap[OB]? = W.heap[OB]?) : rowOf W' OB = rowOf W OB := by
 unfold rowOf
 rw [World.cell?_of_block (w := W) (a := ⟨OB, 0, none⟩) h]
theorem keepR_below {n OB : Nat} {W W' : World} (h : Below W.heap.size W W') (hn : n ≤ W.heap.size) (hO : OB < W.heap.size) : KeepR n OB W W' :=
 ⟨h.os, h.tape, h.output, h.size, fun k hk _ => h.block k (by omega), fun k o hk _ _ _ => (h.block k (Array.getElem?_eq_some_iff.1 hk).1).trans hk, fun g hg => .inl ((rowOf_block (h.block OB hO)) ▸ hg)⟩
theorem keepR_b {n OB : Nat} {w : World} (hB : n ≤ w.heap.size) (hO : OB < w.heap.size) (W : World) (l : Nat) (o o' : Obj) (hl : w.heap.size ≤ l) (ho : W.heap[l]? = some o) (hc : o.isCells = false) (hw : o.isWalk = false) : KeepR n OB W (W.putObj l o') :=
 ⟨rfl, rfl, rfl, by simp, fun k hk _ => World.putObj_heap_other (by omega), fun k o2 hk h2 _ _ => (World.putObj_heap_other (fun e => by subst e; rw [ho] at hk; cases hk; rw [hc] at h2; cases h2)).trans hk,
  fun g hg => .inl ((rowOf_block (World.putObj_heap_other (w := W) (r := l) (o := o') (k := OB) (by omega))) ▸ hg)⟩
theorem KeepR.cell {n OB : Nat} {W W' : World} (h : KeepR n OB W W') {p : Addr} (hp : p.block < n) (hn : p.block ≠ OB) : W'.cell? p = W.cell? p := World.cell?_of_block (w := W) (h.block _ hp hn)
theorem keepR_to_below {n OB B : Nat} {W W' : World} (h : KeepR n OB W W') (h1 : B ≤ n) (h2 : B ≤ OB) : Below B W W' := ⟨h.os, h.tape, h.output, h.size, fun k hk => h.block k (by omega) (by omega)⟩
theorem KeepR.same {n OB : Nat} {W W' : World} (h : KeepR n OB W W') {k : Nat} {o : Obj} (hk : W.heap[k]? = some o) (ho : o.isCells = true) (hn : k ≠ OB) (hr : rowOf W OB ≠ some k) : W'.heap[k]? = some o := h.cells k o hk ho hn hr
theorem boxed_keepR {n OB B : Nat} {t : TypeId} {v : Value} {W W' : World} (h : Boxed W B t v) (hk : KeepR n OB W W') (h1 : B < n) (h2 : B ≠ OB) : Boxed W' B t v := (hk.block B h1 h2).trans h
theorem boxed_belowR {n B : Nat} {t : TypeId} {v : Value} {W W' : World} (h : Boxed W B t v) (hk : Below n W W') (h1 : B < n) : Boxed W' B t v := (hk.block B h1).trans h
theorem rowOf_boxed {W : World} {OB : Nat} {t : TypeId} {v : Value} (h : Boxed W OB t v) : rowOf W OB = v.ownBlock := by
 unfold rowOf
 rw [h.cell]
 rfl
theorem appendedR {W w1 : World} {n OB base : Nat} {t e : TypeId} {size : Nat} {v v' : Value} {k m : Nat} {xs ys : List Value} {tmp : Obj}
  (hv : Boxed W OB t v) (hte : t ≠ e) (hrow : W.ownsRow base e size v k xs) (hn : n ≤ W.heap.size) (hb : n ≤ base)
  (hown' : w1.ownsRow base e size v' m ys) (hgrow : (W.alloc tmp).grownBy w1 v.ownBlock) (hwh : ∀ j, v'.ownBlock = some j → v.ownBlock = some j ∨ (W.alloc tmp).heap.size ≤ j) :
  Boxed w1 OB t v ∧ Boxed (w1.setCell ⟨OB, 0, none⟩ v') OB t v' ∧ (w1.setCell ⟨OB, 0, none⟩ v').ownsRow base e size v' m ys ∧ KeepsOthers W (w1.setCell ⟨OB, 0, none⟩ v') ∧ KeepR n OB W (w1.setCell ⟨OB, 0, none⟩ v') := by
 obtain ⟨h1, h2, h3, h4, _⟩ := Boxed.appended (n₀ := 0) (tmp := tmp) hv hte (hrow.mono (Nat.zero_le _)) (Nat.zero_le _) (Nat.zero_le _) (hown'.mono (Nat.zero_le _)) hgrow
 have hsz : W.heap.size ≤ w1.heap.size := by have := hgrow.size; simp at this; omega
 have hst : ∀ k, k < W.heap.size → k ≠ OB → v.ownBlock ≠ some k → (w1.setCell ⟨OB, 0, none⟩ v').heap[k]? = W.heap[k]? := fun k hk hne hr => by
  rw [(grownBy_setCell' w1 OB v').block k (by omega) (by simpa using hne), hgrow.block k (by simp; omega) (fun e => hr e.symm)]
  exact Below.heap_alloc _ _ _ (by omega)
 refine ⟨h1, h2, hown'.kept (grownBy_setCell' w1 OB v') (.inr (h1.not_row hte hown').symm), h4, ?_⟩
 refine ⟨hgrow.os, hgrow.tape, hgrow.output, ?_, fun k hk hne => hst k (by omega) hne (fun e => ?_), fun k o hk ho hne hr => ?_, ?_⟩
 ·have h5 := (grownBy_setCell' w1 OB v').size
  omega
 ·have := (hrow.lt k e).1
  omega
 ·rw [rowOf_boxed hv] at hr
  exact (hst k (Array.getElem?_eq_some_iff.1 hk).1 hne hr).trans hk
 ·intro g hg
  rw [rowOf_boxed h2] at hg
  rw [rowOf_boxed hv]
  rcases hwh g hg with h | h
  ·exact .inl h
  ·exact .inr (by simp at h; omega)
theorem ownFrom_keepR {β : Type} {n OB B : Nat} {w₀ : World} (hn : n ≤ w₀.heap.size) (hO : OB < n) (hB : n ≤ B) : OwnFrom B (fun (_ : β) W => KeepR n OB w₀ W) := by
 intro s W W' row h hg hr
 have hst : ∀ (k : Nat) (o : Obj), W.heap[k]? = some o → o.isCells = true → W'.heap[k]? = some o := fun k o hk ho => by
  refine (hg.block k (Array.getElem?_eq_some_iff.1 hk).1 (fun e => ?_)).trans hk
  obtain ⟨_, o2, h2, h3⟩ := hr k e.symm
  rw [hk] at h2
  cases h2
  rw [ho] at h3
  cases h3
 refine keepR_t h ⟨hg.os, hg.tape, hg.output, hg.size, fun k hk hn' => hg.block k (Nat.lt_of_lt_of_le (Nat.lt_of_lt_of_le hk hn) h.size) (fun e => ?_), fun k o hk ho _ _ => hst k o hk ho, fun g hgr => .inl ((rowOf_block ?_) ▸ hgr)⟩
 ·have := (hr k e.symm).1
  omega
 ·refine hg.block OB (Nat.lt_of_lt_of_le (by omega) h.size) (fun e => ?_)
  have := (hr OB e.symm).1
  omega
end Go.Proofs.YtnclkfhdpkkakaaGreatDoor
namespace Go.Proofs.YtnclkfhdpkkakaaGreatDoor
set_option linter.unusedVariables false
set_option linter.unusedSimpArgs false
set_option linter.unusedVariables false
set_option linter.unusedSimpArgs false
open Go Go.RowKit Go.Shelf Go.MapKept Go.ChangeMaps Go.Maps Go.Sort
attribute [local go_sem] Oper.semAt_some
theorem leB_trans (a b c : Bytes) (h1 : decide (a ≤ b) = true) (h2 : decide (b ≤ c) = true) : decide (a ≤ c) = true := by
 simp only [decide_eq_true_eq] at *; exact List.le_trans h1 h2
theorem leB_total (a b : Bytes) : (decide (a ≤ b) || decide (b ≤ a)) = true := by
 simp only [Bool.or_eq_true, decide_eq_true_eq]; exact List.le_total a b
def sortS (L : List Bytes) : List Bytes := L.mergeSort fun x y => decide (x ≤ y)
theorem sortS_perm (L : List Bytes) : (sortS L).Perm L := List.mergeSort_perm L _
theorem sortS_sorted (L : List Bytes) : (sortS L).Pairwise (fun x y => x ≤ y) := by
 have := List.pairwise_mergeSort (le := fun x y : Bytes => decide (x ≤ y)) leB_trans leB_total L
 exact this.imp fun h => by simpa using h
theorem sorted_unique {a b : List Bytes} (h1 : a.Pairwise (fun x y => x ≤ y)) (h2 : b.Pairwise (fun x y => x ≤ y)) (h : a.Perm b) : a = b :=
 List.Perm.eq_of_pairwise (fun _ _ _ _ h1 h2 => List.le_antisymm h1 h2) h1 h2 h
theorem sortS_congr {a b : List Bytes} (h : a.Perm b) : sortS a = sortS b :=
 sorted_unique (sortS_sorted a) (sortS_sorted b) (((sortS_perm a).trans h).trans (sortS_perm b).symm)
def keysS (M : List (Bytes × Nd)) : List Bytes := sortS (M.map (·.1))
theorem keysS_len (M : List (Bytes × Nd)) : (keysS M).length = M.length := by
 have := (sortS_perm (M.map (·.1))).length_eq
 simpa [keysS] using this
theorem filter_hit {α : Type} (f : α → Bool) {L : List α} {k : Nat} {e : α} (hk : L[k]? = some e) (h : f e = true) : (L.take (k + 1)).filter f = (L.take k).filter f ++ [e] := by
 rw [List.take_add_one, hk]
 simp [h]
theorem filter_miss {α : Type} (f : α → Bool) {L : List α} {k : Nat} {e : α} (hk : L[k]? = some e) (h : f e = false) : (L.take (k + 1)).filter f = (L.take k).filter f := by
 rw [List.take_add_one, hk]
 simp [h]
theorem filter_pre {α : Type} (f : α → Bool) (L : List α) (k : Nat) : (L.take k).filter f <+: L.filter f := by
 conv => rhs; rw [← List.take_append_drop k L, List.filter_append]
 exact List.prefix_append _ _
def RowS (w : World) (base : Nat) (v : Value) (L : List Bytes) : Prop := w.ownsRow base 9 1 v L.length (L.map sv)
theorem RowS.at {w : World} {base : Nat} {v : Value} {L : List Bytes} (h : RowS w base v L) : (v = .slice none 0 0 ∧ L = []) ∨ ∃ g cap, v = .slice (some ⟨g, 0, none⟩) L.length cap ∧ base ≤ g ∧ g < w.heap.size ∧ L.length ≤ cap ∧ (∃ o, w.heap[g]? = some o ∧ o.isCells = true) ∧ ∀ i p, L[i]? = some p → w.cell? ⟨g, i, none⟩ = some (.string (bs p)) := by
 rcases h.2 with ⟨h1, h0⟩ | ⟨g, cap, cur, h1, hbg, hg, hnc, hcm, hcs, htk⟩
 ·exact .inl ⟨h1, List.eq_nil_of_length_eq_zero h0⟩
 ·subst h1
  refine .inr ⟨g, cap, rfl, hbg, (Array.getElem?_eq_some_iff.1 hg).1, hnc, ⟨_, hg, rfl⟩, fun i p hp => ?_⟩
  have := h.cells (g := g) rfl i (sv p) (by simp [hp])
  rw [Addr.add_lit] at this
  rw [Nat.zero_add] at this
  exact this
abbrev Key := {q : Bytes // q.length ≤ 1000}
theorem keys_of (L : List Bytes) (h : ∀ q ∈ L, q.length ≤ 1000) : ∃ K : List Key, K.map (·.1) = L := by
 induction L with
 | nil => exact ⟨[], rfl⟩
 | cons x L ih =>
  obtain ⟨K, hK⟩ := ih (fun q hq => h q (List.mem_cons_of_mem _ hq))
  exact ⟨⟨x, h x (List.mem_cons_self ..)⟩ :: K, by rw [List.map_cons, hK]⟩
theorem key_len' {K : List Key} {M : List (Bytes × Nd)} (hK : K.map (·.1) = keysS M) : K.length = M.length := by
 have := congrArg List.length hK
 simpa [keysS_len] using this
theorem keys_filter (f : Bytes → Bool) (K : List Key) : (K.filter fun q => f q.1).map (·.1) = (K.map (·.1)).filter f := by
 rw [List.filter_map]
 rfl
theorem keys_sorted {w : World} {mb : Nat} {m : List (Bytes × Raw)} {M : List (Bytes × Nd)} {lo : Nat → Prop} (hm : HasMap Tryz.prog 9 sv Raw.val w mb m) (hl : Like w lo m M) (hM : M.length ≤ 1000) :
  CallsIn Fence.wide 5 Tryz.prog 70 #[.func (.func 94) #[] #[.pointer (some ⟨w.heap.size, 0, none⟩)]] (w.alloc (.cells #[.map (some mb)] 84)) fun e w' => ∃ v : Value, e = .returned v ∧
   RowS w' (w.heap.size + 1) v (keysS M) ∧ Below w.heap.size w w' := by
 obtain ⟨D0, hD, hp⟩ := owns_of hm (by rw [hl.len]; exact hM)
 have hsz : Go.Maps.size D0 ≤ m.length := hD.size_le
 have hlm := hl.len
 refine (Tryz.slices_Sorted_keys_70_71 mb m.length D0 anyR w hD (by unfold maxLen; omega) (by omega)).mono ?_
 rintro e w' ⟨v, ss, rfl, hss, hown, _, hb⟩
 have hs : keysS M = ss.mergeSort (fun x y => decide (x ≤ y)) := by
  unfold keysS
  rw [← hl.keys]
  exact sortS_congr (hp.symm.trans hss.symm)
 refine ⟨v, rfl, ?_, ?_⟩
 ·unfold RowS
  rw [hs, List.length_mergeSort]
  have : ((w.alloc (.cells #[.map (some mb)] 84)).heap.size) = w.heap.size + 1 := by simp
  rw [this] at hown
  exact hown
 ·exact (belowA (Below.refl _ w) _).trans (hb.mono (by simp))
set_option maxRecDepth 100000 in
set_option maxHeartbeats 4000000 in
theorem seq_yes (n l tB wB n₀ OB b mb : Nat) (lo : Nat → Prop) (root : Bytes) (at_ : Int) (M : List (Bytes × Nd)) (hM : M.length ≤ 1000) (K : List Key) (hK : K.map (·.1) = keysS M) (f : Key → Bool)  (J Jx : List Key → World → Prop)
  (hY : ∀ pre x W, J pre W → pre.length < 1000 → YieldAt Fence.wide (n - 1) Tryz.prog l #[sv x.1] W fun e W' =>
   (e = .returned (.bool true) ∧ J (pre ++ [x]) W' ∧ KeepR n₀ OB W W') ∨ (e = .returned (.bool false) ∧ Jx (pre ++ [x]) W'))
  (W : World) (hJ : AbidesFrom W.heap.size J) (hn : n₀ ≤ W.heap.size) (htB : tB < n₀) (htO : tB ≠ OB) (hwB : wB < n₀) (hwO : wB ≠ OB) (hb : b < n₀) (hbO : b ≠ OB) (hOB : OB < n₀)
  (ht : W.cell? ⟨tB, 0, none⟩ = some (.pointer (some ⟨b, 0, none⟩))) (hw : W.cell? ⟨wB, 0, none⟩ = some (.func (.func 44) #[] #[]))
  (T : TreeAt W lo b mb root at_ M) (hrO : rowOf W OB = none)
  (hW : ∀ W', KeepR n₀ OB W W' → ∀ q ∈ K, Calls Tryz.prog 44 #[.string (bs q.1)] W' fun en w' => en = .returned (.bool (f q)) ∧ Below W'.heap.size W' w')
  (h0 : J [] W) :
  CallsIn Fence.wide n Tryz.prog 69 #[.func (.yield l) #[] #[], .pointer (some ⟨tB, 0, none⟩), .pointer (some ⟨wB, 0, none⟩)] W fun e W' => (∃ v, e = .returned v) ∧
   ((∃ ys, ys = K.filter f ∧ J ys W') ∨ (∃ pre, pre <+: K.filter f ∧ Jx pre W')) := by
 obtain ⟨c0, c1, c2⟩ := T.cells
 obtain ⟨m, hm, hl⟩ := T.map
 have HKS := Lib.hid (keys_sorted hm hl hM)
 obtain ⟨N, hN⟩ : ∃ N, N = K.length := ⟨_, rfl⟩
 have hNM : N ≤ 1000 := by rw [hN, key_len' hK]; exact hM
 have HKK := Lib.hid hK
 have HN := Lib.hid hN
 have HR := Lib.hid hrO
 have HW := Lib.hid hW
 clear hN T hm hl hM c0 c1 hrO hW hK
 refine callsIn_of_wp Tryz.func69 rfl trivial ?_ rfl
 simp only [Tryz.ntmps69, List.size_toArray, List.length_cons, List.length_nil, Nat.reduceAdd, Nat.reduceSub, Array.replicate_succ, Array.replicate_zero, List.push_toArray, List.append_toArray, List.nil_append, List.cons_append]
 gi_wp2_with fail
 refine ⟨trivial, (fun h => (by cases h)), ?_⟩
 refine (callsIn_wide.2 (callsIn_wide.1 (Tryz.maps_Keys_71 (some mb) W))).mono ?_
 rintro e w' ⟨rfl, rfl⟩
 gi_wp2_with fail
 refine ⟨trivial, (fun h => (by cases h)), ?_⟩
 refine (callsIn_wide.2 (callsIn_wide.1 HKS.out)).mono ?_
 rintro e W1 ⟨vk, rfl, hrow, B1⟩
 have HB1 := Lib.hid B1
 have hks := hrow.at
 clear B1
 have hR1 : rowOf W1 OB = none := (rowOf_block (HB1.out.block OB (by omega))).trans HR.out
 have HR1 := Lib.hid hR1
 have hsz1 := HB1.out.size
 have hJ1 : J [] W1 := hJ _ _ _ none h0 ⟨HB1.out.os, HB1.out.tape, HB1.out.output, HB1.out.size, fun k hk _ => HB1.out.block k hk⟩ (fun _ e => by cases e)
 have hKW1 := Lib.hid (keepR_below (n := n₀) (OB := OB) HB1.out hn (by omega))
 clear hR1 h0 ht c2 HKS HR hrow
 obtain ⟨ao, c, hvk, hcl⟩ : ∃ ao c, vk = .slice ao N c ∧ ∀ i p, K[i]? = some p → ∃ g, ao = some ⟨g, 0, none⟩ ∧ g ≠ OB ∧ (∃ o, W1.heap[g]? = some o ∧ o.isCells = true) ∧ W1.cell? ⟨g, i, none⟩ = some (.string (bs p.1)) := by
  rw [← HKK.out] at hks
  rw [List.length_map, List.map_eq_nil_iff] at hks
  rcases hks with ⟨h1, h2⟩ | ⟨g, cap, h1, hbg, hgl, hnc, ho, hat⟩
  ·refine ⟨none, 0, by rw [h1, HN.out, h2]; rfl, fun i p hp => by rw [h2] at hp; simp at hp⟩
  ·exact ⟨some ⟨g, 0, none⟩, cap, by rw [h1, HN.out], fun i p hp => ⟨g, rfl, by omega, ho, hat i p.1 (by simp [hp])⟩⟩
 subst hvk
 have HCL := Lib.hid hcl
 clear hcl hks
 gi_wp2
 gi_loopw [15] (fun p wr => ∃ i : Nat, i ≤ N ∧ p = .int .i64 i ∧ Hid (KeepR n₀ OB W1 wr) ∧ J ((K.take i).filter f) wr)
  (fun p _ => N - (intOf p).toNat)
 case atStart =>
  exact ⟨0, by omega, rfl, Lib.hid (keepR_refl _ _ _), by simpa using hJ1⟩
 case round =>
  obtain ⟨i, hi, rfl, HB, hJs⟩ := hrel
  have hcw : wr.cell? ⟨wB, 0, none⟩ = some (.func (.func 44) #[] #[]) := (HB.out.cell (p := ⟨wB, 0, none⟩) hwB hwO).trans ((HB1.out.cell (p := ⟨wB, 0, none⟩) (by show wB < W.heap.size; omega)).trans hw)
  have hsz : n₀ ≤ wr.heap.size := Nat.le_trans (Nat.le_trans hn hsz1) HB.out.size
  by_cases hlt : i < N
  ·obtain ⟨x, hx⟩ : ∃ x, K[i]? = some x := ⟨_, List.getElem?_eq_getElem (by rw [← HN.out]; exact hlt)⟩
   obtain ⟨g, rfl, hgO, ⟨o, hgo, hoc⟩, hgc⟩ := HCL.out i x hx
   have hcx : wr.cell? ⟨g, i, none⟩ = some (.string (bs x.1)) := (World.cell?_of_block (w := W1) (a := ⟨g, i, none⟩) ((HB.out.cells g o hgo hoc hgO (by rw [HR1.out]; simp)).trans hgo.symm)).trans hgc
   have hxm : x ∈ K := List.mem_of_getElem? hx
   have HK := Lib.hid (HW.out wr (keepR_t hKW1.out HB.out) x hxm)
   have HX := Lib.hid hx
   have HJ := Lib.hid hJ
   have HJs := Lib.hid hJs
   have HY := Lib.hid hY
   clear hx hxm hgo hgc hJ hJs hY
   cases hl : f x with
   | false =>
    rw [hl] at HK
    have HL := Lib.hid hl
    clear hl
    gi_wp2_with fail
    refine ⟨trivial, (fun h => (by cases h)), ?_⟩
    refine (callsIn_wide.2 HK.out).mono ?_
    rintro e w' ⟨rfl, B2⟩
    have X1 := Lib.hid B2
    clear B2
    gi_wp2
    refine ⟨(fun _ h => (by cases h)), ?_⟩
    gi_wp2
    go_roundw
    case rel =>
     refine ⟨i + 1, by omega, by go_num, Lib.hid (keepR_t HB.out (keepR_below X1.out hsz (by omega))), ?_⟩
     rw [filter_miss f HX.out HL.out]
     exact HJ.out _ _ _ none HJs.out ⟨X1.out.os, X1.out.tape, X1.out.output, X1.out.size, fun k hk _ => X1.out.block k hk⟩ (fun _ e => by cases e)
    case measure => simp [intOf]; omega
   | true =>
    rw [hl] at HK
    have HL := Lib.hid hl
    clear hl
    have hlf : ((K.take i).filter f).length < 1000 := by
     have h1 := List.length_filter_le f (K.take i)
     have h2 : (K.take i).length ≤ i := by simp; omega
     omega
    gi_wp2_with fail
    refine ⟨trivial, (fun h => (by cases h)), ?_⟩
    refine (callsIn_wide.2 HK.out).mono ?_
    rintro e w' ⟨rfl, B2⟩
    have X1 := Lib.hid B2
    clear B2
    have hJ2 : J ((K.take i).filter f) w' := HJ.out _ _ _ none HJs.out ⟨X1.out.os, X1.out.tape, X1.out.output, X1.out.size, fun k hk _ => X1.out.block k hk⟩ (fun _ e => by cases e)
    obtain ⟨fn, tmps, assign, body, hy, hR⟩ := HY.out _ x _ hJ2 hlf
    have HR := Lib.hid hR
    clear hJ2 hR
    unfold sv at hy
    gi_wp2_with fail
    refine ⟨(fun h => (by cases h)), ?_⟩
    refine HR.out.mono ?_
    rintro e W3 (⟨rfl, hJ3, hk3⟩ | ⟨rfl, hJx3⟩)
    ·have HJ3 := Lib.hid hJ3
     have HK3 := Lib.hid (keepR_t (keepR_t HB.out (keepR_below X1.out hsz (by omega))) hk3)
     clear hJ3 hk3
     gi_wp2
     go_roundw
     case rel => exact ⟨i + 1, by omega, by go_num, HK3, by rw [filter_hit f HX.out HL.out]; exact HJ3.out⟩
     case measure => simp [intOf]; omega
    ·gi_wp2
     refine bodyPost_ret (results_none rfl _ _ _) rfl ?_
     refine ⟨⟨_, rfl⟩, .inr ⟨_, ?_, hJx3⟩⟩
     rw [← filter_hit f HX.out HL.out]
     exact filter_pre f K (i + 1)
  ·obtain rfl : i = N := by omega
   gi_wp2
   go_end0
   refine ⟨⟨_, rfl⟩, .inl ⟨_, rfl, ?_⟩⟩
   have h := hJs
   rw [HN.out, List.take_length] at h
   exact h
set_option maxRecDepth 100000 in
set_option maxHeartbeats 4000000 in
theorem seq_kid (n l tB wB n₀ OB b mb : Nat) (lo : Nat → Prop) (root : Bytes) (at_ : Int) (M : List (Bytes × Nd)) (hM : M.length ≤ 1000) (K : List Key) (hK : K.map (·.1) = keysS M) (f : Key → Bool) (pB uB : Nat) (J Jx : List Key → World → Prop)
  (hY : ∀ pre x W, J pre W → pre.length < 1000 → YieldAt Fence.wide (n - 1) Tryz.prog l #[sv x.1] W fun e W' =>
   (e = .returned (.bool true) ∧ J (pre ++ [x]) W' ∧ KeepR n₀ OB W W') ∨ (e = .returned (.bool false) ∧ Jx (pre ++ [x]) W'))
  (W : World) (hJ : AbidesFrom W.heap.size J) (hn : n₀ ≤ W.heap.size) (htB : tB < n₀) (htO : tB ≠ OB) (hwB : wB < n₀) (hwO : wB ≠ OB) (hb : b < n₀) (hbO : b ≠ OB) (hOB : OB < n₀)
  (ht : W.cell? ⟨tB, 0, none⟩ = some (.pointer (some ⟨b, 0, none⟩))) (hw : W.cell? ⟨wB, 0, none⟩ = some (.func (.func 46) #[] #[.pointer (some ⟨pB, 0, none⟩), .pointer (some ⟨uB, 0, none⟩)]))
  (T : TreeAt W lo b mb root at_ M) (hrO : rowOf W OB = none)
  (hW : ∀ W', KeepR n₀ OB W W' → ∀ q ∈ K, Calls Tryz.prog 46 #[.string (bs q.1), .pointer (some ⟨pB, 0, none⟩), .pointer (some ⟨uB, 0, none⟩)] W' fun en w' => en = .returned (.bool (f q)) ∧ Below W'.heap.size W' w')
  (h0 : J [] W) :
  CallsIn Fence.wide n Tryz.prog 69 #[.func (.yield l) #[] #[], .pointer (some ⟨tB, 0, none⟩), .pointer (some ⟨wB, 0, none⟩)] W fun e W' => (∃ v, e = .returned v) ∧
   ((∃ ys, ys = K.filter f ∧ J ys W') ∨ (∃ pre, pre <+: K.filter f ∧ Jx pre W')) := by
 obtain ⟨c0, c1, c2⟩ := T.cells
 obtain ⟨m, hm, hl⟩ := T.map
 have HKS := Lib.hid (keys_sorted hm hl hM)
 obtain ⟨N, hN⟩ : ∃ N, N = K.length := ⟨_, rfl⟩
 have hNM : N ≤ 1000 := by rw [hN, key_len' hK]; exact hM
 have HKK := Lib.hid hK
 have HN := Lib.hid hN
 have HR := Lib.hid hrO
 have HW := Lib.hid hW
 clear hN T hm hl hM c0 c1 hrO hW hK
 refine callsIn_of_wp Tryz.func69 rfl trivial ?_ rfl
 simp only [Tryz.ntmps69, List.size_toArray, List.length_cons, List.length_nil, Nat.reduceAdd, Nat.reduceSub, Array.replicate_succ, Array.replicate_zero, List.push_toArray, List.append_toArray, List.nil_append, List.cons_append]
 gi_wp2_with fail
 refine ⟨trivial, (fun h => (by cases h)), ?_⟩
 refine (callsIn_wide.2 (callsIn_wide.1 (Tryz.maps_Keys_71 (some mb) W))).mono ?_
 rintro e w' ⟨rfl, rfl⟩
 gi_wp2_with fail
 refine ⟨trivial, (fun h => (by cases h)), ?_⟩
 refine (callsIn_wide.2 (callsIn_wide.1 HKS.out)).mono ?_
 rintro e W1 ⟨vk, rfl, hrow, B1⟩
 have HB1 := Lib.hid B1
 have hks := hrow.at
 clear B1
 have hR1 : rowOf W1 OB = none := (rowOf_block (HB1.out.block OB (by omega))).trans HR.out
 have HR1 := Lib.hid hR1
 have hsz1 := HB1.out.size
 have hJ1 : J [] W1 := hJ _ _ _ none h0 ⟨HB1.out.os, HB1.out.tape, HB1.out.output, HB1.out.size, fun k hk _ => HB1.out.block k hk⟩ (fun _ e => by cases e)
 have hKW1 := Lib.hid (keepR_below (n := n₀) (OB := OB) HB1.out hn (by omega))
 clear hR1 h0 ht c2 HKS HR hrow
 obtain ⟨ao, c, hvk, hcl⟩ : ∃ ao c, vk = .slice ao N c ∧ ∀ i p, K[i]? = some p → ∃ g, ao = some ⟨g, 0, none⟩ ∧ g ≠ OB ∧ (∃ o, W1.heap[g]? = some o ∧ o.isCells = true) ∧ W1.cell? ⟨g, i, none⟩ = some (.string (bs p.1)) := by
  rw [← HKK.out] at hks
  rw [List.length_map, List.map_eq_nil_iff] at hks
  rcases hks with ⟨h1, h2⟩ | ⟨g, cap, h1, hbg, hgl, hnc, ho, hat⟩
  ·refine ⟨none, 0, by rw [h1, HN.out, h2]; rfl, fun i p hp => by rw [h2] at hp; simp at hp⟩
  ·exact ⟨some ⟨g, 0, none⟩, cap, by rw [h1, HN.out], fun i p hp => ⟨g, rfl, by omega, ho, hat i p.1 (by simp [hp])⟩⟩
 subst hvk
 have HCL := Lib.hid hcl
 clear hcl hks
 gi_wp2
 gi_loopw [15] (fun p wr => ∃ i : Nat, i ≤ N ∧ p = .int .i64 i ∧ Hid (KeepR n₀ OB W1 wr) ∧ J ((K.take i).filter f) wr)
  (fun p _ => N - (intOf p).toNat)
 case atStart =>
  exact ⟨0, by omega, rfl, Lib.hid (keepR_refl _ _ _), by simpa using hJ1⟩
 case round =>
  obtain ⟨i, hi, rfl, HB, hJs⟩ := hrel
  have hcw : wr.cell? ⟨wB, 0, none⟩ = some (.func (.func 46) #[] #[.pointer (some ⟨pB, 0, none⟩), .pointer (some ⟨uB, 0, none⟩)]) := (HB.out.cell (p := ⟨wB, 0, none⟩) hwB hwO).trans ((HB1.out.cell (p := ⟨wB, 0, none⟩) (by show wB < W.heap.size; omega)).trans hw)
  have hsz : n₀ ≤ wr.heap.size := Nat.le_trans (Nat.le_trans hn hsz1) HB.out.size
  by_cases hlt : i < N
  ·obtain ⟨x, hx⟩ : ∃ x, K[i]? = some x := ⟨_, List.getElem?_eq_getElem (by rw [← HN.out]; exact hlt)⟩
   obtain ⟨g, rfl, hgO, ⟨o, hgo, hoc⟩, hgc⟩ := HCL.out i x hx
   have hcx : wr.cell? ⟨g, i, none⟩ = some (.string (bs x.1)) := (World.cell?_of_block (w := W1) (a := ⟨g, i, none⟩) ((HB.out.cells g o hgo hoc hgO (by rw [HR1.out]; simp)).trans hgo.symm)).trans hgc
   have hxm : x ∈ K := List.mem_of_getElem? hx
   have HK := Lib.hid (HW.out wr (keepR_t hKW1.out HB.out) x hxm)
   have HX := Lib.hid hx
   have HJ := Lib.hid hJ
   have HJs := Lib.hid hJs
   have HY := Lib.hid hY
   clear hx hxm hgo hgc hJ hJs hY
   cases hl : f x with
   | false =>
    rw [hl] at HK
    have HL := Lib.hid hl
    clear hl
    gi_wp2_with fail
    refine ⟨trivial, (fun h => (by cases h)), ?_⟩
    refine (callsIn_wide.2 HK.out).mono ?_
    rintro e w' ⟨rfl, B2⟩
    have X1 := Lib.hid B2
    clear B2
    gi_wp2
    refine ⟨(fun _ h => (by cases h)), ?_⟩
    gi_wp2
    go_roundw
    case rel =>
     refine ⟨i + 1, by omega, by go_num, Lib.hid (keepR_t HB.out (keepR_below X1.out hsz (by omega))), ?_⟩
     rw [filter_miss f HX.out HL.out]
     exact HJ.out _ _ _ none HJs.out ⟨X1.out.os, X1.out.tape, X1.out.output, X1.out.size, fun k hk _ => X1.out.block k hk⟩ (fun _ e => by cases e)
    case measure => simp [intOf]; omega
   | true =>
    rw [hl] at HK
    have HL := Lib.hid hl
    clear hl
    have hlf : ((K.take i).filter f).length < 1000 := by
     have h1 := List.length_filter_le f (K.take i)
     have h2 : (K.take i).length ≤ i := by simp; omega
     omega
    gi_wp2_with fail
    refine ⟨trivial, (fun h => (by cases h)), ?_⟩
    refine (callsIn_wide.2 HK.out).mono ?_
    rintro e w' ⟨rfl, B2⟩
    have X1 := Lib.hid B2
    clear B2
    have hJ2 : J ((K.take i).filter f) w' := HJ.out _ _ _ none HJs.out ⟨X1.out.os, X1.out.tape, X1.out.output, X1.out.size, fun k hk _ => X1.out.block k hk⟩ (fun _ e => by cases e)
    obtain ⟨fn, tmps, assign, body, hy, hR⟩ := HY.out _ x _ hJ2 hlf
    have HR := Lib.hid hR
    clear hJ2 hR
    unfold sv at hy
    gi_wp2_with fail
    refine ⟨(fun h => (by cases h)), ?_⟩
    refine HR.out.mono ?_
    rintro e W3 (⟨rfl, hJ3, hk3⟩ | ⟨rfl, hJx3⟩)
    ·have HJ3 := Lib.hid hJ3
     have HK3 := Lib.hid (keepR_t (keepR_t HB.out (keepR_below X1.out hsz (by omega))) hk3)
     clear hJ3 hk3
     gi_wp2
     go_roundw
     case rel => exact ⟨i + 1, by omega, by go_num, HK3, by rw [filter_hit f HX.out HL.out]; exact HJ3.out⟩
     case measure => simp [intOf]; omega
    ·gi_wp2
     refine bodyPost_ret (results_none rfl _ _ _) rfl ?_
     refine ⟨⟨_, rfl⟩, .inr ⟨_, ?_, hJx3⟩⟩
     rw [← filter_hit f HX.out HL.out]
     exact filter_pre f K (i + 1)
  ·obtain rfl : i = N := by omega
   gi_wp2
   go_end0
   refine ⟨⟨_, rfl⟩, .inl ⟨_, rfl, ?_⟩⟩
   have h := hJs
   rw [HN.out, List.take_length] at h
   exact h
end Go.Proofs.YtnclkfhdpkkakaaGreatDoor
namespace Go.Proofs.YtnclkfhdpkkakaaGreatDoor
set_option linter.unusedVariables false
set_option linter.unusedSimpArgs false
set_option linter.unusedVariables false
set_option linter.unusedSimpArgs false
open Go Go.RowKit Go.Shelf Go.MapKept Go.ChangeMaps Go.Maps Go.Sort
attribute [local go_sem] Oper.semAt_some
theorem cells_new1 (w : World) (v : Value) (t : TypeId) : ∀ j u, [v][j]? = some u → (w.alloc (.cells #[v] t)).cell? ((⟨w.heap.size, 0, none⟩ : Addr).add j) = some u := by
 intro j u hu
 have hadd : (⟨w.heap.size, 0, none⟩ : Addr).add j = ⟨w.heap.size, j, none⟩ := by unfold Addr.add; split <;> simp_all
 rw [hadd, cell_of_row _ _ j #[v] t (0, 0) (heap_alloc_new w _)]
 simpa using hu
theorem row_kept {w w' : World} {base base' : Nat} {e : TypeId} {size : Nat} {v : Value} {n : Nat} {xs : List Value} (h : w.ownsRow base e size v n xs) (hb : base' ≤ base) (hk : ∀ g cs fr, v.ownBlock = some g → base ≤ g → w.heap[g]? = some (.cells cs e fr) → w'.heap[g]? = w.heap[g]?) : w'.ownsRow base' e size v n xs := by
 refine ⟨h.1, ?_⟩
 rcases h.2 with h0 | ⟨g, cap, cur, rfl, hbg, hg, r⟩
 ·exact .inl h0
 ·exact .inr ⟨g, cap, cur, rfl, by omega, (hk g _ _ rfl hbg hg).trans hg, r⟩
theorem RowS.below {w w' : World} {base : Nat} {v : Value} {L : List Bytes} (h : RowS w base v L) (hb : Below w.heap.size w w') : RowS w' base v L :=
 row_kept h (Nat.le_refl _) fun g cs fr _ _ hg => hb.block g (Array.getElem?_eq_some_iff.1 hg).1
theorem RowS.mono {w : World} {base base' : Nat} {v : Value} {L : List Bytes} (h : RowS w base v L) (hb : base' ≤ base) : RowS w base' v L :=
 row_kept h hb fun _ _ _ _ _ _ => rfl
theorem keysS_short {M : List (Bytes × Nd)} (h : ∀ x ∈ M, x.1.length ≤ 1000) : ∀ q ∈ keysS M, q.length ≤ 1000 := fun q hq => by
 obtain ⟨x, hx, rfl⟩ := List.mem_map.1 ((sortS_perm _).mem_iff.1 hq)
 exact h x hx
theorem two_boxes (w : World) (a1 a2 : Value) (t1 t2 : TypeId) (W : World) (h : W = (w.alloc (.cells #[a1] t1)).alloc (.cells #[a2] t2)) :
  Below w.heap.size w W ∧ W.heap.size = w.heap.size + 2 ∧ Boxed W w.heap.size t1 a1 ∧ Boxed W (w.heap.size + 1) t2 a2 := by
 subst h
 have b1 := Boxed.new w t1 a1
 have b2 := Boxed.new (w.alloc (.cells #[a1] t1)) t2 a2
 simp only [World.size_alloc] at b2
 exact ⟨belowA (belowA (Below.refl _ w) _) _, by simp, b1.alloc _, b2⟩
set_option maxRecDepth 100000 in
set_option maxHeartbeats 4000000 in
theorem appendSeq_of (tB wB : Nat) (ys : List Key) (hlen : ys.length ≤ 1000) (w : World)
  (hseq : ∀ W, W = w.alloc (.cells #[.slice none 0 0] 40) → SeqStopsK Fence.wide 1 Tryz.prog 69 #[.pointer (some ⟨tB, 0, none⟩), .pointer (some ⟨wB, 0, none⟩)] (fun x : Key => #[sv x.1]) (KeepR (w.heap.size + 1) w.heap.size) (fun zs => zs = ys) (fun pre => pre <+: ys) 1000 W) :
  Calls Tryz.prog 68 #[.slice none 0 0, .func (.func 69) #[] #[.pointer (some ⟨tB, 0, none⟩), .pointer (some ⟨wB, 0, none⟩)]] w fun e W' => ∃ v, e = .returned v ∧ RowS W' w.heap.size v (ys.map (·.1)) ∧ Below w.heap.size w W' := by
 obtain ⟨i0, hi, hz0, hz1, hz2⟩ := info_parts infoStr
 refine (callsIn_wide (n := 2)).1 ?_
 refine callsIn_of_wp_marks Tryz.func68 rfl trivial ?_ rfl
 simp only [Tryz.ntmps68, List.size_toArray, List.length_cons, List.length_nil, Nat.reduceAdd, Nat.reduceSub, Array.replicate_succ, Array.replicate_zero, List.push_toArray, List.append_toArray, List.nil_append, List.cons_append]
 gi_wp2
 have bO := Boxed.new w 40 (.slice none 0 0)
 refine wpIn_rangeFunc_ownG (α := Key) rfl (by omega) (gf := 69) (lb := #[.pointer (some ⟨tB, 0, none⟩), .pointer (some ⟨wB, 0, none⟩)]) rfl trivial (enters_of Tryz.func69 (by kernel_rfl) rfl)
  (hseq _ rfl) keepR_t (keepR_b (by simp) (by simp)) (Below.refl _ _) (fun _ => rfl)
  (fun pre W => (∃ v, Boxed W w.heap.size 40 v ∧ W.ownsRow (w.heap.size + 1) 9 1 v pre.length (pre.map fun q => sv q.1) ∧ True) ∧ KeepR (w.heap.size + 1) w.heap.size (w.alloc (.cells #[.slice none 0 0] 40)) W)
  (fun _ _ _ => False)
  (OwnFrom.and (Own.from (holdsRow_own (w.heap.size + 1) w.heap.size 40 9 1 (fun pre : List Key => pre.length) (fun pre => pre.map fun q => sv q.1) (fun _ _ => True)) _) (ownFrom_keepR (by simp) (by omega) (by simp)))
  (fun _ _ _ _ _ hs _ _ => hs)
  ⟨⟨_, bO, World.ownsRow_nil _ _ _ _, trivial⟩, keepR_refl _ _ _⟩
  (fun x => { tmps := #[.slice none 0 0, .func (.func 69) #[] #[.pointer (some ⟨tB, 0, none⟩), .pointer (some ⟨wB, 0, none⟩)], .pointer (some ⟨w.heap.size, 0, none⟩), undef, .slice none 0 0, sv x.1, .func (.func 69) #[] #[.pointer (some ⟨tB, 0, none⟩), .pointer (some ⟨wB, 0, none⟩)], sv x.1, undef, undef, undef, undef, undef], defers := [] }) ?assign ?body ?done ?stop
 case assign =>
  intro l x W K hK
  unfold sv at *
  gi_wp2
  exact hK
 case body =>
  rintro l pre x W ⟨⟨v, hv, hrow, _⟩, hB⟩ hlt
  have hc := hv.cell
  have hsz := hB.size
  simp only [World.size_alloc] at hsz
  unfold sv
  gi_wp2_with (gi_at_builtin; refine wpListIn_append_new _ rfl _ _ 40 rfl (w.heap.size + 1) 9 i0 (.string ⟨#[]⟩) 1 16 Tryz.underlying40 hi hz0 hz1 hz2 rfl (by decide) _ _ _ rfl (hrow.alloc _) ⟨W.heap.size, 0, none⟩ 1 1 [.string (bs x.1)] rfl rfl (cells_new1 W _ _) (by intro u hu; simp at hu; subst hu; rfl) (by unfold maxLen; omega) (by omega) (by simp; omega) ?_; intro v' w1 hown' hgrow hwh; obtain ⟨g', cap', rfl⟩ := ownsRow_succ hown'; obtain ⟨hv1, hv2, hr2, hk2, hb2⟩ := appendedR (n := w.heap.size + 1) hv (by decide) hrow hsz (Nat.le_refl _) hown' hgrow hwh; have hc1 := hv1.cell; have hf1 := hv1.frozen)
  exact ⟨hk2.from _, hb2, ⟨_, hv2, by rw [List.length_append, List.map_append]; exact hr2, trivial⟩, keepR_t hB hb2⟩
 case done =>
  rintro D ys W hD rfl ⟨⟨v, hv, hrow, _⟩, hB⟩ hK
  have hc := hv.cell
  gi_wp2
  refine ⟨by simp, .inl ⟨_, _, rfl, run_takeDeferred hK, ?_⟩⟩
  refine ⟨_, results_tmp rfl _ _ _, v, rfl, ?_, ?_⟩
  ·refine RowS.mono (base := w.heap.size + 1) ?_ (by omega)
   have h := ownsRow_putObj hrow (.deferred none) hK rfl
   unfold RowS
   rw [List.length_map, List.map_map]
   exact h
  ·have h1 : Below w.heap.size w W := (belowA (Below.refl _ w) _).trans (keepR_to_below hB (by omega) (by omega))
   refine h1.trans ⟨rfl, rfl, rfl, by simp, fun k hk => World.putObj_heap_other (by simp at hD; omega)⟩
 case stop =>
  rintro D c pre W _ _ h _
  exact h.elim
set_option maxRecDepth 100000 in
set_option maxHeartbeats 4000000 in
theorem collect_of (tB wB : Nat) (w : World) (ys : List Bytes) (h : Calls Tryz.prog 68 #[.slice none 0 0, .func (.func 69) #[] #[.pointer (some ⟨tB, 0, none⟩), .pointer (some ⟨wB, 0, none⟩)]] w fun e W' => ∃ v, e = .returned v ∧ RowS W' w.heap.size v ys ∧ Below w.heap.size w W') :
  Calls Tryz.prog 42 #[.func (.func 69) #[] #[.pointer (some ⟨tB, 0, none⟩), .pointer (some ⟨wB, 0, none⟩)]] w fun e W' => ∃ v, e = .returned v ∧ RowS W' w.heap.size v ys ∧ Below w.heap.size w W' := by
 have H := Lib.hid h
 clear h
 go_enter Tryz.func42, Tryz.ntmps42
 go_wp2_with fail
 refine H.out.mono ?_
 rintro e W' ⟨v, rfl, hR⟩
 have HR := Lib.hid hR
 clear hR
 go_wp2
 go_ret
 exact ⟨v, rfl, HR.out⟩
section
variable {w : World} {lo : Nat → Prop} {b mb : Nat} {root : Bytes} {at_ : Int} {M : List (Bytes × Nd)}
set_option maxRecDepth 100000 in
set_option maxHeartbeats 4000000 in
theorem TreeAt.paths_any (T : TreeAt w lo b mb root at_ M) (hM : M.length ≤ 1000) (hkl : ∀ x ∈ M, x.1.length ≤ 1000) :
  Calls Tryz.prog 26 #[.pointer (some ⟨b, 0, none⟩)] w fun e W' => ∃ v, e = .returned v ∧ RowS W' w.heap.size v (keysS M) ∧ Below w.heap.size w W' := by
 have hbl : b < w.heap.size := lt_of_block T.blk
 obtain ⟨K, hK⟩ := keys_of (keysS M) (keysS_short hkl)
 have hKl : K.length ≤ 1000 := by rw [key_len' hK]; exact hM
 obtain ⟨w2, hw2⟩ : ∃ w2, w2 = (w.alloc (.cells #[.pointer (some ⟨b, 0, none⟩)] 33)).alloc (.cells #[.func (.func 44) #[] #[]] 99) := ⟨_, rfl⟩
 obtain ⟨hB2, hs2, b1, b2⟩ := two_boxes w _ _ _ _ w2 hw2
 have key := appendSeq_of w.heap.size (w.heap.size + 1) K hKl w2 (by
  intro W hW
  intro l J Jx W3 hW3 hJ _ hY h0
  have hWs : W.heap.size = w.heap.size + 3 := by rw [hW]; simp; omega
  have hb2W : Below w2.heap.size w2 W := by rw [hW]; exact belowA (Below.refl _ _) _
  have hb23 : Below w2.heap.size w2 W3 := hb2W.trans (hW3.mono hb2W.size)
  have hb03 : Below w.heap.size w W3 := hB2.trans (hb23.mono hB2.size)
  have hO : Boxed W3 w2.heap.size 40 (.slice none 0 0) := boxed_belowR (by rw [hW]; exact Boxed.new w2 40 (.slice none 0 0)) hW3 (by omega)
  have hsz3 := hW3.size
  have key := seq_yes 1 l w.heap.size (w.heap.size + 1) (w2.heap.size + 1) w2.heap.size b mb lo root at_ M hM K hK (fun _ => true) J Jx hY W3 hJ (by omega) (by omega) (by omega) (by omega) (by omega) (by omega) (by omega) (by omega)
   (boxed_belowR b1 hb23 (by omega)).cell (boxed_belowR b2 hb23 (by omega)).cell (T.below hb03) (by rw [rowOf_boxed hO]; rfl) (fun W' _ q _ => (yes_any q.1 W').mono fun e w' ⟨he, hw⟩ => ⟨he, by rw [hw]; exact Below.refl _ _⟩) h0
  rw [List.filter_eq_self.2 (by simp)] at key
  exact key)
 rw [hK] at key
 have HKEY := Lib.hid key
 have HB2 := Lib.hid hB2
 have HW2 := Lib.hid hw2
 clear key hB2 hw2 b1 b2 hs2 T hK hKl
 go_enter Tryz.func26, Tryz.ntmps26
 go_wp2_with fail
 refine (all_any _ _ _ rfl rfl).mono ?_
 rintro e w' ⟨rfl, rfl⟩
 go_wp2_with fail
 rw [← HW2.out]
 refine (collect_of _ _ _ _ HKEY.out).mono ?_
 rintro e W' ⟨v, rfl, hr, hb⟩
 have HR := Lib.hid hr
 have HB := Lib.hid hb
 clear hr hb
 go_wp2
 go_ret
 exact ⟨v, rfl, HR.out.mono HB2.out.size, HB2.out.trans (HB.out.mono HB2.out.size)⟩
end
end Go.Proofs.YtnclkfhdpkkakaaGreatDoor
