/-
  append on a slice that the call owns, inside a fence, saying besides where the new slice lies; a row in a box that a loop over an iterator turns: what stands ('KeepR').
-/
import Derived.Test.YtkhoeiapfoaapaaGreatDoorApp
import Derived.Test.YtkhoeiapfoaapaaGreatDoorMapsMore
import Derived.OwnWalkIn
import Derived.RangeFuncBox
import Derived.RangeFuncNested
import Derived.RangeFuncLeaves
import Derived.RangeFuncCalls
import Derived.Shelf.Abstract
import Derived.TacticsInMore
import Derived.LoopNIn
import Derived.LoopIn
import Derived.Maps.AppendAt
import Derived.Lib.Hide
import Derived.Deep.Onto
namespace Go.Proofs.YtkhoeiapfoaapaaGreatDoor
set_option linter.unusedVariables false
set_option linter.unusedSimpArgs false
open Go.RowKit

theorem wpListIn_append_new {F : Fence} {n : Nat} {P : Program} (w : World) {ops : Array Oper} {rest : List Oper} {o : Oper} {a : Act} {Q : Exit → Act → World → Prop}
    (hg : o.guard = none) (s x : Operand) (t : TypeId) (hop : o.op = Op.call { callee := Callee.builtin Builtin.append, args := #[s, x], argTypes := #[t, t] })
    (base : Nat) (e : TypeId) (i : TypeInfo) (z : Value) (size bytes : Nat) (h1 : P.underlying t = some (.slice e)) (h2 : P.info? e = some i) (h3 : i.zero = some z) (h4 : i.size = size) (h5 : i.bytes = bytes) (h6 : z.cells.size = size) (h7 : 0 < size)
    (v : Value) (k : Nat) (xs : List Value) (hs : a.eval s = v) (hown : w.ownsRow base e size v k xs) (ad : Addr) (m c : Nat) (news : List Value) (hx : a.eval x = .slice (some ad) m c) (hn : news.length = m * size)
    (hc : ∀ j u, news[j]? = some u → w.cell? (ad.add j) = some u) (h1c : ∀ u ∈ news, u.oneCell' = true) (b1 : k + m ≤ maxLen) (b2 : (k + m) * bytes ≤ 140737488355328) (b3 : base ≤ w.heap.size)
    (hK : ∀ v' w', w'.ownsRow base e size v' (k + m) (xs ++ news) → w.grownBy w' v.ownBlock → (∀ j, v'.ownBlock = some j → v.ownBlock = some j ∨ w.heap.size ≤ j) → wpListIn F n P ops Q rest (a.put o.dst v') w') :
    wpListIn F n P ops Q (o :: rest) a w := by
  refine wpListIn_plain hg fun K hK' => ?_
  obtain ⟨v', w', hrun, r1, r2, r3⟩ := run_append_new (P := P) (w := w) base t o.type e i z size bytes h1 h2 h3 h4 h5 h6 h7 v k xs hown ad m c news hn hc h1c b1 b2 b3
  unfold Oper.wpIn
  refine ⟨?_, ?_⟩
  · simp [Oper.about, hop, resolve, Target.leads, Sem.run_pure]
  · rw [Oper.semAt_plain F _ _ (by rw [hop]; intro c hc'; cases hc')]
    simp [execOp, hop, resolve, invoke, builtin, hs, hx, hrun, Result.andThen]
    exact hK' _ _ (hK v' w' r1 r2 r3)

/-- An append in a region that draws its order, its run being known. -/
theorem stepIn_append_run {F : Fence} {n : Nat} {P : Program} {ops : Array Oper} {o : Oper} {a : Act} {w : World} {K : Act → World → Prop} {Q : Exit → Act → World → Prop} {E : Prop}
    (hg : o.guard = none) (s x : Operand) (t : TypeId) (hop : o.op = Op.call { callee := Callee.builtin Builtin.append, args := #[s, x], argTypes := #[t, t] })
    (v u v' : Value) (w' : World) (hs : a.eval s = v) (hx : a.eval x = u) (hr : (Builtin.append_ #[t, t] o.type #[v, u]).run P w = .ok v' w') (hK : K (a.put o.dst v') w') :
    if Region.wanted o (yielded ops a.tmps) = true then Oper.wpIn F n P o a w K Q else E := by
  have hw : Region.wanted o (yielded ops a.tmps) = true := by simp [Region.wanted, hg]
  rw [if_pos hw]
  unfold Oper.wpIn
  refine ⟨?_, ?_⟩
  · simp [Oper.about, hop, resolve, Target.leads, Sem.run_pure]
  · rw [Oper.semAt_plain F _ _ (by rw [hop]; intro c hc'; cases hc')]
    simp [execOp, hop, resolve, invoke, builtin, hs, hx, hr, Result.andThen]
    exact hK

/-- The block of the row that the box OB holds. -/
def rowOf (W : World) (OB : Nat) : Option Nat := (W.cell? ⟨OB, 0, none⟩).bind Value.ownBlock
/-- What a consumer of an iterator may turn: its box OB, and the row that the box holds; the box's row stays or is new. -/
structure KeepR (n OB : Nat) (W W' : World) : Prop where
  os : W'.os = W.os
  tape : W'.tape = W.tape
  output : W'.output = W.output
  size : W.heap.size ≤ W'.heap.size
  block : ∀ k, k < n → k ≠ OB → W'.heap[k]? = W.heap[k]?
  cells : ∀ (k : Nat) (o : Obj), W.heap[k]? = some o → o.isCells = true → k ≠ OB → rowOf W OB ≠ some k → W'.heap[k]? = some o
  row : ∀ g, rowOf W' OB = some g → rowOf W OB = some g ∨ W.heap.size ≤ g
theorem keepR_refl (n OB : Nat) (W : World) : KeepR n OB W W := ⟨rfl, rfl, rfl, Nat.le_refl _, fun _ _ _ => rfl, fun _ _ h _ _ _ => h, fun _ h => .inl h⟩
theorem keepR_t {n OB : Nat} {A B C : World} (h : KeepR n OB A B) (k : KeepR n OB B C) : KeepR n OB A C := by
  refine ⟨k.os.trans h.os, k.tape.trans h.tape, k.output.trans h.output, Nat.le_trans h.size k.size, fun i hi hn => (k.block i hi hn).trans (h.block i hi hn), fun i o hi ho hn hr => ?_, ?_⟩
  · refine k.cells i o (h.cells i o hi ho hn hr) ho hn fun e => ?_
    have hl : i < A.heap.size := (Array.getElem?_eq_some_iff.1 hi).1
    rcases h.row i e with hr2 | hg
    · exact hr hr2
    · omega
  · intro g hg
    rcases k.row g hg with h2 | h2
    · exact h.row g h2
    · exact .inr (Nat.le_trans h.size h2)
theorem rowOf_block {W W' : World} {OB : Nat} (h : W'.heap[OB]? = W.heap[OB]?) : rowOf W' OB = rowOf W OB := by
  unfold rowOf
  rw [World.cell?_of_block (w := W) (a := ⟨OB, 0, none⟩) h]
theorem keepR_below {n OB : Nat} {W W' : World} (h : Below W.heap.size W W') (hn : n ≤ W.heap.size) (hO : OB < W.heap.size) : KeepR n OB W W' :=
  ⟨h.os, h.tape, h.output, h.size, fun k hk _ => h.block k (by omega), fun k o hk _ _ _ => (h.block k (Array.getElem?_eq_some_iff.1 hk).1).trans hk, fun g hg => .inl ((rowOf_block (h.block OB hO)) ▸ hg)⟩
theorem keepR_b {n OB : Nat} {w : World} (hB : n ≤ w.heap.size) (hO : OB < w.heap.size) (W : World) (l : Nat) (o o' : Obj) (hl : w.heap.size ≤ l) (ho : W.heap[l]? = some o) (hc : o.isCells = false) (hw : o.isWalk = false) : KeepR n OB W (W.putObj l o') :=
  ⟨rfl, rfl, rfl, by simp, fun k hk _ => World.putObj_heap_other (by omega), fun k o2 hk h2 _ _ => (World.putObj_heap_other (fun e => by subst e; rw [ho] at hk; cases hk; rw [hc] at h2; cases h2)).trans hk,
    fun g hg => .inl ((rowOf_block (World.putObj_heap_other (w := W) (r := l) (o := o') (k := OB) (by omega))) ▸ hg)⟩
theorem KeepR.cell {n OB : Nat} {W W' : World} (h : KeepR n OB W W') {p : Addr} (hp : p.block < n) (hn : p.block ≠ OB) : W'.cell? p = W.cell? p := World.cell?_of_block (w := W) (h.block _ hp hn)
theorem keepR_to_below {n OB B : Nat} {W W' : World} (h : KeepR n OB W W') (h1 : B ≤ n) (h2 : B ≤ OB) : Below B W W' := ⟨h.os, h.tape, h.output, h.size, fun k hk => h.block k (by omega) (by omega)⟩
/-- A row of cells that was made ahead, in blocks that are not the box's row. -/
theorem KeepR.same {n OB : Nat} {W W' : World} (h : KeepR n OB W W') {k : Nat} {o : Obj} (hk : W.heap[k]? = some o) (ho : o.isCells = true) (hn : k ≠ OB) (hr : rowOf W OB ≠ some k) : W'.heap[k]? = some o := h.cells k o hk ho hn hr
theorem boxed_keepR {n OB B : Nat} {t : TypeId} {v : Value} {W W' : World} (h : Boxed W B t v) (hk : KeepR n OB W W') (h1 : B < n) (h2 : B ≠ OB) : Boxed W' B t v := (hk.block B h1 h2).trans h
theorem boxed_belowR {n B : Nat} {t : TypeId} {v : Value} {W W' : World} (h : Boxed W B t v) (hk : Below n W W') (h1 : B < n) : Boxed W' B t v := (hk.block B h1).trans h
theorem rowOf_boxed {W : World} {OB : Nat} {t : TypeId} {v : Value} (h : Boxed W OB t v) : rowOf W OB = v.ownBlock := by
  unfold rowOf
  rw [h.cell]
  rfl
/-- One append into the box's row, and the store. -/
theorem appendedR {W w1 : World} {n OB base : Nat} {t e : TypeId} {size : Nat} {v v' : Value} {k m : Nat} {xs ys : List Value} {tmp : Obj}
    (hv : Boxed W OB t v) (hte : t ≠ e) (hrow : W.ownsRow base e size v k xs) (hn : n ≤ W.heap.size) (hb : n ≤ base)
    (hown' : w1.ownsRow base e size v' m ys) (hgrow : (W.alloc tmp).grownBy w1 v.ownBlock) (hwh : ∀ j, v'.ownBlock = some j → v.ownBlock = some j ∨ (W.alloc tmp).heap.size ≤ j) :
    Boxed w1 OB t v ∧ Boxed (w1.setCell ⟨OB, 0, none⟩ v') OB t v' ∧ (w1.setCell ⟨OB, 0, none⟩ v').ownsRow base e size v' m ys ∧ KeepsOthers W (w1.setCell ⟨OB, 0, none⟩ v') ∧ KeepR n OB W (w1.setCell ⟨OB, 0, none⟩ v') := by
  obtain ⟨h1, h2, h3, h4, _⟩ := Boxed.appended (n₀ := 0) (tmp := tmp) hv hte (hrow.mono (Nat.zero_le _)) (Nat.zero_le _) (Nat.zero_le _) (hown'.mono (Nat.zero_le _)) hgrow
  have hsz : W.heap.size ≤ w1.heap.size := by have := hgrow.size; simp at this; omega
  have hst : ∀ k, k < W.heap.size → k ≠ OB → v.ownBlock ≠ some k → (w1.setCell ⟨OB, 0, none⟩ v').heap[k]? = W.heap[k]? := fun k hk hne hr => by
    rw [(grownBy_setCell' w1 OB v').block k (by omega) (by simpa using hne), hgrow.block k (by simp; omega) (fun e => hr e.symm)]
    exact Below.heap_alloc _ _ _ (by omega)
  refine ⟨h1, h2, hown'.kept (grownBy_setCell' w1 OB v') (.inr (h1.not_row hte hown').symm), h4, ?_⟩
  refine ⟨hgrow.os, hgrow.tape, hgrow.output, ?_, fun k hk hne => hst k (by omega) hne (fun e => ?_), fun k o hk ho hne hr => ?_, ?_⟩
  · have h5 := (grownBy_setCell' w1 OB v').size
    omega
  · have := (hrow.lt k e).1
    omega
  · rw [rowOf_boxed hv] at hr
    exact (hst k (Array.getElem?_eq_some_iff.1 hk).1 hne hr).trans hk
  · intro g hg
    rw [rowOf_boxed h2] at hg
    rw [rowOf_boxed hv]
    rcases hwh g hg with h | h
    · exact .inl h
    · exact .inr (by simp at h; omega)
theorem ownFrom_keepR {β : Type} {n OB B : Nat} {w₀ : World} (hn : n ≤ w₀.heap.size) (hO : OB < n) (hB : n ≤ B) : OwnFrom B (fun (_ : β) W => KeepR n OB w₀ W) := by
  intro s W W' row h hg hr
  have hst : ∀ (k : Nat) (o : Obj), W.heap[k]? = some o → o.isCells = true → W'.heap[k]? = some o := fun k o hk ho => by
    refine (hg.block k (Array.getElem?_eq_some_iff.1 hk).1 (fun e => ?_)).trans hk
    obtain ⟨_, o2, h2, h3⟩ := hr k e.symm
    rw [hk] at h2
    cases h2
    rw [ho] at h3
    cases h3
  refine keepR_t h ⟨hg.os, hg.tape, hg.output, hg.size, fun k hk hn' => hg.block k (Nat.lt_of_lt_of_le (Nat.lt_of_lt_of_le hk hn) h.size) (fun e => ?_), fun k o hk ho _ _ => hst k o hk ho, fun g hgr => .inl ((rowOf_block ?_) ▸ hgr)⟩
  · have := (hr k e.symm).1
    omega
  · refine hg.block OB (Nat.lt_of_lt_of_le (by omega) h.size) (fun e => ?_)
    have := (hr OB e.symm).1
    omega
end Go.Proofs.YtkhoeiapfoaapaaGreatDoor
