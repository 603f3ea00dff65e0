/-
  Words for the doer's create.
-/
import Derived.Test.YtnclkfhdpkkakaaGreatDoorJOpMeth
import Derived.Test.YtnclkfhdpkkakaaGreatDoorJOpFmt2
namespace Go.Proofs.YtnclkfhdpkkakaaGreatDoor
set_option linter.unusedVariables false
set_option linter.unusedSimpArgs false
open Go Go.RowKit Go.Shelf Go.MapKept Go.ChangeMaps Go.Maps Go.Sort
/-- A block's cells, as a range. -/
theorem range_blk {w : World} {B : Nat} {cs : List Value} {t : TypeId} {fr : Nat × Nat} (h : w.heap[B]? = some (.cells cs.toArray t fr)) : w.rangeAt B 0 cs := fun j u hu => by
  rw [Nat.zero_add, cell_of_row _ _ j _ t fr h]
  simpa using hu
theorem cells_from {B : Nat} {t : TypeId} {fr : Nat × Nat} : ∀ (vs : List Value) (o : Nat) (w : World) (cs : List Value), w.heap[B]? = some (.cells cs.toArray t fr) → o + vs.length = cs.length → (w.setCells B o vs).heap[B]? = some (.cells (cs.take o ++ vs).toArray t fr)
  | [], o, w, cs, h, hl => by
    rw [List.append_nil, List.take_of_length_le (by simp at hl; omega)]
    exact h
  | v :: r, o, w, cs, h, hl => by
    have h1 : (w.setCell ⟨B, o, none⟩ v).heap[B]? = some (.cells (cs.set o v).toArray t fr) := by
      simp [World.setCell, Array.getElem?_modify, h]
    have h2 := cells_from r (o + 1) (w.setCell ⟨B, o, none⟩ v) (cs.set o v) h1 (by simp at hl ⊢; omega)
    have ho : o < cs.length := by simp at hl; omega
    have h3 : (cs.set o v).take (o + 1) = cs.take o ++ [v] := by
      rw [List.take_add_one, List.take_set_of_le (Nat.le_refl o)]
      simp [ho]
    rw [h3, List.append_assoc] at h2
    exact h2
theorem cells_set {w : World} {B : Nat} {cs : Array Value} {t : TypeId} {fr : Nat × Nat} (h : w.heap[B]? = some (.cells cs t fr)) {vs : List Value} (hl : vs.length = cs.size) : (w.setCells B 0 vs).heap[B]? = some (.cells vs.toArray t fr) := by
  have := cells_from (B := B) (t := t) (fr := fr) vs 0 w cs.toList (by simpa using h) (by simpa using hl)
  simpa using this
section
variable {P : Program} {l : List Oper} {Q : Exit → Act → World → Prop} {md : Region.Mode} {S : World → Prop}
/-- A call or an alloc may come up: both ways. -/
theorem call_or (i j : Nat) {oi oj : Oper} {r r' : List Oper} {fuel : Nat} {listed : Array Bool} {a : Act} {w : World} (hi : l.drop i = oi :: r) (hj : l.drop j = oj :: r')
    (hr : Region.ready md l.toArray listed = [i, j]) (hwi : Region.wanted oi (yielded l.toArray a.tmps) = true) (hwj : Region.wanted oj (yielded l.toArray a.tmps) = true)
    (f : FuncId) (args : Array Value) (hx : (execOp a.eval oi).run P w = .ok (.enter f args) w) (v : Value) (w' : World) (hy : (execOp a.eval oj).run P w = .ok (.value v) w')
    (h : Calls P f args w (fun
      | .returned v, w' => S w' ∧ wpAnyH P md l.toArray Q S fuel (listed.setIfInBounds i true) (a.put oi.dst v) w'
      | .panicked c, w' => Q (.panic c) a w'
      | .outgrown, _ => False))
    (hS : S w') (h2 : wpAnyH P md l.toArray Q S fuel (listed.setIfInBounds j true) (a.put oj.dst v) w') : wpAnyH P md l.toArray Q S (fuel + 1) listed a w := by
  refine wpAnyH_all hr (by simp) fun k hk => ?_
  rcases (show k = i ∨ k = j by simpa using hk) with rfl | rfl
  · unfold wpOp
    rw [drop_get hi]
    dsimp only
    rw [if_pos hwi]
    refine .inl ?_
    unfold Oper.wp
    rw [hx, Oper.upon_enter]
    refine Calls.mono h fun e w' he => ?_
    cases e with
    | returned v => exact he
    | panicked c => exact he
    | outgrown => exact (he : False).elim
  · unfold wpOp
    rw [drop_get hj]
    dsimp only
    rw [if_pos hwj]
    refine .inl ?_
    unfold Oper.wp
    rw [hy, Oper.upon_value]
    exact ⟨hS, h2⟩
end
def NextBox (w1 : World) (un : Nat) (v : Value) (wc : World) : Prop := ∃ B, v = .pointer (some ⟨B, 0, none⟩) ∧ wc.cell? ⟨B, 3, none⟩ = some (.int .u32 (un : Int)) ∧ Below w1.heap.size w1 wc
theorem nextBox {w1 w : World} {B : Nat} {sa : Option Addr} {sn sc : Nat} {s1 s2 s4 s5 s6 s7 s8 : Int} {un : Nat} (ht : w.there B 0 9) (hb : Below w1.heap.size w1 w) (hB : w1.heap.size ≤ B) :
    NextBox w1 un (.pointer (some ⟨B, 0, none⟩)) (w.setCells B 0 [.slice sa sn sc, .int .u32 s1, .int .u32 s2, .int .u32 (un : Int), .int .i64 s4, .int .u32 s5, .int .u64 s6, .int .u64 s7, .int .u64 s8]) := by
  have K : Kept (· = B) w (w.setCells B 0 [.slice sa sn sc, .int .u32 s1, .int .u32 s2, .int .u32 (un : Int), .int .i64 s4, .int .u32 s5, .int .u64 s6, .int .u64 s7, .int .u64 s8]) := Kept.setCells (S := (· = B)) (p := B) rfl _ 0 (Kept.refl _ w)
  exact ⟨B, rfl, (World.rangeAt_setCells_same w B 0 [.slice sa sn sc, .int .u32 s1, .int .u32 s2, .int .u32 (un : Int), .int .i64 s4, .int .u32 s5, .int .u64 s6, .int .u64 s7, .int .u64 s8] ht) 3 _ rfl, hb.trans (K.below hb.size (fun k e => by have e : k = B := e; omega))⟩
/-- The numbers of nodes are numbers of 32 bits. -/
def Nice (M : List (Bytes × Nd)) : Prop := ∀ x ∈ M, 0 ≤ x.2.num.next ∧ x.2.num.next < 4294967296
theorem nDigits_le : ∀ (k u : Nat), u < 10 ^ (k + 1) → Lib.nDigits u ≤ k + 1
  | 0, u, h => by rw [Lib.nDigits_small (by simpa using h)]; exact Nat.le_refl _
  | k + 1, u, h => by
    by_cases h10 : u < 10
    · rw [Lib.nDigits_small h10]; omega
    · rw [Lib.nDigits_big h10]
      have := nDigits_le k (u / 10) (by rw [Nat.pow_succ] at h; omega)
      omega
theorem digits_ten {u : Nat} (h : u < 4294967296) : (Lib.decDigits u).length ≤ 10 := by
  rw [Lib.decDigits_length]
  exact nDigits_le 9 u (by omega)
theorem next_nat {M : List (Bytes × Nd)} (h : Nice M) (p : Bytes) : ∃ un : Nat, (un : Int) = ((getA p M).getD zNd).num.next ∧ un < 4294967296 := by
  cases hg : getA p M with
  | none => exact ⟨0, rfl, by decide⟩
  | some nd =>
    obtain ⟨x, hx, rfl⟩ := getA_mem hg
    have := h x hx
    exact ⟨x.2.num.next.toNat, by show ((x.2.num.next.toNat : Nat) : Int) = x.2.num.next; omega, by omega⟩
theorem parent_short {p : Bytes} (h : p.length ≤ 1000) : (parentL p).length ≤ maxLen := by
  have := parentL_len p h
  unfold maxLen
  omega
theorem tab_below {w w' : World} (h : PowTab w) (hb : Below w.heap.size w w') : PowTab w' := by
  unfold PowTab Lib.TabIs World.var? at *
  cases hg : Tryz.prog.globalNamed "internal/strconv.uint64pow10" with
  | none => simp [hg] at h
  | some g =>
    rw [hg] at h
    rw [Option.bind_some] at h ⊢
    have hlt : g < w.heap.size := by
      rcases Nat.lt_or_ge g w.heap.size with h1 | h1
      · exact h1
      · rw [Array.getElem?_eq_none h1] at h
        cases h
    rw [hb.block g hlt]
    exact h
theorem add_bsC (x y : ByteArray) (z : Bytes) (hz : x ++ y = bs z) (hl : z.length ≤ 2000) (W : World) : (Op.stringOp .add x y).run Tryz.prog W = .ok (.string (bs z)) W := by
  have h : (x ++ y).size = x.size + y.size := ByteArray.size_append
  rw [hz, size_bs] at h
  rw [run_string_add_sum W x y (by omega), hz]
theorem sess_eq (s n : Int) (w : World) : (binOp .eql 29 (.agg #[.int .i64 s, .int .u32 n]) (.agg #[.int .i64 0, .int .u32 0])).run Tryz.prog w = .ok (.bool (noSess s n)) w := by
  unfold noSess
  by_cases h1 : s = 0 <;> by_cases h2 : n = 0 <;> simp [go_sem, h1, h2]
theorem sess_ne (s n : Int) (w : World) : (binOp .neq 29 (.agg #[.int .i64 s, .int .u32 n]) (.agg #[.int .i64 0, .int .u32 0])).run Tryz.prog w = .ok (.bool (!noSess s n)) w := by
  unfold noSess
  by_cases h1 : s = 0 <;> by_cases h2 : n = 0 <;> simp [go_sem, h1, h2]
section
variable {X : Nat → Prop} {w0 w : World} {d b : Nat} {root : Bytes} {at_ cnt : Int} {M : List (Bytes × Nd)} {who : Sess} {v : Value} {L : List RawE} {E : List Eff}
theorem DoerAt.touched_any (D : DoerAt X w0 w d b root at_ cnt M who v L E) (hm : MaxInt w) (p : Bytes) (hp : p.length ≤ 1000) :
    Calls Tryz.prog 112 #[.pointer (some ⟨d, 0, none⟩), .string (bs p)] w fun e w' => (∃ (u : Nd) (r : Raw), getA (parentL p) M = some u ∧ e = .returned (RawE.val ⟨parentL p, false, r⟩) ∧ Reads w' (From w.heap.size) r (upN u at_) ∧ Below w.heap.size w w') ∨ (getA (parentL p) M = none ∧ e = panicV 31 ∧ Below w.heap.size w w') := by
  cases h : getA (parentL p) M with
  | none => exact (D.touched_none hm p hp h).mono fun e w' h => .inr ⟨rfl, h.1, h.2⟩
  | some u =>
    refine (D.touched_some hm p hp h).mono fun e w' hh => ?_
    obtain ⟨r, g1, g2, g3, _⟩ := hh
    exact .inl ⟨u, r, rfl, g1, g2, g3⟩
end
end Go.Proofs.YtnclkfhdpkkakaaGreatDoor
