/-
  Words for the doer's create. Do, walked: its ending. The reference's Reply, of two replies that say the same, walked. The reference's small helpers: no, node, parent, walked. Do, walked: no tree; what may not be.
-/
import Derived.Test.YtnclkfhdpkkakaaGreatDoorQ28
import Derived.Test.YtnclkfhdpkkakaaGreatDoorQ22
import Derived.Test.YtnclkfhdpkkakaaGreatDoorQ18
import Derived.Test.YtnclkfhdpkkakaaGreatDoorQ24
namespace Go.Proofs.YtnclkfhdpkkakaaGreatDoor
set_option linter.unusedVariables false
set_option linter.unusedSimpArgs false
open Go Go.RowKit Go.Shelf Go.MapKept Go.ChangeMaps Go.Maps Go.Sort
theorem range_blk {w : World} {B : Nat} {cs : List Value} {t : TypeId} {fr : Nat × Nat} (h : w.heap[B]? = some (.cells cs.toArray t fr)) : w.rangeAt B 0 cs := fun j u hu => by
 rw [Nat.zero_add, cell_of_row _ _ j _ t fr h]
 simpa using hu
theorem cells_from {B : Nat} {t : TypeId} {fr : Nat × Nat} : ∀ (vs : List Value) (o : Nat) (w : World) (cs : List Value), w.heap[B]? = some (.cells cs.toArray t fr) → o + vs.length = cs.length → (w.setCells B o vs).heap[B]? = some (.cells (cs.take o ++ vs).toArray t fr)
 | [], o, w, cs, h, hl => by
  rw [List.append_nil, List.take_of_length_le (by simp at hl; omega)]
  exact h
 | v :: r, o, w, cs, h, hl => by
  have h1 : (w.setCell ⟨B, o, none⟩ v).heap[B]? = some (.cells (cs.set o v).toArray t fr) := by
   simp [World.setCell, Array.getElem?_modify, h]
  have h2 := cells_from r (o + 1) (w.setCell ⟨B, o, none⟩ v) (cs.set o v) h1 (by simp at hl ⊢; omega)
  have ho : o < cs.length := by simp at hl; omega
  have h3 : (cs.set o v).take (o + 1) = cs.take o ++ [v] := by
   rw [List.take_add_one, List.take_set_of_le (Nat.le_refl o)]
   simp [ho]
  rw [h3, List.append_assoc] at h2
  exact h2
theorem cells_set {w : World} {B : Nat} {cs : Array Value} {t : TypeId} {fr : Nat × Nat} (h : w.heap[B]? = some (.cells cs t fr)) {vs : List Value} (hl : vs.length = cs.size) : (w.setCells B 0 vs).heap[B]? = some (.cells vs.toArray t fr) := by
 have := cells_from (B := B) (t := t) (fr := fr) vs 0 w cs.toList (by simpa using h) (by simpa using hl)
 simpa using this
section
variable {P : Program} {l : List Oper} {Q : Exit → Act → World → Prop} {md : Region.Mode} {S : World → Prop}
theorem call_or (i j : Nat) {oi oj : Oper} {r r' : List Oper} {fuel : Nat} {listed : Array Bool} {a : Act} {w : World} (hi : l.drop i = oi :: r) (hj : l.drop j = oj :: r')
  (hr : Region.ready md l.toArray listed = [i, j]) (hwi : Region.wanted oi (yielded l.toArray a.tmps) = true) (hwj : Region.wanted oj (yielded l.toArray a.tmps) = true)
  (f : FuncId) (args : Array Value) (hx : (execOp a.eval oi).run P w = .ok (.enter f args) w) (v : Value) (w' : World) (hy : (execOp a.eval oj).run P w = .ok (.value v) w')
  (h : Calls P f args w (fun
   | .returned v, w' => S w' ∧ wpAnyH P md l.toArray Q S fuel (listed.setIfInBounds i true) (a.put oi.dst v) w'
   | .panicked c, w' => Q (.panic c) a w'
   | .outgrown, _ => False))
  (hS : S w') (h2 : wpAnyH P md l.toArray Q S fuel (listed.setIfInBounds j true) (a.put oj.dst v) w') : wpAnyH P md l.toArray Q S (fuel + 1) listed a w := by
 refine wpAnyH_all hr (by simp) fun k hk => ?_
 rcases (show k = i ∨ k = j by simpa using hk) with rfl | rfl
 ·unfold wpOp
  rw [drop_get hi]
  dsimp only
  rw [if_pos hwi]
  refine .inl ?_
  unfold Oper.wp
  rw [hx, Oper.upon_enter]
  refine Calls.mono h fun e w' he => ?_
  cases e with
  | returned v => exact he
  | panicked c => exact he
  | outgrown => exact (he : False).elim
 ·unfold wpOp
  rw [drop_get hj]
  dsimp only
  rw [if_pos hwj]
  refine .inl ?_
  unfold Oper.wp
  rw [hy, Oper.upon_value]
  exact ⟨hS, h2⟩
end
def NextBox (w1 : World) (un : Nat) (v : Value) (wc : World) : Prop := ∃ B, v = .pointer (some ⟨B, 0, none⟩) ∧ wc.cell? ⟨B, 3, none⟩ = some (.int .u32 (un : Int)) ∧ Below w1.heap.size w1 wc
theorem nextBox {w1 w : World} {B : Nat} {sa : Option Addr} {sn sc : Nat} {s1 s2 s4 s5 s6 s7 s8 : Int} {un : Nat} (ht : w.there B 0 9) (hb : Below w1.heap.size w1 w) (hB : w1.heap.size ≤ B) :
  NextBox w1 un (.pointer (some ⟨B, 0, none⟩)) (w.setCells B 0 [.slice sa sn sc, .int .u32 s1, .int .u32 s2, .int .u32 (un : Int), .int .i64 s4, .int .u32 s5, .int .u64 s6, .int .u64 s7, .int .u64 s8]) := by
 have K : Kept (· = B) w (w.setCells B 0 [.slice sa sn sc, .int .u32 s1, .int .u32 s2, .int .u32 (un : Int), .int .i64 s4, .int .u32 s5, .int .u64 s6, .int .u64 s7, .int .u64 s8]) := Kept.setCells (S := (· = B)) (p := B) rfl _ 0 (Kept.refl _ w)
 exact ⟨B, rfl, (World.rangeAt_setCells_same w B 0 [.slice sa sn sc, .int .u32 s1, .int .u32 s2, .int .u32 (un : Int), .int .i64 s4, .int .u32 s5, .int .u64 s6, .int .u64 s7, .int .u64 s8] ht) 3 _ rfl, hb.trans (K.below hb.size (fun k e => by have e : k = B := e; omega))⟩
def Nice (M : List (Bytes × Nd)) : Prop := ∀ x ∈ M, 0 ≤ x.2.num.next ∧ x.2.num.next < 4294967296
theorem nDigits_le : ∀ (k u : Nat), u < 10 ^ (k + 1) → Lib.nDigits u ≤ k + 1
 | 0, u, h => by rw [Lib.nDigits_small (by simpa using h)]; exact Nat.le_refl _
 | k + 1, u, h => by
  by_cases h10 : u < 10
  ·rw [Lib.nDigits_small h10]; omega
  ·rw [Lib.nDigits_big h10]
   have := nDigits_le k (u / 10) (by rw [Nat.pow_succ] at h; omega)
   omega
theorem digits_ten {u : Nat} (h : u < 4294967296) : (Lib.decDigits u).length ≤ 10 := by
 rw [Lib.decDigits_length]
 exact nDigits_le 9 u (by omega)
theorem next_nat {M : List (Bytes × Nd)} (h : Nice M) (p : Bytes) : ∃ un : Nat, (un : Int) = ((getA p M).getD zNd).num.next ∧ un < 4294967296 := by
 cases hg : getA p M with
 | none => exact ⟨0, rfl, by decide⟩
 | some nd =>
  obtain ⟨x, hx, rfl⟩ := getA_mem hg
  have := h x hx
  exact ⟨x.2.num.next.toNat, by show ((x.2.num.next.toNat : Nat) : Int) = x.2.num.next; omega, by omega⟩
theorem parent_short {p : Bytes} (h : p.length ≤ 1000) : (parentL p).length ≤ maxLen := by
 have := parentL_len p h
 unfold maxLen
 omega
theorem tab_below {w w' : World} (h : PowTab w) (hb : Below w.heap.size w w') : PowTab w' := by
 unfold PowTab Lib.TabIs World.var? at *
 cases hg : Tryz.prog.globalNamed "internal/strconv.uint64pow10" with
 | none => simp [hg] at h
 | some g =>
  rw [hg] at h
  rw [Option.bind_some] at h ⊢
  have hlt : g < w.heap.size := by
   rcases Nat.lt_or_ge g w.heap.size with h1 | h1
   ·exact h1
   ·rw [Array.getElem?_eq_none h1] at h
    cases h
  rw [hb.block g hlt]
  exact h
theorem add_bsC (x y : ByteArray) (z : Bytes) (hz : x ++ y = bs z) (hl : z.length ≤ 2000) (W : World) : (Op.stringOp .add x y).run Tryz.prog W = .ok (.string (bs z)) W := by
 have h : (x ++ y).size = x.size + y.size := ByteArray.size_append
 rw [hz, size_bs] at h
 rw [run_string_add_sum W x y (by omega), hz]
theorem sess_eq (s n : Int) (w : World) : (binOp .eql 29 (.agg #[.int .i64 s, .int .u32 n]) (.agg #[.int .i64 0, .int .u32 0])).run Tryz.prog w = .ok (.bool (noSess s n)) w := by
 unfold noSess
 by_cases h1 : s = 0 <;> by_cases h2 : n = 0 <;> simp [go_sem, h1, h2]
theorem sess_ne (s n : Int) (w : World) : (binOp .neq 29 (.agg #[.int .i64 s, .int .u32 n]) (.agg #[.int .i64 0, .int .u32 0])).run Tryz.prog w = .ok (.bool (!noSess s n)) w := by
 unfold noSess
 by_cases h1 : s = 0 <;> by_cases h2 : n = 0 <;> simp [go_sem, h1, h2]
section
variable {X : Nat → Prop} {w0 w : World} {d b : Nat} {root : Bytes} {at_ cnt : Int} {M : List (Bytes × Nd)} {who : Sess} {v : Value} {L : List RawE} {E : List Eff}
theorem DoerAt.touched_any (D : DoerAt X w0 w d b root at_ cnt M who v L E) (hm : MaxInt w) (p : Bytes) (hp : p.length ≤ 1000) :
  Calls Tryz.prog 112 #[.pointer (some ⟨d, 0, none⟩), .string (bs p)] w fun e w' => (∃ (u : Nd) (r : Raw), getA (parentL p) M = some u ∧ e = .returned (RawE.val ⟨parentL p, false, r⟩) ∧ Reads w' (From w.heap.size) r (upN u at_) ∧ Below w.heap.size w w') ∨ (getA (parentL p) M = none ∧ e = panicV 31 ∧ Below w.heap.size w w') := by
 cases h : getA (parentL p) M with
 | none => exact (D.touched_none hm p hp h).mono fun e w' h => .inr ⟨rfl, h.1, h.2⟩
 | some u =>
  refine (D.touched_some hm p hp h).mono fun e w' hh => ?_
  obtain ⟨r, g1, g2, g3, _⟩ := hh
  exact .inl ⟨u, r, rfl, g1, g2, g3⟩
end
end Go.Proofs.YtnclkfhdpkkakaaGreatDoor
namespace Go.Proofs.YtnclkfhdpkkakaaGreatDoor
set_option linter.unusedVariables false
set_option linter.unusedSimpArgs false
open Go Go.RowKit Go.Shelf Go.MapKept Go.ChangeMaps Go.Maps Go.Sort
theorem results_tmp_cell_mid {P : Program} {fn : Func} {p u : Tmp} {ty : TypeId} (h : fn.results = #[.tmp u, .cell p ty]) (tmps : Array Value) (w : World) (b o : Nat) (cs : List Value) (d : TypeDesc)
  (hp : tmps.getD p undef = .pointer (some ⟨b, o, none⟩)) (hc : w.rangeAt b o cs) (hu : P.underlying ty = some d) (hd : d.isRow = true) (hi : (P.info? ty).map (·.size) = some cs.length) :
  (results fn tmps).run P w = .ok (.tuple #[tmps.getD u undef, .agg cs.toArray]) w := by
 have hp' : tmps[p]?.getD undef = .pointer (some ⟨b, o, none⟩) := by simpa using hp
 simp [results, h, hp', asAddr, run_loadVar_mid w b o ty cs d hc hu hd hi]
def Leafy (o : Opl) : Prop := 1 ≤ o.kind ∧ o.kind ≤ 6 ∧ o.path.length ≤ 900 ∧ o.data.length ≤ 1000000
def PartsAt (w : World) (pa : Option Addr) (Q : List Opl) : Prop := ∀ (k : Nat) p, Q[k]? = some p → ∃ g off, ∃ r : RawO, pa = some ⟨g, off, none⟩ ∧ g < w.heap.size ∧ w.rangeAt g (off + k * 7) r.cells ∧ LeafO w (fun k => k < w.heap.size) r p ∧ Leafy p
def whoV (who : Sess) : Value := .agg #[.int .i64 who.site, .int .u32 who.n]
def DoEnd (w : World) (root : Bytes) (M : List (Bytes × Nd)) (at_ : Int) (who : Sess) (ce : Int) (o : OpV) (e : Ending) (w' : World) : Prop :=
 ∃ u1 u2, e = .returned (.tuple #[u1, u2]) ∧ EffsOut w' u1 (doX root M at_ who ce o) ∧ ReplyAt w' (From w.heap.size) u2 (doE root M at_ who ce o) (doA root M at_ who ce o) (doR root M at_ who ce o) ∧ Below w.heap.size w w'
theorem do_boxes (w : World) (ok : Int) (op : Bytes) (oa : Option Addr) (on oc : Nat) (ov : Int) (os oe : Bool) (qa : Option Addr) (qn qc : Nat) (s n : Int) :
  ∃ w1, w1 = ((w.alloc (.cells #[.int .u8 ok, .string (bs op), .slice oa on oc, .int .i64 ov, .bool os, .bool oe, .slice qa qn qc] 26)).alloc (.cells #[.int .i64 s, .int .u32 n] 29)).alloc (.cells #[.int .i64 0, .string ⟨#[]⟩, .slice none 0 0, .int .u32 0, .int .u32 0, .int .u32 0, .int .i64 0, .int .u32 0, .int .u64 0, .int .u64 0, .int .u64 0, .slice none 0 0, .slice none 0 0] 43) ∧ Below w.heap.size w w1 ∧ w1.heap.size = w.heap.size + 3
   ∧ w1.heap[w.heap.size]? = some (.cells #[.int .u8 ok, .string (bs op), .slice oa on oc, .int .i64 ov, .bool os, .bool oe, .slice qa qn qc] 26 (0, 0)) ∧ w1.heap[w.heap.size + 1]? = some (.cells #[.int .i64 s, .int .u32 n] 29 (0, 0)) ∧ w1.heap[w.heap.size + 2]? = some (.cells #[.int .i64 0, .string ⟨#[]⟩, .slice none 0 0, .int .u32 0, .int .u32 0, .int .u32 0, .int .i64 0, .int .u32 0, .int .u64 0, .int .u64 0, .int .u64 0, .slice none 0 0, .slice none 0 0] 43 (0, 0)) := by
 refine ⟨_, rfl, belowA (belowA (belowA (Below.refl _ w) _) _) _, by simp, ?_, ?_, ?_⟩
 ·exact (heap_alloc_old _ _ (by simp; omega)).trans ((heap_alloc_old _ _ (by simp)).trans (heap_alloc_new w _))
 ·have := heap_alloc_new (w.alloc (.cells #[.int .u8 ok, .string (bs op), .slice oa on oc, .int .i64 ov, .bool os, .bool oe, .slice qa qn qc] 26)) (.cells #[.int .i64 s, .int .u32 n] 29)
  rw [World.size_alloc] at this
  exact (heap_alloc_old _ _ (by simp)).trans this
 ·have := heap_alloc_new ((w.alloc (.cells #[.int .u8 ok, .string (bs op), .slice oa on oc, .int .i64 ov, .bool os, .bool oe, .slice qa qn qc] 26)).alloc (.cells #[.int .i64 s, .int .u32 n] 29)) (.cells #[.int .i64 0, .string ⟨#[]⟩, .slice none 0 0, .int .u32 0, .int .u32 0, .int .u32 0, .int .i64 0, .int .u32 0, .int .u64 0, .int .u64 0, .int .u64 0, .slice none 0 0, .slice none 0 0] 43)
  simpa using this
end Go.Proofs.YtnclkfhdpkkakaaGreatDoor
namespace Go.Proofs.YtnclkfhdpkkakaaGreatDoor
set_option linter.unusedVariables false
set_option linter.unusedSimpArgs false
set_option linter.unusedVariables false
set_option linter.unusedSimpArgs false
open Go Go.RowKit Go.Shelf Go.MapKept Go.ChangeMaps Go.Maps Go.Sort
set_option maxRecDepth 100000 in
set_option maxHeartbeats 8000000 in
theorem refNode_same {w : World} {lo lo' : Nat → Prop} {r r' : Raw} {d : Nd} (h : Reads w lo r d) (h' : Reads w lo' r' d) :
  Calls Tryz.prog 20 #[r.val, r'.val] w fun e w' => e = .returned (.bool true) ∧ Below w.heap.size w w' := by
 obtain ⟨a, n, c, u⟩ := r
 obtain ⟨a', n', c', u'⟩ := r'
 have e1 : u = d.num := h.num
 have e2 : u' = d.num := h'.num
 subst e1 e2
 generalize hu : d.num = u at *
 obtain ⟨v1, v2, v3, v4, v5, v6, v7, v8⟩ := u
 unfold Raw.val Raw.cells Nums.cells
 dsimp only
 obtain ⟨w2, hw2⟩ : ∃ w2, w2 = (w.alloc (.cells #[.slice a n c, .int .u32 v1, .int .u32 v2, .int .u32 v3, .int .i64 v4, .int .u32 v5, .int .u64 v6, .int .u64 v7, .int .u64 v8] 39)).alloc (.cells #[.slice a' n' c', .int .u32 v1, .int .u32 v2, .int .u32 v3, .int .i64 v4, .int .u32 v5, .int .u64 v6, .int .u64 v7, .int .u64 v8] 39) := ⟨_, rfl⟩
 have hb : Below w.heap.size w w2 := by rw [hw2]; exact belowA (belowA (Below.refl _ w) _) _
 have q1 := conv_len h.len (h.data.below hb) h.nil
 have q2 := conv_len h'.len (h'.data.below hb) h'.nil
 have t0 : ((bs d.data).toList == (bs d.data).toList) = true := by simp
 have HB := Lib.hid hb
 rw [hw2] at q1 q2
 have HW := Lib.hid hw2
 clear h h' hb hw2 hu
 go_enter Tryz.func20, Tryz.ntmps20
 go_wp2
 go_ret
 rw [← HW.out]
 exact ⟨rfl, HB.out⟩
theorem refTexts_same {w : World} {a b : Option Addr} {c d : Nat} {K : List Bytes} (hl : K.length ≤ 1000) (S1 : StrSl w w.heap.size a K) (S2 : StrSl w w.heap.size b K) :
  Calls Tryz.prog 24 #[.slice a K.length c, .slice b K.length d] w fun e w' => e = .returned (.bool true) ∧ Below w.heap.size w w' :=
 (texts_any a b c d _ _ K K w hl hl S1 S2).mono fun e w' ⟨h1, q, h2⟩ => by
  subst h2
  exact ⟨by rw [h1]; simp, belowN (Below.refl _ w) q⟩
theorem StrLo.below {w w' : World} {lo : Nat → Prop} {a : Option Addr} {L : List Bytes} (h : StrLo w lo a L) (hb : Below w.heap.size w w') : StrLo w' lo a L := h.keptS (Kept.ofBelow (S := fun _ => False) hb) (fun _ _ _ h => h)
theorem RepsAt.below {w w' : World} {lo : Nat → Prop} {a : Option Addr} {L : List Rep} (h : RepsAt w lo a L) (hb : Below w.heap.size w w') : RepsAt w' lo a L := h.keptS (Kept.ofBelow (S := fun _ => False) hb) (fun _ _ _ h => h)
theorem mid_range {w : World} {B o : Nat} {cs ds : List Value} (i : Nat) (h : w.rangeAt B o cs) (hd : ∀ j u, ds[j]? = some u → cs[i + j]? = some u) : w.rangeAt B (o + i) ds := fun j u hu => by
 have := h (i + j) u (hd j u hu)
 rw [← Nat.add_assoc] at this
 exact this
set_option maxRecDepth 100000 in
set_option maxHeartbeats 16000000 in
theorem reply_same {w : World} {lo lo' : Nat → Prop} {u u' : Value} {x : Int} {A : Ans} {X : List Rep} (h : ReplyAt w lo u x A X) (h' : ReplyAt w lo' u' x A X) (hK : A.kids.length ≤ 1000) (hX : X.length ≤ 1000) (hXK : ∀ y ∈ X, y.a.kids.length ≤ 1000) :
  Calls Tryz.prog 15 #[u, u'] w fun e w' => e = .returned (.bool true) ∧ Below w.heap.size w w' := by
 obtain ⟨⟨ra, rn, rc, ⟨r1_, r2_, r3_, r4_, r5_, r6_, r7_, r8_⟩⟩, ka, kc, qa, qc, rfl, r1, r2, r3⟩ := h
 obtain ⟨⟨sa, sn, sc, ⟨s1_, s2_, s3_, s4_, s5_, s6_, s7_, s8_⟩⟩, la, lc, ma, mc, rfl, s1, s2, s3⟩ := h'
 have e1 : (⟨r1_, r2_, r3_, r4_, r5_, r6_, r7_, r8_⟩ : Nums) = ⟨s1_, s2_, s3_, s4_, s5_, s6_, s7_, s8_⟩ := (show _ = A.node.num from r1.num).trans (show A.node.num = _ from s1.num.symm)
 obtain ⟨rfl, rfl, rfl, rfl, rfl, rfl, rfl, rfl⟩ := Nums.mk.inj e1
 obtain ⟨p, hp⟩ : ∃ p, p = A.path := ⟨_, rfl⟩
 obtain ⟨K, hKn⟩ : ∃ K, K = A.kids.length := ⟨_, rfl⟩
 obtain ⟨N, hN⟩ : ∃ N, N = X.length := ⟨_, rfl⟩
 unfold repCells Raw.cells Nums.cells
 dsimp only [List.cons_append, List.nil_append]
 rw [← hp, ← hKn, ← hN]
 rw [← hKn] at hK
 rw [← hN] at hX
 obtain ⟨w1, hw1⟩ : ∃ w1, w1 = w.alloc (.cells #[.int .i64 x, .string (bs p), .slice ra rn rc, .int .u32 r1_, .int .u32 r2_, .int .u32 r3_, .int .i64 r4_, .int .u32 r5_, .int .u64 r6_, .int .u64 r7_, .int .u64 r8_, .slice ka K kc, .slice qa N qc] 43) := ⟨_, rfl⟩
 obtain ⟨w2, hw2⟩ : ∃ w2, w2 = w1.alloc (.cells #[.int .i64 x, .string (bs p), .slice sa sn sc, .int .u32 r1_, .int .u32 r2_, .int .u32 r3_, .int .i64 r4_, .int .u32 r5_, .int .u64 r6_, .int .u64 r7_, .int .u64 r8_, .slice la K lc, .slice ma N mc] 43) := ⟨_, rfl⟩
 have hb1 : Below w.heap.size w w1 := by rw [hw1]; exact belowA (Below.refl _ w) _
 have hs1 : w1.heap.size = w.heap.size + 1 := by rw [hw1]; simp
 have hb12 : Below w1.heap.size w1 w2 := by rw [hw2]; exact belowA (Below.refl _ w1) _
 have hs2 : w2.heap.size = w.heap.size + 2 := by rw [hw2]; simp; omega
 have hb2 : Below w.heap.size w w2 := hb1.trans (hb12.mono hb1.size)
 have k1 : w2.heap[w.heap.size]? = some (.cells #[.int .i64 x, .string (bs p), .slice ra rn rc, .int .u32 r1_, .int .u32 r2_, .int .u32 r3_, .int .i64 r4_, .int .u32 r5_, .int .u64 r6_, .int .u64 r7_, .int .u64 r8_, .slice ka K kc, .slice qa N qc] 43 (0, 0)) := (hb12.block _ (by omega)).trans (by rw [hw1]; exact heap_alloc_new w _)
 have k2 : w2.heap[w1.heap.size]? = some (.cells #[.int .i64 x, .string (bs p), .slice sa sn sc, .int .u32 r1_, .int .u32 r2_, .int .u32 r3_, .int .i64 r4_, .int .u32 r5_, .int .u64 r6_, .int .u64 r7_, .int .u64 r8_, .slice la K lc, .slice ma N mc] 43 (0, 0)) := by rw [hw2]; exact heap_alloc_new w1 _
 rw [hs1] at k2
 have hww : w2 = (w.alloc (.cells #[.int .i64 x, .string (bs p), .slice ra rn rc, .int .u32 r1_, .int .u32 r2_, .int .u32 r3_, .int .i64 r4_, .int .u32 r5_, .int .u64 r6_, .int .u64 r7_, .int .u64 r8_, .slice ka K kc, .slice qa N qc] 43)).alloc (.cells #[.int .i64 x, .string (bs p), .slice sa sn sc, .int .u32 r1_, .int .u32 r2_, .int .u32 r3_, .int .i64 r4_, .int .u32 r5_, .int .u64 r6_, .int .u64 r7_, .int .u64 r8_, .slice la K lc, .slice ma N mc] 43) := by rw [hw2, hw1]
 have n1 : w2.rangeAt w.heap.size 2 [.slice ra rn rc, .int .u32 r1_, .int .u32 r2_, .int .u32 r3_, .int .i64 r4_, .int .u32 r5_, .int .u64 r6_, .int .u64 r7_, .int .u64 r8_] := mid_range 2 (o := 0) (range_blk k1) (fun j v hv => by
  have hj := (List.getElem?_eq_some_iff.1 hv).1
  rw [← hv]
  rw [show 2 + j = j + 2 by omega]
  rw [List.getElem?_cons_succ, List.getElem?_cons_succ]
  exact (List.getElem?_append_left (l₂ := [.slice ka K kc, .slice qa N qc]) hj))
 have n2 : w2.rangeAt (w.heap.size + 1) 2 [.slice sa sn sc, .int .u32 r1_, .int .u32 r2_, .int .u32 r3_, .int .i64 r4_, .int .u32 r5_, .int .u64 r6_, .int .u64 r7_, .int .u64 r8_] := mid_range 2 (o := 0) (range_blk k2) (fun j v hv => by
  have hj := (List.getElem?_eq_some_iff.1 hv).1
  rw [← hv]
  rw [show 2 + j = j + 2 by omega]
  rw [List.getElem?_cons_succ, List.getElem?_cons_succ]
  exact (List.getElem?_append_left (l₂ := [.slice la K lc, .slice ma N mc]) hj))
 have hnd := refNode_same (r1.below hb2) (s1.below hb2)
 unfold Raw.val Raw.cells Nums.cells at hnd
 dsimp only at hnd
 have HND := Lib.hid hnd
 have HTX : Hid (∀ w', Below w2.heap.size w2 w' → Calls Tryz.prog 24 #[.slice ka K kc, .slice la K lc] w' fun e w'' => e = .returned (.bool true) ∧ Below w'.heap.size w' w'') := Lib.hid fun w' hb => by
  have hbb := hb2.trans (hb.mono hb2.size)
  rw [hKn]
  exact refTexts_same (by rw [← hKn]; exact hK) ((r2.below hbb).sl) ((s2.below hbb).sl)
 have HP := Lib.hid (And.intro r3 (And.intro s3 (And.intro hN hXK)))
 have HSZ : Hid ((Tryz.prog.info? 39).map (·.size) = some 9) := Lib.hid (by kernel_rfl)
 have HSR : Hid ((Tryz.prog.info? 43).map (·.size) = some 13) := Lib.hid infoReply13
 have HN := Lib.hid (And.intro n1 n2)
 have HK := Lib.hid (And.intro k1 (And.intro k2 (And.intro hb2 hs2)))
 have HWW := Lib.hid hww
 have c1 : ∀ w', Below w2.heap.size w2 w' → ∀ i v, (#[.int .i64 x, .string (bs p), .slice ra rn rc, .int .u32 r1_, .int .u32 r2_, .int .u32 r3_, .int .i64 r4_, .int .u32 r5_, .int .u64 r6_, .int .u64 r7_, .int .u64 r8_, .slice ka K kc, .slice qa N qc] : Array Value)[i]? = some v → w'.cell? ⟨w.heap.size, i, none⟩ = some v := fun w' hb i v hv => (cell_of_row _ _ i _ 43 (0, 0) ((hb.block _ (by omega)).trans HK.out.1)).trans hv
 have c2 : ∀ w', Below w2.heap.size w2 w' → ∀ i v, (#[.int .i64 x, .string (bs p), .slice sa sn sc, .int .u32 r1_, .int .u32 r2_, .int .u32 r3_, .int .i64 r4_, .int .u32 r5_, .int .u64 r6_, .int .u64 r7_, .int .u64 r8_, .slice la K lc, .slice ma N mc] : Array Value)[i]? = some v → w'.cell? ⟨w.heap.size + 1, i, none⟩ = some v := fun w' hb i v hv => (cell_of_row _ _ i _ 43 (0, 0) ((hb.block _ (by omega)).trans HK.out.2.1)).trans hv
 have HC := Lib.hid (And.intro c1 c2)
 have tp : ((bs p).toList != (bs p).toList) = false := by simp
 have tp2 : ((bs p).toList == (bs p).toList) = true := by simp
 have a0 : w2.cell? ⟨w.heap.size, 0, none⟩ = some (.int .i64 x) := c1 _ (Below.refl _ _) 0 _ rfl
 have a1 : w2.cell? ⟨w.heap.size, 1, none⟩ = some (.string (bs p)) := c1 _ (Below.refl _ _) 1 _ rfl
 have b0 : w2.cell? ⟨w.heap.size + 1, 0, none⟩ = some (.int .i64 x) := c2 _ (Below.refl _ _) 0 _ rfl
 have b1 : w2.cell? ⟨w.heap.size + 1, 1, none⟩ = some (.string (bs p)) := c2 _ (Below.refl _ _) 1 _ rfl
 have aa2 := c1 _ (Below.refl _ _) 2 _ rfl
 have bb2 := c2 _ (Below.refl _ _) 2 _ rfl
 have aa3 := c1 _ (Below.refl _ _) 3 _ rfl
 have bb3 := c2 _ (Below.refl _ _) 3 _ rfl
 have aa4 := c1 _ (Below.refl _ _) 4 _ rfl
 have bb4 := c2 _ (Below.refl _ _) 4 _ rfl
 have aa5 := c1 _ (Below.refl _ _) 5 _ rfl
 have bb5 := c2 _ (Below.refl _ _) 5 _ rfl
 have aa6 := c1 _ (Below.refl _ _) 6 _ rfl
 have bb6 := c2 _ (Below.refl _ _) 6 _ rfl
 have aa7 := c1 _ (Below.refl _ _) 7 _ rfl
 have bb7 := c2 _ (Below.refl _ _) 7 _ rfl
 have aa8 := c1 _ (Below.refl _ _) 8 _ rfl
 have bb8 := c2 _ (Below.refl _ _) 8 _ rfl
 have aa9 := c1 _ (Below.refl _ _) 9 _ rfl
 have bb9 := c2 _ (Below.refl _ _) 9 _ rfl
 have aa10 := c1 _ (Below.refl _ _) 10 _ rfl
 have bb10 := c2 _ (Below.refl _ _) 10 _ rfl
 clear e1 r1 r2 r3 s1 s2 s3 hp hKn hN hw1 hw2 hb1 hs1 hb12 hb2 k1 k2 hww n1 n2 hnd c1 c2 hXK hs2
 go_enter Tryz.func15, Tryz.ntmps15
 go_upto_region 1 with fail
 rw [← HWW.out]
 go_wp2_with fail
 refine HND.out.mono ?_
 rintro e w3 ⟨rfl, B3⟩
 have a3 : w3.cell? ⟨w.heap.size, 11, none⟩ = some (.slice ka K kc) := HC.out.1 _ B3 11 _ rfl
 have b3 : w3.cell? ⟨w.heap.size + 1, 11, none⟩ = some (.slice la K lc) := HC.out.2 _ B3 11 _ rfl
 have HB3 := Lib.hid B3
 clear B3
 go_wp2_with fail
 refine (HTX.out _ HB3.out).mono ?_
 rintro e w4 ⟨rfl, B4⟩
 have B24 := HB3.out.trans (B4.mono HB3.out.size)
 have a4 : w4.cell? ⟨w.heap.size, 12, none⟩ = some (.slice qa N qc) := HC.out.1 _ B24 12 _ rfl
 have b4 : w4.cell? ⟨w.heap.size + 1, 12, none⟩ = some (.slice ma N mc) := HC.out.2 _ B24 12 _ rfl
 have HB4 := Lib.hid B24
 clear B24 B4
 go_wp2_with fail
 go_loopw [5] (fun iv wr => ∃ k : Nat, k ≤ N ∧ iv = .int .i64 k ∧ Hid (Below w2.heap.size w2 wr)) (fun iv _ => N - (intOf iv).toNat)
 case atStart => exact ⟨0, by omega, rfl, HB4⟩
 case round =>
  obtain ⟨k, hk, rfl, HS⟩ := hrel
  have a5 : wr.cell? ⟨w.heap.size, 12, none⟩ = some (.slice qa N qc) := HC.out.1 _ HS.out 12 _ rfl
  have b5 : wr.cell? ⟨w.heap.size + 1, 12, none⟩ = some (.slice ma N mc) := HC.out.2 _ HS.out 12 _ rfl
  by_cases hlt : k < N
  ·have tlt : decide ((k : Int) < (N : Int)) = true := by simp; omega
   obtain ⟨y, hy⟩ : ∃ y, X[k]? = some y := ⟨_, List.getElem?_eq_getElem (by rw [← HP.out.2.2.1]; exact hlt)⟩
   have hbw := HK.out.2.2.1.trans (HS.out.mono HK.out.2.2.1.size)
   obtain ⟨g1, o1, ⟨ye, yp, ⟨ea, en, ec, ⟨e1_, e2_, e3_, e4_, e5_, e6_, e7_, e8_⟩⟩, ga, yk, gc⟩, hq1, _, gl1, gr1, gd1⟩ := (HP.out.1.below hbw) k y hy
   obtain ⟨g2, o2, ⟨ye', yp', ⟨fa, fn, fc, ⟨f1_, f2_, f3_, f4_, f5_, f6_, f7_, f8_⟩⟩, ha, yk', hc⟩, hq2, _, gl2, gr2, gd2⟩ := (HP.out.2.1.below hbw) k y hy
   subst hq1 hq2
   have e1 : ye' = ye := gd2.e.trans gd1.e.symm
   have e2 : yp' = yp := gd2.path.trans gd1.path.symm
   have e3 : yk' = yk := gd2.kn.trans gd1.kn.symm
   subst e1 e2 e3
   have e4 : (⟨e1_, e2_, e3_, e4_, e5_, e6_, e7_, e8_⟩ : Nums) = ⟨f1_, f2_, f3_, f4_, f5_, f6_, f7_, f8_⟩ := (show _ = y.a.node.num from gd1.node.num).trans (show y.a.node.num = _ from gd2.node.num.symm)
   obtain ⟨rfl, rfl, rfl, rfl, rfl, rfl, rfl, rfl⟩ := Nums.mk.inj e4
   have hyk : yk' = y.a.kids.length := gd2.kn
   have hy1000 := HP.out.2.2.2 y (List.mem_of_getElem? hy)
   unfold RawR.cells repCells Raw.cells Nums.cells at gr1 gr2
   dsimp only [List.cons_append, List.nil_append] at gr1 gr2
   obtain ⟨v1, hv1⟩ : ∃ v1, v1 = wr.alloc (.cells #[.int .i64 ye', .string (bs yp'), .slice ea en ec, .int .u32 e1_, .int .u32 e2_, .int .u32 e3_, .int .i64 e4_, .int .u32 e5_, .int .u64 e6_, .int .u64 e7_, .int .u64 e8_, .slice ga yk' gc, .slice none 0 0] 43) := ⟨_, rfl⟩
   obtain ⟨v2, hv2⟩ : ∃ v2, v2 = v1.alloc (.cells #[.int .i64 ye', .string (bs yp'), .slice fa fn fc, .int .u32 e1_, .int .u32 e2_, .int .u32 e3_, .int .i64 e4_, .int .u32 e5_, .int .u64 e6_, .int .u64 e7_, .int .u64 e8_, .slice ha yk' hc, .slice none 0 0] 43) := ⟨_, rfl⟩
   have vb1 : Below wr.heap.size wr v1 := by rw [hv1]; exact belowA (Below.refl _ wr) _
   have vs1 : v1.heap.size = wr.heap.size + 1 := by rw [hv1]; simp
   have vb12 : Below v1.heap.size v1 v2 := by rw [hv2]; exact belowA (Below.refl _ v1) _
   have vs2 : v2.heap.size = wr.heap.size + 2 := by rw [hv2]; simp; omega
   have vb2 : Below wr.heap.size wr v2 := vb1.trans (vb12.mono vb1.size)
   have m1 : v2.heap[wr.heap.size]? = some (.cells #[.int .i64 ye', .string (bs yp'), .slice ea en ec, .int .u32 e1_, .int .u32 e2_, .int .u32 e3_, .int .i64 e4_, .int .u32 e5_, .int .u64 e6_, .int .u64 e7_, .int .u64 e8_, .slice ga yk' gc, .slice none 0 0] 43 (0, 0)) := (vb12.block _ (by omega)).trans (by rw [hv1]; exact heap_alloc_new wr _)
   have m2 : v2.heap[wr.heap.size + 1]? = some (.cells #[.int .i64 ye', .string (bs yp'), .slice fa fn fc, .int .u32 e1_, .int .u32 e2_, .int .u32 e3_, .int .i64 e4_, .int .u32 e5_, .int .u64 e6_, .int .u64 e7_, .int .u64 e8_, .slice ha yk' hc, .slice none 0 0] 43 (0, 0)) := by rw [hv2, ← vs1]; exact heap_alloc_new v1 _
   have n1 : v2.rangeAt wr.heap.size 2 [.slice ea en ec, .int .u32 e1_, .int .u32 e2_, .int .u32 e3_, .int .i64 e4_, .int .u32 e5_, .int .u64 e6_, .int .u64 e7_, .int .u64 e8_] := mid_range 2 (o := 0) (range_blk m1) (fun j v hv => by
    have hj := (List.getElem?_eq_some_iff.1 hv).1
    rw [← hv]
    rw [show 2 + j = j + 2 by omega]
    rw [List.getElem?_cons_succ, List.getElem?_cons_succ]
    exact (List.getElem?_append_left (l₂ := [.slice ga yk' gc, .slice none 0 0]) hj))
   have n2 : v2.rangeAt (wr.heap.size + 1) 2 [.slice fa fn fc, .int .u32 e1_, .int .u32 e2_, .int .u32 e3_, .int .i64 e4_, .int .u32 e5_, .int .u64 e6_, .int .u64 e7_, .int .u64 e8_] := mid_range 2 (o := 0) (range_blk m2) (fun j v hv => by
    have hj := (List.getElem?_eq_some_iff.1 hv).1
    rw [← hv]
    rw [show 2 + j = j + 2 by omega]
    rw [List.getElem?_cons_succ, List.getElem?_cons_succ]
    exact (List.getElem?_append_left (l₂ := [.slice ha yk' hc, .slice none 0 0]) hj))
   have gr2' := range_kept gr2 vb1 gl2
   have hnd := refNode_same (gd1.node.below vb2) (gd2.node.below vb2)
   unfold Raw.val Raw.cells Nums.cells at hnd
   dsimp only at hnd
   have HND2 := Lib.hid hnd
   have HTX2 : Hid (∀ w', Below v2.heap.size v2 w' → Calls Tryz.prog 24 #[.slice ga yk' gc, .slice ha yk' hc] w' fun e w'' => e = .returned (.bool true) ∧ Below w'.heap.size w' w'') := Lib.hid fun w' hb => by
    have hbb := vb2.trans (hb.mono vb2.size)
    rw [hyk]
    exact refTexts_same hy1000 ((gd1.kids.below hbb).sl) ((gd2.kids.below hbb).sl)
   have d1 : ∀ w', Below v2.heap.size v2 w' → ∀ i v, (#[.int .i64 ye', .string (bs yp'), .slice ea en ec, .int .u32 e1_, .int .u32 e2_, .int .u32 e3_, .int .i64 e4_, .int .u32 e5_, .int .u64 e6_, .int .u64 e7_, .int .u64 e8_, .slice ga yk' gc, .slice none 0 0] : Array Value)[i]? = some v → w'.cell? ⟨wr.heap.size, i, none⟩ = some v := fun w' hb i v hv => (cell_of_row _ _ i _ 43 (0, 0) ((hb.block _ (by omega)).trans m1)).trans hv
   have d2 : ∀ w', Below v2.heap.size v2 w' → ∀ i v, (#[.int .i64 ye', .string (bs yp'), .slice fa fn fc, .int .u32 e1_, .int .u32 e2_, .int .u32 e3_, .int .i64 e4_, .int .u32 e5_, .int .u64 e6_, .int .u64 e7_, .int .u64 e8_, .slice ha yk' hc, .slice none 0 0] : Array Value)[i]? = some v → w'.cell? ⟨wr.heap.size + 1, i, none⟩ = some v := fun w' hb i v hv => (cell_of_row _ _ i _ 43 (0, 0) ((hb.block _ (by omega)).trans m2)).trans hv
   have HD := Lib.hid (And.intro d1 d2)
   have HN2 := Lib.hid (And.intro n1 n2)
   have HG := Lib.hid (And.intro gr1 gr2')
   have HV1 := Lib.hid hv1
   have HV2 := Lib.hid hv2
   have HB2 := Lib.hid (HS.out.trans (vb2.mono HS.out.size))
   have tq : ((bs yp').toList != (bs yp').toList) = false := by simp
   have tq2 : ((bs yp').toList == (bs yp').toList) = true := by simp
   have b6 : v1.cell? ⟨w.heap.size + 1, 12, none⟩ = some (.slice (some ⟨g2, o2, none⟩) N mc) := HC.out.2 _ (HS.out.trans (vb1.mono HS.out.size)) 12 _ rfl
   have f0 : v2.cell? ⟨wr.heap.size, 0, none⟩ = some (.int .i64 ye') := d1 _ (Below.refl _ _) 0 _ rfl
   have f1 : v2.cell? ⟨wr.heap.size, 1, none⟩ = some (.string (bs yp')) := d1 _ (Below.refl _ _) 1 _ rfl
   have g0 : v2.cell? ⟨wr.heap.size + 1, 0, none⟩ = some (.int .i64 ye') := d2 _ (Below.refl _ _) 0 _ rfl
   have g1' : v2.cell? ⟨wr.heap.size + 1, 1, none⟩ = some (.string (bs yp')) := d2 _ (Below.refl _ _) 1 _ rfl
   have ff2 := d1 _ (Below.refl _ _) 2 _ rfl
   have gg2 := d2 _ (Below.refl _ _) 2 _ rfl
   have ff3 := d1 _ (Below.refl _ _) 3 _ rfl
   have gg3 := d2 _ (Below.refl _ _) 3 _ rfl
   have ff4 := d1 _ (Below.refl _ _) 4 _ rfl
   have gg4 := d2 _ (Below.refl _ _) 4 _ rfl
   have ff5 := d1 _ (Below.refl _ _) 5 _ rfl
   have gg5 := d2 _ (Below.refl _ _) 5 _ rfl
   have ff6 := d1 _ (Below.refl _ _) 6 _ rfl
   have gg6 := d2 _ (Below.refl _ _) 6 _ rfl
   have ff7 := d1 _ (Below.refl _ _) 7 _ rfl
   have gg7 := d2 _ (Below.refl _ _) 7 _ rfl
   have ff8 := d1 _ (Below.refl _ _) 8 _ rfl
   have gg8 := d2 _ (Below.refl _ _) 8 _ rfl
   have ff9 := d1 _ (Below.refl _ _) 9 _ rfl
   have gg9 := d2 _ (Below.refl _ _) 9 _ rfl
   have ff10 := d1 _ (Below.refl _ _) 10 _ rfl
   have gg10 := d2 _ (Below.refl _ _) 10 _ rfl
   have hsz1 := vs1
   have HLT := Lib.hid hlt
   clear hy hbw gl1 gr1 gd1 gl2 gr2 gd2 e4 hyk hy1000 hv1 hv2 vb1 vb12 vs2 vb2 m1 m2 n1 n2 gr2' hnd d1 d2 vs1 hlt
   go_upto_region 7 with (refine wpList_load_mid rfl 43 (.tmp 55) rfl g1 (o1 + k * 13) rfl [.int .i64 ye', .string (bs yp'), .slice ea en ec, .int .u32 e1_, .int .u32 e2_, .int .u32 e3_, .int .i64 e4_, .int .u32 e5_, .int .u64 e6_, .int .u64 e7_, .int .u64 e8_, .slice ga yk' gc, .slice none 0 0] _ HG.out.1 Tryz.underlying43 rfl HSR.out ?_)
   rw [← HV1.out]
   go_upto_region 8 with (refine wpList_load_mid rfl 43 (.tmp 60) rfl g2 (o2 + k * 13) rfl [.int .i64 ye', .string (bs yp'), .slice fa fn fc, .int .u32 e1_, .int .u32 e2_, .int .u32 e3_, .int .i64 e4_, .int .u32 e5_, .int .u64 e6_, .int .u64 e7_, .int .u64 e8_, .slice ha yk' hc, .slice none 0 0] _ HG.out.2 Tryz.underlying43 rfl HSR.out ?_)
   rw [← HV2.out]
   try rw [hsz1]
   clear hsz1
   go_wp2_with fail
   refine HND2.out.mono ?_
   rintro e v3 ⟨rfl, B5⟩
   have f3 : v3.cell? ⟨wr.heap.size, 11, none⟩ = some (.slice ga yk' gc) := HD.out.1 _ B5 11 _ rfl
   have g3 : v3.cell? ⟨wr.heap.size + 1, 11, none⟩ = some (.slice ha yk' hc) := HD.out.2 _ B5 11 _ rfl
   have HB5 := Lib.hid B5
   clear B5
   go_wp2_with fail
   refine (HTX2.out _ HB5.out).mono ?_
   rintro e v4 ⟨rfl, B6⟩
   have B26 := HB5.out.trans (B6.mono HB5.out.size)
   have f4 : v4.cell? ⟨wr.heap.size, 12, none⟩ = some (.slice none 0 0) := HD.out.1 _ B26 12 _ rfl
   have g4 : v4.cell? ⟨wr.heap.size + 1, 12, none⟩ = some (.slice none 0 0) := HD.out.2 _ B26 12 _ rfl
   have HBE := Lib.hid (HB2.out.trans (B26.mono HB2.out.size))
   have hlt := HLT.out
   clear B26 B6
   go_wp2_with fail
   go_roundw
   case rel => exact ⟨k + 1, by omega, by go_num, HBE⟩
   case measure => simp [intOf]; omega
  ·obtain rfl : N = k := by omega
   have tlt : decide ((N : Int) < (N : Int)) = false := by simp
   go_wp2_with fail
   go_ret
   exact ⟨rfl, HK.out.2.2.1.trans (HS.out.mono HK.out.2.2.1.size)⟩
end Go.Proofs.YtnclkfhdpkkakaaGreatDoor
namespace Go.Proofs.YtnclkfhdpkkakaaGreatDoor
set_option linter.unusedVariables false
set_option linter.unusedSimpArgs false
open Go Go.RowKit Go.Shelf Go.MapKept Go.ChangeMaps Go.Maps Go.Sort
set_option maxRecDepth 100000 in
set_option maxHeartbeats 8000000 in
theorem q5no_any (x : Int) (w : World) : Calls Tryz.prog 51 #[.int .i64 x] w fun e w' => e = .returned (.tuple #[.slice none 0 0, .agg #[.int .i64 x, .string ⟨#[]⟩, .slice none 0 0, .int .u32 0, .int .u32 0, .int .u32 0, .int .i64 0, .int .u32 0, .int .u64 0, .int .u64 0, .int .u64 0, .slice none 0 0, .slice none 0 0]]) ∧ Below w.heap.size w w' := by
 have HSR : Hid ((Tryz.prog.info? 43).map (·.size) = some 13) := Lib.hid infoReply13
 have ht : (w.alloc (.cells #[.int .i64 0, .string ⟨#[]⟩, .slice none 0 0, .int .u32 0, .int .u32 0, .int .u32 0, .int .i64 0, .int .u32 0, .int .u64 0, .int .u64 0, .int .u64 0, .slice none 0 0, .slice none 0 0] 43)).there w.heap.size 0 13 := there_of (heap_alloc_new w _) (by simp)
 have hb : Below w.heap.size w (w.alloc (.cells #[.int .i64 0, .string ⟨#[]⟩, .slice none 0 0, .int .u32 0, .int .u32 0, .int .u32 0, .int .i64 0, .int .u32 0, .int .u64 0, .int .u64 0, .int .u64 0, .slice none 0 0, .slice none 0 0] 43)) := belowA (Below.refl _ w) _
 have H1 := Lib.hid (And.intro hb ht)
 clear hb ht
 have HON : Hid ((#[.int .i64 x, .string ⟨#[]⟩, .slice none 0 0, .int .u32 0, .int .u32 0, .int .u32 0, .int .i64 0, .int .u32 0, .int .u64 0, .int .u64 0, .int .u64 0, .slice none 0 0, .slice none 0 0] : Array Value).all (·.oneCell') = true) := Lib.hid (by simp [Value.oneCell'])
 go_enter Tryz.func51, Tryz.ntmps51
 go_wp2_with (refine wpList_store_mid rfl 43 (.tmp 3) (.tmp 5) rfl w.heap.size 0 #[.int .i64 x, .string ⟨#[]⟩, .slice none 0 0, .int .u32 0, .int .u32 0, .int .u32 0, .int .i64 0, .int .u32 0, .int .u64 0, .int .u64 0, .int .u64 0, .slice none 0 0, .slice none 0 0] rfl rfl H1.out.2 HSR.out HON.out ?_)
 refine bodyPost_ret (results_tmp_cell_mid rfl _ _ w.heap.size 0 [.int .i64 x, .string ⟨#[]⟩, .slice none 0 0, .int .u32 0, .int .u32 0, .int .u32 0, .int .i64 0, .int .u32 0, .int .u64 0, .int .u64 0, .int .u64 0, .slice none 0 0, .slice none 0 0] _ rfl (World.rangeAt_setCells_same _ _ _ _ H1.out.2) Tryz.underlying43 rfl HSR.out) rfl ?_
 exact ⟨rfl, H1.out.1.trans ((Kept.setCells (S := (· = w.heap.size)) (p := w.heap.size) rfl _ 0 (Kept.refl _ _)).below H1.out.1.size (fun k e => by have e : k = w.heap.size := e; omega))⟩
section
variable {w : World} {Z : Nat → Prop} {rb : Nat} {root : Bytes} {cnt : Int} {ao : Option Addr} {c0 : Nat} {R : List RawA} {M L : List (Bytes × Nd)}
def NodeIs (Z : Nat → Prop) (wb w : World) (M : List (Bytes × Nd)) (p : Bytes) (e : Ending) (w' : World) : Prop := ∃ r : Raw, e = .returned (.tuple #[.agg r.cells.toArray, .bool (getA p M).isSome]) ∧ Reads wb (fun k => ¬ Z k) r ((getA p M).getD zNd) ∧ Below w.heap.size w w'
set_option maxRecDepth 100000 in
set_option maxHeartbeats 8000000 in
theorem RefAt.q5node {wb : World} (Tb : RefAt wb Z rb root cnt ao c0 R L) (hbb : Below wb.heap.size wb w) (H : Rel M L) (hl : R.length ≤ 1000) (p : Bytes) :
  Calls Tryz.prog 78 #[.pointer (some ⟨rb, 0, none⟩), .string (bs p)] w (NodeIs Z wb w M p) := by
 have T := Tb.below hbb
 have HTb := Lib.hid Tb
 have HBB := Lib.hid hbb
 clear Tb hbb
 obtain ⟨w1, hw1⟩ : ∃ w1, w1 = w.alloc (.cells #[.slice none 0 0, .int .u32 0, .int .u32 0, .int .u32 0, .int .i64 0, .int .u32 0, .int .u64 0, .int .u64 0, .int .u64 0] 39) := ⟨_, rfl⟩
 have hb1 : Below w.heap.size w w1 := by rw [hw1]; exact belowA (Below.refl _ w) _
 have k1 : w1.heap[w.heap.size]? = some (.cells #[.slice none 0 0, .int .u32 0, .int .u32 0, .int .u32 0, .int .i64 0, .int .u32 0, .int .u64 0, .int .u64 0, .int .u64 0] 39 (0, 0)) := by rw [hw1]; exact heap_alloc_new w _
 have ht : w1.there w.heap.size 0 9 := there_of k1 (by simp)
 have HSZ : Hid ((Tryz.prog.info? 39).map (·.size) = some 9) := Lib.hid (by kernel_rfl)
 have T1 := T.below hb1
 have HT1 := Lib.hid T
 have q2 := T1.c2
 have HF := Lib.hid (T1.find hl p)
 have HW := Lib.hid (And.intro hb1 (And.intro ht hw1))
 have HH := Lib.hid H
 obtain ⟨N, hN⟩ : ∃ N, N = R.length := ⟨_, rfl⟩
 have HN := Lib.hid hN
 rw [← hN] at q2 hl
 clear T T1 hb1 k1 ht hw1 H hN
 go_enter Tryz.func78, Tryz.ntmps78
 go_wp2_with fail
 rw [← HW.out.2.2]
 refine HF.out.mono ?_
 rintro e w2 ⟨hw2, i, rfl, hf⟩
 have hw2 := hw2.symm
 subst hw2
 rcases HH.out.find hf with ⟨rfl, h0⟩ | ⟨k, d, rfl, hk, hg⟩
 ·have HON : Hid ((#[.slice none 0 0, .int .u32 0, .int .u32 0, .int .u32 0, .int .i64 0, .int .u32 0, .int .u64 0, .int .u64 0, .int .u64 0] : Array Value).all (·.oneCell') = true) := Lib.hid (by simp [Value.oneCell'])
  have H0 := Lib.hid h0
  clear h0 hf
  go_wp2_with (refine wpList_store_mid rfl 39 (.tmp 4) (.tmp 12) rfl w.heap.size 0 #[.slice none 0 0, .int .u32 0, .int .u32 0, .int .u32 0, .int .i64 0, .int .u32 0, .int .u64 0, .int .u64 0, .int .u64 0] rfl rfl HW.out.2.1 HSZ.out HON.out ?_)
  refine bodyPost_ret (results_cell_tmp_mid rfl _ _ w.heap.size 0 [.slice none 0 0, .int .u32 0, .int .u32 0, .int .u32 0, .int .i64 0, .int .u32 0, .int .u64 0, .int .u64 0, .int .u64 0] _ rfl (World.rangeAt_setCells_same _ _ _ _ HW.out.2.1) Tryz.underlying39 rfl HSZ.out) rfl ?_
  have hn : getA p M = none := by
   have h := H0.out
   cases hg : getA p M with
   | none => rfl
   | some d => rw [hg] at h; cases h
  refine ⟨zRaw, by rw [hn]; rfl, by rw [hn]; exact zReads _ _, ?_⟩
  exact HW.out.1.trans ((Kept.setCells (S := (· = w.heap.size)) (p := w.heap.size) rfl _ 0 (Kept.refl _ _)).below HW.out.1.size (fun k e => by have e : k = w.heap.size := e; omega))
 ·have hkl : k < R.length := by rw [HT1.out.like.1]; exact (List.getElem?_eq_some_iff.1 hk).1
  obtain ⟨⟨rp, ⟨ra, rn, rc, ⟨r1, r2, r3, r4, r5, r6, r7, r8⟩⟩⟩, x, ab, off, e1, e2, e3, e4, e5, e6, e7, e8⟩ := HTb.out.node hkl
  have hx : x = (p, d) := Option.some.inj (e2.symm.trans hk)
  subst hx
  subst e3
  have hrg : w1.rangeAt ab (off + k * 10 + 1) [.slice ra rn rc, .int .u32 r1, .int .u32 r2, .int .u32 r3, .int .i64 r4, .int .u32 r5, .int .u64 r6, .int .u64 r7, .int .u64 r8] := mid_range 1 (o := off + k * 10) (range_kept e8 (HBB.out.trans (HW.out.1.mono HBB.out.size)) e4) (fun j v hv => by
   rw [← hv, show 1 + j = j + 1 by omega]
   rfl)
  have hkN : k < N := by rw [HN.out]; exact hkl
  have hneg : decide ((k : Int) < 0) = false := by simp
  have HON : Hid ((#[.slice ra rn rc, .int .u32 r1, .int .u32 r2, .int .u32 r3, .int .i64 r4, .int .u32 r5, .int .u64 r6, .int .u64 r7, .int .u64 r8] : Array Value).all (·.oneCell') = true) := Lib.hid (by simp [Value.oneCell'])
  have HRG := Lib.hid hrg
  have HG := Lib.hid hg
  have HRD := Lib.hid e7
  clear hkl e1 e2 e4 e5 e6 e7 e8 hrg hk hg hf
  go_wp2_with (first
   | (refine wpList_load_mid rfl 39 (.tmp 19) rfl ab (off + k * 10 + 1) rfl [.slice ra rn rc, .int .u32 r1, .int .u32 r2, .int .u32 r3, .int .i64 r4, .int .u32 r5, .int .u64 r6, .int .u64 r7, .int .u64 r8] _ HRG.out Tryz.underlying39 rfl HSZ.out ?_)
   | (refine wpList_store_mid rfl 39 (.tmp 4) (.tmp 20) rfl w.heap.size 0 #[.slice ra rn rc, .int .u32 r1, .int .u32 r2, .int .u32 r3, .int .i64 r4, .int .u32 r5, .int .u64 r6, .int .u64 r7, .int .u64 r8] rfl rfl HW.out.2.1 HSZ.out HON.out ?_))
  refine bodyPost_ret (results_cell_tmp_mid rfl _ _ w.heap.size 0 [.slice ra rn rc, .int .u32 r1, .int .u32 r2, .int .u32 r3, .int .i64 r4, .int .u32 r5, .int .u64 r6, .int .u64 r7, .int .u64 r8] _ rfl (World.rangeAt_setCells_same _ _ _ _ HW.out.2.1) Tryz.underlying39 rfl HSZ.out) rfl ?_
  have K9 : Kept (· = w.heap.size) w1 (w1.setCells w.heap.size 0 [.slice ra rn rc, .int .u32 r1, .int .u32 r2, .int .u32 r3, .int .i64 r4, .int .u32 r5, .int .u64 r6, .int .u64 r7, .int .u64 r8]) := Kept.setCells (S := (· = w.heap.size)) (p := w.heap.size) rfl _ 0 (Kept.refl _ _)
  refine ⟨⟨ra, rn, rc, ⟨r1, r2, r3, r4, r5, r6, r7, r8⟩⟩, by rw [HG.out]; rfl, ?_, HW.out.1.trans (K9.below HW.out.1.size (fun k e => by have e : k = w.heap.size := e; omega))⟩
  rw [HG.out]
  exact HRD.out
end
set_option maxRecDepth 100000 in
set_option maxHeartbeats 8000000 in
theorem q5parent_any (p : Bytes) (L : List Bytes) (h : partsL p = some L) (hlen : p.length ≤ 1000) (w : World) :
  Calls Tryz.prog 80 #[.string (bs p)] w fun e w' => e = .returned (.string (bs (parentL p))) ∧ Below w.heap.size w w' := by
 have h1 := refParts_some p L h w
 have hp : parentL p = if L = [] then p else ofL L.dropLast := by unfold parentL; rw [h]
 have hll := partsL_len h
 have hsl := slashed_parts h
 by_cases h0 : L = []
 ·rw [if_pos h0] at hp
  rw [hp]
  subst h0
  clear h hp
  go_enter Tryz.func80, Tryz.ntmps80
  go_wp2_with fail
  refine h1.mono ?_
  rintro e w1 ⟨v, rfl, ho, B1⟩
  rcases ownS_form ho with ⟨rfl, _⟩ | ⟨g, cap, rfl, _, _, _, _⟩
  all_goals
   have HB := Lib.hid B1
   clear B1 ho
   go_wp2
   go_ret
   exact ⟨rfl, HB.out⟩
 ·rw [if_neg h0] at hp
  rw [hp]
  have hn0 : 0 < L.length := List.length_pos_iff.2 h0
  have HP := Lib.hid (And.intro hsl h0)
  obtain ⟨n, hn⟩ : ∃ n, n = L.length := ⟨_, rfl⟩
  have HN := Lib.hid hn
  have t0 : ((n : Int) == 0) = false := by simp; omega
  clear h hp hsl
  go_enter Tryz.func80, Tryz.ntmps80
  go_wp2_with fail
  refine h1.mono ?_
  rintro e w1 ⟨v, rfl, ho, B1⟩
  rcases ownS_form ho with ⟨rfl, h2⟩ | ⟨g, cap, rfl, hc, hb, hg, hat⟩
  ·exact absurd h2 h0
  ·have HB := Lib.hid B1
   obtain ⟨m, hm⟩ : ∃ m, n = m + 1 := ⟨n - 1, by omega⟩
   have hdl : L.dropLast.length = m := by rw [List.length_dropLast]; omega
   have hsd : SlS w1 w1.heap.size (some ⟨g, 0, none⟩) L.dropLast := fun j x hx => strs_sl hat hg j x (by
    rw [List.getElem?_dropLast] at hx
    split at hx
    ·exact hx
    ·cases hx)
   have hof : Calls Tryz.prog 109 #[.slice (some ⟨g, 0, none⟩) m cap] w1 fun e w' => e = .returned (.string (bs (ofL L.dropLast))) ∧ w1 = w' := by
    by_cases hd : L.dropLast = []
    ·rw [hd] at hdl ⊢
     rw [← hdl]
     exact refOf_zero _ _ _
    ·rw [← hdl]
     refine refOf_more _ _ _ _ _ hd (by omega) ?_ hsd
     have hx := HP.out.1
     rw [← List.dropLast_concat_getLast HP.out.2] at hx
     simp [slashed] at hx
     simp [slashed]
     omega
   have HOF := Lib.hid hof
   clear B1 ho hat hsd hof hdl
   rw [← hn] at hc ⊢
   have hw : wrap64 ((n : Int) - 1) = (m : Int) := by
    unfold wrap64
    omega
   have hmc : m ≤ cap := by omega
   have hc0 : ¬ cap = 0 := by omega
   clear hn h0 h1 hm
   go_wp2_with fail
   refine HOF.out.mono ?_
   rintro e w2 ⟨rfl, rfl⟩
   go_wp2
   go_ret
   exact ⟨rfl, HB.out⟩
end Go.Proofs.YtnclkfhdpkkakaaGreatDoor
namespace Go.Proofs.YtnclkfhdpkkakaaGreatDoor
set_option linter.unusedVariables false
set_option linter.unusedSimpArgs false
open Go Go.RowKit Go.Shelf Go.MapKept Go.ChangeMaps Go.Maps Go.Sort
section
variable {w0 w : World} {b : Nat} {root : Bytes} {at_ : Int} {M : List (Bytes × Nd)}
set_option maxRecDepth 100000 in
set_option maxHeartbeats 8000000 in
theorem do_bad (r : RawO) (o : OpV) (who : Sess) (ce : Int) (HC : ∀ w', Below w.heap.size w w' → Calls Tryz.prog 22 #[r.val] w' (CheckIs w' ce)) (hce : ce ≠ 0) :
  Calls Tryz.prog 14 #[.pointer (some ⟨b, 0, none⟩), r.val, whoV who] w (DoEnd w root M at_ who ce o) := by
 obtain ⟨ok, op, oa, on, oc, ov, os, oe, qa, qn, qc⟩ := r
 obtain ⟨s, n⟩ := who
 unfold RawO.val RawO.cells whoV
 unfold RawO.val RawO.cells at HC
 dsimp only at HC ⊢
 obtain ⟨w1, hw1, hb1, hs1, k0, k1, k2⟩ := do_boxes w ok op oa on oc ov os oe qa qn qc s n
 have HSO : Hid ((Tryz.prog.info? 26).map (·.size) = some 7) := Lib.hid (by kernel_rfl)
 have HSR : Hid ((Tryz.prog.info? 43).map (·.size) = some 13) := Lib.hid infoReply13
 have HSS : Hid ((Tryz.prog.info? 29).map (·.size) = some 2) := Lib.hid (by kernel_rfl)
 have H1 := Lib.hid (And.intro hb1 (And.intro hs1 (And.intro k0 (And.intro k1 (And.intro k2 hw1)))))
 have HR1 := Lib.hid (range_blk k0)
 have hck := HC w1 hb1
 have HCK := Lib.hid hck
 have tce : (ce != 0) = true := by simpa using hce
 have HCE := Lib.hid hce
 clear HC hb1 hs1 k0 k1 k2 hck hce
 go_enter Tryz.func14, Tryz.ntmps14
 go_wp2_with fail
 rw [← hw1]
 refine HCK.out.mono ?_
 rintro e w2 ⟨rfl, B2⟩
 have hb2 : w2.heap[w.heap.size + 2]? = some (.cells #[.int .i64 0, .string ⟨#[]⟩, .slice none 0 0, .int .u32 0, .int .u32 0, .int .u32 0, .int .i64 0, .int .u32 0, .int .u64 0, .int .u64 0, .int .u64 0, .slice none 0 0, .slice none 0 0] 43 (0, 0)) := (B2.block _ (by have := H1.out.2.1; omega)).trans H1.out.2.2.2.2.1
 have ht2 : w2.there (w.heap.size + 2) 0 13 := there_of hb2 (by simp)
 have H2 := Lib.hid (And.intro B2 (And.intro hb2 ht2))
 clear B2 hb2 ht2
 have HON : Hid ((#[.int .i64 ce, .string ⟨#[]⟩, .slice none 0 0, .int .u32 0, .int .u32 0, .int .u32 0, .int .i64 0, .int .u32 0, .int .u64 0, .int .u64 0, .int .u64 0, .slice none 0 0, .slice none 0 0] : Array Value).all (·.oneCell') = true) := Lib.hid (by simp [Value.oneCell'])
 go_wp2_with (refine wpList_store_mid rfl 43 (.tmp 7) (.tmp 22) rfl (w.heap.size + 2) 0 #[.int .i64 ce, .string ⟨#[]⟩, .slice none 0 0, .int .u32 0, .int .u32 0, .int .u32 0, .int .i64 0, .int .u32 0, .int .u64 0, .int .u64 0, .int .u64 0, .slice none 0 0, .slice none 0 0] rfl rfl H2.out.2.2 HSR.out HON.out ?_)
 refine bodyPost_ret (results_tmp_cell_mid rfl _ _ (w.heap.size + 2) 0 [.int .i64 ce, .string ⟨#[]⟩, .slice none 0 0, .int .u32 0, .int .u32 0, .int .u32 0, .int .i64 0, .int .u32 0, .int .u64 0, .int .u64 0, .int .u64 0, .slice none 0 0, .slice none 0 0] _ rfl (World.rangeAt_setCells_same _ _ _ _ H2.out.2.2) Tryz.underlying43 rfl HSR.out) rfl ?_
 have K9 : Kept (· = w.heap.size + 2) w2 (w2.setCells (w.heap.size + 2) 0 [.int .i64 ce, .string ⟨#[]⟩, .slice none 0 0, .int .u32 0, .int .u32 0, .int .u32 0, .int .i64 0, .int .u32 0, .int .u64 0, .int .u64 0, .int .u64 0, .slice none 0 0, .slice none 0 0]) := Kept.setCells (S := (· = w.heap.size + 2)) (p := w.heap.size + 2) rfl _ 0 (Kept.refl _ w2)
 have hb12 : Below w.heap.size w w2 := H1.out.1.trans (H2.out.1.mono H1.out.1.size)
 have e1 : doE root M at_ ⟨s, n⟩ ce o = ce := by unfold doE; rw [if_pos HCE.out]
 have e2 : doX root M at_ ⟨s, n⟩ ce o = [] := by unfold doX; rw [e1, if_pos HCE.out]
 have e3 : doA root M at_ ⟨s, n⟩ ce o = noAns := by unfold doA; rw [if_neg (fun h => HCE.out h.1)]
 have e4 : doR root M at_ ⟨s, n⟩ ce o = [] := by unfold doR; rw [if_neg (fun h => HCE.out h.1)]
 refine ⟨_, _, rfl, ?_, ?_, hb12.trans (K9.below hb12.size (fun k e => by have e : k = w.heap.size + 2 := e; omega))⟩
 ·rw [e2]
  exact EffsOut.nil _
 ·rw [e1, e3, e4]
  exact ⟨zRaw, none, 0, none, 0, rfl, zReads _ _, StrLo.nil _ _ _, RepsAt.nil _ _ _⟩
end
end Go.Proofs.YtnclkfhdpkkakaaGreatDoor
