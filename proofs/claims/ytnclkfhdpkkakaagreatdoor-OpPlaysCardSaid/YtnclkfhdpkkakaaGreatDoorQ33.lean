/-
  Words for a Do of many parts. Do of many parts, walked.
-/
import Derived.Test.YtnclkfhdpkkakaaGreatDoorQ32
namespace Go.Proofs.YtnclkfhdpkkakaaGreatDoor
set_option linter.unusedVariables false
set_option linter.unusedSimpArgs false
open Go Go.RowKit Go.Shelf Go.MapKept Go.ChangeMaps Go.Maps Go.Sort
section
variable {root : Bytes} {at_ : Int} {who : Sess}
theorem runX_len : ∀ (l : List Opl) (M : List (Bytes × Nd)), (runX root at_ who M l).length ≤ 2 * l.length
 | [], M => by simp [runX]
 | o :: l, M => by
  unfold runX
  split
  ·rw [List.length_append, List.length_cons]
   have h1 := opXs_len (root := root) (M := M) (at_ := at_) (who := who) (o := o)
   have h2 := runX_len l (opM root M at_ who o)
   omega
  ·simp
theorem Nice.run : ∀ (l : List Opl) {M : List (Bytes × Nd)}, Nice M → Nice (runM root at_ who M l)
 | [], M, h => h
 | o :: l, M, h => by
  unfold runM
  split
  ·exact Nice.run l (h.op o)
  ·exact h
end
theorem rb_free (x : Int) (a : Option Addr) (n c : Nat) : ∀ y ∈ (#[.int .i64 x, .string ⟨#[]⟩, .slice none 0 0, .int .u32 0, .int .u32 0, .int .u32 0, .int .i64 0, .int .u32 0, .int .u64 0, .int .u64 0, .int .u64 0, .slice none 0 0, .slice a n c] : Array Value).toList, ∀ m, y ≠ .int .u8 m := by
 intro y hy m
 change y ∈ [.int .i64 x, .string ⟨#[]⟩, .slice none 0 0, .int .u32 0, .int .u32 0, .int .u32 0, .int .i64 0, .int .u32 0, .int .u64 0, .int .u64 0, .int .u64 0, .slice none 0 0, .slice a n c] at hy
 simp only [List.mem_cons, List.not_mem_nil, or_false] at hy
 rcases hy with rfl | rfl | rfl | rfl | rfl | rfl | rfl | rfl | rfl | rfl | rfl | rfl | rfl <;> (intro e; cases e)
theorem own_blk {w : World} {base size n : Nat} {e : TypeId} {v : Value} {xs : List Value} (h : w.ownsRow base e size v n xs) {g : Nat} (hg : v.ownBlock = some g) : ∃ cur, w.heap[g]? = some (.cells cur e (0, 0)) := by
 rcases h.2 with ⟨e1, _⟩ | ⟨g', cap, cur, e1, _, h2, _⟩
 ·rw [e1] at hg; cases hg
 ·rw [e1] at hg
  have : g' = g := by cases hg; rfl
  subst this
  exact ⟨cur, h2⟩
section
variable {X : Nat → Prop} {w0 w : World} {d b : Nat} {root : Bytes} {at_ cnt : Int} {M : List (Bytes × Nd)} {who : Sess} {v : Value} {L : List RawE} {E : List Eff}
def zRawR (x : Int) : RawR := ⟨x, [], zRaw, none, 0, 0⟩
structure OneUni (X : Nat → Prop) (w0 w : World) (d b : Nat) (root : Bytes) (at_ cnt : Int) (M : List (Bytes × Nd)) (who : Sess) (v : Value) (E : List Eff) (o : Opl) (e : Ending) (w' : World) : Prop where
 ret : ∃ (rr : RawR) (v' : Value) (L' : List RawE) (cnt' : Int), e = .returned (.agg rr.cells.toArray) ∧ rr.e = opE root M who o ∧ ReadsR w' (Away w.heap.size v') rr (opR root M at_ who o) ∧ DoerAt X w0 w' d b root at_ cnt' (opM root M at_ who o) who v' L' (E ++ opXs root M at_ who o) ∧ cnt ≤ cnt' ∧ cnt' ≤ cnt + 1 ∧ (∀ k, v'.ownBlock = some k → v.ownBlock = some k ∨ w.heap.size ≤ k)
 kept : Kept (fun k => k = b ∨ k = d ∨ v.ownBlock = some k) w w'
theorem OneEnd.uni (D : DoerAt X w0 w d b root at_ cnt M who v L E) {o : Opl} {e : Ending} {w' : World} (h : OneEnd X w0 w d b root at_ cnt M who v E o e w') : OneUni X w0 w d b root at_ cnt M who v E o e w' := by
 rcases h with ⟨h0, cnt', c1, c2, ⟨⟨v', L', r, ka, kc, he, D', G, hr, hk⟩, K⟩⟩ | ⟨hx, he, hb⟩
 ·refine ⟨⟨⟨0, (opA root M at_ who o).path, r, ka, (opA root M at_ who o).kids.length, kc⟩, v', L', cnt', he, h0.symm, ?_, D', c1, c2, G⟩, K⟩
  unfold opR
  rw [if_neg (by simpa using h0)]
  exact ⟨rfl, rfl, hr, rfl, hk⟩
 ·have hM : opM root M at_ who o = M := by unfold opM; rw [if_pos hx]
  have hXs : opXs root M at_ who o = [] := by unfold opXs; rw [if_pos hx]
  refine ⟨⟨zRawR (opE root M who o), v, L, cnt, he, rfl, ?_, ?_, Int.le_refl _, by omega, fun k h => .inl h⟩, Kept.ofBelow hb⟩
  ·unfold opR
   rw [if_pos hx]
   exact ⟨rfl, rfl, zReads _ _, rfl, StrLo.nil _ _ _⟩
  ·rw [hM, hXs, List.append_nil]
   exact D.below hb
theorem DoerAt.turnX (D : DoerAt X w0 w d b root at_ cnt M who v L E) {S X' : Nat → Prop} (hS : ∀ g, S g → X g ∧ w0.heap.size ≤ g ∧ ∃ cs, w.heap[g]? = some (.cells cs 43 (0, 0))) {w' : World} (hk : Kept S w w') (h1 : ∀ k, X' k → X k ∨ w.heap.size ≤ k) (h2 : ∀ k, X' k → k < w'.heap.size) : DoerAt X' w0 w' d b root at_ cnt M who v L E := by
 obtain ⟨lo, mb, T, hlo⟩ := D.far
 have hgb : ¬ S b := fun e => by
  obtain ⟨_, _, cs, hg⟩ := hS b e
  have := T.blk
  rw [hg] at this
  cases this
 have hgd : ¬ S d := fun e => by
  obtain ⟨_, _, cs, hg⟩ := hS d e
  have := D.blk
  rw [hg] at this
  cases this
 have hgm : ¬ S mb := fun e => by
  obtain ⟨_, _, cs, hg⟩ := hS mb e
  exact T.map_no hg rfl
 have hgv : ∀ g, v.ownBlock = some g → ¬ S g := fun g h e => by
  obtain ⟨_, _, cs, hg⟩ := hS g e
  exact own_type D.row.own hg (by decide) h
 have T2 := T.both (lo' := fun k => lo k ∧ k < w.heap.size) (fun k h3 h4 => ⟨h3, h4⟩)
 have T' := T2.keptS hk (fun k h3 e => (hlo k h3.1).2 (hS k e).1) hgb hgm
 have r1 := (D.rlike.both (lo' := fun k => (v.ownBlock ≠ some k ∧ ¬ X k) ∧ k < w.heap.size) (fun k h3 h4 => ⟨h3, h4⟩)).keptS hk (fun k h3 e => h3.1.2 (hS k e).1)
 refine ⟨⟨⟨_, _, T'⟩, D.tree.bl.trans (hk.below D.tree.bl.size (fun k e => (hS k e).2.1)), D.tree.hb, D.tree.fit, D.tree.rl, D.tree.hm⟩, (hk.block d D.lt hgd).trans D.blk, ⟨own_kept D.row.own hk hgv, r1.both (fun k h _ => h.1.1)⟩, D.hd, D.inv, r1.both (fun k h _ => ⟨h.1.1, fun hX => ?_⟩), h2, _, mb, T', fun k hk => ⟨(hlo k hk.1).1, fun hX => ?_⟩⟩
 ·rcases h1 k hX with h3 | h3
  ·exact h.1.2 h3
  ·have := h.2; omega
 ·rcases h1 k hX with h3 | h3
  ·exact (hlo k hk.1).2 h3
  ·have := hk.2; omega
theorem DoerAt.free (D : DoerAt X w0 w d b root at_ cnt M who v L E) {X' : Nat → Prop} (h1 : ∀ k, ¬ X' k) : DoerAt X' w0 w d b root at_ cnt M who v L E := by
 obtain ⟨lo, mb, T, hlo⟩ := D.far
 exact ⟨D.tree, D.blk, D.row, D.hd, D.inv, D.rlike.both (fun k h _ => ⟨h.1, h1 k⟩), fun k h => absurd h (h1 k), lo, mb, T, fun k hk => ⟨(hlo k hk).1, h1 k⟩⟩
def MulLo (w : World) (d b B : Nat) (v : Value) (j : Nat) : Prop := w.heap.size + 3 ≤ j ∧ j ≠ b ∧ j ≠ d ∧ j ≠ B ∧ v.ownBlock ≠ some j
structure MulSt (w : World) (d b B : Nat) (root : Bytes) (at_ cnt0 : Int) (M : List (Bytes × Nd)) (who : Sess) (ps : List Opl) (k : Nat) (wr : World) : Prop where
 run : runE root at_ who M (ps.take k) = 0
 bl : Below w.heap.size w wr
 res : wr.heap[w.heap.size + 2]? = some (.cells #[.int .i64 0, .string ⟨#[]⟩, .slice none 0 0, .int .u32 0, .int .u32 0, .int .u32 0, .int .i64 0, .int .u32 0, .int .u64 0, .int .u64 0, .int .u64 0, .slice none 0 0, .slice none 0 0] 43 (0, 0))
 st : ∃ (v : Value) (L : List RawE) (cnt : Int) (ra : Option Addr) (rc : Nat) (LR : List RawR), DoerAt (fun j => (Value.slice ra k rc).ownBlock = some j) w wr d b root at_ cnt (runM root at_ who M (ps.take k)) who v L (runX root at_ who M (ps.take k)) ∧ cnt0 ≤ cnt ∧ cnt ≤ cnt0 + k ∧ LR.length = k
  ∧ RepRow wr (w.heap.size + 3) (MulLo w d b B v) (.slice ra k rc) LR (runR root at_ who M (ps.take k))
  ∧ wr.heap[B]? = some (.cells #[.int .i64 0, .string ⟨#[]⟩, .slice none 0 0, .int .u32 0, .int .u32 0, .int .u32 0, .int .i64 0, .int .u32 0, .int .u64 0, .int .u64 0, .int .u64 0, .slice none 0 0, .slice ra k rc] 43 (0, 0))
  ∧ (∀ j, (Value.slice ra k rc).ownBlock = some j → j ≠ B)
theorem mul_step {w wr w6 w7 w9 w10 w12 : World} {d b B : Nat} {root : Bytes} {at_ cnt cnt7 : Int} {Mk Mk' : List (Bytes × Nd)} {who : Sess} {v v7 : Value} {L L7 : List RawE} {Ek E7 : List Eff} {ra ra' : Option Addr} {rc rc' k : Nat} {LR : List RawR} {XR : List Rep} {rr : RawR} {y : Rep}
  (hd : w.heap.size + 3 ≤ d ∧ w.heap.size + 3 ≤ b ∧ w.heap.size + 3 ≤ B) (bl : Below w.heap.size w wr) (res : wr.heap[w.heap.size + 2]? = some (.cells #[.int .i64 0, .string ⟨#[]⟩, .slice none 0 0, .int .u32 0, .int .u32 0, .int .u32 0, .int .i64 0, .int .u32 0, .int .u64 0, .int .u64 0, .int .u64 0, .slice none 0 0, .slice none 0 0] 43 (0, 0)))
  (D : DoerAt (fun j => (Value.slice ra k rc).ownBlock = some j) w wr d b root at_ cnt Mk who v L Ek) (hlr : LR.length = k)
  (RR : RepRow wr (w.heap.size + 3) (MulLo w d b B v) (.slice ra k rc) LR XR)
  (kB : wr.heap[B]? = some (.cells #[.int .i64 0, .string ⟨#[]⟩, .slice none 0 0, .int .u32 0, .int .u32 0, .int .u32 0, .int .i64 0, .int .u32 0, .int .u64 0, .int .u64 0, .int .u64 0, .slice none 0 0, .slice ra k rc] 43 (0, 0))) (hgB : ∀ j, (Value.slice ra k rc).ownBlock = some j → j ≠ B)
  (B6 : Below wr.heap.size wr w6) (hrd : ReadsR w7 (Away w6.heap.size v7) rr y)
  (D7 : DoerAt (fun j => (Value.slice ra k rc).ownBlock = some j) w w7 d b root at_ cnt7 Mk' who v7 L7 E7)
  (G7 : ∀ j, v7.ownBlock = some j → v.ownBlock = some j ∨ w6.heap.size ≤ j)
  (K7 : Kept (fun j => j = b ∨ j = d ∨ v.ownBlock = some j) w6 w7) (B9 : Below w7.heap.size w7 w9) :
  (w7.ownsRow (w.heap.size + 3) 43 13 (.slice ra k rc) k (LR.flatMap RawR.cells) ∧ w7.heap[B]? = some (.cells #[.int .i64 0, .string ⟨#[]⟩, .slice none 0 0, .int .u32 0, .int .u32 0, .int .u32 0, .int .i64 0, .int .u32 0, .int .u64 0, .int .u64 0, .int .u64 0, .slice none 0 0, .slice ra k rc] 43 (0, 0)) ∧ w7.heap[w.heap.size + 2]? = some (.cells #[.int .i64 0, .string ⟨#[]⟩, .slice none 0 0, .int .u32 0, .int .u32 0, .int .u32 0, .int .i64 0, .int .u32 0, .int .u64 0, .int .u64 0, .int .u64 0, .slice none 0 0, .slice none 0 0] 43 (0, 0)) ∧ w.heap.size + 3 ≤ w7.heap.size ∧ B < w7.heap.size ∧ (∀ j, (Value.slice ra k rc).ownBlock = some j → j < wr.heap.size) ∧ wr.heap.size ≤ w6.heap.size ∧ w6.heap.size ≤ w7.heap.size)
  ∧ (w10.ownsRow (w.heap.size + 3) 43 13 (.slice ra' (k + 1) rc') (k + 1) (LR.flatMap RawR.cells ++ rr.cells) → w9.grownBy w10 (Value.slice ra k rc).ownBlock →
   (∀ j, (Value.slice ra' (k + 1) rc').ownBlock = some j → (Value.slice ra k rc).ownBlock = some j ∨ w9.heap.size ≤ j) → Kept (· = B) w10 w12 →
   DoerAt (fun j => (Value.slice ra' (k + 1) rc').ownBlock = some j) w w12 d b root at_ cnt7 Mk' who v7 L7 E7
   ∧ RepRow w12 (w.heap.size + 3) (MulLo w d b B v7) (.slice ra' (k + 1) rc') (LR ++ [rr]) (XR ++ [y])
   ∧ Below w.heap.size w w12 ∧ w12.heap[w.heap.size + 2]? = some (.cells #[.int .i64 0, .string ⟨#[]⟩, .slice none 0 0, .int .u32 0, .int .u32 0, .int .u32 0, .int .i64 0, .int .u32 0, .int .u64 0, .int .u64 0, .int .u64 0, .slice none 0 0, .slice none 0 0] 43 (0, 0)) ∧ (∀ j, (Value.slice ra' (k + 1) rc').ownBlock = some j → j ≠ B)) := by
 have hdl := D.lt
 have hbl := D.tree.lt
 have hBl : B < wr.heap.size := lt_of_block kB
 have hbb : ∃ cs, wr.heap[b]? = some (.cells cs 86 (0, 0)) := by
  obtain ⟨lo, mb, T, _⟩ := D.far
  exact ⟨_, T.blk⟩
 have hdB : d ≠ B := fun e => by
  subst e
  have := D.blk
  rw [kB] at this
  cases this
 have hbB : b ≠ B := fun e => by
  subst e
  obtain ⟨cs, h⟩ := hbb
  rw [kB] at h
  cases h
 have hvB : v.ownBlock ≠ some B := own_type D.row.own kB (by decide)
 have hv2 : v.ownBlock ≠ some (w.heap.size + 2) := own_type D.row.own res (by decide)
 have hs6 := B6.size
 have hs7 := K7.size
 have hs9 := B9.size
 have kB6 := (B6.block B hBl).trans kB
 have kB7 := (K7.block B (by omega) (fun h => by
  rcases h with h | h | h
  ·exact hbB h.symm
  ·exact hdB h.symm
  ·exact hvB h)).trans kB6
 have kB9 := (B9.block B (by omega)).trans kB7
 have r6 := (B6.block _ (lt_of_block res)).trans res
 have r7 := (K7.block (w.heap.size + 2) (lt_of_block r6) (fun h => by
  rcases h with h | h | h
  ·omega
  ·omega
  ·exact hv2 h)).trans r6
 have r9 := (B9.block _ (lt_of_block r7)).trans r7
 have hro : ∀ j, (Value.slice ra k rc).ownBlock = some j → w.heap.size + 3 ≤ j ∧ j < wr.heap.size ∧ j ≠ b ∧ j ≠ d ∧ v.ownBlock ≠ some j := fun j h => by
  obtain ⟨h1, h2⟩ := RR.own.lt j h
  obtain ⟨cs, hcs⟩ := own_blk RR.own h
  refine ⟨h1, h2, fun e => ?_, fun e => ?_, own_type D.row.own hcs (by decide)⟩
  ·subst e
   obtain ⟨cs', h⟩ := hbb
   rw [hcs] at h
   cases h
  ·subst e
   have := D.blk
   rw [hcs] at this
   cases this
 have RRa := RR.mono (lo' := fun j => MulLo w d b B v j ∧ j < wr.heap.size) (fun j h1 h2 => ⟨h1, h2⟩)
 have RRb := RRa.keptS (Kept.ofBelow (S := fun _ => False) B6) (fun _ _ _ h => h) (fun _ _ h => h)
 have RRc := RRb.keptS K7 (fun j hj _ h => by
  rcases h with h | h | h
  ·exact hj.1.2.1 h
  ·exact hj.1.2.2.1 h
  ·exact hj.1.2.2.2.2 h) (fun j hj h => by
  obtain ⟨_, _, q1, q2, q3⟩ := hro j hj
  rcases h with h | h | h
  ·exact q1 h
  ·exact q2 h
  ·exact q3 h)
 have RRd := RRc.mono (lo' := MulLo w d b B v7) (fun j hj _ => ⟨hj.1.1, hj.1.2.1, hj.1.2.2.1, hj.1.2.2.2.1, fun e => by
  rcases G7 j e with h | h
  ·exact hj.1.2.2.2.2 h
  ·have := hj.2; omega⟩)
 refine ⟨⟨by rw [← hlr]; exact (congrArg (fun n => w7.ownsRow (w.heap.size + 3) 43 13 (.slice ra n rc) LR.length (LR.flatMap RawR.cells)) hlr).mpr RRd.own, kB7, r7, by omega, by omega, fun j h => (hro j h).2.1, hs6, hs7⟩, fun hown hg hw K12 => ?_⟩
 have KG := kept_grown hg
 have hs10 := KG.size
 have kB10 := (KG.block B (by omega) (fun h => hgB B h rfl)).trans kB9
 have r10 := (KG.block (w.heap.size + 2) (lt_of_block r9) (fun h => by have := (hro _ h).1; omega)).trans r9
 have hnB : ∀ j, (Value.slice ra' (k + 1) rc').ownBlock = some j → j ≠ B := fun j h => by
  rcases hw j h with h1 | h1
  ·exact hgB j h1
  ·omega
 have hr' : ReadsR w7 (fun j => MulLo w d b B v7 j ∧ (Value.slice ra k rc).ownBlock ≠ some j) rr y := hrd.mono (fun j hj hlt => by
  obtain ⟨h1, h2⟩ := hj
  exact ⟨⟨by omega, by omega, by omega, by omega, h2⟩, fun e => by have := (hro j e).2.1; omega⟩)
 have RRe := RRd.more B9 hr' (by rw [hlr]; exact hown) hg hw
 have RRf := RRe.keptS K12 (fun j hj _ e => hj.2.2.2.1 e) (fun j hj e => hnB j hj e)
 have D9 := D7.below B9
 have D10 := D9.turnX (S := fun j => (Value.slice ra k rc).ownBlock = some j) (X' := fun j => (Value.slice ra' (k + 1) rc').ownBlock = some j) (fun g hg' => ⟨hg', by have := (hro g hg').1; omega, own_blk (own_below RRd.own B9) hg'⟩) KG hw (fun j h => (hown.lt j h).2)
 have D12 := D10.turn kB10 (rb_free _ _ _ _) (by decide) (by decide) (by decide) (by omega) K12
 have b6 : Below w.heap.size w w6 := bl.trans (B6.mono bl.size)
 have b7 : Below w.heap.size w w7 := b6.trans (K7.below b6.size (fun j h => by
  rcases h with h | h | h
  ·omega
  ·omega
  ·exact (D.row.own.lt j h).1))
 have b9 : Below w.heap.size w w9 := b7.trans (B9.mono b7.size)
 have b10 : Below w.heap.size w w10 := b9.trans (KG.below b9.size (fun j h => by have := (hro j h).1; omega))
 have b12 : Below w.heap.size w w12 := b10.trans (K12.below b10.size (fun j h => by have h : j = B := h; omega))
 exact ⟨D12, RRf, b12, (K12.block _ (lt_of_block r10) (fun e => by have e : w.heap.size + 2 = B := e; omega)).trans r10, hnB⟩
theorem MulSt.next {w wr w12 : World} {d b B : Nat} {root : Bytes} {at_ cnt0 cnt7 : Int} {M : List (Bytes × Nd)} {who : Sess} {ps : List Opl} {k : Nat} {v7 : Value} {L7 : List RawE} {ra' : Option Addr} {rc' : Nat} {LR : List RawR} {rr : RawR} {p : Opl} (h : MulSt w d b B root at_ cnt0 M who ps k wr) (hp : ps[k]? = some p) (hlr : LR.length = k)
  (h0 : opE root (runM root at_ who M (ps.take k)) who p = 0) (c1 : cnt0 ≤ cnt7) (c2 : cnt7 ≤ cnt0 + (k : Int) + 1)
  (D12 : DoerAt (fun j => (Value.slice ra' (k + 1) rc').ownBlock = some j) w w12 d b root at_ cnt7 (opM root (runM root at_ who M (ps.take k)) at_ who p) who v7 L7 (runX root at_ who M (ps.take k) ++ opXs root (runM root at_ who M (ps.take k)) at_ who p))
  (RR : RepRow w12 (w.heap.size + 3) (MulLo w d b B v7) (.slice ra' (k + 1) rc') (LR ++ [rr]) (runR root at_ who M (ps.take k) ++ [opR root (runM root at_ who M (ps.take k)) at_ who p]))
  (b12 : Below w.heap.size w w12) (r12 : w12.heap[w.heap.size + 2]? = some (.cells #[.int .i64 0, .string ⟨#[]⟩, .slice none 0 0, .int .u32 0, .int .u32 0, .int .u32 0, .int .i64 0, .int .u32 0, .int .u64 0, .int .u64 0, .int .u64 0, .slice none 0 0, .slice none 0 0] 43 (0, 0))) (hn : ∀ j, (Value.slice ra' (k + 1) rc').ownBlock = some j → j ≠ B)
  (kB : w12.heap[B]? = some (.cells #[.int .i64 0, .string ⟨#[]⟩, .slice none 0 0, .int .u32 0, .int .u32 0, .int .u32 0, .int .i64 0, .int .u32 0, .int .u64 0, .int .u64 0, .int .u64 0, .slice none 0 0, .slice ra' (k + 1) rc'] 43 (0, 0))) : MulSt w d b B root at_ cnt0 M who ps (k + 1) w12 := by
 have ht : ps.take (k + 1) = ps.take k ++ [p] := by rw [List.take_add_one, hp]; rfl
 obtain ⟨e1, e2, e3, e4⟩ := run_snoc (root := root) (at_ := at_) (who := who) p (ps.take k) M h.run
 refine ⟨by rw [ht, e1, h0], b12, r12, v7, L7, cnt7, ra', rc', LR ++ [rr], ?_, c1, by omega, by rw [List.length_append, hlr]; rfl, ?_, kB, hn⟩
 ·rw [ht, e2, e3]
  exact D12
 ·rw [ht, e4]
  exact RR
theorem mul_ok {root : Bytes} {at_ : Int} {M : List (Bytes × Nd)} {who : Sess} {l : Opl} {ps : List Opl} (h7 : l.kind = 7) (h : runE root (at_ + 1) who M ps = 0) :
  doE root M at_ who 0 ⟨l, ps⟩ = 0 ∧ doX root M at_ who 0 ⟨l, ps⟩ = runX root (at_ + 1) who M ps ∧ doA root M at_ who 0 ⟨l, ps⟩ = noAns ∧ doR root M at_ who 0 ⟨l, ps⟩ = runR root (at_ + 1) who M ps := by
 have hs : (⟨l, ps⟩ : OpV).seq = ps := by unfold OpV.seq; rw [if_pos h7]
 have hE : doE root M at_ who 0 ⟨l, ps⟩ = 0 := by unfold doE; rw [if_neg (by simp), hs]; exact h
 refine ⟨hE, ?_, ?_, ?_⟩
 ·unfold doX
  rw [hE, if_neg (by simp), hs]
 ·unfold doA
  rw [if_neg (fun h2 => h2.2 h7)]
 ·unfold doR
  rw [if_pos ⟨rfl, h7⟩]
theorem mul_bad {root : Bytes} {at_ : Int} {M : List (Bytes × Nd)} {who : Sess} {l p : Opl} {ps : List Opl} {k : Nat} (h7 : l.kind = 7) (hp : ps[k]? = some p) (h : runE root (at_ + 1) who M (ps.take k) = 0) (hx : opE root (runM root (at_ + 1) who M (ps.take k)) who p ≠ 0) :
  doE root M at_ who 0 ⟨l, ps⟩ = opE root (runM root (at_ + 1) who M (ps.take k)) who p ∧ doX root M at_ who 0 ⟨l, ps⟩ = [] ∧ doA root M at_ who 0 ⟨l, ps⟩ = noAns ∧ doR root M at_ who 0 ⟨l, ps⟩ = runR root (at_ + 1) who M (ps.take k) ++ [opR root (runM root (at_ + 1) who M (ps.take k)) (at_ + 1) who p] := by
 have hs : (⟨l, ps⟩ : OpV).seq = ps := by unfold OpV.seq; rw [if_pos h7]
 have ht : ps.take (k + 1) = ps.take k ++ [p] := by rw [List.take_add_one, hp]; rfl
 obtain ⟨e1, e2, e3, e4⟩ := run_snoc (root := root) (at_ := at_ + 1) (who := who) p (ps.take k) M h
 have hps : ps = (ps.take k ++ [p]) ++ ps.drop (k + 1) := by rw [← ht, List.take_append_drop]
 obtain ⟨s1, s2⟩ := run_stop (root := root) (at_ := at_ + 1) (who := who) (ps.drop (k + 1)) (ps.take k ++ [p]) M (by rw [e1]; exact hx)
 rw [← hps] at s1 s2
 have hE : doE root M at_ who 0 ⟨l, ps⟩ = opE root (runM root (at_ + 1) who M (ps.take k)) who p := by unfold doE; rw [if_neg (by simp), hs, s1, e1]
 refine ⟨hE, ?_, ?_, ?_⟩
 ·unfold doX
  rw [hE, if_pos hx]
 ·unfold doA
  rw [if_neg (fun h2 => h2.2 h7)]
 ·unfold doR
  rw [if_pos ⟨rfl, h7⟩]
  show runR root (at_ + 1) who M ps = _
  rw [s2, e4]
end
end Go.Proofs.YtnclkfhdpkkakaaGreatDoor
namespace Go.Proofs.YtnclkfhdpkkakaaGreatDoor
set_option linter.unusedVariables false
set_option linter.unusedSimpArgs false
open Go Go.RowKit Go.Shelf Go.MapKept Go.ChangeMaps Go.Maps Go.Sort
section
variable {w0 w : World} {b : Nat} {root : Bytes} {at_ : Int} {M : List (Bytes × Nd)}
set_option maxRecDepth 100000 in
set_option maxHeartbeats 32000000 in
theorem do_multi (R : TR w0 w b root at_ M) (I : Inv root M) (hm : MaxInt w) (h0 : 0 ≤ at_) (h1 : at_ ≤ 90000) (NX : Nice M) (PT : PowTab w) (r : RawO) (o : OpV) (who : Sess) (hr : LeafO w (fun k => k < w.heap.size) r o.leaf) (HC : ∀ w', Below w.heap.size w w' → Calls Tryz.prog 22 #[r.val] w' (CheckIs w' 0)) (hg : o.leaf.kind = 7 ∧ r.pn = o.parts.length ∧ o.parts.length ≤ 6 ∧ PartsAt w r.pa o.parts) :
  Calls Tryz.prog 14 #[.pointer (some ⟨b, 0, none⟩), r.val, whoV who] w (DoEnd w root M at_ who 0 o) := by
 obtain ⟨ok, op, oa, on, oc, ov, os, oe, qa, qn, qc⟩ := r
 obtain ⟨s, n⟩ := who
 obtain ⟨⟨lk, lp, ld, lv, ls, le⟩, ps⟩ := o
 obtain ⟨q1, q2, q3, q4, q5, q6, q7, q8⟩ := hr
 have hr : LeafO w (fun k => k < w.heap.size) ⟨ok, op, oa, on, oc, ov, os, oe, qa, qn, qc⟩ ⟨lk, lp, ld, lv, ls, le⟩ := ⟨q1, q2, q3, q4, q5, q6, q7, q8⟩
 clear q3 q4 q5 q6 q7 q8
 dsimp only at q1 q2
 subst q1 q2
 unfold RawO.val RawO.cells whoV
 unfold RawO.val RawO.cells at HC
 dsimp only at HC ⊢
 obtain ⟨w1, hw1, hb1, hs1, k0, k1, k2⟩ := do_boxes w ok op oa on oc ov os oe qa qn qc s n
 have HSO : Hid ((Tryz.prog.info? 26).map (·.size) = some 7) := Lib.hid (by kernel_rfl)
 have HSR : Hid ((Tryz.prog.info? 43).map (·.size) = some 13) := Lib.hid infoReply13
 have HSS : Hid ((Tryz.prog.info? 29).map (·.size) = some 2) := Lib.hid (by kernel_rfl)
 have H1 := Lib.hid (And.intro hb1 (And.intro hs1 (And.intro k0 (And.intro k1 (And.intro k2 hw1)))))
 have HR1 := Lib.hid (range_blk k0)
 have hck := HC w1 hb1
 have HCK := Lib.hid hck
 have HI := Lib.hid (And.intro R (And.intro I (And.intro hm (And.intro h0 (And.intro h1 (And.intro NX PT))))))
 have HG := Lib.hid (And.intro hr hg)
 have tw : ∀ _ : True, IntKind.u64.wrap (at_ + 1) = at_ + 1 := fun _ => by rw [IntKind.wrap_u64]; omega
 clear HC hb1 hs1 k0 k1 k2 hck R I hm h0 h1 NX PT hr hg
 go_enter Tryz.func14, Tryz.ntmps14
 go_wp2_with fail
 rw [← hw1]
 clear hw1
 refine HCK.out.mono ?_
 rintro e w2 ⟨rfl, B2⟩
 have B02 : Below w.heap.size w w2 := H1.out.1.trans (B2.mono H1.out.1.size)
 have HRW : Hid (w2.drew.rangeAt (w.heap.size + 1) 0 [.int .i64 s, .int .u32 n]) := Lib.hid (range_blk (w := w2.drew) ((B2.block (w.heap.size + 1) (by have := H1.out.2.1; omega)).trans H1.out.2.2.2.1))
 have HCL := Lib.hid ((below_tr HI.out.1 (B02.drew)).clone)
 have H2 := Lib.hid (And.intro B2 B02)
 clear B2 B02
 go_wp2_with fail
 refine wp_region_held_drew (S := fun w' => World.rangeAt w' (w.heap.size + 1) 0 [.int .i64 s, .int .u32 n]) (by kernel_rfl) HRW.out (fun hS => ?_)
 refine tI 0 rfl hS ?_
 refine tI 2 rfl hS ?_
 refine tL 5 rfl hS 29 (.tmp 5) (w.heap.size + 1) 0 [.int .i64 s, .int .u32 n] (fun _ h => h) Tryz.underlying29 HSS.out ?_
 simp only [putS]
 refine cI 1 rfl ?_
 refine HCL.out.mono ?_
 rintro e w3 ⟨b2, rfl, RC, hb2, B3'⟩
 have B3 : Below w2.heap.size w2 w3 := (Below.refl _ w2).drew.trans B3'
 have hS3 : World.rangeAt w3 (w.heap.size + 1) 0 [.int .i64 s, .int .u32 n] := range_kept HRW.out B3' (by have := H1.out.2.1; have := H2.out.1.size; show w.heap.size + 1 < w2.heap.size; omega)
 have B03 : Below w.heap.size w w3 := H2.out.2.trans (B3.mono H2.out.2.size)
 have HAT := Lib.hid (below_tr HI.out.1 B03).at_any
 have hb2' : w2.heap.size ≤ b2 := hb2
 have H3 := Lib.hid (And.intro RC (And.intro hb2' (And.intro B3 B03)))
 clear RC hb2 hb2' B3' B3 B03 hS
 refine ⟨hS3, ?_⟩
 try dsimp only
 simp only [putS]
 refine cI 3 rfl ?_
 refine HAT.out.mono ?_
 rintro e w3' ⟨rfl, rfl⟩
 refine ⟨hS3, ?_⟩
 try dsimp only
 simp only [putS]
 refine tI 4 rfl hS3 ?_
 refine tI 6 rfl hS3 ?_
 simp only [putS]
 obtain ⟨w4, hw4⟩ : ∃ w4, w4 = w3.alloc (.cells #[.pointer (some ⟨b2, 0, none⟩), .int .u64 (at_ + 1), .int .i64 s, .int .u32 n, .slice none 0 0] 82) := ⟨_, rfl⟩
 have D4 : DoerAt (fun _ => False) w w4 w3.heap.size b2 root (at_ + 1) at_ M ⟨s, n⟩ (.slice none 0 0) [] [] := by rw [hw4]; exact doer_new H3.out.1 H3.out.2.2.2 (Nat.le_trans H2.out.2.size H3.out.2.1) HI.out.2.2.1 HI.out.2.1 _ _ _
 have B4 : Below w3.heap.size w3 w4 := by rw [hw4]; exact belowA (Below.refl _ w3) _
 have hs4 : w4.heap.size = w3.heap.size + 1 := by rw [hw4]; simp
 have hS4 : World.rangeAt w4 (w.heap.size + 1) 0 [.int .i64 s, .int .u32 n] := range_kept hS3 B4 (by have := H1.out.2.1; have := H2.out.1.size; have := H3.out.2.2.1.size; omega)
 have HW4 := Lib.hid hw4
 have H4 := Lib.hid (And.intro D4 (And.intro B4 hs4))
 clear D4 B4 hs4
 refine give_in 7 rfl (by kernel_rfl) (by rfl) (.pointer (some ⟨w3.heap.size, 0, none⟩)) w4 (by rw [HW4.out]; go_simp <;> first | rfl | exact ⟨rfl, rfl⟩) hS4 ?_
 clear hw4 hS3
 simp only [putS]
 refine tI 8 rfl hS4 ?_
 simp only [putS]
 refine wpAnyH_done (by kernel_rfl) ?_ _
 clear hS4
 obtain ⟨w5, hw5⟩ : ∃ w5, w5 = w4.alloc (.cells #[.int .i64 0, .string ⟨#[]⟩, .slice none 0 0, .int .u32 0, .int .u32 0, .int .u32 0, .int .i64 0, .int .u32 0, .int .u64 0, .int .u64 0, .int .u64 0, .slice none 0 0, .slice none 0 0] 43) := ⟨_, rfl⟩
 have B5 : Below w4.heap.size w4 w5 := by rw [hw5]; exact belowA (Below.refl _ w4) _
 have hs5 : w5.heap.size = w4.heap.size + 1 := by rw [hw5]; simp
 have k5 : w5.heap[w4.heap.size]? = some (.cells #[.int .i64 0, .string ⟨#[]⟩, .slice none 0 0, .int .u32 0, .int .u32 0, .int .u32 0, .int .i64 0, .int .u32 0, .int .u64 0, .int .u64 0, .int .u64 0, .slice none 0 0, .slice none 0 0] 43 (0, 0)) := by rw [hw5]; exact heap_alloc_new w4 _
 have B15 : Below w1.heap.size w1 w5 := H2.out.1.trans ((H3.out.2.2.1.trans ((H4.out.2.1.trans (B5.mono H4.out.2.1.size)).mono H3.out.2.2.1.size)).mono H2.out.1.size)
 have B05 : Below w.heap.size w w5 := H1.out.1.trans (B15.mono H1.out.1.size)
 have kop : w5.heap[w.heap.size]? = some (.cells #[.int .u8 ok, .string (bs op), .slice oa on oc, .int .i64 ov, .bool os, .bool oe, .slice qa qn qc] 26 (0, 0)) := (B15.block _ (by have := H1.out.2.1; omega)).trans H1.out.2.2.1
 have kres : w5.heap[w.heap.size + 2]? = some (.cells #[.int .i64 0, .string ⟨#[]⟩, .slice none 0 0, .int .u32 0, .int .u32 0, .int .u32 0, .int .i64 0, .int .u32 0, .int .u64 0, .int .u64 0, .int .u64 0, .slice none 0 0, .slice none 0 0] 43 (0, 0)) := (B15.block _ (by have := H1.out.2.1; omega)).trans H1.out.2.2.2.2.1
 have HW5 := Lib.hid hw5
 have HR5 := Lib.hid (range_blk kop)
 have z0 : w5.cell? ⟨w.heap.size, 0, none⟩ = some (.int .u8 ok) := cell_of_row _ _ 0 _ 26 (0, 0) kop
 have H5 := Lib.hid (And.intro (H4.out.1.below B5) (And.intro hs5 (And.intro k5 (And.intro B15 (And.intro B05 (And.intro kop (And.intro kres (And.intro H4.out.2.2 (by have := H1.out.2.1; have := H2.out.1.size; have := H3.out.2.2.1.size; omega : w.heap.size + 3 ≤ w3.heap.size)))))))))
 clear hw5 B5 hs5 k5 B15 B05 kop kres
 have hk7 : ok = 7 := HG.out.2.1
 have t7 : (ok != 7) = false := by rw [hk7]; rfl
 have hqn : qn ≤ 6 := by have h1 := HG.out.2.2.1; have h2 := HG.out.2.2.2.1; omega
 obtain ⟨i0, hi0, hz0, hz1, hz2⟩ := info_parts infoReply
 go_upto_region 8 with fail
 rw [← HW5.out]
 have z6 : w5.cell? ⟨w.heap.size, 6, none⟩ = some (.slice qa qn qc) := cell_of_row _ _ 6 _ 26 (0, 0) H5.out.2.2.2.2.2.1
 have HM0 : Hid (MulSt w w3.heap.size b2 w4.heap.size root (at_ + 1) at_ M ⟨s, n⟩ ps 0 w5) := Lib.hid ⟨rfl, H5.out.2.2.2.2.1, H5.out.2.2.2.2.2.2.1, _, _, at_, none, 0, [], H5.out.1.free (fun k h => by simp [Value.ownBlock] at h), Int.le_refl _, by omega, rfl, repRow_nil _ _ _, H5.out.2.2.1, fun j h => by simp [Value.ownBlock] at h⟩
 clear hk7
 go_wp2_with fail
 go_loopw [41] (fun ci wr => ∃ k : Nat, k ≤ qn ∧ ci = .int .i64 k ∧ Hid (MulSt w w3.heap.size b2 w4.heap.size root (at_ + 1) at_ M ⟨s, n⟩ ps k wr)) (fun ci _ => qn - (intOf ci).toNat)
 case atStart => exact ⟨0, by omega, rfl, HM0⟩
 case round =>
  obtain ⟨k, hk, rfl, HS⟩ := hrel
  by_cases hlt : k < qn
  ·obtain ⟨p, hp⟩ : ∃ p, ps[k]? = some p := ⟨_, List.getElem?_eq_getElem (by have := HG.out.2.2.1; omega)⟩
   obtain ⟨g, off, ⟨pk, pp, da, dn, dc, pv, psq, pse, fa, fn, fc⟩, hqa, hgl, hrg, hlf, hly⟩ := HG.out.2.2.2.2 k p hp
   subst hqa
   obtain ⟨v, L, cnt, ra, rc, LR, D, c1, c2, hlr, RR, kB, hgB⟩ := HS.out.st
   have hbl := HS.out.bl
   have hrg' : wr.rangeAt g (off + k * 7) [.int .u8 pk, .string (bs pp), .slice da dn dc, .int .i64 pv, .bool psq, .bool pse, .slice fa fn fc] := range_kept hrg hbl hgl
   obtain ⟨w6, hw6⟩ : ∃ w6, w6 = wr.alloc (.cells #[.int .u8 pk, .string (bs pp), .slice da dn dc, .int .i64 pv, .bool psq, .bool pse, .slice fa fn fc] 26) := ⟨_, rfl⟩
   have B6 : Below wr.heap.size wr w6 := by rw [hw6]; exact belowA (Below.refl _ wr) _
   have hx6 : w6.rangeAt wr.heap.size 0 [.int .u8 pk, .string (bs pp), .slice da dn dc, .int .i64 pv, .bool psq, .bool pse, .slice fa fn fc] := range_blk (t := 26) (fr := (0, 0)) (by rw [hw6]; exact heap_alloc_new wr _)
   have D6 := D.below B6
   have hl1 : (runX root (at_ + 1) ⟨s, n⟩ M (ps.take k)).length ≤ 900 := Nat.le_trans (runX_len _ _) (by rw [List.length_take]; omega)
   have hon := D6.one_leaf (Int.le_trans HI.out.2.2.2.1 c1) (by have := HI.out.2.2.2.2.1; omega) hl1 (HI.out.2.2.2.2.2.1.run _) (tab_below HI.out.2.2.2.2.2.2 (hbl.trans (B6.mono hbl.size))) ⟨pk, pp, da, dn, dc, pv, psq, pse, fa, fn, fc⟩ p (hlf.below (hbl.trans (B6.mono hbl.size))) (fun j hj => ⟨fun e => by have h1 := (D.row.own.lt j e).1; have hj : j < w.heap.size := hj; omega, fun e => by have h1 := (RR.own.lt j e).1; have hj : j < w.heap.size := hj; omega⟩) hly
   unfold RawO.val RawO.cells at hon
   dsimp only at hon
   have HON1 := Lib.hid hon
   have HRG := Lib.hid hrg'
   have HX6 := Lib.hid hx6
   have HW6 := Lib.hid hw6
   have HP := Lib.hid hp
   have HLR := Lib.hid (And.intro hlr (And.intro hgB (And.intro c1 c2)))
   have HD6 := Lib.hid (And.intro D (And.intro RR (And.intro kB (And.intro B6 D6))))
   have HLT := Lib.hid hlt
   clear hon hrg' hx6 hw6 hp hlr hgB D RR kB B6 D6 hl1 hrg hlf hly hbl c1 c2 hgl
   go_wp2_with (first
    | (refine wpList_load_mid rfl 26 (.tmp 43) rfl g (off + k * 7) rfl [.int .u8 pk, .string (bs pp), .slice da dn dc, .int .i64 pv, .bool psq, .bool pse, .slice fa fn fc] _ HRG.out Tryz.underlying26 rfl HSO.out ?_)
    | (rw [← HW6.out]; refine wpList_load_mid rfl 26 (.tmp 12) rfl wr.heap.size 0 rfl [.int .u8 pk, .string (bs pp), .slice da dn dc, .int .i64 pv, .bool psq, .bool pse, .slice fa fn fc] _ HX6.out Tryz.underlying26 rfl HSO.out ?_))
   refine HON1.out.mono ?_
   rintro e w7 h7
   obtain ⟨⟨⟨x, px, ⟨ba, bn, bc, ⟨b1, b2_, b3, b4, b5, b6, b7, b8⟩⟩, ka, kn, kc⟩, v7, L7, cnt7, rfl, hx, hrd, D7, c3, c4, G7⟩, K7⟩ := OneEnd.uni HD6.out.2.2.2.2 h7
   unfold RawR.cells repCells Raw.cells Nums.cells
   dsimp only [List.cons_append, List.nil_append]
   dsimp only at hx
   obtain ⟨w8, hw8⟩ : ∃ w8, w8 = w7.alloc (.cells #[.int .i64 x, .string (bs px), .slice ba bn bc, .int .u32 b1, .int .u32 b2_, .int .u32 b3, .int .i64 b4, .int .u32 b5, .int .u64 b6, .int .u64 b7, .int .u64 b8, .slice ka kn kc, .slice none 0 0] 43) := ⟨_, rfl⟩
   have B8 : Below w7.heap.size w7 w8 := by rw [hw8]; exact belowA (Below.refl _ w7) _
   have hs8 : w8.heap.size = w7.heap.size + 1 := by rw [hw8]; simp
   have k8 : w8.heap[w7.heap.size]? = some (.cells #[.int .i64 x, .string (bs px), .slice ba bn bc, .int .u32 b1, .int .u32 b2_, .int .u32 b3, .int .i64 b4, .int .u32 b5, .int .u64 b6, .int .u64 b7, .int .u64 b8, .slice ka kn kc, .slice none 0 0] 43 (0, 0)) := by rw [hw8]; exact heap_alloc_new w7 _
   obtain ⟨w9, hw9⟩ : ∃ w9, w9 = w8.alloc (.cells #[.int .i64 x, .string (bs px), .slice ba bn bc, .int .u32 b1, .int .u32 b2_, .int .u32 b3, .int .i64 b4, .int .u32 b5, .int .u64 b6, .int .u64 b7, .int .u64 b8, .slice ka kn kc, .slice none 0 0] 43) := ⟨_, rfl⟩
   have B89 : Below w8.heap.size w8 w9 := by rw [hw9]; exact belowA (Below.refl _ w8) _
   have hs9 : w9.heap.size = w8.heap.size + 1 := by rw [hw9]; simp
   have k9 : w9.heap[w8.heap.size]? = some (.cells #[.int .i64 x, .string (bs px), .slice ba bn bc, .int .u32 b1, .int .u32 b2_, .int .u32 b3, .int .i64 b4, .int .u32 b5, .int .u64 b6, .int .u64 b7, .int .u64 b8, .slice ka kn kc, .slice none 0 0] 43 (0, 0)) := by rw [hw9]; exact heap_alloc_new w8 _
   have B9 : Below w7.heap.size w7 w9 := B8.trans (B89.mono B8.size)
   have hst := fun w10 w12 ra' rc' => mul_step (w10 := w10) (w12 := w12) (ra' := ra') (rc' := rc') (by have h3w := H5.out.2.2.2.2.2.2.2.2; have hs4 := H5.out.2.2.2.2.2.2.2.1; have := H3.out.2.1; have := H1.out.2.1; have := H2.out.1.size; exact ⟨by omega, by omega, by omega⟩ : w.heap.size + 3 ≤ w3.heap.size ∧ w.heap.size + 3 ≤ b2 ∧ w.heap.size + 3 ≤ w4.heap.size) HS.out.bl HS.out.res HD6.out.1 HLR.out.1 HD6.out.2.1 HD6.out.2.2.1 HLR.out.2.1 HD6.out.2.2.2.1 hrd D7 G7 K7 B9
   have hS1 := (hst w9 w9 none 0).1
   have HST := Lib.hid hst
   have kB8 := (B8.block _ hS1.2.2.2.2.1).trans hS1.2.1
   have hS1' := hS1.2.2.2.2.2
   have own9 := own_below hS1.1 B9
   have kB9 := (B9.block _ hS1.2.2.2.2.1).trans hS1.2.1
   have hb9 : w.heap.size + 3 ≤ w9.heap.size := by have := hS1.2.2.2.1; omega
   have hBlt : w4.heap.size < w7.heap.size := hS1.2.2.2.2.1
   have hnx : ∀ j, (Value.slice ra k rc).ownBlock = some j → j ≠ w7.heap.size := fun j h => by have := hS1.2.2.2.2.2.1 j h; omega
   have c12 : w8.cell? ⟨w4.heap.size, 12, none⟩ = some (.slice ra k rc) := cell_of_row _ _ 12 _ 43 (0, 0) kB8
   have HR8 := Lib.hid (range_blk k8)
   have hC9 : ∀ j u, ([.int .i64 x, .string (bs px), .slice ba bn bc, .int .u32 b1, .int .u32 b2_, .int .u32 b3, .int .i64 b4, .int .u32 b5, .int .u64 b6, .int .u64 b7, .int .u64 b8, .slice ka kn kc, .slice none 0 0] : List Value)[j]? = some u → w9.cell? ((⟨w8.heap.size, 0, none⟩ : Addr).add j) = some u := fun j u hu => by
    rw [Addr.add_lit, Nat.zero_add]
    have := range_blk k9 j u hu
    rw [Nat.zero_add] at this
    exact this
   have hpl : ∀ u ∈ ([.int .i64 x, .string (bs px), .slice ba bn bc, .int .u32 b1, .int .u32 b2_, .int .u32 b3, .int .i64 b4, .int .u32 b5, .int .u64 b6, .int .u64 b7, .int .u64 b8, .slice ka kn kc, .slice none 0 0] : List Value), u.oneCell' = true := by intro u hu; simp only [List.mem_cons, List.not_mem_nil, or_false] at hu; rcases hu with rfl | rfl | rfl | rfl | rfl | rfl | rfl | rfl | rfl | rfl | rfl | rfl | rfl <;> rfl
   have hm1 : k + 1 ≤ maxLen := by unfold maxLen; omega
   have hm2 : (k + 1) * 152 ≤ 140737488355328 := by omega
   have HA := Lib.hid (And.intro own9 (And.intro hC9 (And.intro hpl (And.intro hm1 (And.intro hm2 hb9)))))
   have H8 := Lib.hid (And.intro k8 (And.intro hs8 (And.intro hs9 (And.intro B89 (And.intro kB9 (And.intro hBlt (And.intro hnx (And.intro hx (And.intro c3 c4)))))))))
   have HW8 := Lib.hid hw8
   have HW9 := Lib.hid hw9
   have hgB := HLR.out.2.1
   clear hrd D7 G7 K7 B9 hst hS1 kB8 hS1' own9 kB9 hb9 hBlt hnx hC9 hpl hm1 hm2 k8 hs8 hs9 k9 B8 B89 hx c3 c4 h7 hw8 hw9
   go_upto_region 14 with fail
   rw [← HW8.out]
   go_upto_region 15 with (first
    | (refine wpList_load_mid rfl 43 (.tmp 13) rfl w7.heap.size 0 rfl [.int .i64 x, .string (bs px), .slice ba bn bc, .int .u32 b1, .int .u32 b2_, .int .u32 b3, .int .i64 b4, .int .u32 b5, .int .u64 b6, .int .u64 b7, .int .u64 b8, .slice ka kn kc, .slice none 0 0] _ HR8.out Tryz.underlying43 rfl HSR.out ?_)
    | (at_builtin; rw [← HW9.out]; refine wpList_append_new rfl (.tmp 49) (.tmp 51) 41 rfl (w.heap.size + 3) 43 i0 (.agg #[.int .i64 0, .string ⟨#[]⟩, .slice none 0 0, .int .u32 0, .int .u32 0, .int .u32 0, .int .i64 0, .int .u32 0, .int .u64 0, .int .u64 0, .int .u64 0, .slice none 0 0, .slice none 0 0]) 13 152 Tryz.underlying41 hi0 hz0 hz1 hz2 rfl (by decide) (.slice ra k rc) k (LR.flatMap RawR.cells) rfl HA.out.1 ⟨w8.heap.size, 0, none⟩ 1 1 [.int .i64 x, .string (bs px), .slice ba bn bc, .int .u32 b1, .int .u32 b2_, .int .u32 b3, .int .i64 b4, .int .u32 b5, .int .u64 b6, .int .u64 b7, .int .u64 b8, .slice ka kn kc, .slice none 0 0] rfl rfl HA.out.2.1 HA.out.2.2.1 HA.out.2.2.2.1 HA.out.2.2.2.2.1 HA.out.2.2.2.2.2 ?_; intro v10 w10 hown10 hgrow10 hwh10; have kB10 := (hgrow10.block w4.heap.size (by have := H8.out.2.2.2.2.2.1; have := H8.out.2.1; have := H8.out.2.2.1; omega) (fun e => hgB _ e.symm rfl)).trans H8.out.2.2.2.2.1; have k10 := (hgrow10.block w7.heap.size (by have := H8.out.2.1; have := H8.out.2.2.1; omega) (fun e => H8.out.2.2.2.2.2.2.1 _ e.symm rfl)).trans ((H8.out.2.2.2.1.block w7.heap.size (by have := H8.out.2.1; omega)).trans H8.out.1); have q12 : w10.cell? ⟨w4.heap.size, 12, none⟩ = some (.slice ra k rc) := cell_of_row _ _ 12 _ 43 (0, 0) kB10; have f12 : w10.frozen? ⟨w4.heap.size, 12, none⟩ = false := (by simp [World.frozen?, kB10]); obtain ⟨ra', rc', hv2⟩ := row_form hown10; subst hv2; have H10 := Lib.hid (And.intro hown10 (And.intro hgrow10 (And.intro hwh10 (And.intro kB10 k10)))); clear hown10 hgrow10 hwh10 kB10 k10))
   obtain ⟨w11, hw11⟩ : ∃ w11, w11 = w10.setCell ⟨w4.heap.size, 12, none⟩ (.slice ra' (k + 1) rc') := ⟨_, rfl⟩
   rw [← hw11]
   have K11 : Kept (· = w4.heap.size) w10 w11 := by rw [hw11]; exact Kept.setCell (S := (· = w4.heap.size)) (p := ⟨w4.heap.size, 12, none⟩) (Kept.refl _ w10) rfl _
   have kB11 : w11.heap[w4.heap.size]? = some (.cells #[.int .i64 0, .string ⟨#[]⟩, .slice none 0 0, .int .u32 0, .int .u32 0, .int .u32 0, .int .i64 0, .int .u32 0, .int .u64 0, .int .u64 0, .int .u64 0, .slice none 0 0, .slice ra' (k + 1) rc'] 43 (0, 0)) := by rw [hw11]; simp [World.setCell, Array.getElem?_modify, H10.out.2.2.2.1]
   have hne7 : w7.heap.size ≠ w4.heap.size := by have := H8.out.2.2.2.2.2.1; omega
   have k11 := (K11.block w7.heap.size (lt_of_block H10.out.2.2.2.2) hne7).trans H10.out.2.2.2.2
   have y0 : w11.cell? ⟨w7.heap.size, 0, none⟩ = some (.int .i64 x) := cell_of_row _ _ 0 _ 43 (0, 0) k11
   have q0 : w11.cell? ⟨w4.heap.size, 0, none⟩ = some (.int .i64 0) := cell_of_row _ _ 0 _ 43 (0, 0) kB11
   have f0 : w11.frozen? ⟨w4.heap.size, 0, none⟩ = false := by simp [World.frozen?, kB11]
   have H11 := Lib.hid (And.intro K11 kB11)
   clear K11 kB11 k11 hw11
   go_upto_region 16 with fail
   obtain ⟨w12, hw12⟩ : ∃ w12, w12 = w11.setCell ⟨w4.heap.size, 0, none⟩ (.int .i64 x) := ⟨_, rfl⟩
   rw [← hw12]
   have K12 : Kept (· = w4.heap.size) w10 w12 := by rw [hw12]; exact Kept.setCell (S := (· = w4.heap.size)) (p := ⟨w4.heap.size, 0, none⟩) H11.out.1 rfl _
   have kB12 : w12.heap[w4.heap.size]? = some (.cells #[.int .i64 x, .string ⟨#[]⟩, .slice none 0 0, .int .u32 0, .int .u32 0, .int .u32 0, .int .i64 0, .int .u32 0, .int .u64 0, .int .u64 0, .int .u64 0, .slice none 0 0, .slice ra' (k + 1) rc'] 43 (0, 0)) := by rw [hw12]; simp [World.setCell, Array.getElem?_modify, H11.out.2]
   have z0 : w12.cell? ⟨w4.heap.size, 0, none⟩ = some (.int .i64 x) := cell_of_row _ _ 0 _ 43 (0, 0) kB12
   have hfin := (HST.out w10 w12 ra' rc').2 H10.out.1 H10.out.2.1 H10.out.2.2.1 K12
   have H12 := Lib.hid (And.intro hfin kB12)
   clear hfin K12 kB12 hw12 q0 f0 y0
   by_cases hx0 : x = 0
   ·have tx : (x != 0) = false := by rw [hx0]; rfl
    have h0 : opE root (runM root (at_ + 1) ⟨s, n⟩ M (ps.take k)) ⟨s, n⟩ p = 0 := by rw [← H8.out.2.2.2.2.2.2.2.1, hx0]
    have hnx := HS.out.next HP.out HLR.out.1 h0 (Int.le_trans HLR.out.2.2.1 H8.out.2.2.2.2.2.2.2.2.1) (by have := H8.out.2.2.2.2.2.2.2.2.2; have := HLR.out.2.2.2; omega) H12.out.1.1 H12.out.1.2.1 H12.out.1.2.2.1 H12.out.1.2.2.2.1 H12.out.1.2.2.2.2 (by have h := H12.out.2; rw [hx0] at h; exact h)
    have HNX := Lib.hid hnx
    have hlt := HLT.out
    clear hnx h0 hx0
    go_wp2_with fail
    go_roundw
    case rel => exact ⟨k + 1, by omega, by go_num, HNX⟩
    case measure => simp [intOf]; omega
   ·have tx : (x != 0) = true := by simpa using hx0
    have HX0 := Lib.hid hx0
    have kr12 := H12.out.1.2.2.2.1
    have ht12 : w12.there (w.heap.size + 2) 0 13 := there_of kr12 (by simp)
    have HT12 := Lib.hid (And.intro ht12 kr12)
    have HKV := Lib.hid (range_blk (w := w12.drew) H12.out.2)
    have HON : Hid ((#[.int .i64 x, .string ⟨#[]⟩, .slice none 0 0, .int .u32 0, .int .u32 0, .int .u32 0, .int .i64 0, .int .u32 0, .int .u64 0, .int .u64 0, .int .u64 0, .slice none 0 0, .slice ra' (k + 1) rc'] : Array Value).all (·.oneCell') = true) := Lib.hid (by simp [Value.oneCell'])
    clear hx0 kr12 ht12
    go_wp2_with fail
    refine wp_region_held_drew (S := fun w' => World.rangeAt w' w4.heap.size 0 [.int .i64 x, .string ⟨#[]⟩, .slice none 0 0, .int .u32 0, .int .u32 0, .int .u32 0, .int .i64 0, .int .u32 0, .int .u64 0, .int .u64 0, .int .u64 0, .slice none 0 0, .slice ra' (k + 1) rc']) (by kernel_rfl) HKV.out (fun hS => ?_)
    refine tL 0 rfl hS 43 (.tmp 10) w4.heap.size 0 [.int .i64 x, .string ⟨#[]⟩, .slice none 0 0, .int .u32 0, .int .u32 0, .int .u32 0, .int .i64 0, .int .u32 0, .int .u64 0, .int .u64 0, .int .u64 0, .slice none 0 0, .slice ra' (k + 1) rc'] (fun _ h => h) Tryz.underlying43 HSR.out ?_
    refine tI 1 rfl hS ?_
    simp only [putS]
    refine sI 2 rfl 43 (.tmp 7) (.tmp 64) (w.heap.size + 2) 0 #[.int .i64 x, .string ⟨#[]⟩, .slice none 0 0, .int .u32 0, .int .u32 0, .int .u32 0, .int .i64 0, .int .u32 0, .int .u64 0, .int .u64 0, .int .u64 0, .slice none 0 0, .slice ra' (k + 1) rc'] HT12.out.1 HSR.out HON.out (range_set hS (by have := H5.out.2.2.2.2.2.2.2; omega)) ?_
    simp only [putS]
    refine wpAnyH_done (by kernel_rfl) ?_ _
    go_wp2_with fail
    refine bodyPost_ret (results_tmp_cell_mid rfl _ _ (w.heap.size + 2) 0 [.int .i64 x, .string ⟨#[]⟩, .slice none 0 0, .int .u32 0, .int .u32 0, .int .u32 0, .int .i64 0, .int .u32 0, .int .u64 0, .int .u64 0, .int .u64 0, .slice none 0 0, .slice ra' (k + 1) rc'] _ rfl (World.rangeAt_setCells_same _ _ _ _ HT12.out.1) Tryz.underlying43 rfl HSR.out) rfl ?_
    obtain ⟨D12, RR12, b12, r12, hn12⟩ := H12.out.1
    have K9 : Kept (· = w.heap.size + 2) w12.drew (w12.drew.setCells (w.heap.size + 2) 0 [.int .i64 x, .string ⟨#[]⟩, .slice none 0 0, .int .u32 0, .int .u32 0, .int .u32 0, .int .i64 0, .int .u32 0, .int .u64 0, .int .u64 0, .int .u64 0, .slice none 0 0, .slice ra' (k + 1) rc']) := Kept.setCells (S := (· = w.heap.size + 2)) (p := w.heap.size + 2) rfl _ 0 (Kept.refl _ w12.drew)
    have B09 : Below w.heap.size w (w12.drew.setCells (w.heap.size + 2) 0 [.int .i64 x, .string ⟨#[]⟩, .slice none 0 0, .int .u32 0, .int .u32 0, .int .u32 0, .int .i64 0, .int .u32 0, .int .u64 0, .int .u64 0, .int .u64 0, .slice none 0 0, .slice ra' (k + 1) rc']) := b12.drew.trans (K9.below b12.size (fun j e => by have e : j = w.heap.size + 2 := e; omega))
    have hEx := H8.out.2.2.2.2.2.2.2.1
    obtain ⟨e1, e2, e3, e4⟩ := mul_bad (root := root) (at_ := at_) (M := M) (who := ⟨s, n⟩) (l := ⟨ok, op, ld, lv, ls, le⟩) (ps := ps) HG.out.2.1 HP.out HS.out.run (by rw [← hEx]; exact HX0.out)
    rw [← hEx] at e1
    have RR9 := (RR12.keptS (Kept.ofBelow (S := fun _ => False) (Below.refl _ w12).drew) (fun _ _ _ h => h) (fun _ _ h => h)).keptS K9 (fun j hj _ e => by have e : j = w.heap.size + 2 := e; have := hj.1; omega) (fun j hj e => by have e : j = w.heap.size + 2 := e; have := (RR12.own.lt j hj).1; omega)
    obtain ⟨pa, pc, hv, hra⟩ := RR9.lies (lo' := From w.heap.size) (fun j hj _ => by have := hj.1; show w.heap.size ≤ j; omega) (fun j hj => by show w.heap.size ≤ j; omega)
    refine ⟨_, _, rfl, ?_, ?_, B09⟩
    ·rw [e2]
     exact EffsOut.nil _
    ·rw [e1, e3, e4]
     refine ⟨zRaw, none, 0, pa, pc, ?_, zReads _ _, StrLo.nil _ _ _, hra⟩
     rw [hv]
     rfl
  ·obtain rfl : qn = k := by omega
   have hfull : ps.take qn = ps := List.take_of_length_le (by have := HG.out.2.2.1; omega)
   have hrun := HS.out.run
   have hst := HS.out.st
   rw [hfull] at hrun hst
   obtain ⟨v, L, cnt, ra, rc, LR, D, c1, c2, hlr, RR, kB, hgB⟩ := hst
   have z0 : wr.cell? ⟨w4.heap.size, 0, none⟩ = some (.int .i64 0) := cell_of_row _ _ 0 _ 43 (0, 0) kB
   have zv : wr.cell? ⟨w3.heap.size, 4, none⟩ = some v := cell_of_row _ _ 4 _ 82 (0, 0) D.blk
   have HKV : Hid (World.rangeAt wr.drew w4.heap.size 0 [.int .i64 0, .string ⟨#[]⟩, .slice none 0 0, .int .u32 0, .int .u32 0, .int .u32 0, .int .i64 0, .int .u32 0, .int .u64 0, .int .u64 0, .int .u64 0, .slice none 0 0, .slice ra qn rc] ∧ wr.drew.cell? ⟨w3.heap.size, 4, none⟩ = some v) := Lib.hid ⟨range_blk kB, zv⟩
   have kr := HS.out.res
   have ht : wr.there (w.heap.size + 2) 0 13 := there_of kr (by simp)
   have HT := Lib.hid (And.intro ht kr)
   have HON : Hid ((#[.int .i64 0, .string ⟨#[]⟩, .slice none 0 0, .int .u32 0, .int .u32 0, .int .u32 0, .int .i64 0, .int .u32 0, .int .u64 0, .int .u64 0, .int .u64 0, .slice none 0 0, .slice ra qn rc] : Array Value).all (·.oneCell') = true) := Lib.hid (by simp [Value.oneCell'])
   have HE := Lib.hid (And.intro hrun (And.intro D (And.intro RR hlr)))
   clear hfull hrun D RR kB hgB kr ht zv hlr c1 c2 hlt hk
   go_wp2_with fail
   refine wp_region_held_drew (S := fun w' => World.rangeAt w' w4.heap.size 0 [.int .i64 0, .string ⟨#[]⟩, .slice none 0 0, .int .u32 0, .int .u32 0, .int .u32 0, .int .i64 0, .int .u32 0, .int .u64 0, .int .u64 0, .int .u64 0, .slice none 0 0, .slice ra qn rc] ∧ w'.cell? ⟨w3.heap.size, 4, none⟩ = some v) (by kernel_rfl) HKV.out (fun hS => ?_)
   have yv : ∀ w', (World.rangeAt w' w4.heap.size 0 [.int .i64 0, .string ⟨#[]⟩, .slice none 0 0, .int .u32 0, .int .u32 0, .int .u32 0, .int .i64 0, .int .u32 0, .int .u64 0, .int .u64 0, .int .u64 0, .slice none 0 0, .slice ra qn rc] ∧ w'.cell? ⟨w3.heap.size, 4, none⟩ = some v) → w'.cell? ⟨w3.heap.size, 4, none⟩ = some v := fun w' h => h.2
   refine tI 0 rfl hS ?_
   refine tI 1 rfl hS ?_
   refine tI 2 rfl hS ?_
   refine tJ 3 rfl hS yv ?_
   simp only [putS]
   refine tL 4 rfl hS 43 (.tmp 10) w4.heap.size 0 [.int .i64 0, .string ⟨#[]⟩, .slice none 0 0, .int .u32 0, .int .u32 0, .int .u32 0, .int .i64 0, .int .u32 0, .int .u64 0, .int .u64 0, .int .u64 0, .slice none 0 0, .slice ra qn rc] (fun _ h => h.1) Tryz.underlying43 HSR.out ?_
   refine tI 5 rfl hS ?_
   simp only [putS]
   refine sI 6 rfl 43 (.tmp 7) (.tmp 69) (w.heap.size + 2) 0 #[.int .i64 0, .string ⟨#[]⟩, .slice none 0 0, .int .u32 0, .int .u32 0, .int .u32 0, .int .i64 0, .int .u32 0, .int .u64 0, .int .u64 0, .int .u64 0, .slice none 0 0, .slice ra qn rc] HT.out.1 HSR.out HON.out ⟨range_set hS.1 (by have := H5.out.2.2.2.2.2.2.2; omega), (kept_cells (by have := H5.out.2.2.2.2.2.2.2; show w3.heap.size ≠ w.heap.size + 2; omega) hS.2)⟩ ?_
   simp only [putS]
   refine wpAnyH_done (by kernel_rfl) ?_ _
   go_wp2_with fail
   refine bodyPost_ret (results_tmp_cell_mid rfl _ _ (w.heap.size + 2) 0 [.int .i64 0, .string ⟨#[]⟩, .slice none 0 0, .int .u32 0, .int .u32 0, .int .u32 0, .int .i64 0, .int .u32 0, .int .u64 0, .int .u64 0, .int .u64 0, .slice none 0 0, .slice ra qn rc] _ rfl (World.rangeAt_setCells_same _ _ _ _ HT.out.1) Tryz.underlying43 rfl HSR.out) rfl ?_
   obtain ⟨hrun, D, RR, hlr⟩ := HE.out
   have h3w := H5.out.2.2.2.2.2.2.2.2
   have b12 := HS.out.bl
   have K9 : Kept (· = w.heap.size + 2) wr.drew (wr.drew.setCells (w.heap.size + 2) 0 [.int .i64 0, .string ⟨#[]⟩, .slice none 0 0, .int .u32 0, .int .u32 0, .int .u32 0, .int .i64 0, .int .u32 0, .int .u64 0, .int .u64 0, .int .u64 0, .slice none 0 0, .slice ra qn rc]) := Kept.setCells (S := (· = w.heap.size + 2)) (p := w.heap.size + 2) rfl _ 0 (Kept.refl _ wr.drew)
   have B09 : Below w.heap.size w (wr.drew.setCells (w.heap.size + 2) 0 [.int .i64 0, .string ⟨#[]⟩, .slice none 0 0, .int .u32 0, .int .u32 0, .int .u32 0, .int .i64 0, .int .u32 0, .int .u64 0, .int .u64 0, .int .u64 0, .slice none 0 0, .slice ra qn rc]) := b12.drew.trans (K9.below b12.size (fun j e => by have e : j = w.heap.size + 2 := e; omega))
   obtain ⟨e1, e2, e3, e4⟩ := mul_ok (root := root) (at_ := at_) (M := M) (who := ⟨s, n⟩) (l := ⟨ok, op, ld, lv, ls, le⟩) (ps := ps) HG.out.2.1 hrun
   have D9 := (D.below (Below.refl _ wr).drew).turn (w := wr.drew) HT.out.2 zr_free (by decide) (by decide) (by decide) (by omega) K9
   have RR9 := (RR.keptS (Kept.ofBelow (S := fun _ => False) (Below.refl _ wr).drew) (fun _ _ _ h => h) (fun _ _ h => h)).keptS K9 (fun j hj _ e => by have e : j = w.heap.size + 2 := e; have := hj.1; omega) (fun j hj e => by have e : j = w.heap.size + 2 := e; have := (RR.own.lt j hj).1; omega)
   obtain ⟨pa, pc, hv, hra⟩ := RR9.lies (lo' := From w.heap.size) (fun j hj _ => by have := hj.1; show w.heap.size ≤ j; omega) (fun j hj => by show w.heap.size ≤ j; omega)
   refine ⟨_, _, rfl, ?_, ?_, B09⟩
   ·rw [e2]
    exact D9.row.out
   ·rw [e1, e3, e4]
    refine ⟨zRaw, none, 0, pa, pc, ?_, zReads _ _, StrLo.nil _ _ _, hra⟩
    rw [hv]
    rfl
end
end Go.Proofs.YtnclkfhdpkkakaaGreatDoor
