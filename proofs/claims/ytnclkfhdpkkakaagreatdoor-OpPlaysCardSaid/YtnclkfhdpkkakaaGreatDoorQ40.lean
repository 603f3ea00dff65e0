/-
  The reference's own: a tree like one, walked. The memory between two parts of a multi that the reference does. A part that the reference has done: what lies behind it; append of many, one of a list of operations. The reference's Do, walked: what may not be; one operation.
-/
import Derived.Test.YtnclkfhdpkkakaaGreatDoorQ34
import Derived.Test.YtnclkfhdpkkakaaGreatDoorQ39
import Derived.Test.YtnclkfhdpkkakaaGreatDoorQ24
import Derived.Test.YtnclkfhdpkkakaaGreatDoorQ33
import Derived.Test.YtnclkfhdpkkakaaGreatDoorQ28
import Derived.Test.YtnclkfhdpkkakaaGreatDoorQ38
import Derived.Test.YtnclkfhdpkkakaaGreatDoorQ29
namespace Go.Proofs.YtnclkfhdpkkakaaGreatDoor
set_option linter.unusedVariables false
set_option linter.unusedSimpArgs false
open Go Go.RowKit Go.Shelf Go.MapKept Go.ChangeMaps Go.Maps Go.Sort
section
variable {w : World} {Z : Nat → Prop} {rb : Nat} {root : Bytes} {cnt : Int} {ao : Option Addr} {c0 : Nat} {R : List RawA} {M L : List (Bytes × Nd)}
set_option maxRecDepth 100000 in
set_option maxHeartbeats 8000000 in
theorem RefAt.q5own {wb : World} (Tb : RefAt wb Z rb root cnt ao c0 R L) (hbb : Below wb.heap.size wb w) (H : Rel M L) (I : Inv root M) (F : Fit M) :
  Calls Tryz.prog 53 #[.pointer (some ⟨rb, 0, none⟩)] w fun e w' => ∃ xb ao' c', e = .returned (.pointer (some ⟨xb, 0, none⟩)) ∧ w.heap.size ≤ xb ∧ RefAt w' (fun j => j = xb ∨ (wb.heap.size ≤ j ∧ j < w.heap.size)) xb root cnt ao' c' R L ∧ Below w.heap.size w w' := by
 have T := Tb.below hbb
 have HTB := Lib.hid (And.intro Tb hbb)
 clear Tb hbb
 obtain ⟨i0, hi0, hz0, hz1, hz2⟩ := info_parts infoAt
 obtain ⟨NR, hNR⟩ : ∃ NR, NR = R.length := ⟨_, rfl⟩
 have hNL : R.length = M.length := by rw [T.like.1, H.len I.nodup]
 have hR1 : R.length ≤ 48 := by rw [hNL]; exact F.len
 have hR0 : 0 < R.length := by rw [T.like.1]; exact H.pos I
 obtain ⟨r0, x0, b, off, _, _, hao, hbl, hnz, _, _, _⟩ := T.node (i := 0) hR0
 subst hao
 have hcs := T.at_.cells 0 (R' := R) (fun k r h => by rw [Nat.zero_add]; exact h)
 rw [Nat.zero_mul, Nat.add_zero] at hcs
 have y0 : ∀ w', Below w.heap.size w w' → w'.cell? ⟨rb, 0, none⟩ = some (.string (bs root)) := fun w' hb => (T.below hb).c0
 have y1 : ∀ w', Below w.heap.size w w' → w'.cell? ⟨rb, 1, none⟩ = some (.int .u64 cnt) := fun w' hb => (T.below hb).c1
 have y2 : ∀ w', Below w.heap.size w w' → w'.cell? ⟨rb, 2, none⟩ = some (.slice (some ⟨b, off, none⟩) NR c0) := fun w' hb => by rw [hNR]; exact (T.below hb).c2
 have hm1 : 0 + NR ≤ maxLen := by unfold maxLen; omega
 have hm2 : (0 + NR) * 96 ≤ 140737488355328 := by omega
 have hfl : (R.flatMap RawA.cells).length = NR * 10 := by rw [flatA_len, hNR]
 have HT := Lib.hid (And.intro T (And.intro hcs (And.intro hNR hfl)))
 have HI := Lib.hid (And.intro hi0 (And.intro hz0 (And.intro hz1 hz2)))
 clear T H I F hNL hR1 hR0 hbl hnz hcs hNR hfl hi0 hz0 hz1 hz2
 go_enter Tryz.func53, Tryz.ntmps53
 go_wp2_with fail
 refine wp_region_held_drew (S := Below w.heap.size w) (by kernel_rfl) (Below.refl _ w).drew (fun hS => ?_)
 refine tI 0 rfl hS ?_
 refine tI 1 rfl hS ?_
 refine tI 2 rfl hS ?_
 refine tJ 3 rfl hS y0 ?_
 simp only [putS]
 refine tI 4 rfl hS ?_
 refine tI 5 rfl hS ?_
 refine tI 6 rfl hS ?_
 refine tJ 7 rfl hS y1 ?_
 simp only [putS]
 refine tI 8 rfl hS ?_
 refine tI 9 rfl hS ?_
 refine tI 10 rfl hS ?_
 refine tI 11 rfl hS ?_
 simp only [putS]
 refine tJ 12 rfl hS y2 ?_
 simp only [putS]
 refine ran_in 13 rfl (by kernel_rfl) (by rfl) ?_
 refine wp_append_any (.tmp 12) (.tmp 16) 104 rfl w.heap.size 103 i0 (.agg #[.string ⟨#[]⟩, .slice none 0 0, .int .u32 0, .int .u32 0, .int .u32 0, .int .i64 0, .int .u32 0, .int .u64 0, .int .u64 0, .int .u64 0]) 10 96 Tryz.underlying104 HI.out.1 HI.out.2.1 HI.out.2.2.1 HI.out.2.2.2 rfl (by decide) (.slice none 0 0) 0 [] rfl (World.ownsRow_nil _ _ _ _) (some ⟨b, off, none⟩) NR c0 (R.flatMap RawA.cells) rfl (fun h => by cases h) HT.out.2.2.2 (fun ad e j u hu => by cases e; exact HT.out.2.1 j u hu) (flatA_plain _) hm1 hm2 (Nat.le_refl _) ?_
 intro v5 w5 own5 grow5 wh5
 have B5 : Below w.heap.size w w5 := (Below.refl _ w).drew.grown grow5 (Nat.le_refl _) (fun g hg => by cases hg)
 rw [List.nil_append, Nat.zero_add] at own5
 obtain ⟨aw, cw, hvw, hatw, hcw⟩ := atRow_lies (R := R) (Z := fun k => k < w.heap.size) (by rw [← HT.out.2.2.1]; exact own5) (fun k hk e => by omega)
 subst hvw
 refine ⟨B5, ?_⟩
 try dsimp only
 simp only [putS]
 refine tI 14 rfl B5 ?_
 simp only [putS]
 have B6 : Below w.heap.size w (w5.alloc (.cells #[.string (bs root), .int .u64 cnt, .slice aw R.length cw] 106)) := belowA B5 _
 refine gI 15 rfl (.pointer (some ⟨w5.heap.size, 0, none⟩)) (w5.alloc (.cells #[.string (bs root), .int .u64 cnt, .slice aw R.length cw] 106)) B6 ?_
 simp only [putS]
 refine tI 16 rfl B6 ?_
 simp only [putS]
 refine wpAnyH_done (by kernel_rfl) ?_ _
 have hb6 : Below w5.heap.size w5 (w5.alloc (.cells #[.string (bs root), .int .u64 cnt, .slice aw R.length cw] 106)) := belowA (Below.refl _ w5) _
 have HQ := Lib.hid (And.intro hatw (And.intro hcw (And.intro B5 (And.intro B6 hb6))))
 clear hS hatw hcw B5 B6 hb6 own5 grow5 wh5 y0 y1 y2
 go_wp2
 go_ret
 refine ⟨w5.heap.size, aw, cw, rfl, HQ.out.2.2.1.size, ⟨heap_alloc_new w5 _, fun k r hk => ?_, ?_, HQ.out.2.1⟩, HQ.out.2.2.2.1⟩
 ·obtain ⟨b', off', e1, e2, e3, e4⟩ := HQ.out.1 k r hk
  exact ⟨b', off', e1, fun e => by
   rcases e with e | e
   ·omega
   ·exact e2 e.2, Nat.lt_of_lt_of_le e3 HQ.out.2.2.2.2.size, range_kept e4 HQ.out.2.2.2.2 e3⟩
 ·refine ⟨HT.out.1.like.1, fun k r x h1 h2 => ?_⟩
  obtain ⟨g1, g2⟩ := HTB.out.1.like.2 k r x h1 h2
  refine ⟨g1, (g2.monoB (lo' := fun k => ¬ (k = w5.heap.size ∨ (wb.heap.size ≤ k ∧ k < w.heap.size))) (fun j _ hj e => ?_)).below (HTB.out.2.trans (HQ.out.2.2.2.1.mono HTB.out.2.size))⟩
  have := HQ.out.2.2.1.size
  have := HTB.out.2.size
  omega
end
end Go.Proofs.YtnclkfhdpkkakaaGreatDoor
namespace Go.Proofs.YtnclkfhdpkkakaaGreatDoor
set_option linter.unusedVariables false
set_option linter.unusedSimpArgs false
open Go Go.RowKit Go.Shelf Go.MapKept Go.ChangeMaps Go.Maps Go.Sort
theorem RefAt.rezS {w : World} {Z Z' : Nat → Prop} {rb : Nat} {root : Bytes} {cnt : Int} {ao : Option Addr} {c0 : Nat} {R : List RawA} {L : List (Bytes × Nd)} (T : RefAt w Z rb root cnt ao c0 R L) (h : ∀ k, k < w.heap.size → Z' k → Z k) : RefAt w Z' rb root cnt ao c0 R L := by
 refine ⟨T.blk, fun k r hr => ?_, ⟨T.like.1, fun k r x h1 h2 => ?_⟩, T.cap⟩
 ·obtain ⟨b, off, e1, e2, e3, e4⟩ := T.at_ k r hr
  exact ⟨b, off, e1, fun hz => e2 (h b e3 hz), e3, e4⟩
 ·obtain ⟨g1, g2⟩ := T.like.2 k r x h1 h2
  exact ⟨g1, g2.monoB (fun j hj hlt hz => hj (h j hlt hz))⟩
def ZQ (w w1 : World) (xb B : Nat) (vr ve : Value) : Nat → Prop := fun j => j = xb ∨ j = B ∨ (w.heap.size ≤ j ∧ j < w1.heap.size) ∨ vr.ownBlock = some j ∨ ve.ownBlock = some j
def LoQ (w w1 : World) (xb B : Nat) (v : Value) : Nat → Prop := fun j => j ≠ xb ∧ j ≠ B ∧ ¬ (w.heap.size ≤ j ∧ j < w1.heap.size) ∧ v.ownBlock ≠ some j
def boxQ (e : Int) (ra : Option Addr) (k rc : Nat) : Array Value := #[.int .i64 e, .string ⟨#[]⟩, .slice none 0 0, .int .u32 0, .int .u32 0, .int .u32 0, .int .i64 0, .int .u32 0, .int .u64 0, .int .u64 0, .int .u64 0, .slice none 0 0, .slice ra k rc]
structure QB (w w1 wr : World) (xb B : Nat) (root : Bytes) (cx : Int) (Mx : List (Bytes × Nd)) (X : List Eff) (Y : List Rep) (ra : Option Addr) (rc k : Nat) (v : Value) (LE : List RawE) (LR : List RawR) : Prop where
 hx : w1.heap.size ≤ xb ∧ w1.heap.size ≤ B ∧ w.heap.size + 3 ≤ w1.heap.size
 bl : Below w1.heap.size w1 wr
 tree : ∃ ao c R L, RefAt wr (ZQ w w1 xb B (.slice ra k rc) v) xb root cx ao c R L ∧ Rel Mx L
 rep : RepRow wr w1.heap.size (LoQ w w1 xb B v) (.slice ra k rc) LR Y
 hk : LR.length = k
 kB : wr.heap[B]? = some (.cells (boxQ 0 ra k rc) 43 (0, 0))
 rB : ∀ j, (Value.slice ra k rc).ownBlock = some j → j ≠ B
 own : wr.ownsRow w1.heap.size 88 11 v LE.length (LE.flatMap RawE.cells)
 like : LikeE wr (fun j => ¬ ZQ w w1 xb B (.slice ra k rc) v j) LE X
section
variable {w w1 wr : World} {xb B : Nat} {root : Bytes} {cx : Int} {Mx : List (Bytes × Nd)} {X : List Eff} {Y : List Rep} {ra : Option Addr} {rc k : Nat} {v : Value} {LE : List RawE} {LR : List RawR}
theorem QB.xblk (Q : QB w w1 wr xb B root cx Mx X Y ra rc k v LE LR) : ∃ cs, wr.heap[xb]? = some (.cells cs 106 (0, 0)) := by
 obtain ⟨ao, c, R, L, T, _⟩ := Q.tree
 exact ⟨_, T.blk⟩
theorem QB.apart (Q : QB w w1 wr xb B root cx Mx X Y ra rc k v LE LR) : xb ≠ B ∧ (Value.slice ra k rc).ownBlock ≠ some xb ∧ v.ownBlock ≠ some xb ∧ v.ownBlock ≠ some B ∧ (∀ j, (Value.slice ra k rc).ownBlock = some j → v.ownBlock ≠ some j) := by
 obtain ⟨cs, hx⟩ := Q.xblk
 refine ⟨fun e => ?_, own_type Q.rep.own hx (by decide), own_type Q.own hx (by decide), own_type Q.own Q.kB (by decide), fun j hj => ?_⟩
 ·subst e
  rw [Q.kB] at hx
  injection hx with hx
  injection hx with _ h2
  exact absurd h2 (by decide)
 ·obtain ⟨cur, hc⟩ := own_blk Q.rep.own hj
  exact own_type Q.own hc (by decide)
theorem QB.below (Q : QB w w1 wr xb B root cx Mx X Y ra rc k v LE LR) {w' : World} (hb : Below wr.heap.size wr w') : QB w w1 w' xb B root cx Mx X Y ra rc k v LE LR := by
 obtain ⟨ao, c, R, L, T, H⟩ := Q.tree
 refine ⟨Q.hx, Q.bl.trans (hb.mono Q.bl.size), ⟨ao, c, R, L, T.below hb, H⟩, Q.rep.keptS (Kept.ofBelow (S := fun _ => False) hb) (fun _ _ _ h => h) (fun _ _ h => h), Q.hk, (hb.block B (lt_of_block Q.kB)).trans Q.kB, Q.rB, own_below Q.own hb, Q.like.below hb⟩
theorem QB.applied (Q : QB w w1 wr xb B root cx Mx X Y ra rc k v LE LR) {w' : World} {cx' : Int} {Mx' : List (Bytes × Nd)} (hT : ∃ ao c R L, RefAt w' (ZQ w w1 xb B (.slice ra k rc) v) xb root cx' ao c R L ∧ Rel Mx' L) (hk : Kept (· = xb) wr w') : QB w w1 w' xb B root cx' Mx' X Y ra rc k v LE LR := by
 obtain ⟨a1, a2, a3, a4, a5⟩ := Q.apart
 have hx := Q.hx
 refine ⟨Q.hx, Q.bl.trans (hk.below Q.bl.size (fun j e => by have e : j = xb := e; omega)), hT, Q.rep.keptS hk (fun j hj _ e => hj.1 e) (fun j hj e => a2 (by rw [hj, show j = xb from e])), Q.hk, (hk.block B (lt_of_block Q.kB) (fun e => a1 (show B = xb from e).symm)).trans Q.kB, Q.rB, own_kept Q.own hk (fun g hg e => a3 (by rw [hg, show g = xb from e])), Q.like.keptS hk (fun j hj e => hj (.inl e))⟩
theorem QB.effs (Q : QB w w1 wr xb B root cx Mx X Y ra rc k v LE LR) {w' : World} {v' : Value} {Ln : List RawE} {E : List Eff} (hL : LikeE wr (fun j => ¬ ZQ w w1 xb B (.slice ra k rc) v j) Ln E)
  (hown : w'.ownsRow w1.heap.size 88 11 v' (LE ++ Ln).length ((LE ++ Ln).flatMap RawE.cells)) (hg : wr.grownBy w' v.ownBlock) (hw : ∀ j, v'.ownBlock = some j → v.ownBlock = some j ∨ wr.heap.size ≤ j) : QB w w1 w' xb B root cx Mx (X ++ E) Y ra rc k v' (LE ++ Ln) LR := by
 obtain ⟨a1, a2, a3, a4, a5⟩ := Q.apart
 have hx := Q.hx
 have KG := kept_grown hg
 obtain ⟨ao, c, R, L, T, H⟩ := Q.tree
 have hvl : ∀ j, v.ownBlock = some j → w1.heap.size ≤ j := fun j h => (Q.own.lt j h).1
 have T1 := T.rezS (Z' := fun j => ZQ w w1 xb B (.slice ra k rc) v j ∨ v'.ownBlock = some j) (fun j hj h => by
  rcases h with h | h
  ·exact h
  ·rcases hw j h with h2 | h2
   ·exact .inr (.inr (.inr (.inr h2)))
   ·omega)
 have T2 := T1.kept KG (fun j hj => .inl (.inr (.inr (.inr (.inr hj))))) (fun h => a3 h)
 have T3 := T2.rezS (Z' := ZQ w w1 xb B (.slice ra k rc) v') (fun j hj h => by
  rcases h with h | h | h | h | h
  ·exact .inl (.inl h)
  ·exact .inl (.inr (.inl h))
  ·exact .inl (.inr (.inr (.inl h)))
  ·exact .inl (.inr (.inr (.inr (.inl h))))
  ·exact .inr h)
 have R1 := Q.rep.mono (lo' := fun j => LoQ w w1 xb B v j ∧ j < wr.heap.size) (fun j h1 h2 => ⟨h1, h2⟩)
 have R2 := R1.keptS KG (fun j hj _ e => hj.1.2.2.2 e) (fun j hj e => a5 j hj e)
 have R3 := R2.mono (lo' := LoQ w w1 xb B v') (fun j hj _ => ⟨hj.1.1, hj.1.2.1, hj.1.2.2.1, fun e => by
  rcases hw j e with h | h
  ·exact hj.1.2.2.2 h
  ·have := hj.2; omega⟩)
 refine ⟨Q.hx, Q.bl.trans (KG.below Q.bl.size (fun j e => hvl j e)), ⟨ao, c, R, L, T3, H⟩, R3, Q.hk, (KG.block B (lt_of_block Q.kB) (fun e => a4 e)).trans Q.kB, Q.rB, hown, ?_⟩
 have L1 := (Q.like.append hL).both (lo' := fun j => ¬ ZQ w w1 xb B (.slice ra k rc) v j ∧ j < wr.heap.size) (fun j h1 h2 => ⟨h1, h2⟩)
 have L2 := L1.keptS KG (fun j hj e => hj.1 (.inr (.inr (.inr (.inr e)))))
 exact L2.both (fun j hj _ h => by
  rcases h with h | h | h | h | h
  ·exact hj.1 (.inl h)
  ·exact hj.1 (.inr (.inl h))
  ·exact hj.1 (.inr (.inr (.inl h)))
  ·exact hj.1 (.inr (.inr (.inr (.inl h))))
  ·rcases hw j h with h2 | h2
   ·exact hj.1 (.inr (.inr (.inr (.inr h2))))
   ·have := hj.2; omega)
theorem QB.reply (Q : QB w w1 wr xb B root cx Mx X Y ra rc k v LE LR) {w' w'' : World} {ra' : Option Addr} {rc' : Nat} {rr : RawR} {y : Rep} (hr : ReadsR wr (fun j => LoQ w w1 xb B v j ∧ (Value.slice ra k rc).ownBlock ≠ some j) rr y)
  (hown : w'.ownsRow w1.heap.size 43 13 (.slice ra' (k + 1) rc') (k + 1) (LR.flatMap RawR.cells ++ rr.cells)) (hg : wr.grownBy w' (Value.slice ra k rc).ownBlock) (hw : ∀ j, (Value.slice ra' (k + 1) rc').ownBlock = some j → (Value.slice ra k rc).ownBlock = some j ∨ wr.heap.size ≤ j)
  (h2 : w'' = w'.setCell ⟨B, 12, none⟩ (.slice ra' (k + 1) rc')) : QB w w1 w'' xb B root cx Mx X (Y ++ [y]) ra' rc' (k + 1) v LE (LR ++ [rr]) := by
 obtain ⟨a1, a2, a3, a4, a5⟩ := Q.apart
 have hx := Q.hx
 have KG := kept_grown hg
 obtain ⟨ao, c, R, L, T, H⟩ := Q.tree
 have hrl : ∀ j, (Value.slice ra k rc).ownBlock = some j → w1.heap.size ≤ j := fun j h => (Q.rep.own.lt j h).1
 have T1 := T.rezS (Z' := fun j => ZQ w w1 xb B (.slice ra k rc) v j ∨ (Value.slice ra' (k + 1) rc').ownBlock = some j) (fun j hj h => by
  rcases h with h | h
  ·exact h
  ·rcases hw j h with h2 | h2
   ·exact .inr (.inr (.inr (.inl h2)))
   ·omega)
 have T2 := T1.kept KG (fun j hj => .inl (.inr (.inr (.inr (.inl hj))))) (fun h => a2 h)
 have T3 := T2.rezS (Z' := ZQ w w1 xb B (.slice ra' (k + 1) rc') v) (fun j hj h => by
  rcases h with h | h | h | h | h
  ·exact .inl (.inl h)
  ·exact .inl (.inr (.inl h))
  ·exact .inl (.inr (.inr (.inl h)))
  ·exact .inr h
  ·exact .inl (.inr (.inr (.inr (.inr h)))))
 have K2 : Kept (· = B) w' w'' := by rw [h2]; exact Kept.setCell (S := (· = B)) (p := ⟨B, 12, none⟩) (Kept.refl _ w') rfl _
 have T4 := T3.kept K2 (fun j hj => .inr (.inl hj)) (fun h => a1 h)
 have R1 := Q.rep.more (Below.refl _ wr) hr (by rw [Q.hk]; exact hown) hg hw
 have hnB : ∀ j, (Value.slice ra' (k + 1) rc').ownBlock = some j → j ≠ B := fun j h => by
  rcases hw j h with h1 | h1
  ·exact Q.rB j h1
  ·have := lt_of_block Q.kB; omega
 have R2 := R1.keptS K2 (fun j hj _ e => hj.2.1 e) (fun j hj e => hnB j hj e)
 have kB1 := (KG.block B (lt_of_block Q.kB) (fun h => Q.rB B h rfl)).trans Q.kB
 have b1 := Q.bl.trans (KG.below Q.bl.size (fun j e => hrl j e))
 have L1 := Q.like.both (lo' := fun j => ¬ ZQ w w1 xb B (.slice ra k rc) v j ∧ j < wr.heap.size) (fun j h1 h2 => ⟨h1, h2⟩)
 have L2 := (L1.keptS KG (fun j hj e => hj.1 (.inr (.inr (.inr (.inl e)))))).keptS K2 (fun j hj e => hj.1 (.inr (.inl e)))
 have L3 : LikeE w'' (fun j => ¬ ZQ w w1 xb B (.slice ra' (k + 1) rc') v j) LE X := L2.both (fun j hj _ h => by
  rcases h with h | h | h | h | h
  ·exact hj.1 (.inl h)
  ·exact hj.1 (.inr (.inl h))
  ·exact hj.1 (.inr (.inr (.inl h)))
  ·rcases hw j h with h2 | h2
   ·exact hj.1 (.inr (.inr (.inr (.inl h2))))
   ·have := hj.2; omega
  ·exact hj.1 (.inr (.inr (.inr (.inr h)))))
 refine ⟨Q.hx, b1.trans (K2.below b1.size (fun j e => by have e : j = B := e; omega)), ⟨ao, c, R, L, T4, H⟩, R2, by rw [List.length_append, Q.hk]; rfl, ?_, hnB, own_kept (own_kept Q.own KG (fun g hg e => a5 g e hg)) K2 (fun g hg e => a4 (by rw [hg, show g = B from e])), L3⟩
 rw [h2]
 unfold boxQ at kB1 ⊢
 simp [World.setCell, Array.getElem?_modify, kB1]
end
end Go.Proofs.YtnclkfhdpkkakaaGreatDoor
namespace Go.Proofs.YtnclkfhdpkkakaaGreatDoor
set_option linter.unusedVariables false
set_option linter.unusedSimpArgs false
open Go Go.RowKit Go.Shelf Go.MapKept Go.ChangeMaps Go.Maps Go.Sort
theorem wpList_append_any {P : Program} {w : World} {ops : Array Oper} {rest : List Oper} {o : Oper} {a : Act} {Q : Exit → Act → World → Prop} (hgd : o.guard = none) (s x : Operand) (t : TypeId)
  (ho : o.op = .call { callee := .builtin .append, args := #[s, x], argTypes := #[t, t] })
  (base : Nat) (e : TypeId) (i : TypeInfo) (z : Value) (size bytes : Nat) (ht : P.underlying t = some (.slice e)) (hi : P.info? e = some i) (hz : i.zero = some z)
  (hsize : i.size = size) (hby : i.bytes = bytes) (hzs : z.cells.size = size) (hsz : 0 < size)
  (v : Value) (n : Nat) (xs : List Value) (hs : a.eval s = v) (hown : w.ownsRow base e size v n xs)
  (xo : Option Addr) (m c : Nat) (news : List Value) (hx : a.eval x = .slice xo m c) (hno : xo = none → m = 0 ∧ c = 0) (hl : news.length = m * size) (hnews : ∀ ad, xo = some ad → ∀ j u, news[j]? = some u → w.cell? (ad.add j) = some u) (h1 : ∀ u ∈ news, u.oneCell' = true)
  (h63 : n + m ≤ maxLen) (hbytes : (n + m) * bytes ≤ 140737488355328) (hbase : base ≤ w.heap.size)
  (h : ∀ v' w', w'.ownsRow base e size v' (n + m) (xs ++ news) → w.grownBy w' v.ownBlock → (∀ k, v'.ownBlock = some k → v.ownBlock = some k ∨ w.heap.size ≤ k) → wpList P ops Q rest (a.put o.dst v') w') : wpList P ops Q (o :: rest) a w :=
 wpList_plain hgd fun K hK => wp_append_any s x t ho base e i z size bytes ht hi hz hsize hby hzs hsz v n xs hs hown xo m c news hx hno hl hnews h1 h63 hbytes hbase (fun v' w' h1 h2 h3 => hK _ _ (h v' w' h1 h2 h3))
def PQ (lq : Nat → Prop) (wr : World) (E : List Eff) (y : Rep) (lv pv : Value) (wc : World) : Prop :=
 ∃ (pb : Nat) (rr : RawR) (la : Option Addr) (lc : Nat) (Ln : List RawE), pv = .pointer (some ⟨pb, 0, none⟩) ∧ lv = .slice la E.length lc ∧ wc.heap[pb]? = some (.cells rr.cells.toArray 43 (0, 0)) ∧ wr.heap.size ≤ pb ∧ Below wr.heap.size wr wc
  ∧ (∀ b off, la = some ⟨b, off, none⟩ → wr.heap.size ≤ b) ∧ (la = none → E = [] ∧ lc = 0) ∧ EffsAt wc wc.heap.size la Ln ∧ LikeE wc lq Ln E ∧ ReadsR wc (fun j => lq j ∨ wr.heap.size ≤ j) rr y
theorem pq_of {lq : Nat → Prop} {wr W0 w6 w7 : World} (hlq : ∀ k, lq k → k < wr.heap.size) (hW0 : Below wr.heap.size wr W0) (hB : Below W0.heap.size W0 w6) (h7 : Below w6.heap.size w6 w7) {pb : Nat} (hpb : wr.heap.size ≤ pb) (hp : w6.heap.size ≤ pb ∨ pb < W0.heap.size) {cs : Array Value} (hk7 : w7.heap[pb]? = some (.cells cs 43 (0, 0))) (hc : cs.size = 13)
  {x : Int} {A : Ans} {u1 : Value} {E : List Eff} (hE : EffsB lq W0 w6 u1 E) {raw : Raw} {ka : Option Addr} {kc : Nat} (g1 : Reads w6 (fun k => lq k ∨ W0.heap.size + 3 ≤ k) raw A.node) (g2 : StrLo w6 (fun k => lq k ∨ W0.heap.size + 3 ≤ k) ka A.kids) :
  PQ lq wr E ⟨x, A⟩ u1 (.pointer (some ⟨pb, 0, none⟩)) (w7.setCells pb 0 (repCells x A.path raw ka A.kids.length kc none 0 0)) := by
 obtain ⟨a, c, L, g3, ⟨g4, g5⟩, g6, g7⟩ := hE
 have K : Kept (· = pb) w7 (w7.setCells pb 0 (repCells x A.path raw ka A.kids.length kc none 0 0)) := Kept.setCells (S := (· = pb)) (p := pb) rfl _ 0 (Kept.refl _ w7)
 have hb7 : Below wr.heap.size wr w7 := hW0.trans ((hB.trans (h7.mono hB.size)).mono hW0.size)
 have hs0 := hW0.size
 have hs6 := hB.size
 have hs7 := h7.size
 refine ⟨pb, ⟨x, A.path, raw, ka, A.kids.length, kc⟩, a, c, L, rfl, g3, cells_set hk7 (by rw [hc]; rfl), hpb, hb7.trans (K.below hb7.size (fun j e => by have e : j = pb := e; omega)), fun b off e => Nat.le_trans hs0 (g4 b off e), g5, fun k r hr => ?_, ?_, ⟨rfl, rfl, ?_, rfl, ?_⟩⟩
 ·obtain ⟨b, off, e1, e2, e3⟩ := g6 k r hr
  have h4 := g4 b off e1
  have e4 := range_kept e3 h7 e2
  have e5 : b < w7.heap.size := by omega
  exact ⟨b, off, e1, Nat.lt_of_lt_of_le e5 K.size, fun j u hu => (K.cell (p := ⟨b, off + k * 11 + j, none⟩) e5 (fun e => by have e : b = pb := e; omega)).trans (e4 j u hu)⟩
 ·exact (g7.below h7).keptS K (fun j hj e => by have := hlq j hj; have e : j = pb := e; omega)
 ·have h1 := (g1.monoB (lo' := fun j => (lq j ∨ wr.heap.size ≤ j) ∧ j ≠ pb) (fun j h1 h2 => by
   rcases h1 with h | h
   ·exact ⟨.inl h, by have := hlq j h; omega⟩
   ·exact ⟨.inr (by omega), by omega⟩)).below h7
  exact (h1.keptS K (fun j hj _ e => hj.2 e)).mono (fun j h => h.1)
 ·have h1 := (g2.mono (lo' := fun j => (lq j ∨ wr.heap.size ≤ j) ∧ j ≠ pb) (fun j h1 h2 => by
   rcases h1 with h | h
   ·exact ⟨.inl h, by have := hlq j h; omega⟩
   ·exact ⟨.inr (by omega), by omega⟩)).below h7
  exact (h1.keptS K (fun j hj _ e => hj.2 e)).mono (fun j h _ => h.1)
end Go.Proofs.YtnclkfhdpkkakaaGreatDoor
namespace Go.Proofs.YtnclkfhdpkkakaaGreatDoor
set_option linter.unusedVariables false
set_option linter.unusedSimpArgs false
open Go Go.RowKit Go.Shelf Go.MapKept Go.ChangeMaps Go.Maps Go.Sort
theorem EffsB.mono {lq lq' : Nat → Prop} {w w' : World} {u : Value} {E : List Eff} (h : EffsB lq w w' u E) (hl : ∀ k, lq k → lq' k) : EffsB lq' w w' u E := by
 obtain ⟨a, c, L, h1, h2, h3, h4⟩ := h
 exact ⟨a, c, L, h1, h2, h3, h4.both (fun k h _ => hl k h)⟩
def DoEndQ (wb w : World) (root : Bytes) (M : List (Bytes × Nd)) (at_ : Int) (who : Sess) (ce : Int) (o : OpV) (e : Ending) (w' : World) : Prop :=
 ∃ u1 u2, e = .returned (.tuple #[u1, u2]) ∧ EffsB (fun k => k < wb.heap.size ∨ w.heap.size ≤ k) w w' u1 (doX root M at_ who ce o) ∧ ReplyAt w' (fun k => k < wb.heap.size ∨ w.heap.size ≤ k) u2 (doE root M at_ who ce o) (doA root M at_ who ce o) (doR root M at_ who ce o) ∧ Below w.heap.size w w'
section
variable {w : World} {Z : Nat → Prop} {rb : Nat} {root : Bytes} {cnt : Int} {ao : Option Addr} {c0 : Nat} {R : List RawA} {M L : List (Bytes × Nd)}
set_option maxRecDepth 100000 in
set_option maxHeartbeats 16000000 in
theorem RefAt.q5do_bad {wb : World} (Tb : RefAt wb Z rb root cnt ao c0 R L) (hbb : Below wb.heap.size wb w) (H : Rel M L) (I : Inv root M) (F : Fit M) (NX : Nice M) (hrl : root.length ≤ 1000) (h0 : 0 ≤ cnt) (h1 : cnt ≤ 1000000) (r : RawO) (o : OpV) (who : Sess) (ce : Int) {lo : Nat → Prop} (hr : LeafO wb lo r o.leaf) (HC : ∀ w', Below w.heap.size w w' → Calls Tryz.prog 32 #[r.val] w' (CheckIs w' ce)) (hce : ce ≠ 0) :
  Calls Tryz.prog 30 #[.pointer (some ⟨rb, 0, none⟩), r.val, whoV who] w (DoEndQ wb w root M cnt who ce o) := by
 have T := Tb.below hbb
 have HTB := Lib.hid (And.intro Tb hbb)
 clear Tb hbb
 obtain ⟨ok, op, oa, on, oc, ov, os, oe, pa, pn, pc⟩ := r
 obtain ⟨ws, wn⟩ := who
 have HR := Lib.hid hr
 unfold RawO.val RawO.cells whoV
 unfold RawO.val RawO.cells at HC
 dsimp only at HC ⊢
 obtain ⟨w1, hw1, hb1, hs1, k0, k1, k2⟩ := do_boxes w ok op oa on oc ov os oe pa pn pc ws wn
 have HSO : Hid ((Tryz.prog.info? 26).map (·.size) = some 7) := Lib.hid (by kernel_rfl)
 have HSR : Hid ((Tryz.prog.info? 43).map (·.size) = some 13) := Lib.hid infoReply13
 have HSS : Hid ((Tryz.prog.info? 29).map (·.size) = some 2) := Lib.hid (by kernel_rfl)
 have T1 := T.below hb1
 have hl0 : w.heap.size < w1.heap.size := by omega
 have hl1 : w.heap.size + 1 < w1.heap.size := by omega
 have HD := Lib.hid (And.intro T (And.intro T1 (And.intro H (And.intro I (And.intro F (And.intro NX hrl))))))
 have H1 := Lib.hid (And.intro hb1 (And.intro hs1 (And.intro k0 (And.intro k1 (And.intro k2 hw1)))))
 have HL := Lib.hid (And.intro hl0 hl1)
 have HCK := Lib.hid (HC w1 hb1)
 have HR1 := Lib.hid (range_blk k0)
 have HCN := Lib.hid (And.intro h0 h1)
 have tce : (ce != 0) = true := by simpa using hce
 have HCE := Lib.hid hce
 clear hce
 clear T T1 H I F NX hrl hb1 hs1 k0 k1 k2 hw1 hl0 hl1 hr HC h0 h1
 go_enter Tryz.func30, Tryz.ntmps30
 go_upto_region 1 with fail
 rw [← H1.out.2.2.2.2.2]
 go_wp2_with (refine wpList_load_mid rfl 26 (.tmp 4) rfl w.heap.size 0 rfl [.int .u8 ok, .string (bs op), .slice oa on oc, .int .i64 ov, .bool os, .bool oe, .slice pa pn pc] _ HR1.out Tryz.underlying26 rfl HSO.out ?_)
 refine HCK.out.mono ?_
 rintro e w2 ⟨rfl, B2⟩
 have HB2 := Lib.hid B2
 clear B2
 go_wp2_with fail
 refine (q5no_any ce _).mono ?_
 rintro e wN ⟨rfl, BN⟩
 have hbN : Below w1.heap.size w1 wN := HB2.out.trans (BN.mono HB2.out.size)
 have HTN : Hid (wN.there (w.heap.size + 2) 0 13) := Lib.hid (there_of ((hbN.block _ (by have := H1.out.2.1; omega)).trans H1.out.2.2.2.2.1) (by simp))
 have HBN : Hid (Below w.heap.size w wN) := Lib.hid (H1.out.1.trans (hbN.mono H1.out.1.size))
 have HON : Hid ((#[.int .i64 ce, .string ⟨#[]⟩, .slice none 0 0, .int .u32 0, .int .u32 0, .int .u32 0, .int .i64 0, .int .u32 0, .int .u64 0, .int .u64 0, .int .u64 0, .slice none 0 0, .slice none 0 0] : Array Value).all (·.oneCell') = true) := Lib.hid (by simp [Value.oneCell'])
 clear BN hbN
 go_wp2_with (refine wpList_store_mid rfl 43 (.tmp 7) (.tmp 22) rfl (w.heap.size + 2) 0 #[.int .i64 ce, .string ⟨#[]⟩, .slice none 0 0, .int .u32 0, .int .u32 0, .int .u32 0, .int .i64 0, .int .u32 0, .int .u64 0, .int .u64 0, .int .u64 0, .slice none 0 0, .slice none 0 0] rfl rfl HTN.out HSR.out HON.out ?_)
 refine bodyPost_ret (results_tmp_cell_mid rfl _ _ (w.heap.size + 2) 0 [.int .i64 ce, .string ⟨#[]⟩, .slice none 0 0, .int .u32 0, .int .u32 0, .int .u32 0, .int .i64 0, .int .u32 0, .int .u64 0, .int .u64 0, .int .u64 0, .slice none 0 0, .slice none 0 0] _ rfl (World.rangeAt_setCells_same _ _ _ _ HTN.out) Tryz.underlying43 rfl HSR.out) rfl ?_
 have e1 : doE root M cnt ⟨ws, wn⟩ ce o = ce := by unfold doE; rw [if_pos HCE.out]
 have e2 : doX root M cnt ⟨ws, wn⟩ ce o = [] := by unfold doX; rw [e1, if_pos HCE.out]
 have e3 : doA root M cnt ⟨ws, wn⟩ ce o = noAns := by unfold doA; rw [if_neg (fun h => HCE.out h.1)]
 have e4 : doR root M cnt ⟨ws, wn⟩ ce o = [] := by unfold doR; rw [if_neg (fun h => HCE.out h.1)]
 have hq := q_no (lq := fun k => k < wb.heap.size ∨ w.heap.size ≤ k) ce HBN.out (show w.heap.size ≤ w.heap.size + 2 by omega)
 obtain ⟨v1, v2, g1, g2, g3, g4⟩ := hq
 exact ⟨v1, v2, g1, by rw [e2]; exact g2, by rw [e1, e3, e4]; exact g3.at_.mono (fun k h => h.elim id (fun h => .inr (by omega))), g4⟩
set_option maxRecDepth 100000 in
set_option maxHeartbeats 16000000 in
theorem RefAt.q5do_one {wb : World} (Tb : RefAt wb Z rb root cnt ao c0 R L) (hbb : Below wb.heap.size wb w) (H : Rel M L) (I : Inv root M) (F : Fit M) (NX : Nice M) (hrl : root.length ≤ 1000) (h0 : 0 ≤ cnt) (h1 : cnt ≤ 1000000) (r : RawO) (o : OpV) (who : Sess) (ce : Int) {lo : Nat → Prop} (hr : LeafO wb lo r o.leaf) (HC : ∀ w', Below w.heap.size w w' → Calls Tryz.prog 32 #[r.val] w' (CheckIs w' ce)) (hce : ce = 0) (hk : o.leaf.kind ≠ 7) (hl : Leafy o.leaf) :
  Calls Tryz.prog 30 #[.pointer (some ⟨rb, 0, none⟩), r.val, whoV who] w (DoEndQ wb w root M cnt who ce o) := by
 have T := Tb.below hbb
 have HTB := Lib.hid (And.intro Tb hbb)
 clear Tb hbb
 obtain ⟨ok, op, oa, on, oc, ov, os, oe, pa, pn, pc⟩ := r
 obtain ⟨ws, wn⟩ := who
 have HR := Lib.hid hr
 unfold RawO.val RawO.cells whoV
 unfold RawO.val RawO.cells at HC
 dsimp only at HC ⊢
 obtain ⟨w1, hw1, hb1, hs1, k0, k1, k2⟩ := do_boxes w ok op oa on oc ov os oe pa pn pc ws wn
 have HSO : Hid ((Tryz.prog.info? 26).map (·.size) = some 7) := Lib.hid (by kernel_rfl)
 have HSR : Hid ((Tryz.prog.info? 43).map (·.size) = some 13) := Lib.hid infoReply13
 have HSS : Hid ((Tryz.prog.info? 29).map (·.size) = some 2) := Lib.hid (by kernel_rfl)
 have T1 := T.below hb1
 have hl0 : w.heap.size < w1.heap.size := by omega
 have hl1 : w.heap.size + 1 < w1.heap.size := by omega
 have HD := Lib.hid (And.intro T (And.intro T1 (And.intro H (And.intro I (And.intro F (And.intro NX hrl))))))
 have H1 := Lib.hid (And.intro hb1 (And.intro hs1 (And.intro k0 (And.intro k1 (And.intro k2 hw1)))))
 have HL := Lib.hid (And.intro hl0 hl1)
 have HCK := Lib.hid (HC w1 hb1)
 have HR1 := Lib.hid (range_blk k0)
 have HCN := Lib.hid (And.intro h0 h1)
 subst hce
 have HK := Lib.hid (And.intro hk hl)
 have hk7 : ok ≠ 7 := by have h := HR.out.kind; intro e; exact hk (h.symm.trans e)
 have tk7 : (ok != 7) = true := by simpa using hk7
 have y0 := fun (w' : World) (hb : Below w1.heap.size w1 w') => (hb.cell (p := ⟨w.heap.size, 0, none⟩) hl0).trans (cell_of_row _ _ 0 _ 26 (0, 0) k0)
 have HY0 := Lib.hid y0
 clear hk hl hk7 y0
 clear T T1 H I F NX hrl hb1 hs1 k0 k1 k2 hw1 hl0 hl1 hr HC h0 h1
 go_enter Tryz.func30, Tryz.ntmps30
 go_upto_region 1 with fail
 rw [← H1.out.2.2.2.2.2]
 go_wp2_with (refine wpList_load_mid rfl 26 (.tmp 4) rfl w.heap.size 0 rfl [.int .u8 ok, .string (bs op), .slice oa on oc, .int .i64 ov, .bool os, .bool oe, .slice pa pn pc] _ HR1.out Tryz.underlying26 rfl HSO.out ?_)
 refine HCK.out.mono ?_
 rintro e w2 ⟨rfl, B2⟩
 have HB2 := Lib.hid B2
 clear B2
 have z0 := HY0.out w2 HB2.out
 have twc : ∀ _ : True, IntKind.u64.wrap (cnt + 1) = cnt + 1 := fun _ => by have := HCN.out; rw [IntKind.wrap_u64]; omega
 go_upto_region 5 with fail
 have S0 : World.rangeAt w2.drew w.heap.size 0 [.int .u8 ok, .string (bs op), .slice oa on oc, .int .i64 ov, .bool os, .bool oe, .slice pa pn pc] ∧ World.rangeAt w2.drew (w.heap.size + 1) 0 [.int .i64 ws, .int .u32 wn] ∧ World.rangeAt w2.drew rb 0 [.string (bs root), .int .u64 cnt, .slice ao R.length c0] := ⟨range_blk ((HB2.out.block _ HL.out.1).trans H1.out.2.2.1), range_blk ((HB2.out.block _ HL.out.2).trans H1.out.2.2.2.1), range_blk (HD.out.2.1.below HB2.out).blk⟩
 have q1 : ∀ w', World.rangeAt w' w.heap.size 0 [.int .u8 ok, .string (bs op), .slice oa on oc, .int .i64 ov, .bool os, .bool oe, .slice pa pn pc] ∧ World.rangeAt w' (w.heap.size + 1) 0 [.int .i64 ws, .int .u32 wn] ∧ World.rangeAt w' rb 0 [.string (bs root), .int .u64 cnt, .slice ao R.length c0] → w'.cell? ⟨rb, 1, none⟩ = some (.int .u64 cnt) := fun w' h => h.2.2 1 _ rfl
 have hB3 : Below w.heap.size w w2.drew := H1.out.1.trans (HB2.out.drew.mono H1.out.1.size)
 have hone := HTB.out.1.q5one (HTB.out.2.trans (hB3.mono HTB.out.2.size)) HD.out.2.2.1 HD.out.2.2.2.1 HD.out.2.2.2.2.1 HD.out.2.2.2.2.2.1 HD.out.2.2.2.2.2.2 ⟨ok, op, oa, on, oc, ov, os, oe, pa, pn, pc⟩ o.leaf ⟨ws, wn⟩ (cnt + 1) (lq := fun k => k < wb.heap.size) (fun _ _ h => h) (fun _ _ h => h) (fun _ h => h) HR.out HK.out.2
 unfold RawO.val RawO.cells whoV at hone
 dsimp only at hone
 have HONE := Lib.hid hone
 have HB3 := Lib.hid hB3
 have hrb := HD.out.1.lt
 have HRB := Lib.hid hrb
 clear hone z0 hB3 hrb
 refine wp_region_held_drew (S := fun w' => World.rangeAt w' w.heap.size 0 [.int .u8 ok, .string (bs op), .slice oa on oc, .int .i64 ov, .bool os, .bool oe, .slice pa pn pc] ∧ World.rangeAt w' (w.heap.size + 1) 0 [.int .i64 ws, .int .u32 wn] ∧ World.rangeAt w' rb 0 [.string (bs root), .int .u64 cnt, .slice ao R.length c0]) (by kernel_rfl) S0 (fun hS => ?_)
 refine tI 0 rfl hS ?_
 refine tL 1 rfl hS 26 (.tmp 4) w.heap.size 0 [.int .u8 ok, .string (bs op), .slice oa on oc, .int .i64 ov, .bool os, .bool oe, .slice pa pn pc] (fun _ h => h.1) Tryz.underlying26 HSO.out ?_
 refine tL 2 rfl hS 29 (.tmp 5) (w.heap.size + 1) 0 [.int .i64 ws, .int .u32 wn] (fun _ h => h.2.1) Tryz.underlying29 HSS.out ?_
 refine tI 3 rfl hS ?_
 simp only [putS]
 refine tI 4 rfl hS ?_
 refine tI 5 rfl hS ?_
 refine tJ 6 rfl hS q1 ?_
 refine tI 7 rfl hS ?_
 simp only [putS]
 refine cI 8 rfl ?_
 refine HONE.out.mono ?_
 rintro e wc ⟨v1, v2, rfl, hE, ⟨⟨ra, rn, rc, ⟨r1, r2, r3, r4, r5, r6, r7, r8⟩⟩, ka, kc, rfl, g1, g2⟩, hB⟩
 have hq : QEnd (fun k => k < wb.heap.size) w2.drew (opE root M ⟨ws, wn⟩ o.leaf) (opXs root M (cnt + 1) ⟨ws, wn⟩ o.leaf) (opR root M (cnt + 1) ⟨ws, wn⟩ o.leaf).a (.returned (.tuple #[v1, .agg (repCells (opE root M ⟨ws, wn⟩ o.leaf) (opR root M (cnt + 1) ⟨ws, wn⟩ o.leaf).a.path ⟨ra, rn, rc, ⟨r1, r2, r3, r4, r5, r6, r7, r8⟩⟩ ka (opR root M (cnt + 1) ⟨ws, wn⟩ o.leaf).a.kids.length kc none 0 0).toArray])) wc := ⟨_, _, rfl, hE, ⟨_, _, _, rfl, g1, g2⟩, hB⟩
 have hbc : Below w1.heap.size w1 wc := HB2.out.drew.trans (hB.mono HB2.out.drew.size)
 have HTN : Hid (wc.there (w.heap.size + 2) 0 13) := Lib.hid (there_of ((hbc.block _ (by have := H1.out.2.1; omega)).trans H1.out.2.2.2.2.1) (by simp))
 have sc : World.rangeAt wc w.heap.size 0 [.int .u8 ok, .string (bs op), .slice oa on oc, .int .i64 ov, .bool os, .bool oe, .slice pa pn pc] ∧ World.rangeAt wc (w.heap.size + 1) 0 [.int .i64 ws, .int .u32 wn] ∧ World.rangeAt wc rb 0 [.string (bs root), .int .u64 cnt, .slice ao R.length c0] := ⟨range_kept hS.1 hB (World.block_lt_of_cell? _ _ (hS.1 0 _ rfl)), range_kept hS.2.1 hB (World.block_lt_of_cell? _ _ (hS.2.1 0 _ rfl)), range_kept hS.2.2 hB (World.block_lt_of_cell? _ _ (hS.2.2 0 _ rfl))⟩
 obtain ⟨ex, hex⟩ : ∃ ex, ex = opE root M ⟨ws, wn⟩ o.leaf := ⟨_, rfl⟩
 obtain ⟨px, hpx⟩ : ∃ px, px = (opR root M (cnt + 1) ⟨ws, wn⟩ o.leaf).a.path := ⟨_, rfl⟩
 obtain ⟨kn, hkn⟩ : ∃ kn, kn = (opR root M (cnt + 1) ⟨ws, wn⟩ o.leaf).a.kids.length := ⟨_, rfl⟩
 have HQ := Lib.hid hq
 have HE := Lib.hid (And.intro hex (And.intro hpx hkn))
 rw [← hex, ← hpx, ← hkn]
 clear hq hbc hex hpx hkn hE g1 g2 hB hS
 unfold repCells Raw.cells Nums.cells
 dsimp only [List.cons_append, List.nil_append]
 have HON : Hid ((#[.int .i64 ex, .string (bs px), .slice ra rn rc, .int .u32 r1, .int .u32 r2, .int .u32 r3, .int .i64 r4, .int .u32 r5, .int .u64 r6, .int .u64 r7, .int .u64 r8, .slice ka kn kc, .slice none 0 0] : Array Value).all (·.oneCell') = true) := Lib.hid (by simp [Value.oneCell'])
 refine ⟨sc, ?_⟩
 try dsimp only
 simp only [putS]
 refine tI 9 rfl sc ?_
 refine tI 10 rfl sc ?_
 refine tI 11 rfl sc ?_
 simp only [putS]
 refine sI 12 rfl 43 (.tmp 7) (.tmp 36) (w.heap.size + 2) 0 #[.int .i64 ex, .string (bs px), .slice ra rn rc, .int .u32 r1, .int .u32 r2, .int .u32 r3, .int .i64 r4, .int .u32 r5, .int .u64 r6, .int .u64 r7, .int .u64 r8, .slice ka kn kc, .slice none 0 0] HTN.out HSR.out HON.out ⟨range_set sc.1 (by omega), range_set sc.2.1 (by omega), range_set sc.2.2 (by have := HRB.out; omega)⟩ ?_
 simp only [putS]
 refine wpAnyH_done (by kernel_rfl) ?_ _
 clear sc q1
 go_wp2_with fail
 refine bodyPost_ret (results_tmp_cell_mid rfl _ _ (w.heap.size + 2) 0 [.int .i64 ex, .string (bs px), .slice ra rn rc, .int .u32 r1, .int .u32 r2, .int .u32 r3, .int .i64 r4, .int .u32 r5, .int .u64 r6, .int .u64 r7, .int .u64 r8, .slice ka kn kc, .slice none 0 0] _ rfl (World.rangeAt_setCells_same _ _ _ _ HTN.out) Tryz.underlying43 rfl HSR.out) rfl ?_
 have hq := HQ.out
 rw [← HE.out.1, ← HE.out.2.1, ← HE.out.2.2] at hq
 have hq2 := QEnd.box (B := w.heap.size + 2) [.int .i64 ex, .string (bs px), .slice ra rn rc, .int .u32 r1, .int .u32 r2, .int .u32 r3, .int .i64 r4, .int .u32 r5, .int .u64 r6, .int .u64 r7, .int .u64 r8, .slice ka kn kc, .slice none 0 0] hq HB3.out (fun _ h => Nat.lt_of_lt_of_le h HTB.out.2.size) rfl (by have := HB2.out.size; have := H1.out.2.1; show w.heap.size + 3 ≤ w2.heap.size; omega)
 obtain ⟨v1', v2', g1, g2, g3, g4⟩ := hq2
 obtain ⟨d1, d2, d3, d4⟩ := do_one (root := root) (M := M) (at_ := cnt) (who := ⟨ws, wn⟩) (o := o) HK.out.1
 exact ⟨v1', v2', g1, by rw [d2]; exact g2.mono (fun k h => .inl h), by rw [d1, d3, d4, ← HE.out.1]; exact g3.at_.mono (fun k h => h.elim .inl (fun h => .inr (by omega))), g4⟩
end
end Go.Proofs.YtnclkfhdpkkakaaGreatDoor
