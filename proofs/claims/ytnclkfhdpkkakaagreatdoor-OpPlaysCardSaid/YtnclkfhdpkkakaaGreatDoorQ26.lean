/-
  The doer's effects, walked: they are applied, and kept. The doer's set, walked. The doer's get and check, and what goes wrong in set: walked.
-/
import Derived.Test.YtnclkfhdpkkakaaGreatDoorQ25
import Derived.Deep.RegionHeld3
namespace Go.Proofs.YtnclkfhdpkkakaaGreatDoor
set_option linter.unusedVariables false
set_option linter.unusedSimpArgs false
set_option linter.unusedVariables false
set_option linter.unusedSimpArgs false
open Go Go.RowKit Go.Shelf Go.MapKept Go.ChangeMaps Go.Maps Go.Sort
theorem Like.bothL {w : World} {lo lo' : Nat → Prop} (hl : ∀ k, lo k → k < w.heap.size → lo' k) : ∀ {m : List (Bytes × Raw)} {M : List (Bytes × Nd)}, Like w lo m M → Like w lo' m M
 | [], [], _ => trivial
 | x :: m, y :: M, ⟨⟨h1, h2⟩, h3⟩ => ⟨⟨h1, h2.num, h2.len, fun j c hj => by
   obtain ⟨b, off, q1, q2, q3, q4⟩ := h2.data j c hj
   exact ⟨b, off, q1, hl b q2 q3, q3, q4⟩, h2.nil⟩, h3.bothL hl⟩
theorem TreeAt.both {w : World} {lo lo' : Nat → Prop} {b mb : Nat} {root : Bytes} {at_ : Int} {M : List (Bytes × Nd)} (T : TreeAt w lo b mb root at_ M) (hl : ∀ k, lo k → k < w.heap.size → lo' k) : TreeAt w lo' b mb root at_ M := by
 obtain ⟨m, h1, h2⟩ := T.map
 exact ⟨T.blk, m, h1, h2.bothL hl⟩
theorem Like.keptS {w w' : World} {lo S : Nat → Prop} (hk : Kept S w w') (hn : ∀ k, lo k → ¬ S k) : ∀ {m : List (Bytes × Raw)} {M : List (Bytes × Nd)}, Like w lo m M → Like w' lo m M
 | [], [], _ => trivial
 | x :: m, y :: M, ⟨⟨h1, h2⟩, h3⟩ => ⟨⟨h1, h2.num, h2.len, (h2.data.kept hk (Nat.le_refl _) (fun b hb _ _ => hn b hb)).mono (fun _ h => h) hk.size, h2.nil⟩, h3.keptS hk hn⟩
theorem TreeAt.keptS {w w' : World} {lo S : Nat → Prop} {b mb : Nat} {root : Bytes} {at_ : Int} {M : List (Bytes × Nd)} (T : TreeAt w lo b mb root at_ M) (hk : Kept S w w') (hn : ∀ k, lo k → ¬ S k) (hb : ¬ S b) (hm : ¬ S mb) : TreeAt w' lo b mb root at_ M := by
 obtain ⟨m, h1, h2⟩ := T.map
 exact ⟨hk.same T.blk hb, m, h1.kept hk hm, h2.keptS hk hn⟩
theorem TreeAt.map_no {w : World} {lo : Nat → Prop} {b mb : Nat} {root : Bytes} {at_ : Int} {M : List (Bytes × Nd)} (T : TreeAt w lo b mb root at_ M) {k : Nat} {cs : Array Value} {t : TypeId} {fr : Nat × Nat} (h : w.heap[k]? = some (.cells cs t fr)) : mb ≠ k := fun e => by
 subst e
 obtain ⟨m, ⟨es, c, h1, _⟩, _⟩ := T.map
 rw [h] at h1
 cases h1
theorem own_no_map {w : World} {base size n : Nat} {e : TypeId} {v : Value} {xs : List Value} (h : w.ownsRow base e size v n xs) {lo : Nat → Prop} {b mb : Nat} {root : Bytes} {at_ : Int} {M : List (Bytes × Nd)} (T : TreeAt w lo b mb root at_ M) : v.ownBlock ≠ some mb := fun e1 => by
 rcases h.2 with ⟨h1, _⟩ | ⟨g, cap, cur, h1, h2, h3, h4⟩
 ·rw [h1] at e1; cases e1
 ·rw [h1] at e1
  have : g = mb := by cases e1; rfl
  exact T.map_no h3 this.symm
section
variable {X : Nat → Prop} {w0 w : World} {d b : Nat} {root : Bytes} {at_ cnt : Int} {M : List (Bytes × Nd)} {who : Sess} {v : Value} {L : List RawE} {E : List Eff}
def EffEnd (X : Nat → Prop) (w0 w : World) (d b : Nat) (root : Bytes) (at_ cnt : Int) (M' : List (Bytes × Nd)) (who : Sess) (v : Value) (L : List RawE) (E : List Eff) (e : Ending) (w' : World) : Prop :=
 e = .returned (.tuple #[]) ∧ (∃ v', DoerAt X w0 w' d b root at_ (cnt + 1) M' who v' L E ∧ ∀ k, v'.ownBlock = some k → v.ownBlock = some k ∨ w.heap.size ≤ k) ∧ Kept (fun k => k = b ∨ k = d ∨ v.ownBlock = some k) w w'
theorem eff_fin {w1 w2 : World} {lo : Nat → Prop} {mb' : Nat} {M' : List (Bytes × Nd)} {v2 : Value} {Lx : List RawE} {Ex : List Eff} {lx : Nat → Prop} (D : DoerAt X w0 w d b root at_ cnt M who v L E)
  (hlo : ∀ k, lo k → (v.ownBlock ≠ some k ∧ k ≠ d) ∧ ¬ X k) (T1 : TreeAt w1 (Plus lo w.heap.size) b mb' root (cnt + 1) M') (K1 : Kept (· = b) w w1) (hE : ∀ e ∈ Ex, FitE e) (hx : applyA root M Ex = (0, M'))
  (hL : LikeE w lx Lx Ex) (hlx : ∀ k, lx k → v.ownBlock ≠ some k ∧ ¬ X k)
  {nl : Nat} (hnl : nl = L.length + Lx.length) (hown : w2.ownsRow w0.heap.size 88 11 v2 nl (L.flatMap RawE.cells ++ Lx.flatMap RawE.cells)) (hg : w1.grownBy w2 v.ownBlock) (hw : ∀ k, v2.ownBlock = some k → v.ownBlock = some k ∨ w1.heap.size ≤ k) :
  EffEnd X w0 w d b root at_ cnt M' who v (L ++ Lx) (E ++ Ex) (.returned (.tuple #[])) (w2.setCell ⟨d, 4, none⟩ v2) := by
 subst hnl
 have hdb := D.ne
 have hdl := D.lt
 have hvl : ∀ k, v.ownBlock = some k → k < w.heap.size := fun k h => (D.row.own.lt k h).2
 have hvb : v.ownBlock ≠ some b := own_type D.row.own D.far.choose_spec.choose_spec.1.blk (by decide)
 have hvd : v.ownBlock ≠ some d := own_type D.row.own D.blk (by decide)
 have K2 : Kept (fun k => v.ownBlock = some k) w1 w2 := kept_grown hg
 have K3 : Kept (· = d) w2 (w2.setCell ⟨d, 4, none⟩ v2) := Kept.setCell (S := (· = d)) (p := ⟨d, 4, none⟩) (Kept.refl _ w2) rfl v2
 have own1 : w1.ownsRow w0.heap.size 88 11 v L.length (L.flatMap RawE.cells) := own_kept D.row.own K1 (fun g h e => hvb (by have e : g = b := e; rw [← e]; exact h))
 have blk1 : w1.heap[d]? = some (.cells #[.pointer (some ⟨b, 0, none⟩), .int .u64 at_, .int .i64 who.site, .int .u32 who.n, v] 82 (0, 0)) := (K1.block d hdl hdb).trans D.blk
 have blk2 : w2.heap[d]? = some (.cells #[.pointer (some ⟨b, 0, none⟩), .int .u64 at_, .int .i64 who.site, .int .u32 who.n, v] 82 (0, 0)) := (K2.block d (Nat.lt_of_lt_of_le hdl K1.size) hvd).trans blk1
 have T1' := T1.both (lo' := fun k => Plus lo w.heap.size k ∧ k < w1.heap.size) (fun k h1 h2 => ⟨h1, h2⟩)
 have T2 := T1'.keptS K2 (fun k hk e => by
  rcases hk.1 with h | h
  ·exact (hlo k h).1.1 e
  ·have := hvl k e; omega) hvb (fun e => own_no_map own1 T1 e)
 have T3 := T2.keptS K3 (fun k hk e => by
  have e : k = d := e
  rcases hk.1 with h | h
  ·exact (hlo k h).1.2 e
  ·omega) (fun e => hdb e.symm) (T2.map_no blk2)
 have hv2d : v2.ownBlock ≠ some d := own_type hown blk2 (by decide)
 have hbl : Below w0.heap.size w0 (w2.setCell ⟨d, 4, none⟩ v2) := by
  have h1 : Below w0.heap.size w0 w1 := D.tree.bl.trans (K1.below D.tree.bl.size (fun k e => by have e : k = b := e; rw [e]; exact D.tree.hb))
  have h2 : Below w0.heap.size w0 w2 := h1.trans (K2.below h1.size (fun k e => (D.row.own.lt k e).1))
  exact h2.trans (K3.below h2.size (fun k e => by have e : k = d := e; rw [e]; exact D.hd))
 have hfit : Fit M' := by have := D.tree.fit.all hE (root := root); rw [hx] at this; exact this
 have hinv : Inv root M' := by have := D.inv.all (E := Ex); rw [hx] at this; exact this
 obtain ⟨a2, m2, c2, hv2⟩ : ∃ a m c, v2 = .slice a m c := by
  rcases hown.2 with ⟨h1, _⟩ | ⟨g, cap, cur, h1, _⟩
  ·exact ⟨_, _, _, h1⟩
  ·exact ⟨_, _, _, h1⟩
 obtain ⟨a1, m1, c1, hv1⟩ : ∃ a m c, v = .slice a m c := row_form D.row.own |>.elim fun a h => h.elim fun c h => ⟨a, _, c, h⟩
 have tf : ∀ y ∈ (#[Value.string (bs root), .int .u64 cnt, .map (some D.far.choose_spec.choose)] : Array Value).toList, ∀ m, y ≠ .int .u8 m := tree_free _ _ _
 have l1 : LikeE w1 (fun k => v.ownBlock ≠ some k ∧ ¬ X k) L E := D.rlike.turnG D.far.choose_spec.choose_spec.1.blk tf K1
 have lx1 : LikeE w1 lx Lx Ex := hL.turnG D.far.choose_spec.choose_spec.1.blk tf K1
 have conv : ∀ {P : Nat → Prop} {L' : List RawE} {E' : List Eff}, LikeE w1 P L' E' → (∀ k, P k → v.ownBlock ≠ some k ∧ ¬ X k) → LikeE (w2.setCell ⟨d, 4, none⟩ v2) (fun k => v2.ownBlock ≠ some k ∧ ¬ X k) L' E' := fun {P L' E'} h hP => by
  have g1 := h.both (lo' := fun k => (v.ownBlock ≠ some k ∧ ¬ X k) ∧ k < w1.heap.size) (fun k h1 h2 => ⟨hP k h1, h2⟩)
  have g2 := (g1.keptS K2 (fun k hk e => hk.1.1 e)).turnG blk2 (who_free _ _ _ _ _ ⟨a1, m1, c1, hv1⟩) K3
  exact g2.both (fun k hk _ => ⟨fun e => by
   rcases hw k e with h | h
   ·exact hk.1.1 h
   ·have := hk.2; omega, hk.1.2⟩)
 have hrl := (conv l1 (fun _ h => h)).append (conv lx1 hlx)
 refine ⟨rfl, ⟨v2, ⟨⟨⟨_, _, T3⟩, hbl, D.tree.hb, hfit, D.tree.rl, D.tree.hm⟩, ?_, ⟨?_, hrl.both (fun k h _ => h.1)⟩, D.hd, hinv, hrl, fun k h => Nat.lt_of_lt_of_le (D.old k h) (Nat.le_trans K1.size (Nat.le_trans K2.size K3.size)), ⟨_, _, T3, fun k hk => ⟨⟨fun e => ?_, ?_⟩, ?_⟩⟩⟩, fun k e => (hw k e).imp id (fun h => Nat.le_trans K1.size h)⟩, ?_⟩
 ·simp [World.setCell, Array.getElem?_modify, blk2]
 ·rw [List.length_append, List.flatMap_append]
  exact own_kept hown K3 (fun g h e => hv2d (by have e : g = d := e; rw [← e]; exact h))
 ·rcases hw k e with h | h
  ·rcases hk.1 with h2 | h2
   ·exact (hlo k h2).1.1 h
   ·have := hvl k h; omega
  ·have := hk.2; omega
 ·rcases hk.1 with h | h
  ·exact (hlo k h).1.2
  ·have h : w.heap.size ≤ k := h
   omega
 ·intro hX
  have hlt := D.old k hX
  rcases hk.1 with h | h
  ·exact (hlo k h).2 hX
  ·have h : w.heap.size ≤ k := h
   omega
 ·exact ((K1.mono (T := fun k => k = b ∨ k = d ∨ v.ownBlock = some k) (fun k _ e => .inl e)).trans (K2.mono (fun k _ e => .inr (.inr e)))).trans (K3.mono (fun k _ e => .inr (.inl e)))
set_option maxRecDepth 100000 in
set_option maxHeartbeats 8000000 in
theorem DoerAt.effects (D : DoerAt X w0 w d b root at_ cnt M who v L E) (h0 : 0 ≤ cnt) (h1 : cnt ≤ 100000) {gb go_ n c : Nat} {Lx : List RawE} {Ex : List Eff} {lx : Nat → Prop} {M' : List (Bytes × Nd)} (hn : n = Lx.length) (hA : EffsAt w w.heap.size (some ⟨gb, go_, none⟩) Lx) (hgb : gb ≠ b)
  (hL : LikeE w lx Lx Ex) (hlx : ∀ k, lx k → v.ownBlock ≠ some k ∧ ¬ X k) (hE : ∀ e ∈ Ex, FitE e) (hx : applyA root M Ex = (0, M')) (hsz : L.length + n ≤ 1000) :
  Calls Tryz.prog 113 #[.pointer (some ⟨d, 0, none⟩), .slice (some ⟨gb, go_, none⟩) n c] w (EffEnd X w0 w d b root at_ cnt M' who v (L ++ Lx) (E ++ Ex)) := by
 obtain ⟨i0, hi0, hz0, hz1, hz2⟩ := info_parts infoEffect
 obtain ⟨lo, mb, T, hlo⟩ := D.far
 have hap := T.apply_any D.tree.max D.tree.fit D.tree.rl h0 (by omega) (some ⟨gb, go_, none⟩) c Lx Ex hL hA hE (by omega)
 rw [← hn] at hap
 unfold ApplyPost at hap
 rw [hx] at hap
 dsimp only at hap
 rw [if_pos rfl, if_pos rfl] at hap
 obtain ⟨a1, m1, c1, hv1⟩ : ∃ a m c, v = .slice a m c := row_form D.row.own |>.elim fun a h => h.elim fun c h => ⟨a, _, c, h⟩
 have q0 := D.c0
 have HAP := Lib.hid hap
 have HD := Lib.hid (And.intro D (And.intro hlo (And.intro hE (And.intro hx (And.intro hL hlx)))))
 have HA := Lib.hid (And.intro hA hn)
 have hs0 : w0.heap.size ≤ w.heap.size := D.tree.bl.size
 have hm1 : L.length + n ≤ maxLen := by unfold maxLen; omega
 have hm2 : (L.length + n) * 104 ≤ 140737488355328 := by omega
 subst hv1
 clear T hap D hlo hE hx hL hlx hA hn
 go_enter Tryz.func113, Tryz.ntmps113
 go_wp2_with fail
 refine HAP.out.mono ?_
 rintro e w1 ⟨mb', rfl, T1, K1⟩
 have D := HD.out.1
 have hvb := own_type D.row.own D.far.choose_spec.choose_spec.1.blk (t := 86) (by decide)
 have hvd := own_type D.row.own D.blk (t := 82) (by decide)
 have own1 : w1.ownsRow w0.heap.size 88 11 (.slice a1 m1 c1) L.length (L.flatMap RawE.cells) := own_kept D.row.own K1 (fun g h e => hvb (by have e : g = b := e; rw [← e]; exact h))
 have blk1 : w1.heap[d]? = some (.cells #[.pointer (some ⟨b, 0, none⟩), .int .u64 at_, .int .i64 who.site, .int .u32 who.n, .slice a1 m1 c1] 82 (0, 0)) := (K1.block d D.lt D.ne).trans D.blk
 have q4 : w1.cell? ⟨d, 4, none⟩ = some (.slice a1 m1 c1) := cell_of_row _ _ 4 _ 82 (0, 0) blk1
 have hA1 : EffsAt w1 w1.heap.size (some ⟨gb, go_, none⟩) Lx := fun k r hr => by
  obtain ⟨b', off', e, h2, h3⟩ := HA.out.1 k r hr
  cases e
  exact ⟨gb, go_, rfl, Nat.lt_of_lt_of_le h2 K1.size, fun j u hu => (K1.cell (p := ⟨gb, go_ + k * 11 + j, none⟩) h2 hgb).trans (h3 j u hu)⟩
 have HC1 := Lib.hid hA1.flat
 have hfl : (Lx.flatMap RawE.cells).length = n * 11 := by rw [flatE_len, HA.out.2]
 have HO := Lib.hid (And.intro own1 (And.intro hfl (And.intro T1 (And.intro K1 (And.intro blk1 hvd)))))
 have hs1 : w.heap.size ≤ w1.heap.size := K1.size
 clear D hvb own1 blk1 hA1 hfl T1 K1 hvd q0
 have hdl := HD.out.1.lt
 go_wp2_with (at_builtin; refine wpList_append_new rfl (.tmp 14) (.tmp 15) 35 rfl w0.heap.size 88 i0 (.agg #[.string ⟨#[]⟩, .bool false, .slice none 0 0, .int .u32 0, .int .u32 0, .int .u32 0, .int .i64 0, .int .u32 0, .int .u64 0, .int .u64 0, .int .u64 0]) 11 104 Tryz.underlying35 hi0 hz0 hz1 hz2 rfl (by decide) (.slice a1 m1 c1) L.length (L.flatMap RawE.cells) rfl HO.out.1 ⟨gb, go_, none⟩ n c (Lx.flatMap RawE.cells) rfl HO.out.2.1 HC1.out (rawE_plain _) hm1 hm2 (by omega) ?_; intro v2 w2 hown2 hgrow2 hwh2; have blk2 : w2.heap[d]? = some (.cells #[.pointer (some ⟨b, 0, none⟩), .int .u64 at_, .int .i64 who.site, .int .u32 who.n, .slice a1 m1 c1] 82 (0, 0)) := (hgrow2.block d (by omega) (fun e => HO.out.2.2.2.2.2 e.symm)).trans HO.out.2.2.2.2.1; have q5 : w2.cell? ⟨d, 4, none⟩ = some (.slice a1 m1 c1) := cell_of_row _ _ 4 _ 82 (0, 0) blk2; have f5 : w2.frozen? ⟨d, 4, none⟩ = false := (by simp [World.frozen?, blk2]); obtain ⟨a2, c2, hv2⟩ := row_form hown2; subst hv2; have H2 := Lib.hid (And.intro hown2 (And.intro hgrow2 hwh2)); clear hown2 hgrow2 hwh2 blk2)
 (try simp only [Exit.inBlock, Exit.then])
 refine bodyPost_end (results_none rfl _ _ _) rfl ?_
 exact eff_fin HD.out.1 HD.out.2.1 HO.out.2.2.1 HO.out.2.2.2.1 HD.out.2.2.1 HD.out.2.2.2.1 HD.out.2.2.2.2.1 HD.out.2.2.2.2.2 (by rw [HA.out.2]) H2.out.1 H2.out.2.1 H2.out.2.2
end
end Go.Proofs.YtnclkfhdpkkakaaGreatDoor
namespace Go.Proofs.YtnclkfhdpkkakaaGreatDoor
set_option linter.unusedVariables false
set_option linter.unusedSimpArgs false
set_option linter.unusedVariables false
set_option linter.unusedSimpArgs false
open Go Go.RowKit Go.Shelf Go.MapKept Go.ChangeMaps Go.Maps Go.Sort
theorem Kept.newK {S : Nat → Prop} {a b c : World} {B : Nat} (h : Kept S a b) (hk : Kept (· = B) b c) (hB : a.heap.size ≤ B) : Kept S a c :=
 ⟨hk.os.trans h.os, hk.tape.trans h.tape, hk.output.trans h.output, Nat.le_trans h.size hk.size, fun i hi hn => (hk.block i (Nat.lt_of_lt_of_le hi h.size) (fun e => by have e : i = B := e; omega)).trans (h.block i hi hn)⟩
theorem Like.turnG {w w' : World} {lo : Nat → Prop} {b : Nat} {cs : Array Value} {t : TypeId} {fr : Nat × Nat} (hb : w.heap[b]? = some (.cells cs t fr)) (hu : ∀ x ∈ cs.toList, ∀ n, x ≠ .int .u8 n) (hk : Kept (· = b) w w') : ∀ {m : List (Bytes × Raw)} {M : List (Bytes × Nd)}, Like w lo m M → Like w' lo m M
 | [], [], _ => trivial
 | x :: m, y :: M, ⟨⟨h1, h2⟩, h3⟩ => ⟨⟨h1, h2.num, h2.len, (h2.data.turnG hb hu hk (Nat.le_refl _)).mono (fun _ h => h) hk.size, h2.nil⟩, Like.turnG hb hu hk h3⟩
theorem TreeAt.turnG {w w' : World} {lo : Nat → Prop} {b mb : Nat} {root : Bytes} {at_ : Int} {M : List (Bytes × Nd)} (T : TreeAt w lo b mb root at_ M) {B : Nat} {cs : Array Value} {t : TypeId} {fr : Nat × Nat} (hb : w.heap[B]? = some (.cells cs t fr)) (hu : ∀ x ∈ cs.toList, ∀ n, x ≠ .int .u8 n) (ht : t ≠ 86) (hk : Kept (· = B) w w') : TreeAt w' lo b mb root at_ M := by
 obtain ⟨m, h1, h2⟩ := T.map
 have hbB : b ≠ B := fun e => by
  subst e
  have := T.blk
  rw [hb] at this
  cases this
  exact ht rfl
 exact ⟨hk.same T.blk hbB, m, h1.kept hk (fun e => T.map_no hb e), h2.turnG hb hu hk⟩
theorem zr_free : ∀ y ∈ (#[.int .i64 0, .string ⟨#[]⟩, .slice none 0 0, .int .u32 0, .int .u32 0, .int .u32 0, .int .i64 0, .int .u32 0, .int .u64 0, .int .u64 0, .int .u64 0, .slice none 0 0, .slice none 0 0] : Array Value).toList, ∀ m, y ≠ .int .u8 m := by
 intro y hy m
 simp at hy
 rcases hy with rfl | rfl | rfl | rfl | rfl | rfl | rfl | rfl <;> simp
section
variable {X : Nat → Prop} {w0 w : World} {d b : Nat} {root : Bytes} {at_ cnt : Int} {M : List (Bytes × Nd)} {who : Sess} {v : Value} {L : List RawE} {E : List Eff}
def Away (n : Nat) (v : Value) (k : Nat) : Prop := n ≤ k ∧ v.ownBlock ≠ some k
def StrLo (w : World) (lo : Nat → Prop) (a : Option Addr) (L : List Bytes) : Prop := ∀ k p, L[k]? = some p → ∃ b off, a = some ⟨b, off, none⟩ ∧ lo b ∧ b < w.heap.size ∧ w.cell? ⟨b, off + k, none⟩ = some (.string (bs p))
theorem StrLo.nil (w : World) (lo : Nat → Prop) (a : Option Addr) : StrLo w lo a [] := fun k p h => by simp at h
theorem StrLo.keptS {w w' : World} {lo S : Nat → Prop} {a : Option Addr} {L : List Bytes} (h : StrLo w lo a L) (hk : Kept S w w') (hn : ∀ k, lo k → k < w.heap.size → ¬ S k) : StrLo w' lo a L := fun k p hp => by
 obtain ⟨b, off, h1, h2, h3, h4⟩ := h k p hp
 exact ⟨b, off, h1, h2, Nat.lt_of_lt_of_le h3 hk.size, (hk.cell (p := ⟨b, off + k, none⟩) h3 (hn b h2 h3)).trans h4⟩
theorem StrLo.mono {w : World} {lo lo' : Nat → Prop} {a : Option Addr} {L : List Bytes} (h : StrLo w lo a L) (hl : ∀ k, lo k → k < w.heap.size → lo' k) : StrLo w lo' a L := fun k p hp => by
 obtain ⟨b, off, h1, h2, h3, h4⟩ := h k p hp
 exact ⟨b, off, h1, hl b h2 h3, h3, h4⟩
theorem StrLo.sl {w : World} {lo : Nat → Prop} {a : Option Addr} {L : List Bytes} (h : StrLo w lo a L) : StrSl w w.heap.size a L := fun k p hp => by
 obtain ⟨b, off, h1, _, h3, h4⟩ := h k p hp
 exact ⟨b, off, h1, h3, h4⟩
theorem Reads.monoB {w : World} {lo lo' : Nat → Prop} {r : Raw} {nd : Nd} (h : Reads w lo r nd) (hl : ∀ k, lo k → k < w.heap.size → lo' k) : Reads w lo' r nd :=
 ⟨h.num, h.len, fun j c hj => by
  obtain ⟨b, off, q1, q2, q3, q4⟩ := h.data j c hj
  exact ⟨b, off, q1, hl b q2 q3, q3, q4⟩, h.nil⟩
structure OpDone (X : Nat → Prop) (w0 w : World) (d b : Nat) (root : Bytes) (at_ cnt : Int) (M M' : List (Bytes × Nd)) (who : Sess) (v : Value) (E : List Eff) (A : Ans) (e : Ending) (w' : World) : Prop where
 ret : ∃ (v' : Value) (L' : List RawE) (r : Raw) (ka : Option Addr) (kc : Nat), e = .returned (.agg (repCells 0 A.path r ka A.kids.length kc none 0 0).toArray) ∧ DoerAt X w0 w' d b root at_ cnt M' who v' L' E ∧ (∀ k, v'.ownBlock = some k → v.ownBlock = some k ∨ w.heap.size ≤ k) ∧ Reads w' (Away w.heap.size v') r A.node ∧ StrLo w' (Away w.heap.size v') ka A.kids
 kept : Kept (fun k => k = b ∨ k = d ∨ v.ownBlock = some k) w w'
theorem DoerAt.turn (D : DoerAt X w0 w d b root at_ cnt M who v L E) {B : Nat} {cs : Array Value} {t : TypeId} {fr : Nat × Nat} (hb : w.heap[B]? = some (.cells cs t fr)) (hu : ∀ x ∈ cs.toList, ∀ n, x ≠ .int .u8 n) (h1 : t ≠ 86) (h2 : t ≠ 88) (h3 : t ≠ 82) (hw : w0.heap.size ≤ B) {w' : World} (hk : Kept (· = B) w w') : DoerAt X w0 w' d b root at_ cnt M who v L E := by
 obtain ⟨lo, mb, T, hlo⟩ := D.far
 have T' := T.turnG hb hu h1 hk
 have hdB : d ≠ B := fun e => by
  subst e
  have := D.blk
  rw [hb] at this
  cases this
  exact h3 rfl
 refine ⟨⟨⟨_, _, T'⟩, D.tree.bl.trans (hk.below D.tree.bl.size (fun k e => by have e : k = B := e; omega)), D.tree.hb, D.tree.fit, D.tree.rl, D.tree.hm⟩, (hk.block d D.lt hdB).trans D.blk, ⟨own_kept D.row.own hk (fun g hg e => own_type D.row.own hb h2 (by have e : g = B := e; rw [← e]; exact hg)), D.row.like.turnG hb hu hk⟩, D.hd, D.inv, D.rlike.turnG hb hu hk, fun k h => Nat.lt_of_lt_of_le (D.old k h) hk.size, ⟨_, _, T', hlo⟩⟩
theorem DoerAt.len (D : DoerAt X w0 w d b root at_ cnt M who v L E) : L.length = E.length := D.row.like.1
set_option maxRecDepth 100000 in
set_option maxHeartbeats 8000000 in
theorem DoerAt.set_ok (D : DoerAt X w0 w d b root at_ cnt M who v L E) (h0 : 0 ≤ cnt) (h1 : cnt ≤ 100000) (hsz : E.length ≤ 900) (r : RawO) (o : Opl) {lo : Nat → Prop} (hr : LeafO w lo r o) (hlo : ∀ k, lo k → v.ownBlock ≠ some k ∧ ¬ X k) (hp : o.path.length ≤ 1000) (hdl : o.data.length ≤ 1000000) (hv : verE M o = 0) :
  Calls Tryz.prog 87 #[.pointer (some ⟨d, 0, none⟩), r.val] w (OpDone X w0 w d b root at_ (cnt + 1) M (setM M at_ o) who v (E ++ setX M at_ o) ⟨o.path, setN (nodeAt M o.path) o.data at_, []⟩) := by
 obtain ⟨nd, hnd, hver⟩ := ver_there hv
 have hfits := set_fits (at_ := at_) D.inv hv
 obtain ⟨ok, op, oa, on, oc, ov, os, oe, pa, pn, pc⟩ := r
 obtain ⟨okd, opp, odata, over, oseq, oeph⟩ := o
 obtain ⟨q1, q2, q3, q4, q5, q6, q7, q8⟩ := hr
 dsimp only at q1 q2 q3 q4 q5 q6 q7 q8 hp hdl hver hnd
 subst q1 q2 q3 q4 q5
 unfold RawO.val RawO.cells
 dsimp only
 obtain ⟨w1, hw1⟩ : ∃ w1, w1 = (w.alloc (.cells #[.int .u8 ok, .string (bs op), .slice oa on oc, .int .i64 ov, .bool os, .bool oe, .slice pa pn pc] 26)).alloc (.cells #[.int .i64 0, .string ⟨#[]⟩, .slice none 0 0, .int .u32 0, .int .u32 0, .int .u32 0, .int .i64 0, .int .u32 0, .int .u64 0, .int .u64 0, .int .u64 0, .slice none 0 0, .slice none 0 0] 43) := ⟨_, rfl⟩
 have hb1 : Below w.heap.size w w1 := by rw [hw1]; exact belowA (belowA (Below.refl _ w) _) _
 have hs1 : w1.heap.size = w.heap.size + 2 := by rw [hw1]; simp
 have k0 : w1.heap[w.heap.size]? = some (.cells #[.int .u8 ok, .string (bs op), .slice oa on oc, .int .i64 ov, .bool os, .bool oe, .slice pa pn pc] 26 (0, 0)) := by rw [hw1]; exact (heap_alloc_old _ _ (by simp)).trans (heap_alloc_new w _)
 have k1 : w1.heap[w.heap.size + 1]? = some (.cells #[.int .i64 0, .string ⟨#[]⟩, .slice none 0 0, .int .u32 0, .int .u32 0, .int .u32 0, .int .i64 0, .int .u32 0, .int .u64 0, .int .u64 0, .int .u64 0, .slice none 0 0, .slice none 0 0] 43 (0, 0)) := by
  have := heap_alloc_new (w.alloc (.cells #[.int .u8 ok, .string (bs op), .slice oa on oc, .int .i64 ov, .bool os, .bool oe, .slice pa pn pc] 26)) (.cells #[.int .i64 0, .string ⟨#[]⟩, .slice none 0 0, .int .u32 0, .int .u32 0, .int .u32 0, .int .i64 0, .int .u32 0, .int .u64 0, .int .u64 0, .int .u64 0, .slice none 0 0, .slice none 0 0] 43)
  rw [World.size_alloc] at this
  rw [hw1]
  exact this
 have ho1 : w1.rangeAt w.heap.size 0 [.int .u8 ok, .string (bs op), .slice oa on oc, .int .i64 ov, .bool os, .bool oe, .slice pa pn pc] := fun j u hu => by
  rw [Nat.zero_add, cell_of_row _ _ j _ 26 (0, 0) k0]
  simpa using hu
 have hg := (D.below hb1).ver_ok ⟨ok, op, oa, on, oc, ov, os, oe, pa, pn, pc⟩ hp hnd hver
 unfold RawO.val RawO.cells at hg
 dsimp only at hg
 have HG := Lib.hid hg
 have hdlt := D.lt
 have HD := Lib.hid (And.intro D (And.intro hfits (And.intro q7 (And.intro q8 (And.intro hlo (And.intro hnd (And.intro q6 hv)))))))
 have H1 := Lib.hid (And.intro hb1 (And.intro hs1 (And.intro k0 (And.intro k1 (And.intro hw1 ho1)))))
 have HSZ : Hid ((Tryz.prog.info? 39).map (·.size) = some 9) := Lib.hid (by kernel_rfl)
 have HSO : Hid ((Tryz.prog.info? 26).map (·.size) = some 7) := Lib.hid (by kernel_rfl)
 have HSR : Hid ((Tryz.prog.info? 43).map (·.size) = some 13) := Lib.hid (by kernel_rfl)
 have HON6 := Lib.hid q6
 clear D hfits q7 q8 hlo hnd hver hv hg hb1 hs1 k0 k1 hw1 ho1 q6
 go_enter Tryz.func87, Tryz.ntmps87
 go_wp2_with (rw [← H1.out.2.2.2.2.1]; refine wpList_load_mid rfl 26 (.tmp 3) rfl w.heap.size 0 rfl [.int .u8 ok, .string (bs op), .slice oa on oc, .int .i64 ov, .bool os, .bool oe, .slice pa pn pc] _ H1.out.2.2.2.2.2 Tryz.underlying26 rfl HSO.out ?_)
 refine HG.out.mono ?_
 rintro e w2 ⟨r, rfl, hrd, B2, hfree⟩
 obtain ⟨ra, rn, rc, ⟨r1, r2, r3, r4, r5, r6, r7, r8⟩⟩ := r
 unfold Raw.val Raw.cells Nums.cells
 dsimp only
 obtain ⟨hb1, hs1, k0, k1, _, _⟩ := H1.out
 obtain ⟨w3, hw3⟩ : ∃ w3, w3 = w2.alloc (.cells #[.slice ra rn rc, .int .u32 r1, .int .u32 r2, .int .u32 r3, .int .i64 r4, .int .u32 r5, .int .u64 r6, .int .u64 r7, .int .u64 r8] 39) := ⟨_, rfl⟩
 have hb3 : Below w2.heap.size w2 w3 := by rw [hw3]; exact belowA (Below.refl _ w2) _
 have k3 : w3.heap[w2.heap.size]? = some (.cells #[.slice ra rn rc, .int .u32 r1, .int .u32 r2, .int .u32 r3, .int .i64 r4, .int .u32 r5, .int .u64 r6, .int .u64 r7, .int .u64 r8] 39 (0, 0)) := by rw [hw3]; exact heap_alloc_new w2 _
 have hb13 : Below w1.heap.size w1 w3 := B2.trans (hb3.mono B2.size)
 have hs12 := B2.size
 obtain ⟨kv, hkv⟩ : ∃ kv, kv = IntKind.u32.wrap (r1 + 1) := ⟨_, rfl⟩
 have tk : ∀ _ : True, IntKind.u32.wrap (r1 + 1) = kv := fun _ => hkv.symm
 have z1 : w3.cell? ⟨w.heap.size, 2, none⟩ = some (.slice oa on oc) := (hb13.cell (p := ⟨w.heap.size, 2, none⟩) (by show w.heap.size < w1.heap.size; omega)).trans (cell_of_row _ _ 2 _ 26 (0, 0) k0)
 have z2 : w3.cell? ⟨w2.heap.size, 0, none⟩ = some (.slice ra rn rc) := cell_of_row _ _ 0 _ 39 (0, 0) k3
 have f2 : w3.frozen? ⟨w2.heap.size, 0, none⟩ = false := by simp [World.frozen?, k3]
 obtain ⟨w4, hw4⟩ : ∃ w4, w4 = w3.setCell ⟨w2.heap.size, 0, none⟩ (.slice oa on oc) := ⟨_, rfl⟩
 have k4 : w4.heap[w2.heap.size]? = some (.cells #[.slice oa on oc, .int .u32 r1, .int .u32 r2, .int .u32 r3, .int .i64 r4, .int .u32 r5, .int .u64 r6, .int .u64 r7, .int .u64 r8] 39 (0, 0)) := by
  rw [hw4]
  simp [World.setCell, Array.getElem?_modify, k3]
 have p4 : Kept (· = w2.heap.size) w3 w4 := by rw [hw4]; exact Kept.setCell (S := (· = w2.heap.size)) (p := ⟨w2.heap.size, 0, none⟩) (Kept.refl _ w3) rfl _
 have z3 : w4.cell? ⟨w2.heap.size, 1, none⟩ = some (.int .u32 r1) := cell_of_row _ _ 1 _ 39 (0, 0) k4
 have f3 : w4.frozen? ⟨w2.heap.size, 1, none⟩ = false := by simp [World.frozen?, k4]
 obtain ⟨w5, hw5⟩ : ∃ w5, w5 = w4.setCell ⟨w2.heap.size, 1, none⟩ (.int .u32 kv) := ⟨_, rfl⟩
 have k5 : w5.heap[w2.heap.size]? = some (.cells #[.slice oa on oc, .int .u32 kv, .int .u32 r2, .int .u32 r3, .int .i64 r4, .int .u32 r5, .int .u64 r6, .int .u64 r7, .int .u64 r8] 39 (0, 0)) := by
  rw [hw5]
  simp [World.setCell, Array.getElem?_modify, k4]
 have p5 : Kept (· = w2.heap.size) w3 w5 := p4.trans (by rw [hw5]; exact Kept.setCell (S := (· = w2.heap.size)) (p := ⟨w2.heap.size, 1, none⟩) (Kept.refl _ w4) rfl _)
 have z4 : w5.cell? ⟨w2.heap.size, 7, none⟩ = some (.int .u64 r7) := cell_of_row _ _ 7 _ 39 (0, 0) k5
 have f4 : w5.frozen? ⟨w2.heap.size, 7, none⟩ = false := by simp [World.frozen?, k5]
 have zd : w5.cell? ⟨d, 1, none⟩ = some (.int .u64 at_) := (p5.cell (p := ⟨d, 1, none⟩) (by show d < w3.heap.size; have := hb13.size; omega) (fun e => by have e : d = w2.heap.size := e; omega)).trans ((hb13.cell (p := ⟨d, 1, none⟩) (by show d < w1.heap.size; omega)).trans ((hb1.cell (p := ⟨d, 1, none⟩) hdlt).trans HD.out.1.c1))
 have hb15 : Below w1.heap.size w1 w5 := hb13.trans (p5.below hb13.size (fun k e => by have e : k = w2.heap.size := e; omega))
 have z6 : w5.cell? ⟨w.heap.size, 1, none⟩ = some (.string (bs op)) := (hb15.cell (p := ⟨w.heap.size, 1, none⟩) (by show w.heap.size < w1.heap.size; omega)).trans (cell_of_row _ _ 1 _ 26 (0, 0) k0)
 clear hb15
 obtain ⟨w6, hw6⟩ : ∃ w6, w6 = w5.setCell ⟨w2.heap.size, 7, none⟩ (.int .u64 at_) := ⟨_, rfl⟩
 have k6 : w6.heap[w2.heap.size]? = some (.cells #[.slice oa on oc, .int .u32 kv, .int .u32 r2, .int .u32 r3, .int .i64 r4, .int .u32 r5, .int .u64 r6, .int .u64 at_, .int .u64 r8] 39 (0, 0)) := by
  rw [hw6]
  simp [World.setCell, Array.getElem?_modify, k5]
 have p6 : Kept (· = w2.heap.size) w3 w6 := p5.trans (by rw [hw6]; exact Kept.setCell (S := (· = w2.heap.size)) (p := ⟨w2.heap.size, 7, none⟩) (Kept.refl _ w5) rfl _)
 have hr6 : w6.rangeAt w2.heap.size 0 [.slice oa on oc, .int .u32 kv, .int .u32 r2, .int .u32 r3, .int .i64 r4, .int .u32 r5, .int .u64 r6, .int .u64 at_, .int .u64 r8] := fun j u hu => by
  rw [Nat.zero_add, cell_of_row _ _ j _ 39 (0, 0) k6]
  simpa using hu
 have hb16 : Below w1.heap.size w1 w6 := hb13.trans (p6.below hb13.size (fun k e => by have e : k = w2.heap.size := e; omega))
 have z5 : w6.cell? ⟨w.heap.size, 1, none⟩ = some (.string (bs op)) := (hb16.cell (p := ⟨w.heap.size, 1, none⟩) (by show w.heap.size < w1.heap.size; omega)).trans (cell_of_row _ _ 1 _ 26 (0, 0) k0)
 obtain ⟨w7, hw7⟩ : ∃ w7, w7 = w6.alloc (.cells #[.string (bs op), .bool false, .slice oa on oc, .int .u32 kv, .int .u32 r2, .int .u32 r3, .int .i64 r4, .int .u32 r5, .int .u64 r6, .int .u64 at_, .int .u64 r8] 88) := ⟨_, rfl⟩
 have hb67 : Below w6.heap.size w6 w7 := by rw [hw7]; exact belowA (Below.refl _ w6) _
 have hb17 : Below w1.heap.size w1 w7 := hb16.trans (hb67.mono hb16.size)
 have hb7 : Below w.heap.size w w7 := hb1.trans (hb17.mono hb1.size)
 have D7 := HD.out.1.below hb7
 have hnum := hrd.num
 have hrdx : ReadsE w7 lo ⟨op, false, ⟨oa, on, oc, ⟨kv, r2, r3, r4, r5, r6, at_, r8⟩⟩⟩ ⟨op, false, setN (nodeAt M op) odata at_⟩ := by
  refine ⟨rfl, rfl, ?_, HD.out.2.2.2.2.2.2.1, (HD.out.2.2.1.below hb7).mono (fun _ h => h) hb7.size, HD.out.2.2.2.1⟩
  unfold setN nodeAt inc32
  rw [HD.out.2.2.2.2.2.1]
  dsimp only [Option.getD_some]
  rw [← hnum, hkv]
 have hef := D7.effects h0 h1 (gb := w6.heap.size) (go_ := 0) (n := 1) (c := 1) (Lx := [⟨op, false, ⟨oa, on, oc, ⟨kv, r2, r3, r4, r5, r6, at_, r8⟩⟩⟩]) (Ex := setX M at_ ⟨ok, op, odata, ov, os, oe⟩) rfl (by rw [hw7]; exact effs_one w6 ⟨op, false, ⟨oa, on, oc, ⟨kv, r2, r3, r4, r5, r6, at_, r8⟩⟩⟩) (by have h2 := HD.out.1.tree.lt; have h3 := hb16.size; omega) (like_one hrdx) HD.out.2.2.2.2.1 (by intro x hx; simp [setX] at hx; subst hx; exact ⟨hp, hdl⟩) HD.out.2.1 (by have := HD.out.1.len; omega)
 have HEF := Lib.hid hef
 have H7 := Lib.hid (And.intro hr6 (And.intro hb7 (And.intro hb17 (And.intro hs12 (And.intro hb1 hs1)))))
 have HW := Lib.hid (And.intro hw3 (And.intro hw4 (And.intro hw5 (And.intro hw6 hw7))))
 clear hef hr6 hb7 hb17 hb67 hb16 p6 p5 p4 hb13 hb3 hw3 hw4 hw5 hw6 hw7 k3 k4 k5 k6 hrdx D7 hrd B2 hfree hnum hkv hb1 hs1 k0 k1 hs12
 go_wp2_with (first
  | (rw [← HW.out.1])
  | (rw [← HW.out.2.1])
  | (rw [← HW.out.2.2.1])
  | (rw [← HW.out.2.2.2.1]; refine wpList_load_mid rfl 39 (.tmp 5) rfl w2.heap.size 0 rfl [.slice oa on oc, .int .u32 kv, .int .u32 r2, .int .u32 r3, .int .i64 r4, .int .u32 r5, .int .u64 r6, .int .u64 at_, .int .u64 r8] _ H7.out.1 Tryz.underlying39 rfl HSZ.out ?_))
 rw [← HW.out.2.2.2.2]
 refine HEF.out.mono ?_
 rintro e w8 ⟨rfl, ⟨v8, D8, G8⟩, K8⟩
 have hbb : b < w.heap.size := HD.out.1.tree.lt
 have hvl : ∀ k, v.ownBlock = some k → k < w.heap.size := fun k h => (HD.out.1.row.own.lt k h).2
 have hnk : ∀ k, w.heap.size ≤ k → ¬ (k = b ∨ k = d ∨ v.ownBlock = some k) := fun k hk h => by
  rcases h with h | h | h
  ·omega
  ·omega
  ·have := hvl k h; omega
 have hs17 : w1.heap.size ≤ w7.heap.size := H7.out.2.2.1.size
 have hs1 := H7.out.2.2.2.2.2
 have z7 : w8.cell? ⟨w.heap.size, 1, none⟩ = some (.string (bs op)) := (K8.cell (p := ⟨w.heap.size, 1, none⟩) (by show w.heap.size < w7.heap.size; omega) (hnk _ (Nat.le_refl _))).trans ((H7.out.2.2.1.cell (p := ⟨w.heap.size, 1, none⟩) (by show w.heap.size < w1.heap.size; omega)).trans (cell_of_row _ _ 1 _ 26 (0, 0) H1.out.2.2.1))
 have k8 := (K8.block (w.heap.size + 1) (by omega) (hnk _ (Nat.le_succ _))).trans ((H7.out.2.2.1.block (w.heap.size + 1) (by omega)).trans H1.out.2.2.2.1)
 have htl := D8.told_some op hp (nd := setN (nodeAt M op) odata at_) (by unfold setM; exact getA_putA_same _ _ _)
 have HT := Lib.hid htl
 have hs78 := K8.size
 have H8 := Lib.hid (And.intro D8 (And.intro K8 (And.intro k8 (And.intro hnk G8))))
 clear htl D8 K8 k8 hnk G8
 go_wp2_with fail
 refine HT.out.mono ?_
 rintro e w9 ⟨r9, rfl, hrd9, B9, hfree9⟩
 obtain ⟨sa, sn, sc, ⟨s1, s2, s3, s4, s5, s6, s7, s8⟩⟩ := r9
 unfold repCells Raw.cells Nums.cells
 dsimp only [List.cons_append, List.nil_append]
 have ht9 : w9.there (w.heap.size + 1) 0 13 := there_of ((B9.block _ (by omega)).trans H8.out.2.2.1) (by simp)
 have H9 := Lib.hid (And.intro ht9 (And.intro hrd9 (And.intro B9 hfree9)))
 clear ht9 hrd9 B9 hfree9
 have HON : Hid ((#[.int .i64 0, .string (bs op), .slice sa sn sc, .int .u32 s1, .int .u32 s2, .int .u32 s3, .int .i64 s4, .int .u32 s5, .int .u64 s6, .int .u64 s7, .int .u64 s8, .slice none 0 0, .slice none 0 0] : Array Value).all (·.oneCell') = true) := Lib.hid (by simp [Value.oneCell'])
 go_wp2_with (refine wpList_store_mid rfl 43 (.tmp 4) (.tmp 31) rfl (w.heap.size + 1) 0 #[.int .i64 0, .string (bs op), .slice sa sn sc, .int .u32 s1, .int .u32 s2, .int .u32 s3, .int .i64 s4, .int .u32 s5, .int .u64 s6, .int .u64 s7, .int .u64 s8, .slice none 0 0, .slice none 0 0] rfl rfl H9.out.1 HSR.out HON.out ?_)
 refine bodyPost_ret (results_cell_mid rfl _ _ (w.heap.size + 1) 0 [.int .i64 0, .string (bs op), .slice sa sn sc, .int .u32 s1, .int .u32 s2, .int .u32 s3, .int .i64 s4, .int .u32 s5, .int .u64 s6, .int .u64 s7, .int .u64 s8, .slice none 0 0, .slice none 0 0] _ rfl (World.rangeAt_setCells_same _ _ _ _ H9.out.1) Tryz.underlying43 rfl HSR.out) rfl ?_
 obtain ⟨_, g2, g3, _⟩ := H9.out
 have K9 : Kept (· = w.heap.size + 1) w9 (w9.setCells (w.heap.size + 1) 0 [.int .i64 0, .string (bs op), .slice sa sn sc, .int .u32 s1, .int .u32 s2, .int .u32 s3, .int .i64 s4, .int .u32 s5, .int .u64 s6, .int .u64 s7, .int .u64 s8, .slice none 0 0, .slice none 0 0]) := Kept.setCells (S := (· = w.heap.size + 1)) (p := w.heap.size + 1) rfl _ 0 (Kept.refl _ w9)
 have hb8 : Kept (fun k => k = b ∨ k = d ∨ v.ownBlock = some k) w w8 := (Kept.ofBelow (S := fun k => k = b ∨ k = d ∨ v.ownBlock = some k) H7.out.2.1).trans H8.out.2.1
 have hk9 := (g3.block (w.heap.size + 1) (by omega)).trans H8.out.2.2.1
 have D9 := (H8.out.1.below g3).turn hk9 zr_free (by decide) (by decide) (by decide) (by have := HD.out.1.tree.bl.size; omega) K9
 have hsw7 := H7.out.2.1.size
 refine ⟨⟨v8, _, ⟨sa, sn, sc, ⟨s1, s2, s3, s4, s5, s6, s7, s8⟩⟩, none, 0, rfl, D9, ?_, ?_, StrLo.nil _ _ _⟩, ?_⟩
 ·intro k hk
  rcases H8.out.2.2.2.2 k hk with h | h
  ·exact .inl h
  ·exact .inr (by omega)
 ·refine (g2.cells (fun k hk e => by have hk : w8.heap.size ≤ k := hk; omega) _).mono (fun k hk => ?_)
  have hk : w8.heap.size ≤ k := hk
  refine ⟨by omega, fun e => ?_⟩
  have := (H8.out.1.row.own.lt k e).2
  omega
 ·exact (hb8.trans (Kept.ofBelow g3)).newK K9 (by omega)
end
end Go.Proofs.YtnclkfhdpkkakaaGreatDoor
namespace Go.Proofs.YtnclkfhdpkkakaaGreatDoor
set_option linter.unusedVariables false
set_option linter.unusedSimpArgs false
set_option linter.unusedVariables false
set_option linter.unusedSimpArgs false
open Go Go.RowKit Go.Shelf Go.MapKept Go.ChangeMaps Go.Maps Go.Sort
section
variable {X : Nat → Prop} {w0 w : World} {d b : Nat} {root : Bytes} {at_ cnt : Int} {M : List (Bytes × Nd)} {who : Sess} {v : Value} {L : List RawE} {E : List Eff}
def OpFail (w : World) (x : Int) (e : Ending) (w' : World) : Prop := e = panicV x ∧ Below w.heap.size w w'
theorem DoerAt.ver_err (D : DoerAt X w0 w d b root at_ cnt M who v L E) (r : RawO) (o : Opl) (h1 : r.path = o.path) (h2 : r.ver = o.ver) (hp : o.path.length ≤ 1000) {x : Int} (hx : verE M o = x) (h0 : x ≠ 0) :
  Calls Tryz.prog 115 #[.pointer (some ⟨d, 0, none⟩), r.val] w (OpFail w x) := by
 subst hx
 unfold verE at h0 ⊢
 split at h0
 ·rename_i hn
  exact D.ver_none r (by rw [h1]; exact hp) (by rw [h1]; exact hn)
 ·rename_i nd hn
  split at h0
  ·rename_i hv
   rw [if_pos hv]
   exact D.ver_bad r (by rw [h1]; exact hp) (by rw [h1]; exact hn) (by rw [h2]; exact hv)
  ·exact absurd rfl h0
set_option maxRecDepth 100000 in
set_option maxHeartbeats 8000000 in
theorem DoerAt.set_err (D : DoerAt X w0 w d b root at_ cnt M who v L E) (r : RawO) (o : Opl) {lo : Nat → Prop} (hr : LeafO w lo r o) (hp : o.path.length ≤ 1000) {x : Int} (hx : verE M o = x) (h0 : x ≠ 0) :
  Calls Tryz.prog 87 #[.pointer (some ⟨d, 0, none⟩), r.val] w (OpFail w x) := by
 obtain ⟨ok, op, oa, on, oc, ov, os, oe, pa, pn, pc⟩ := r
 obtain ⟨okd, opp, odata, over, oseq, oeph⟩ := o
 obtain ⟨q1, q2, q3, q4, q5, q6, q7, q8⟩ := hr
 clear q6 q7 q8
 dsimp only at q1 q2 q3 q4 q5 hp hx
 subst q1 q2 q3 q4 q5
 unfold RawO.val RawO.cells
 dsimp only
 obtain ⟨w1, hw1⟩ : ∃ w1, w1 = (w.alloc (.cells #[.int .u8 ok, .string (bs op), .slice oa on oc, .int .i64 ov, .bool os, .bool oe, .slice pa pn pc] 26)).alloc (.cells #[.int .i64 0, .string ⟨#[]⟩, .slice none 0 0, .int .u32 0, .int .u32 0, .int .u32 0, .int .i64 0, .int .u32 0, .int .u64 0, .int .u64 0, .int .u64 0, .slice none 0 0, .slice none 0 0] 43) := ⟨_, rfl⟩
 have hb1 : Below w.heap.size w w1 := by rw [hw1]; exact belowA (belowA (Below.refl _ w) _) _
 have hs1 : w1.heap.size = w.heap.size + 2 := by rw [hw1]; simp
 have k0 : w1.heap[w.heap.size]? = some (.cells #[.int .u8 ok, .string (bs op), .slice oa on oc, .int .i64 ov, .bool os, .bool oe, .slice pa pn pc] 26 (0, 0)) := by rw [hw1]; exact (heap_alloc_old _ _ (by simp)).trans (heap_alloc_new w _)
 have k1 : w1.heap[w.heap.size + 1]? = some (.cells #[.int .i64 0, .string ⟨#[]⟩, .slice none 0 0, .int .u32 0, .int .u32 0, .int .u32 0, .int .i64 0, .int .u32 0, .int .u64 0, .int .u64 0, .int .u64 0, .slice none 0 0, .slice none 0 0] 43 (0, 0)) := by
  have := heap_alloc_new (w.alloc (.cells #[.int .u8 ok, .string (bs op), .slice oa on oc, .int .i64 ov, .bool os, .bool oe, .slice pa pn pc] 26)) (.cells #[.int .i64 0, .string ⟨#[]⟩, .slice none 0 0, .int .u32 0, .int .u32 0, .int .u32 0, .int .i64 0, .int .u32 0, .int .u64 0, .int .u64 0, .int .u64 0, .slice none 0 0, .slice none 0 0] 43)
  rw [World.size_alloc] at this
  rw [hw1]
  exact this
 have ho1 : w1.rangeAt w.heap.size 0 [.int .u8 ok, .string (bs op), .slice oa on oc, .int .i64 ov, .bool os, .bool oe, .slice pa pn pc] := fun j u hu => by
  rw [Nat.zero_add, cell_of_row _ _ j _ 26 (0, 0) k0]
  simpa using hu
 have HSO : Hid ((Tryz.prog.info? 26).map (·.size) = some 7) := Lib.hid (by kernel_rfl)
 have HSR : Hid ((Tryz.prog.info? 43).map (·.size) = some 13) := Lib.hid (by kernel_rfl)
 have D1 := D.below hb1
 have H1 := Lib.hid (And.intro hb1 (And.intro hs1 (And.intro k0 (And.intro k1 (And.intro hw1 ho1)))))
 have hg := D1.ver_err ⟨ok, op, oa, on, oc, ov, os, oe, pa, pn, pc⟩ ⟨ok, op, odata, ov, os, oe⟩ rfl rfl hp hx h0
 unfold RawO.val RawO.cells OpFail at hg
 dsimp only at hg
 have HG := Lib.hid hg
 clear D D1 hg hx h0 hb1 hs1 k0 k1 hw1 ho1
 go_enter Tryz.func87, Tryz.ntmps87
 go_wp2_with (rw [← H1.out.2.2.2.2.1]; refine wpList_load_mid rfl 26 (.tmp 3) rfl w.heap.size 0 rfl [.int .u8 ok, .string (bs op), .slice oa on oc, .int .i64 ov, .bool os, .bool oe, .slice pa pn pc] _ H1.out.2.2.2.2.2 Tryz.underlying26 rfl HSO.out ?_)
 refine HG.out.mono ?_
 rintro e w2 ⟨rfl, B2⟩
 have HB2 := Lib.hid (H1.out.1.trans (B2.mono H1.out.1.size))
 clear B2
 unfold panicV
 go_wp2
 exact ⟨rfl, rfl, HB2.out⟩
set_option maxRecDepth 100000 in
set_option maxHeartbeats 8000000 in
theorem DoerAt.get_none (D : DoerAt X w0 w d b root at_ cnt M who v L E) (r : RawO) (o : Opl) {lo : Nat → Prop} (hr : LeafO w lo r o) (hp : o.path.length ≤ 1000) (h : getA o.path M = none) :
  Calls Tryz.prog 89 #[.pointer (some ⟨d, 0, none⟩), r.val] w (OpFail w 31) := by
 obtain ⟨ok, op, oa, on, oc, ov, os, oe, pa, pn, pc⟩ := r
 obtain ⟨okd, opp, odata, over, oseq, oeph⟩ := o
 obtain ⟨q1, q2, q3, q4, q5, q6, q7, q8⟩ := hr
 clear q6 q7 q8
 dsimp only at q1 q2 q3 q4 q5 hp h
 subst q1 q2 q3 q4 q5
 unfold RawO.val RawO.cells
 dsimp only
 obtain ⟨w1, hw1⟩ : ∃ w1, w1 = (w.alloc (.cells #[.int .u8 ok, .string (bs op), .slice oa on oc, .int .i64 ov, .bool os, .bool oe, .slice pa pn pc] 26)).alloc (.cells #[.int .i64 0, .string ⟨#[]⟩, .slice none 0 0, .int .u32 0, .int .u32 0, .int .u32 0, .int .i64 0, .int .u32 0, .int .u64 0, .int .u64 0, .int .u64 0, .slice none 0 0, .slice none 0 0] 43) := ⟨_, rfl⟩
 have hb1 : Below w.heap.size w w1 := by rw [hw1]; exact belowA (belowA (Below.refl _ w) _) _
 have hs1 : w1.heap.size = w.heap.size + 2 := by rw [hw1]; simp
 have k0 : w1.heap[w.heap.size]? = some (.cells #[.int .u8 ok, .string (bs op), .slice oa on oc, .int .i64 ov, .bool os, .bool oe, .slice pa pn pc] 26 (0, 0)) := by rw [hw1]; exact (heap_alloc_old _ _ (by simp)).trans (heap_alloc_new w _)
 have k1 : w1.heap[w.heap.size + 1]? = some (.cells #[.int .i64 0, .string ⟨#[]⟩, .slice none 0 0, .int .u32 0, .int .u32 0, .int .u32 0, .int .i64 0, .int .u32 0, .int .u64 0, .int .u64 0, .int .u64 0, .slice none 0 0, .slice none 0 0] 43 (0, 0)) := by
  have := heap_alloc_new (w.alloc (.cells #[.int .u8 ok, .string (bs op), .slice oa on oc, .int .i64 ov, .bool os, .bool oe, .slice pa pn pc] 26)) (.cells #[.int .i64 0, .string ⟨#[]⟩, .slice none 0 0, .int .u32 0, .int .u32 0, .int .u32 0, .int .i64 0, .int .u32 0, .int .u64 0, .int .u64 0, .int .u64 0, .slice none 0 0, .slice none 0 0] 43)
  rw [World.size_alloc] at this
  rw [hw1]
  exact this
 have ho1 : w1.rangeAt w.heap.size 0 [.int .u8 ok, .string (bs op), .slice oa on oc, .int .i64 ov, .bool os, .bool oe, .slice pa pn pc] := fun j u hu => by
  rw [Nat.zero_add, cell_of_row _ _ j _ 26 (0, 0) k0]
  simpa using hu
 have HSO : Hid ((Tryz.prog.info? 26).map (·.size) = some 7) := Lib.hid (by kernel_rfl)
 have HSR : Hid ((Tryz.prog.info? 43).map (·.size) = some 13) := Lib.hid (by kernel_rfl)
 have D1 := D.below hb1
 have H1 := Lib.hid (And.intro hb1 (And.intro hs1 (And.intro k0 (And.intro k1 (And.intro hw1 ho1)))))
 have hg := D1.told_none op hp h
 have HG := Lib.hid hg
 have y1 : w1.cell? ⟨w.heap.size, 1, none⟩ = some (.string (bs op)) := ho1 1 _ rfl
 clear D D1 hg h hb1 hs1 k0 k1 hw1 ho1
 go_enter Tryz.func89, Tryz.ntmps89
 go_wp2_with (rw [← H1.out.2.2.2.2.1])
 refine HG.out.mono ?_
 rintro e w2 ⟨rfl, B2⟩
 have HB2 := Lib.hid (H1.out.1.trans (B2.mono H1.out.1.size))
 clear B2
 unfold panicV
 go_wp2
 exact ⟨rfl, rfl, HB2.out⟩
set_option maxRecDepth 100000 in
set_option maxHeartbeats 8000000 in
theorem DoerAt.get_ok (D : DoerAt X w0 w d b root at_ cnt M who v L E) (r : RawO) (o : Opl) {lo : Nat → Prop} (hr : LeafO w lo r o) (hp : o.path.length ≤ 1000) {nd : Nd} (h : getA o.path M = some nd) :
  Calls Tryz.prog 89 #[.pointer (some ⟨d, 0, none⟩), r.val] w (OpDone X w0 w d b root at_ cnt M M who v E ⟨o.path, nd, []⟩) := by
 obtain ⟨ok, op, oa, on, oc, ov, os, oe, pa, pn, pc⟩ := r
 obtain ⟨okd, opp, odata, over, oseq, oeph⟩ := o
 obtain ⟨q1, q2, q3, q4, q5, q6, q7, q8⟩ := hr
 clear q6 q7 q8
 dsimp only at q1 q2 q3 q4 q5 hp h
 subst q1 q2 q3 q4 q5
 unfold RawO.val RawO.cells
 dsimp only
 obtain ⟨w1, hw1⟩ : ∃ w1, w1 = (w.alloc (.cells #[.int .u8 ok, .string (bs op), .slice oa on oc, .int .i64 ov, .bool os, .bool oe, .slice pa pn pc] 26)).alloc (.cells #[.int .i64 0, .string ⟨#[]⟩, .slice none 0 0, .int .u32 0, .int .u32 0, .int .u32 0, .int .i64 0, .int .u32 0, .int .u64 0, .int .u64 0, .int .u64 0, .slice none 0 0, .slice none 0 0] 43) := ⟨_, rfl⟩
 have hb1 : Below w.heap.size w w1 := by rw [hw1]; exact belowA (belowA (Below.refl _ w) _) _
 have hs1 : w1.heap.size = w.heap.size + 2 := by rw [hw1]; simp
 have k0 : w1.heap[w.heap.size]? = some (.cells #[.int .u8 ok, .string (bs op), .slice oa on oc, .int .i64 ov, .bool os, .bool oe, .slice pa pn pc] 26 (0, 0)) := by rw [hw1]; exact (heap_alloc_old _ _ (by simp)).trans (heap_alloc_new w _)
 have k1 : w1.heap[w.heap.size + 1]? = some (.cells #[.int .i64 0, .string ⟨#[]⟩, .slice none 0 0, .int .u32 0, .int .u32 0, .int .u32 0, .int .i64 0, .int .u32 0, .int .u64 0, .int .u64 0, .int .u64 0, .slice none 0 0, .slice none 0 0] 43 (0, 0)) := by
  have := heap_alloc_new (w.alloc (.cells #[.int .u8 ok, .string (bs op), .slice oa on oc, .int .i64 ov, .bool os, .bool oe, .slice pa pn pc] 26)) (.cells #[.int .i64 0, .string ⟨#[]⟩, .slice none 0 0, .int .u32 0, .int .u32 0, .int .u32 0, .int .i64 0, .int .u32 0, .int .u64 0, .int .u64 0, .int .u64 0, .slice none 0 0, .slice none 0 0] 43)
  rw [World.size_alloc] at this
  rw [hw1]
  exact this
 have ho1 : w1.rangeAt w.heap.size 0 [.int .u8 ok, .string (bs op), .slice oa on oc, .int .i64 ov, .bool os, .bool oe, .slice pa pn pc] := fun j u hu => by
  rw [Nat.zero_add, cell_of_row _ _ j _ 26 (0, 0) k0]
  simpa using hu
 have HSO : Hid ((Tryz.prog.info? 26).map (·.size) = some 7) := Lib.hid (by kernel_rfl)
 have HSR : Hid ((Tryz.prog.info? 43).map (·.size) = some 13) := Lib.hid (by kernel_rfl)
 have D1 := D.below hb1
 have H1 := Lib.hid (And.intro hb1 (And.intro hs1 (And.intro k0 (And.intro k1 (And.intro hw1 ho1)))))
 have hg := D1.told_some op hp h
 have HG := Lib.hid hg
 have HD := Lib.hid D
 have y1 : w1.cell? ⟨w.heap.size, 1, none⟩ = some (.string (bs op)) := ho1 1 _ rfl
 clear D D1 hg h hb1 hs1 k0 k1 hw1 ho1
 go_enter Tryz.func89, Tryz.ntmps89
 go_wp2_with (rw [← H1.out.2.2.2.2.1])
 refine HG.out.mono ?_
 rintro e w2 ⟨r, rfl, hrd, B2, hfree⟩
 obtain ⟨ra, rn, rc, ⟨r1, r2, r3, r4, r5, r6, r7, r8⟩⟩ := r
 unfold repCells Raw.cells Nums.cells
 dsimp only [List.cons_append, List.nil_append]
 have ht2 : w2.there (w.heap.size + 1) 0 13 := there_of ((B2.block _ (by have := H1.out.2.1; omega)).trans H1.out.2.2.2.1) (by simp)
 have H2 := Lib.hid (And.intro ht2 (And.intro hrd B2))
 clear ht2 hrd B2 hfree
 have HON : Hid ((#[.int .i64 0, .string (bs op), .slice ra rn rc, .int .u32 r1, .int .u32 r2, .int .u32 r3, .int .i64 r4, .int .u32 r5, .int .u64 r6, .int .u64 r7, .int .u64 r8, .slice none 0 0, .slice none 0 0] : Array Value).all (·.oneCell') = true) := Lib.hid (by simp [Value.oneCell'])
 go_wp2_with (refine wpList_store_mid rfl 43 (.tmp 4) (.tmp 8) rfl (w.heap.size + 1) 0 #[.int .i64 0, .string (bs op), .slice ra rn rc, .int .u32 r1, .int .u32 r2, .int .u32 r3, .int .i64 r4, .int .u32 r5, .int .u64 r6, .int .u64 r7, .int .u64 r8, .slice none 0 0, .slice none 0 0] rfl rfl H2.out.1 HSR.out HON.out ?_)
 refine bodyPost_ret (results_cell_mid rfl _ _ (w.heap.size + 1) 0 [.int .i64 0, .string (bs op), .slice ra rn rc, .int .u32 r1, .int .u32 r2, .int .u32 r3, .int .i64 r4, .int .u32 r5, .int .u64 r6, .int .u64 r7, .int .u64 r8, .slice none 0 0, .slice none 0 0] _ rfl (World.rangeAt_setCells_same _ _ _ _ H2.out.1) Tryz.underlying43 rfl HSR.out) rfl ?_
 obtain ⟨hb1, hs1, k0, k1, _, _⟩ := H1.out
 obtain ⟨g1, g2, g3⟩ := H2.out
 have K9 : Kept (· = w.heap.size + 1) w2 (w2.setCells (w.heap.size + 1) 0 [.int .i64 0, .string (bs op), .slice ra rn rc, .int .u32 r1, .int .u32 r2, .int .u32 r3, .int .i64 r4, .int .u32 r5, .int .u64 r6, .int .u64 r7, .int .u64 r8, .slice none 0 0, .slice none 0 0]) := Kept.setCells (S := (· = w.heap.size + 1)) (p := w.heap.size + 1) rfl _ 0 (Kept.refl _ w2)
 have hb2 : Below w.heap.size w w2 := hb1.trans (g3.mono hb1.size)
 have D9 := (HD.out.below hb2).turn ((g3.block (w.heap.size + 1) (by omega)).trans k1) zr_free (by decide) (by decide) (by decide) (by have := HD.out.tree.bl.size; omega) K9
 refine ⟨⟨v, _, ⟨ra, rn, rc, ⟨r1, r2, r3, r4, r5, r6, r7, r8⟩⟩, none, 0, rfl, D9, fun k h => .inl h, ?_, StrLo.nil _ _ _⟩, ?_⟩
 ·refine (g2.cells (fun k hk e => by have hk : w1.heap.size ≤ k := hk; omega) _).mono (fun k hk => ?_)
  have hk : w1.heap.size ≤ k := hk
  refine ⟨by omega, fun e => ?_⟩
  have := (HD.out.row.own.lt k e).2
  omega
 ·exact (Kept.ofBelow hb2).newK K9 (by omega)
end
end Go.Proofs.YtnclkfhdpkkakaaGreatDoor
