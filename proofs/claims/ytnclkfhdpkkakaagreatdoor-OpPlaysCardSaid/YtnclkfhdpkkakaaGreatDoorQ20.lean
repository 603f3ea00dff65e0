/-
  grows, walked: it answers true. A row of effects that the call builds by append.
-/
import Derived.Test.YtnclkfhdpkkakaaGreatDoorQ18
import Derived.Test.YtnclkfhdpkkakaaGreatDoorQ15
import Derived.Test.YtnclkfhdpkkakaaGreatDoorQ1
import Derived.Deep.AppendLies
import Derived.Deep.Onto
namespace Go.Proofs.YtnclkfhdpkkakaaGreatDoor
set_option linter.unusedVariables false
set_option linter.unusedSimpArgs false
set_option linter.unusedVariables false
set_option linter.unusedSimpArgs false
open Go Go.RowKit Go.Shelf Go.MapKept Go.ChangeMaps Go.Maps Go.Sort
theorem atA_yes {root : Bytes} {at_ : Int} {M M' : List (Bytes × Nd)} {E : List Eff} (h : applyA root M E = (0, M')) : (applyA root M E).1 = 0 ∧ atA root at_ M E = at_ + 1 ∧ nodesA root M E = M' := by
 unfold atA nodesA
 rw [h]
 exact ⟨rfl, rfl, rfl⟩
theorem belowN {B : Nat} {a b : World} (h : Below B a b) (n : Nat) : Below B a (b.drewN n) := ⟨h.os, h.tape, h.output, h.size, h.block⟩
theorem conv_len {w : World} {lo : Nat → Prop} {hi : Nat} {a : Option Addr} {D : Bytes} {n c : Nat} (hn : n = D.length) (h : ByteSl w lo hi a D) (h0 : a = none → D = [] ∧ c = 0) : (convert 23 9 (.slice a n c)).run Tryz.prog w = .ok (.string (bs D)) w := by
 subst hn
 exact conv_any h h0
end Go.Proofs.YtnclkfhdpkkakaaGreatDoor
namespace Go.Proofs.YtnclkfhdpkkakaaGreatDoor
set_option linter.unusedVariables false
set_option linter.unusedSimpArgs false
set_option linter.unusedVariables false
set_option linter.unusedSimpArgs false
open Go Go.RowKit Go.Shelf Go.MapKept Go.ChangeMaps Go.Maps Go.Sort
theorem infoEffect : (Tryz.prog.info? 88).map (fun i => (i.zero, i.size, i.bytes)) = some (some (.agg #[.string ⟨#[]⟩, .bool false, .slice none 0 0, .int .u32 0, .int .u32 0, .int .u32 0, .int .i64 0, .int .u32 0, .int .u64 0, .int .u64 0, .int .u64 0]), 11, 104) := by kernel_rfl
theorem kept_grown {w w' : World} {o : Option Nat} (h : w.grownBy w' o) : Kept (fun k => o = some k) w w' := ⟨h.os, h.tape, h.output, h.size, fun k hk hn => h.block k hk (fun e => hn e.symm)⟩
theorem flat_at : ∀ (L : List RawE) (k : Nat) (r : RawE), L[k]? = some r → ∀ j u, r.cells[j]? = some u → (L.flatMap RawE.cells)[k * 11 + j]? = some u
 | [], k, r, h, j, u, hu => by simp at h
 | x :: L, 0, r, h, j, u, hu => by
  simp at h
  subst h
  rw [List.flatMap_cons, Nat.zero_mul, Nat.zero_add, List.getElem?_append_left (List.getElem?_eq_some_iff.1 hu).1]
  exact hu
 | x :: L, k + 1, r, h, j, u, hu => by
  have h' : L[k]? = some r := by simpa using h
  rw [List.flatMap_cons, List.getElem?_append_right (by rw [rawE_len]; omega), rawE_len, show (k + 1) * 11 + j - 11 = k * 11 + j by omega]
  exact flat_at L k r h' j u hu
structure EffRow (w : World) (base : Nat) (v : Value) (L : List RawE) (E : List Eff) : Prop where
 own : w.ownsRow base 88 11 v L.length (L.flatMap RawE.cells)
 like : LikeE w (fun k => v.ownBlock ≠ some k) L E
theorem effRow_nil (w : World) (base : Nat) : EffRow w base (.slice none 0 0) [] [] := ⟨World.ownsRow_nil w base 88 11, rfl, fun k r e h => by simp at h⟩
theorem own_below {w w' : World} {base size n : Nat} {e : TypeId} {v : Value} {xs : List Value} (h : w.ownsRow base e size v n xs) (hb : Below w.heap.size w w') : w'.ownsRow base e size v n xs :=
 h.kept (row := none) ⟨hb.os, hb.tape, hb.output, hb.size, fun i hi _ => hb.block i hi⟩ (by cases v.ownBlock <;> simp)
theorem EffRow.more {w wa w' : World} {base : Nat} {v v' : Value} {L : List RawE} {E : List Eff} {r : RawE} {e : Eff} (h : EffRow w base v L E) (hb : Below w.heap.size w wa) (hr : ReadsE wa (From w.heap.size) r e) (cs : List Value)
  (hown : w'.ownsRow base 88 11 v' (L.length + 1) (L.flatMap RawE.cells ++ cs)) (hcs : cs = r.cells) (hg : (wa.alloc (.cells cs.toArray 88)).grownBy w' v.ownBlock) (hw : ∀ k, v'.ownBlock = some k → v.ownBlock = some k ∨ (wa.alloc (.cells cs.toArray 88)).heap.size ≤ k) : EffRow w' base v' (L ++ [r]) (E ++ [e]) := by
 subst hcs
 have hk : Kept (fun k => v.ownBlock = some k) wa w' := (Kept.ofBelow (belowA (Below.refl _ wa) _)).trans (kept_grown hg)
 have hv : ∀ k, v.ownBlock = some k → k < w.heap.size := fun k hk => (h.own.lt k hk).2
 have hone : ∀ {r : RawE} {e : Eff}, ReadsE wa (fun k => v.ownBlock ≠ some k) r e → ReadsE w' (fun k => v'.ownBlock ≠ some k) r e := fun {r e} hx =>
  ⟨hx.path, hx.gone, hx.node.num, hx.node.len, fun j c hj => by
   obtain ⟨b, off, h1, h2, h3, h4⟩ := hx.node.data j c hj
   refine ⟨b, off, h1, fun e1 => ?_, Nat.lt_of_lt_of_le h3 hk.size, (hk.cell (p := ⟨b, off + j, none⟩) h3 h2).trans h4⟩
   rcases hw b e1 with h | h
   ·exact h2 h
   ·simp at h; omega, hx.node.nil⟩
 refine ⟨by rw [List.length_append, List.length_singleton, List.flatMap_append]; simpa using hown, by rw [List.length_append, List.length_append, h.like.1]; rfl, fun k r' e' h1 h2 => ?_⟩
 by_cases hlt : k < L.length
 ·rw [List.getElem?_append_left hlt] at h1
  rw [List.getElem?_append_left (by rw [← h.like.1]; exact hlt)] at h2
  exact hone ((h.like.2 k r' e' h1 h2).below hb)
 ·have hk0 : k = L.length := by have := (List.getElem?_eq_some_iff.1 h1).1; simp at this; omega
  subst hk0
  have hl := h.like.1
  rw [List.getElem?_append_right (Nat.le_refl _), Nat.sub_self] at h1
  rw [List.getElem?_append_right (by omega), ← hl, Nat.sub_self] at h2
  simp at h1 h2
  subst h1 h2
  exact hone ⟨hr.path, hr.gone, hr.node.mono fun b hb e1 => by have := hv b e1; have : w.heap.size ≤ b := hb; omega⟩
theorem EffRow.lies {w : World} {base : Nat} {v : Value} {L : List RawE} {E : List Eff} (h : EffRow w base v L E) (hL : 0 < L.length) :
  ∃ g c, v = .slice (some ⟨g, 0, none⟩) L.length c ∧ base ≤ g ∧ g < w.heap.size ∧ EffsAt w w.heap.size (some ⟨g, 0, none⟩) L := by
 rcases h.own.2 with ⟨h1, h0⟩ | ⟨g, cap, cur, h1, hbg, hg, _⟩
 ·omega
 ·refine ⟨g, cap, h1, (h.own.lt g (by rw [h1]; rfl)).1, (h.own.lt g (by rw [h1]; rfl)).2, fun k r hk => ⟨g, 0, rfl, (h.own.lt g (by rw [h1]; rfl)).2, fun j u hu => ?_⟩⟩
  have := h.own.cells (g := g) (by rw [h1]; rfl) (k * 11 + j) u (flat_at L k r hk j u hu)
  rw [Addr.add_lit] at this
  rw [Nat.zero_add] at this
  rw [show 0 + k * 11 + j = k * 11 + j by omega]
  exact this
end Go.Proofs.YtnclkfhdpkkakaaGreatDoor
