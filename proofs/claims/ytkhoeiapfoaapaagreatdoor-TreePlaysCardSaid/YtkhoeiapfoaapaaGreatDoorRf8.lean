/-
  What the law does between the two trees: a copied row of effects; its bytes, changed.
-/
import Derived.Test.YtkhoeiapfoaapaaGreatDoorRf7
import Derived.Test.YtkhoeiapfoaapaaGreatDoorGnRow
namespace Go.Proofs.YtkhoeiapfoaapaaGreatDoor
set_option linter.unusedVariables false
set_option linter.unusedSimpArgs false
set_option linter.unusedVariables false
set_option linter.unusedSimpArgs false
open Go Go.RowKit Go.Shelf Go.MapKept Go.ChangeMaps Go.Maps Go.Sort

section
variable {w : World} {Z : Nat → Prop} {rb : Nat} {root : Bytes} {cnt : Int} {ao : Option Addr} {c0 : Nat} {R : List RawA} {M L : List (Bytes × Nd)}
theorem RefAt.blk_cell (T : RefAt w Z rb root cnt ao c0 R L) {j : Nat} {v : Value} (h : w.cell? ⟨rb, j, none⟩ = some v) : j < 3 ∧ ∀ x, v ≠ .int .u8 x := by
  rw [cell_of_row _ _ j _ 56 (0, 0) T.blk] at h
  rcases (show j = 0 ∨ j = 1 ∨ j = 2 ∨ 3 ≤ j by omega) with rfl | rfl | rfl | h3
  · simp at h; subst h; exact ⟨by omega, fun x e => by cases e⟩
  · simp at h; subst h; exact ⟨by omega, fun x e => by cases e⟩
  · simp at h; subst h; exact ⟨by omega, fun x e => by cases e⟩
  · rw [Array.getElem?_eq_none (by simpa using h3)] at h
    cases h
/-- Other blocks may be turned from now on. -/
theorem RefAt.rez (T : RefAt w Z rb root cnt ao c0 R L) {Z' : Nat → Prop} (h : ∀ k, k < w.heap.size → Z' k → k = rb) : RefAt w Z' rb root cnt ao c0 R L := by
  refine ⟨T.blk, fun k r hr => ?_, ⟨T.like.1, fun k r x h1 h2 => ?_⟩, T.cap⟩
  · obtain ⟨b, off, e, _, hb, hc⟩ := T.at_ k r hr
    refine ⟨b, off, e, fun hz => ?_, hb, hc⟩
    have hbr := h b hb hz
    subst hbr
    have h9 : r.cells[9]? = some (.int .u64 r.node.num.tch) := rfl
    have := (T.blk_cell (hc 9 _ h9)).1
    omega
  · obtain ⟨g1, g2⟩ := T.like.2 k r x h1 h2
    refine ⟨g1, g2.num, g2.len, fun j c hj => ?_, g2.nil⟩
    obtain ⟨b, off, e, _, hb, hc⟩ := g2.data j c hj
    refine ⟨b, off, e, fun hz => ?_, hb, hc⟩
    have hbr := h b hb hz
    subst hbr
    exact (T.blk_cell hc).2 _ rfl
/-- Other blocks may be turned from now on, the tree's own among them. -/
theorem RefAt.rez2 (T : RefAt w Z rb root cnt ao c0 R L) {Z' : Nat → Prop} {b : Nat} {s : ByteArray} {x : Int} {y : Option Nat} {t : TypeId} (hb : w.heap[b]? = some (.cells #[.string s, .int .u64 x, .map y] t (0, 0))) (h : ∀ k, k < w.heap.size → Z' k → k = rb ∨ k = b) : RefAt w Z' rb root cnt ao c0 R L := by
  have key : ∀ {j : Nat} {v : Value}, w.cell? ⟨b, j, none⟩ = some v → j < 3 ∧ ∀ x, v ≠ .int .u8 x := fun {j v} h => by
    rw [cell_of_row _ _ j _ t (0, 0) hb] at h
    rcases (show j = 0 ∨ j = 1 ∨ j = 2 ∨ 3 ≤ j by omega) with rfl | rfl | rfl | h3
    · simp at h; subst h; exact ⟨by omega, fun x e => by cases e⟩
    · simp at h; subst h; exact ⟨by omega, fun x e => by cases e⟩
    · simp at h; subst h; exact ⟨by omega, fun x e => by cases e⟩
    · rw [Array.getElem?_eq_none (by simpa using h3)] at h
      cases h
  refine ⟨T.blk, fun k r hr => ?_, ⟨T.like.1, fun k r x h1 h2 => ?_⟩, T.cap⟩
  · obtain ⟨b2, off, e, _, hb2, hc⟩ := T.at_ k r hr
    refine ⟨b2, off, e, fun hz => ?_, hb2, hc⟩
    have h9 : r.cells[9]? = some (.int .u64 r.node.num.tch) := rfl
    rcases h b2 hb2 hz with rfl | rfl
    · have := (T.blk_cell (hc 9 _ h9)).1
      omega
    · have := (key (hc 9 _ h9)).1
      omega
  · obtain ⟨g1, g2⟩ := T.like.2 k r x h1 h2
    refine ⟨g1, g2.num, g2.len, fun j c hj => ?_, g2.nil⟩
    obtain ⟨b2, off, e, _, hb2, hc⟩ := g2.data j c hj
    refine ⟨b2, off, e, fun hz => ?_, hb2, hc⟩
    rcases h b2 hb2 hz with rfl | rfl
    · exact (T.blk_cell hc).2 _ rfl
    · exact (key hc).2 _ rfl
theorem Like.low2 {lo : Nat → Prop} (T : RefAt w Z rb root cnt ao c0 R L) : ∀ {m : List (Bytes × Raw)} {M : List (Bytes × Nd)}, Like w lo m M → Like w (fun k => k < w.heap.size ∧ k ≠ rb) m M
  | [], [], _ => trivial
  | x :: m, y :: M, ⟨⟨h1, h2⟩, h3⟩ => ⟨⟨h1, h2.num, h2.len, fun j c hj => by
      obtain ⟨b, off, e, _, hb, hc⟩ := h2.data j c hj
      refine ⟨b, off, e, ⟨hb, fun e2 => ?_⟩, hb, hc⟩
      subst e2
      exact (T.blk_cell hc).2 _ rfl, h2.nil⟩, Like.low2 T h3⟩
/-- The tree's data lie in no block that comes later, nor in the other tree's. -/
theorem TreeAt.low2 {lo : Nat → Prop} {b mb : Nat} {root' : Bytes} {at_ : Int} {M' : List (Bytes × Nd)} (T : RefAt w Z rb root cnt ao c0 R L) (T' : TreeAt w lo b mb root' at_ M') : TreeAt w (fun k => k < w.heap.size ∧ k ≠ rb) b mb root' at_ M' := by
  obtain ⟨m, h1, h2⟩ := T'.map
  exact ⟨T'.blk, m, h1, Like.low2 T h2⟩
theorem TreeAt.map_ne {lo : Nat → Prop} {b mb : Nat} {root' : Bytes} {at_ : Int} {M' : List (Bytes × Nd)} (T' : TreeAt w lo b mb root' at_ M') {k j : Nat} {v : Value} (hc : w.cell? ⟨k, j, none⟩ = some v) : mb ≠ k := fun e => by
  subst e
  obtain ⟨m, ⟨es, c, h1, _⟩, _⟩ := T'.map
  simp [World.cell?, h1] at hc
end
theorem LikeE.low {w : World} {lo : Nat → Prop} {L : List RawE} {E : List Eff} (h : LikeE w lo L E) : LikeE w (fun k => k < w.heap.size) L E := ⟨h.1, fun k r e h1 h2 => by
  obtain ⟨g1, g2, g3⟩ := h.2 k r e h1 h2
  exact ⟨g1, g2, g3.num, g3.len, fun j c hj => by
    obtain ⟨b, off, e, _, hb, hc⟩ := g3.data j c hj
    exact ⟨b, off, e, hb, hb, hc⟩, g3.nil⟩⟩
theorem LikeE.mono {w : World} {lo lo' : Nat → Prop} {L : List RawE} {E : List Eff} (h : LikeE w lo L E) (hl : ∀ k, lo k → lo' k) : LikeE w lo' L E := ⟨h.1, fun k r e h1 h2 => by
  obtain ⟨g1, g2, g3⟩ := h.2 k r e h1 h2
  exact ⟨g1, g2, g3.mono hl⟩⟩
theorem Like.low {w : World} {lo : Nat → Prop} : ∀ {m : List (Bytes × Raw)} {M : List (Bytes × Nd)}, Like w lo m M → Like w (fun k => k < w.heap.size) m M
  | [], [], _ => trivial
  | x :: m, y :: M, ⟨⟨h1, h2⟩, h3⟩ => ⟨⟨h1, h2.num, h2.len, fun j c hj => by
      obtain ⟨b, off, e, _, hb, hc⟩ := h2.data j c hj
      exact ⟨b, off, e, hb, hb, hc⟩, h2.nil⟩, h3.low⟩
theorem TreeAt.low {w : World} {lo : Nat → Prop} {b mb : Nat} {root : Bytes} {at_ : Int} {M : List (Bytes × Nd)} (T : TreeAt w lo b mb root at_ M) : TreeAt w (fun k => k < w.heap.size) b mb root at_ M := by
  obtain ⟨m, h1, h2⟩ := T.map
  exact ⟨T.blk, m, h1, h2.low⟩
theorem Like.kept2 {w w' : World} {lo S : Nat → Prop} (hk : Kept S w w') (hn : ∀ k, lo k → ¬ S k) : ∀ {m : List (Bytes × Raw)} {M : List (Bytes × Nd)}, Like w lo m M → Like w' lo m M
  | [], [], _ => trivial
  | x :: m, y :: M, ⟨⟨h1, h2⟩, h3⟩ => ⟨⟨h1, h2.num, h2.len, (h2.data.kept hk (Nat.le_refl _) (fun b hb _ _ => hn b hb)).mono (fun _ h => h) hk.size, h2.nil⟩, h3.kept2 hk hn⟩
/-- The tree stands where nothing of it is turned. -/
theorem TreeAt.kept2 {w w' : World} {lo S : Nat → Prop} {b mb : Nat} {root : Bytes} {at_ : Int} {M : List (Bytes × Nd)} (T : TreeAt w lo b mb root at_ M) (hk : Kept S w w') (hn : ∀ k, lo k → ¬ S k) (hb : ¬ S b) (hm : ¬ S mb) : TreeAt w' lo b mb root at_ M := by
  obtain ⟨m, h1, h2⟩ := T.map
  exact ⟨hk.same T.blk hb, m, h1.kept hk hm, h2.kept2 hk hn⟩
/-- A row of effects with data of its own. -/
structure NewRow (w : World) (base : Nat) (v : Value) (L : List RawE) (E : List Eff) : Prop where
  row : EffRow w base v L E
  free : ∀ r ∈ L, ∀ ad, r.node.a = some ad → base ≤ ad.block ∧ v.ownBlock ≠ some ad.block ∧ ad.block < w.heap.size ∧ ∀ j, w.frozen? ⟨ad.block, j, none⟩ = false
theorem newRow_nil (w : World) (base : Nat) : NewRow w base (.slice none 0 0) [] [] := ⟨effRow_nil w base, fun r h => by simp at h⟩
theorem NewRow.more {w wa w' : World} {base : Nat} {v v' : Value} {L : List RawE} {E : List Eff} {r : RawE} {e : Eff} (h : NewRow w base v L E) (hb : Below w.heap.size w wa) (hr : ReadsE wa (From w.heap.size) r e) (hf : Free w.heap.size wa r.node.a) (hbase : base ≤ w.heap.size) (cs : List Value)
    (hown : w'.ownsRow base 41 11 v' (L.length + 1) (L.flatMap RawE.cells ++ cs)) (hcs : cs = r.cells) (hg : (wa.alloc (.cells cs.toArray 41)).grownBy w' v.ownBlock) (hw : ∀ k, v'.ownBlock = some k → v.ownBlock = some k ∨ (wa.alloc (.cells cs.toArray 41)).heap.size ≤ k) : NewRow w' base v' (L ++ [r]) (E ++ [e]) := by
  refine ⟨h.row.more hb hr cs hown hcs hg hw, fun r' hr' ad had => ?_⟩
  have hk : Kept (fun k => v.ownBlock = some k) wa w' := (Kept.ofBelow (belowA (Below.refl _ wa) _)).trans (kept_grown hg)
  have hv : ∀ k, v.ownBlock = some k → k < w.heap.size := fun k hk => (h.row.own.lt k hk).2
  have key : ∀ ad : Addr, base ≤ ad.block → v.ownBlock ≠ some ad.block → ad.block < wa.heap.size → (∀ j, wa.frozen? ⟨ad.block, j, none⟩ = false) → base ≤ ad.block ∧ v'.ownBlock ≠ some ad.block ∧ ad.block < w'.heap.size ∧ ∀ j, w'.frozen? ⟨ad.block, j, none⟩ = false := fun ad g1 g2 g3 g4 =>
    ⟨g1, fun e1 => by
      rcases hw _ e1 with h | h
      · exact g2 h
      · simp at h; omega, Nat.lt_of_lt_of_le g3 hk.size, fun j => (hk.frozen (p := ⟨ad.block, j, none⟩) g3 g2).trans (g4 j)⟩
  rcases List.mem_append.1 hr' with hm | hm
  · obtain ⟨g1, g2, g3, g4⟩ := h.free r' hm ad had
    exact key ad g1 g2 (Nat.lt_of_lt_of_le g3 hb.size) (fun j => (hb.frozen (p := ⟨ad.block, j, none⟩) g3).trans (g4 j))
  · simp at hm
    subst hm
    obtain ⟨g1, g2, g3⟩ := hf ad had
    exact key ad (Nat.le_trans hbase g1) (fun e1 => by have := hv _ e1; omega) g2 g3
/-- Where the row lies. -/
theorem NewRow.lies {w : World} {base : Nat} {v : Value} {L : List RawE} {E : List Eff} (h : NewRow w base v L E) : ∃ a c, v = .slice a L.length c ∧ EffsAt w w.heap.size a L ∧ (∀ r ∈ L, ∃ g, a = some ⟨g, 0, none⟩ ∧ v.ownBlock = some g ∧ g < w.heap.size ∧ base ≤ g) := by
  by_cases h0 : 0 < L.length
  · obtain ⟨g, c, h1, h2, h3, h4⟩ := h.row.lies h0
    exact ⟨_, c, h1, h4, fun r _ => ⟨g, rfl, by rw [h1]; rfl, h3, h2⟩⟩
  · have hn : L = [] := List.eq_nil_of_length_eq_zero (by omega)
    subst hn
    obtain ⟨a, c, hv⟩ := row_form h.row.own
    exact ⟨a, c, hv, fun k r hr => by simp at hr, fun r hr => by simp at hr⟩
/-- The blocks of the row's data. -/
def DataOf (L : List RawE) : Nat → Prop := fun k => ∃ r ∈ L, ∃ ad, r.node.a = some ad ∧ 0 < r.node.n ∧ ad.block = k
/-- Its data are bytes. -/
def DataU8 (w : World) (L : List RawE) : Prop := ∀ r ∈ L, ∀ j, j < r.node.n → ∃ b off x, r.node.a = some ⟨b, off, none⟩ ∧ w.cell? ⟨b, off + j, none⟩ = some (.int .u8 x)
theorem NewRow.u8 {w : World} {base : Nat} {v : Value} {L : List RawE} {E : List Eff} (h : NewRow w base v L E) : DataU8 w L := fun r hr j hj => by
  obtain ⟨k, hk⟩ := List.getElem?_of_mem hr
  obtain ⟨e, he⟩ : ∃ e, E[k]? = some e := ⟨_, List.getElem?_eq_getElem (by rw [← h.row.like.1]; exact (List.getElem?_eq_some_iff.1 hk).1)⟩
  obtain ⟨_, _, g⟩ := h.row.like.2 k r e hk he
  obtain ⟨c, hc⟩ : ∃ c, e.node.data[j]? = some c := ⟨_, List.getElem?_eq_getElem (by rw [← g.len]; exact hj)⟩
  obtain ⟨b, off, h1, _, _, h4⟩ := g.data j c hc
  exact ⟨b, off, _, h1, h4⟩
theorem NewRow.of {w : World} {base : Nat} {v : Value} {L : List RawE} {E : List Eff} (h : NewRow w base v L E) {k : Nat} (hk : DataOf L k) : base ≤ k ∧ v.ownBlock ≠ some k ∧ k < w.heap.size ∧ ∃ j x, w.cell? ⟨k, j, none⟩ = some (.int .u8 x) := by
  obtain ⟨r, hr, ad, had, hn, rfl⟩ := hk
  obtain ⟨g1, g2, g3, _⟩ := h.free r hr ad had
  obtain ⟨b, off, x, h1, h2⟩ := h.u8 r hr 0 hn
  rw [had] at h1
  cases h1
  exact ⟨g1, g2, g3, _, x, h2⟩
theorem DataU8.kept {w w' : World} {S : Nat → Prop} {L : List RawE} (h : DataU8 w L) (hk : Kept S w w') (hn : ∀ k, DataOf L k → ¬ S k) : DataU8 w' L := fun r hr j hj => by
  obtain ⟨b, off, x, h1, h2⟩ := h r hr j hj
  exact ⟨b, off, x, h1, (hk.cell (p := ⟨b, off + j, none⟩) (World.block_lt_of_cell? _ _ h2) (hn b ⟨r, hr, _, h1, by omega, rfl⟩)).trans h2⟩
/-- A byte is changed. -/
theorem DataU8.set {w : World} {L : List RawE} (h : DataU8 w L) {b o : Nat} {y z : Int} (hc : w.cell? ⟨b, o, none⟩ = some (.int .u8 z)) : DataU8 (w.setCell ⟨b, o, none⟩ (.int .u8 y)) L := fun r hr j hj => by
  obtain ⟨b', off, x, h1, h2⟩ := h r hr j hj
  by_cases he : (⟨b, o, none⟩ : Addr) = ⟨b', off + j, none⟩
  · exact ⟨b', off, y, h1, by rw [← he]; exact World.cell?_setCell_same (u := .int .u8 z) (h := hc) ..⟩
  · exact ⟨b', off, x, h1, by rw [World.cell?_setCell_other (h := he) ..]; exact h2⟩
/-- The state while bytes are changed. -/
structure MutSt (w9 : World) (L : List RawE) (wr : World) : Prop where
  kept : Kept (DataOf L) w9 wr
  u8 : DataU8 wr L
  free : ∀ r ∈ L, ∀ ad, r.node.a = some ad → ∀ j, wr.frozen? ⟨ad.block, j, none⟩ = false
theorem atA_le (root : Bytes) (at_ : Int) (M : List (Bytes × Nd)) (E : List Eff) : at_ ≤ atA root at_ M E ∧ atA root at_ M E ≤ at_ + 1 := by
  unfold atA
  split <;> omega
/-- A row's effects, where its blocks are not turned. -/
theorem EffsAt.kept3 {w w' : World} {S P : Nat → Prop} {B : Nat} {ao : Option Addr} {L : List RawE} (h : EffsAt w B ao L) (hg : ∀ r ∈ L, ∃ g, ao = some ⟨g, 0, none⟩ ∧ P g) (hk : Kept S w w') (hB : B ≤ w.heap.size) (hn : ∀ g, P g → ¬ S g) : EffsAt w' B ao L := fun k r hr => by
  obtain ⟨b, off, h1, h2, h3⟩ := h k r hr
  obtain ⟨g, e, hp⟩ := hg r (List.mem_of_getElem? hr)
  rw [h1] at e
  cases e
  exact ⟨b, _, h1, h2, fun j v hv => (hk.cell (p := ⟨b, 0 + k * 11 + j, none⟩) (Nat.lt_of_lt_of_le h2 hB) (hn b hp)).trans (h3 j v hv)⟩
theorem MutSt.set {w9 wr : World} {L : List RawE} (h : MutSt w9 L wr) {r : RawE} (hr : r ∈ L) {j : Nat} (hj : j < r.node.n) {b off : Nat} (ha : r.node.a = some ⟨b, off, none⟩) (y : Int) : MutSt w9 L (wr.setCell ⟨b, off + j, none⟩ (.int .u8 y)) := by
  obtain ⟨b', off', x, h1, h2⟩ := h.u8 r hr j hj
  rw [ha] at h1
  cases h1
  exact ⟨h.kept.setCell (p := ⟨b, off + j, none⟩) ⟨r, hr, _, ha, by omega, rfl⟩ _, h.u8.set h2, fun r' hr' ad had k => by rw [World.frozen?_setCell]; exact h.free r' hr' ad had k⟩
end Go.Proofs.YtkhoeiapfoaapaaGreatDoor
