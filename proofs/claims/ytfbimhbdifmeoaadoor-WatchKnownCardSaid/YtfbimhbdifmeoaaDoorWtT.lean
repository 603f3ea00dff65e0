/-
  Tables of watches as blocks of memory.
-/
import Derived.Test.YtfbimhbdifmeoaaDoorWt5
import Derived.Test.YtfbimhbdifmeoaaDoorWtP
import Derived.Test.YtfbimhbdifmeoaaDoorMaps
import Derived.Test.YtfbimhbdifmeoaaDoorApp
namespace Go.Proofs.YtfbimhbdifmeoaaDoor
set_option linter.unusedVariables false
set_option linter.unusedSimpArgs false
open Go.RowKit Go.Shelf

/-- In whatever later world: it answers r, and adds blocks alone. -/
def Always (w : World) (n : Nat) (args : Array Value) (r : Value) : Prop := ∀ W, Below w.heap.size w W → Calls Tryd.prog n args W fun e w' => e = .returned r ∧ Below W.heap.size W w'
theorem Always.later {w : World} {n : Nat} {args : Array Value} {r : Value} (h : Always w n args r) : Later w n args r :=
  fun W hW => (h W hW).mono fun _ _ ⟨he, hb⟩ => ⟨he, hW.trans (hb.mono hW.size)⟩
theorem Always.ext {w w2 : World} {n : Nat} {args : Array Value} {r : Value} (h : Always w n args r) (h2 : Below w.heap.size w w2) : ∀ o, Calls Tryd.prog n args (Wext w2 o) fun e w' => e = .returned r ∧ ∃ o', w' = Wext w2 o' :=
  fun o => (h _ (h2.trans ((Wext.below w2 o).mono h2.size))).mono fun _ _ ⟨he, hb⟩ => ⟨he, below_ext ((Wext.below w2 o).trans (hb.mono (Wext.below w2 o).size))⟩
theorem Always.from {w w2 : World} {n : Nat} {args : Array Value} {r : Value} (h : Always w n args r) (h2 : Below w.heap.size w w2) : Always w2 n args r := fun W hW => h W (h2.trans (hW.mono h2.size))
theorem always_check {w : World} (hm : MaxInt w) (l : Bytes) (hl : l.length ≤ 1000) : Always w 16 #[.string (bs l)] (.int .i64 (checkV l)) := fun W hW => by
  unfold checkV
  cases h : partsL l with
  | none => exact check_none l h (size_max hl (Nat.le_refl _)) W (hm.kept hW)
  | some L => exact check_some l L h W (hm.kept hW)
theorem always_parent {w : World} (hm : MaxInt w) (l : Bytes) (hl : l.length ≤ 1000) : Always w 27 #[.string (bs l)] (.string (bs (parentL l))) := fun W hW => later_parent W (hm.kept hW) l hl W (Below.refl _ _)
theorem belowA {w W : World} (h : Below w.heap.size w W) (o : Obj) : Below w.heap.size w (W.alloc o) := h.alloc h.size o
theorem below_undrew {B : Nat} {w w2 : World} (h : Below B w.drew w2) : Below B w w2 := ⟨h.os, h.tape, h.output, h.size, h.block⟩
theorem new_cell {w w2 : World} {cs : Array Value} {t : TypeId} (B2 : Below (w.alloc (.cells cs t)).heap.size (w.alloc (.cells cs t)) w2) (j : Nat) (v : Value) (h : cs[j]? = some v) : w2.cell? ⟨w.heap.size, j, none⟩ = some v ∧ w2.frozen? ⟨w.heap.size, j, none⟩ = false := by
  have hb : w2.heap[w.heap.size]? = some (.cells cs t (0, 0)) := (B2.block _ (by simp)).trans (heap_alloc_new w _)
  exact ⟨(cell_of_row _ _ j _ t (0, 0) hb).trans h, by simp [World.frozen?, hb]⟩
theorem range_new {w W : World} {cs : Array Value} {t : TypeId} (hW : Below (w.alloc (.cells cs t)).heap.size (w.alloc (.cells cs t)) W) (o : Nat) (sub : List Value) (h : (cs.toList.drop o).take sub.length = sub) : W.rangeAt w.heap.size o sub := by
  intro j v hj
  refine (new_cell hW (o + j) v ?_).1
  have hlt := (List.getElem?_eq_some_iff.1 hj).1
  rw [← h, List.getElem?_take, if_pos hlt, List.getElem?_drop] at hj
  simpa using hj
/-- A table (of type t, its rows of type e) at block b, from block B on; its row lies at 'row'. -/
def TabAt (t e : TypeId) (B : Nat) (w : World) (b : Nat) (row : Option Nat) (L : List Ev) : Prop :=
  B ≤ b ∧ ∃ v, Boxed w b t v ∧ w.ownsRow B e 4 v L.length (flat L) ∧ v.ownBlock = row
section
variable {t e : TypeId} {B b : Nat} {w w' : World} {row : Option Nat} {L : List Ev}
theorem TabAt.kept (h : TabAt t e B w b row L) {S : Nat → Prop} (hk : Kept S w w') (h1 : ¬ S b) (h2 : ∀ g, row = some g → ¬ S g) : TabAt t e B w' b row L := by
  obtain ⟨hB, v, hv, hr, hrow⟩ := h
  refine ⟨hB, v, hk.same hv h1, row_kept hr (Nat.le_refl _) (fun g cs fr hg _ ho => hk.block g (Array.getElem?_eq_some_iff.1 ho).1 (h2 g (hrow ▸ hg))), hrow⟩
theorem TabAt.lt (h : TabAt t e B w b row L) : b < w.heap.size := by
  obtain ⟨hB, v, hv, _⟩ := h
  exact hv.lt
theorem TabAt.rowlt (h : TabAt t e B w b row L) : ∀ g, row = some g → B ≤ g ∧ g < w.heap.size := by
  obtain ⟨hB, v, hv, hr, rfl⟩ := h
  exact hr.lt
theorem TabAt.below (h : TabAt t e B w b row L) (hb : Below w.heap.size w w') : TabAt t e B w' b row L :=
  h.kept (S := Nothing) ⟨hb.os, hb.tape, hb.output, hb.size, fun k hk _ => hb.block k hk⟩ (fun e => e) (fun _ _ e => e)
/-- Tables of unlike types lie apart. -/
theorem TabAt.apart (h : TabAt t e B w b row L) {t' e' : TypeId} {B' b' : Nat} {row' : Option Nat} {L' : List Ev} (h' : TabAt t' e' B' w b' row' L') (h1 : t ≠ t') (h2 : e ≠ e') (h3 : t ≠ e') (h4 : e ≠ t') :
    b ≠ b' ∧ row' ≠ some b ∧ row ≠ some b' ∧ ∀ g, row = some g → row' ≠ some g := by
  obtain ⟨hB, v, hv, hr, rfl⟩ := h
  obtain ⟨hB', v', hv', hr', rfl⟩ := h'
  have hrow : ∀ {v : Value} {e : TypeId} {B n : Nat} {xs : List Value} {g : Nat}, w.ownsRow B e 4 v n xs → v.ownBlock = some g → ∃ cur, w.heap[g]? = some (.cells cur e (0, 0)) := by
    intro v e B n xs g h hg
    rcases h.2 with ⟨rfl, _⟩ | ⟨g', cap, cur, rfl, _, hh, _⟩
    · simp [Value.ownBlock] at hg
    · obtain rfl : g' = g := by simpa [Value.ownBlock] using hg
      exact ⟨cur, hh⟩
  refine ⟨fun e1 => ?_, fun e1 => ?_, fun e1 => ?_, fun g e1 e2 => ?_⟩
  · subst e1
    have := (show w.heap[b]? = _ from hv).symm.trans hv'
    simp at this
    exact h1 this.2
  · obtain ⟨cur, hc⟩ := hrow hr' e1
    have := (show w.heap[b]? = _ from hv).symm.trans hc
    simp at this
    exact h3 this.2
  · obtain ⟨cur, hc⟩ := hrow hr e1
    have := hc.symm.trans hv'
    simp at this
    exact h4 this.2
  · obtain ⟨cur, hc⟩ := hrow hr e1
    obtain ⟨cur', hc'⟩ := hrow hr' e2
    have := hc.symm.trans hc'
    simp at this
    exact h2 this.2
theorem TabAt.evs (h : TabAt t 44 B w b row L) (OB : Nat) (hO : w.heap.size ≤ OB) : ∃ ao c, Boxed w b t (.slice ao L.length c) ∧ EvsAt w w.heap.size OB ao L := by
  obtain ⟨hB, v, hv, hr, rfl⟩ := h
  obtain ⟨ao, c, rfl, hE⟩ := evs_of_row (OB := OB) hr hO
  exact ⟨ao, c, hv, hE⟩
theorem Kept.of_below {w w' : World} (h : Below w.heap.size w w') (S : Nat → Prop) : Kept S w w' := ⟨h.os, h.tape, h.output, h.size, fun k hk _ => h.block k hk⟩
theorem Kept.of_keepT {w w' : World} {b : Nat} (h : KeepT w.heap.size b w w') : Kept (· = b) w w' := ⟨h.os, h.tape, h.output, h.size, fun k hk hn => h.block k hk hn⟩
/-- What a step of a table leaves: its answer, its list, and that nothing else has turned. -/
def TabPost (t e : TypeId) (B : Nat) (w : World) (b : Nat) (row : Option Nat) (r : Value) (L : List Ev) (en : Ending) (w' : World) : Prop :=
  en = .returned r ∧ ∃ row', TabAt t e B w' b row' L ∧ (∀ g, row' = some g → row = some g ∨ w.heap.size ≤ g) ∧ Kept (fun k => k = b ∨ row = some k) w w'
theorem TabPost.same (h : TabAt t e B w b row L) {r : Value} (hb : Below w.heap.size w w') : TabPost t e B w b row r L (.returned r) w' :=
  ⟨rfl, row, h.below hb, fun g hg => .inl hg, Kept.of_below hb _⟩
theorem TabAt.same_post (h : TabAt t e B w b row L) {r : Value} (hb : Below w.heap.size w w') : TabPost t e B w b row r L (.returned r) w' := TabPost.same h hb
end
end Go.Proofs.YtfbimhbdifmeoaaDoor
