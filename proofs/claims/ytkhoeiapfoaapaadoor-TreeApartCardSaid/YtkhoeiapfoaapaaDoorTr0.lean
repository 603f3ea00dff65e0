/-
  Nodes and bytes: slices.Clone at bytes, the program's own(), walked.
-/
import Derived.Test.YtkhoeiapfoaapaaDoorMapsMore
import Derived.Test.YtkhoeiapfoaapaaDoorPathMore
import Derived.Test.YtkhoeiapfoaapaaDoorRowsOpen
import Derived.Test.YtkhoeiapfoaapaaDoorApp
import Derived.Test.YtkhoeiapfoaapaaDoorExt
import Derived.Laws.AppendOwnNone
import Derived.Shelf.SlicesE.Clone
import Derived.Lib.Hide
namespace Go.Proofs.YtkhoeiapfoaapaaDoor
set_option linter.unusedVariables false
set_option linter.unusedSimpArgs false
set_option linter.unusedVariables false
set_option linter.unusedSimpArgs false
open Go Go.RowKit Go.Shelf Go.MapKept Go.ChangeMaps

/-- The blocks from n on. -/
abbrev From (n : Nat) : Nat → Prop := fun b => n ≤ b
/-- Bytes of a slice: in one block, one of lo, below hi. -/
def ByteSl (w : World) (lo : Nat → Prop) (hi : Nat) (a : Option Addr) (D : Bytes) : Prop := ∀ j c, D[j]? = some c → ∃ b off, a = some ⟨b, off, none⟩ ∧ lo b ∧ b < hi ∧ w.cell? ⟨b, off + j, none⟩ = some (.int .u8 c.toNat)
theorem ByteSl.kept {w w' : World} {lo : Nat → Prop} {hi : Nat} {a : Option Addr} {D : Bytes} {S : Nat → Prop} (h : ByteSl w lo hi a D) (hk : Kept S w w') (hw : hi ≤ w.heap.size) (hn : ∀ b, lo b → b < hi → (∃ off, a = some ⟨b, off, none⟩) → ¬ S b) : ByteSl w' lo hi a D := fun j c hj => by
  obtain ⟨b, off, h1, h2, h3, h4⟩ := h j c hj
  exact ⟨b, off, h1, h2, h3, (hk.cell (p := ⟨b, off + j, none⟩) (Nat.lt_of_lt_of_le h3 hw) (hn b h2 h3 ⟨off, h1⟩)).trans h4⟩
theorem ByteSl.below {w w' : World} {lo : Nat → Prop} {hi : Nat} {a : Option Addr} {D : Bytes} (h : ByteSl w lo hi a D) (hb : Below hi w w') : ByteSl w' lo hi a D := fun j c hj => by
  obtain ⟨b, off, h1, h2, h3, h4⟩ := h j c hj
  exact ⟨b, off, h1, h2, h3, (hb.cell (p := ⟨b, off + j, none⟩) h3).trans h4⟩
theorem ByteSl.mono {w : World} {lo lo' : Nat → Prop} {hi hi' : Nat} {a : Option Addr} {D : Bytes} (h : ByteSl w lo hi a D) (h1 : ∀ b, lo b → lo' b) (h2 : hi ≤ hi') : ByteSl w lo' hi' a D := fun j c hj => by
  obtain ⟨b, off, g1, g2, g3, g4⟩ := h j c hj
  exact ⟨b, off, g1, h1 b g2, Nat.lt_of_lt_of_le g3 h2, g4⟩
def byteCells (D : Bytes) : List Value := D.map fun c => .int .u8 c.toNat
/-- The slice's block may be written. -/
def Free (n : Nat) (w : World) (a : Option Addr) : Prop := ∀ ad, a = some ad → n ≤ ad.block ∧ ad.block < w.heap.size ∧ ∀ j, w.frozen? ⟨ad.block, j, none⟩ = false
theorem Free.kept {n : Nat} {w w' : World} {a : Option Addr} {S : Nat → Prop} (h : Free n w a) (hk : Kept S w w') (hn : ∀ k, n ≤ k → ¬ S k) : Free n w' a := fun ad e => by
  obtain ⟨h0, h1, h2⟩ := h ad e
  exact ⟨h0, Nat.lt_of_lt_of_le h1 hk.size, fun j => (hk.frozen (p := ⟨ad.block, j, none⟩) h1 (hn _ h0)).trans (h2 j)⟩
theorem Free.mono {n m : Nat} {w : World} {a : Option Addr} (h : Free n w a) (hm : m ≤ n) : Free m w a := fun ad e => by
  obtain ⟨h0, h1, h2⟩ := h ad e
  exact ⟨Nat.le_trans hm h0, h1, h2⟩
theorem Free.below {n : Nat} {w w' : World} {a : Option Addr} (h : Free n w a) (hb : Below w.heap.size w w') : Free n w' a := fun ad e => by
  obtain ⟨h0, h1, h2⟩ := h ad e
  exact ⟨h0, Nat.lt_of_lt_of_le h1 hb.size, fun j => (hb.frozen (p := ⟨ad.block, j, none⟩) h1).trans (h2 j)⟩
theorem infoByte : (Tryd.prog.info? 5).map (fun i => (i.zero, i.size, i.bytes)) = some (some (.int .u8 0), 1, 1) := by kernel_rfl
theorem info_parts {T : TypeId} {a : Option Value} {b c : Nat} (h : (Tryd.prog.info? T).map (fun i => (i.zero, i.size, i.bytes)) = some (a, b, c)) : ∃ i, Tryd.prog.info? T = some i ∧ i.zero = a ∧ i.size = b ∧ i.bytes = c := by
  obtain ⟨i, hi, he⟩ := Option.map_eq_some_iff.1 h
  simp only [Prod.mk.injEq] at he
  exact ⟨i, hi, he.1, he.2.1, he.2.2⟩
theorem row_form {w : World} {base : Nat} {e : TypeId} {size : Nat} {v : Value} {n : Nat} {xs : List Value} (h : w.ownsRow base e size v n xs) : ∃ a c, v = .slice a n c := by
  rcases h.2 with ⟨rfl, rfl⟩ | ⟨g, cap, cur, rfl, _⟩
  · exact ⟨none, 0, rfl⟩
  · exact ⟨_, _, rfl⟩
theorem belowA {w W : World} (h : Below w.heap.size w W) (o : Obj) : Below w.heap.size w (W.alloc o) := h.alloc h.size o
/-- A row of bytes that the call owns. -/
theorem bytes_of_row {w : World} {base n c : Nat} {a : Option Addr} {D : Bytes} (h : w.ownsRow base 5 1 (.slice a n c) n (byteCells D)) : ByteSl w (From base) w.heap.size a D := fun j x hj => by
  have hn : D.length = n := by have := h.1; simp [byteCells] at this; omega
  rcases h.2 with ⟨h1, h0⟩ | ⟨g, cap, cur, h1, hbg, hg, _⟩
  · have := (List.getElem?_eq_some_iff.1 hj).1
    omega
  · cases h1
    have hx : (byteCells D)[j]? = some (.int .u8 x.toNat) := by simp [byteCells, hj]
    have := h.cells (g := g) rfl j _ hx
    rw [Addr.add_lit] at this
    exact ⟨g, 0, rfl, hbg, (Array.getElem?_eq_some_iff.1 hg).1, this⟩

theorem eqNilB (w : World) (a : Option Addr) (n c : Nat) : (binOp .eql 27 (.slice a n c) (.slice none 0 0)).run Tryd.prog w = .ok (.bool a.isNone) w := Lib.run_eql_slice_nil w _ _ a n c 0 0 Tryd.underlying27
set_option maxRecDepth 100000 in
theorem cloneB_nil (w : World) : Calls Tryd.prog 43 #[.slice none 0 0] w fun e w' => e = .returned (.slice none 0 0) ∧ w' = w := by
  have q := fun w : World => eqNilB w none 0 0
  go_enter Tryd.func43, Tryd.ntmps43
  go_wp2
  go_ret
  exact ⟨rfl, rfl⟩
set_option maxRecDepth 100000 in
set_option maxHeartbeats 1000000 in
/-- The bytes' own copy: a new slice, or nil for nil. -/
theorem cloneB_any (w : World) (ao : Option Addr) (c : Nat) (lo : Nat → Prop) (D : Bytes) (hl : D.length ≤ 1000000) (h : ByteSl w lo w.heap.size ao D) (hn : ao = none → D = [] ∧ c = 0) :
    Calls Tryd.prog 43 #[.slice ao D.length c] w fun e w' => ∃ a' c', e = .returned (.slice a' D.length c') ∧ ByteSl w' (From w.heap.size) w'.heap.size a' D ∧ Below w.heap.size w w' ∧ (a' = none → D = [] ∧ c' = 0) ∧ Free w.heap.size w' a' := by
  cases ao with
  | none =>
    obtain ⟨rfl, rfl⟩ := hn rfl
    exact (cloneB_nil w).mono fun e w' ⟨he, hw⟩ => ⟨none, 0, he, fun j x hj => by simp at hj, by rw [hw]; exact Below.refl _ _, fun _ => ⟨rfl, rfl⟩, fun ad e => by cases e⟩
  | some ad =>
    have q := fun w : World => eqNilB w (some ad) D.length c
    have hcells : ∀ j u, (byteCells D)[j]? = some u → (w.alloc (.cells #[] 5)).cell? (ad.add j) = some u := fun j u hu => by
      simp only [byteCells, List.getElem?_map, Option.map_eq_some_iff] at hu
      obtain ⟨x, hx, rfl⟩ := hu
      obtain ⟨b, off, e, _, h3, h4⟩ := h j x hx
      cases e
      rw [Addr.add_mid]
      exact ((belowA (Below.refl _ w) _).cell (p := ⟨b, off + j, none⟩) h3).trans h4
    have HCELL := Lib.hid hcells
    have HOW := Lib.hid (World.ownsRow_made (base := w.heap.size) (e := 5) (size := 1) w #[] 0 (by omega) (by decide) rfl)
    obtain ⟨N, hN⟩ : ∃ N, N = D.length := ⟨_, rfl⟩
    have hbl : (byteCells D).length = N * 1 := by rw [hN]; simp [byteCells]
    have HBL := Lib.hid hbl
    have HN := Lib.hid hN
    obtain ⟨i0, hi, hz0, hz1, hz2⟩ := info_parts infoByte
    have HI := Lib.hid (And.intro hi (And.intro hz0 (And.intro hz1 hz2)))
    rw [← hN] at hl q ⊢
    clear h hn hcells hbl hN hi hz0 hz1 hz2
    go_enter Tryd.func43, Tryd.ntmps43
    go_wp2_with (at_builtin; refine wpList_append_new rfl (.tmp 5) (.tmp 6) 27 rfl w.heap.size 5 i0 (.int .u8 0) 1 1 Tryd.underlying27 HI.out.1 HI.out.2.1 HI.out.2.2.1 HI.out.2.2.2 rfl (by decide) _ _ _ rfl HOW.out ad N c (byteCells D) rfl HBL.out HCELL.out (by intro u hu; simp [byteCells] at hu; obtain ⟨x, _, rfl⟩ := hu; rfl) (by unfold maxLen; omega) (by omega) (by simp) ?_; intro v3 w3 hown hgrow hwhere)
    have hB3 : Below w.heap.size w w3 := (belowA (Below.refl _ w) _).grown hgrow (by simp) (fun g hg => (HOW.out.lt g hg).1)
    rw [Nat.zero_add] at hown
    obtain ⟨a3, c3, rfl⟩ := row_form hown
    have HO3 := Lib.hid hown
    have HB3 := Lib.hid hB3
    clear hown hgrow hwhere hB3
    go_wp2
    go_ret
    refine ⟨a3, c3, rfl, bytes_of_row HO3.out, HB3.out, fun e => ?_, fun ad e => ?_⟩
    · subst e
      rcases HO3.out.2 with ⟨h1, h0⟩ | ⟨g, cap, cur, h1, _⟩
      · simp at h1
        exact ⟨List.eq_nil_of_length_eq_zero (by rw [← HN.out]; exact h0), h1.2⟩
      · simp at h1
    · subst e
      rcases HO3.out.2 with ⟨h1, h0⟩ | ⟨g, cap, cur, h1, hbg, hg, _⟩
      · simp at h1
      · simp at h1
        obtain ⟨rfl, _⟩ := h1
        exact ⟨hbg, (Array.getElem?_eq_some_iff.1 hg).1, fun j => by simp [World.frozen?, hg]⟩
end Go.Proofs.YtkhoeiapfoaapaaDoor
