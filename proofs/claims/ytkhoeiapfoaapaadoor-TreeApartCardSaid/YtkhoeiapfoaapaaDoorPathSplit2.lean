/-
  The program's split of a path, walked.
-/
import Derived.Test.YtkhoeiapfoaapaaDoorPathSplit
namespace Go.Proofs.YtkhoeiapfoaapaaDoor
set_option linter.unusedVariables false
set_option linter.unusedSimpArgs false
open Go.RowKit

/-- The library's variable internal/bytealg.MaxLen holds some number. -/
def MaxInt (w : World) : Prop := ∃ m, w.cell? ⟨0, 0, none⟩ = some (.int .i64 m)
theorem MaxInt.kept {w w' : World} (h : MaxInt w) (hb : Below w.heap.size w w') : MaxInt w' := by
  obtain ⟨m, hm⟩ := h
  exact ⟨m, (hb.cell (p := ⟨0, 0, none⟩) (World.block_lt_of_cell? w _ hm)).trans hm⟩

/-- A block of texts. -/
def BlkS (w : World) (g : Nat) (L : List Bytes) : Prop := w.heap[g]? = some (.cells (L.map fun x => Value.string (bs x)).toArray 9 (0, 0))
theorem BlkS.lt {w : World} {g : Nat} {L : List Bytes} (h : BlkS w g L) : g < w.heap.size := (Array.getElem?_eq_some_iff.1 h).1
theorem BlkS.at {w : World} {g : Nat} {L : List Bytes} (h : BlkS w g L) : StrsAt w g 0 L := by
  intro j x hx
  rw [Nat.zero_add]
  unfold BlkS at h
  simp [World.cell?, h, hx]
theorem BlkS.kept {w w' : World} {g B : Nat} {L : List Bytes} (h : BlkS w g L) (hb : Below B w w') (hlt : g < B) : BlkS w' g L := by
  unfold BlkS at *
  rw [hb.block g hlt]
  exact h
theorem BlkS.owns {w : World} {g base : Nat} {L : List Bytes} (h : BlkS w g L) (hb : base ≤ g) (hl : L.length ≤ maxLen) :
    w.ownsRow base 9 1 (.slice (some ⟨g, 0, none⟩) L.length L.length) L.length (L.map fun x => Value.string (bs x)) :=
  ⟨by simp, .inr ⟨g, L.length, _, rfl, hb, h, Nat.le_refl _, hl, by simp, List.take_of_length_le (by simp)⟩⟩
theorem blk_new (w : World) (L : List Bytes) : BlkS (w.alloc (.cells (L.map fun x => Value.string (bs x)).toArray 9)) w.heap.size L := heap_alloc_new w _

theorem has_slash (r : Bytes) : Lib.hasPrefix (bs (47 :: r)).data.toList (⟨#[47]⟩ : ByteArray).data.toList = true := by
  rw [data_bs]; rfl
theorem trim_slash (r : Bytes) : (⟨(Lib.trimPrefix (bs (47 :: r)).data.toList (⟨#[47]⟩ : ByteArray).data.toList).toArray⟩ : ByteArray) = bs r := by
  rw [data_bs]; rfl
theorem no_slash (l : Bytes) (h : ∀ r, l ≠ 47 :: r) : Lib.hasPrefix (bs l).data.toList (⟨#[47]⟩ : ByteArray).data.toList = false := by
  rw [data_bs]
  cases l with
  | nil => rfl
  | cons c r =>
    have hc : c ≠ 47 := fun e => h r (by rw [e])
    simp [Lib.hasPrefix, List.isPrefixOf, Ne.symm hc]

def SplitBad (w : World) (e : Ending) (w' : World) : Prop := ∃ v, e = .returned (.tuple #[v, .bool false]) ∧ Below w.heap.size w w'

set_option maxRecDepth 100000 in
theorem split_noslash (l : Bytes) (h : ∀ r, l ≠ 47 :: r) (w : World) : Calls Tryd.prog 36 #[.string (bs l)] w (SplitBad w) := by
  have hcp := Tryd.strings_CutPrefix (bs l) ⟨#[47]⟩
  rw [no_slash l h] at hcp
  clear h
  generalize (⟨(Lib.trimPrefix (bs l).data.toList (⟨#[47]⟩ : ByteArray).data.toList).toArray⟩ : ByteArray) = t at hcp
  go_enter Tryd.func36, Tryd.ntmps36
  go_wp2_with (go_at_call 50; refine (hcp _).mono ?_; rintro e w1 ⟨rfl, hw1⟩; subst w1)
  go_ret2
  exact ⟨_, rfl, Below.refl _ _⟩

set_option maxRecDepth 100000 in
theorem split_long (r : Bytes) (h : 64 < (bs (47 :: r)).size) (hm : (bs (47 :: r)).size ≤ 9223372036854775807) (w : World) : Calls Tryd.prog 36 #[.string (bs (47 :: r))] w (SplitBad w) := by
  have hcp := Tryd.strings_CutPrefix (bs (47 :: r)) ⟨#[47]⟩
  rw [has_slash, trim_slash] at hcp
  go_enter Tryd.func36, Tryd.ntmps36
  go_wp2_with (go_at_call 50; refine (hcp _).mono ?_; rintro e w1 ⟨rfl, hw1⟩; subst w1)
  go_ret2
  exact ⟨_, rfl, Below.refl _ _⟩

set_option maxRecDepth 100000 in
theorem split_root (w : World) : Calls Tryd.prog 36 #[.string (bs [47])] w fun e w' => e = .returned (.tuple #[.slice none 0 0, .bool true]) ∧ w = w' := by
  have hcp := Tryd.strings_CutPrefix (bs [47]) ⟨#[47]⟩
  rw [has_slash, trim_slash] at hcp
  have h1 : (bs [47]).size ≤ 64 := by decide
  have h2 : (bs []).toList.isEmpty = true := by rw [toList_bs]; rfl
  go_enter Tryd.func36, Tryd.ntmps36
  go_wp2_with (go_at_call 50; refine (hcp _).mono ?_; rintro e w1 ⟨rfl, hw1⟩; subst w1)
  go_ret2
  exact ⟨rfl, rfl⟩

set_option maxRecDepth 100000 in
set_option maxHeartbeats 1000000 in
theorem split_more (r : Bytes) (ok : Bool) (hr : r ≠ []) (hlen : (bs (47 :: r)).size ≤ 64) (hok : (segs r).all okName = ok) (w : World) (hm : MaxInt w) :
    Calls Tryd.prog 36 #[.string (bs (47 :: r))] w fun e w' => e = .returned (.tuple #[.slice (some ⟨w.heap.size, 0, none⟩) (segs r).length (segs r).length, .bool ok]) ∧ BlkS w' w.heap.size (segs r) ∧ Below w.heap.size w w' := by
  obtain ⟨m, hm⟩ := hm
  have hcp := Tryd.strings_CutPrefix (bs (47 :: r)) ⟨#[47]⟩
  rw [has_slash, trim_slash] at hcp
  have hrl : r.length < 64 := by rw [size_bs] at hlen; simp at hlen; omega
  have hne : (bs r).toList.isEmpty = false := by rw [toList_bs]; cases r <;> simp_all
  have hsp := Tryd.strings_Split (bs r) ⟨#[47]⟩ m w (by rw [size_bs]; omega) hm (by decide)
  have e1 : (⟨#[47]⟩ : ByteArray) = bs [47] := rfl
  rw [e1, split_map, split_count, data_bs, List.map_map, show (Value.string ∘ bs) = fun x => Value.string (bs x) from rfl] at hsp
  have hseg : (segs r).length ≤ 1000 := by
    rw [← data_bs r, ← split_count]
    have := Lib.countB_le (bs [47]) (by decide) (bs r).size (bs r) (Nat.le_refl _)
    rw [size_bs] at this
    omega
  have hcf := fun (W : World) (hb : BlkS W w.heap.size (segs r)) => containsFunc_any w.heap.size 0 (segs r).length (segs r) W hb.lt hseg hb.at
  rw [hok] at hcf
  have HF := Lib.hid hcf
  have HB := Lib.hid (blk_new w (segs r))
  clear hcf hm hok hr hseg
  generalize segs r = L at *
  go_enter Tryd.func36, Tryd.ntmps36
  go_wp2_with (first
    | (go_at_call 50; refine (hcp _).mono ?_; rintro e w1 ⟨rfl, hw1⟩; subst w1)
    | (go_at_call 51; refine hsp.mono ?_; rintro e w2 ⟨rfl, hw2⟩; subst w2)
    | fail)
  refine (HF.out _ HB.out).mono ?_
  rintro e w3 ⟨rfl, B3⟩
  have hB : BlkS w3 w.heap.size L := HB.out.kept B3 HB.out.lt
  have hBl : Below w.heap.size w w3 := ((Below.refl _ w).alloc (Nat.le_refl _) _).trans (B3.mono (by simp))
  have X := Lib.hid (And.intro hB hBl)
  clear B3 hB hBl
  go_wp2
  go_ret2
  exact ⟨by simp, X.out.1, X.out.2⟩
end Go.Proofs.YtkhoeiapfoaapaaDoor
