/-
  The program's split of a path, walked: cut at '/', each piece a name.
  The program's split of a path, walked.
-/
import Derived.Test.YtkhoeiapfoaapaaGreatDoorPathSegs
import Derived.Test.YtkhoeiapfoaapaaGreatDoorShelf
namespace Go.Proofs.YtkhoeiapfoaapaaGreatDoor
set_option linter.unusedVariables false
set_option linter.unusedSimpArgs false
open Go.RowKit

def okName (x : Bytes) : Bool := nameB (bs x)
def firstBad (L : List Bytes) : Int := if L.all okName then -1 else ((L.findIdx fun x => !okName x : Nat) : Int)
theorem firstBad_sign (L : List Bytes) : decide (0 ≤ firstBad L) = !L.all okName := by
  unfold firstBad
  cases h : L.all okName <;> simp
theorem firstBad_hit (L : List Bytes) (k : Nat) (x : Bytes) (hx : L[k]? = some x) (hb : okName x = false) (hg : ∀ j y, j < k → L[j]? = some y → okName y = true) : firstBad L = k := by
  obtain ⟨hk, rfl⟩ := List.getElem?_eq_some_iff.1 hx
  have h1 : L.all okName = false := by
    rw [List.all_eq_false]
    exact ⟨_, List.getElem_mem hk, by simp [hb]⟩
  unfold firstBad
  rw [if_neg (by simp [h1])]
  have : L.findIdx (fun x => !okName x) = k := by
    rw [List.findIdx_eq hk]
    exact ⟨by simp [hb], fun j hj => by simp [hg j _ hj (List.getElem?_eq_getElem (by omega))]⟩
  rw [this]
theorem firstBad_miss (L : List Bytes) (hg : ∀ j y, j < L.length → L[j]? = some y → okName y = true) : firstBad L = -1 := by
  have h1 : L.all okName = true := by
    rw [List.all_eq_true]
    intro x hx
    obtain ⟨j, hj, rfl⟩ := List.mem_iff_getElem.1 hx
    exact hg j _ hj (List.getElem?_eq_getElem hj)
  unfold firstBad
  rw [if_pos h1]

/-- The cells of a list of texts. -/
def StrsAt (w : World) (b off : Nat) (L : List Bytes) : Prop := ∀ j x, L[j]? = some x → w.cell? ⟨b, off + j, none⟩ = some (.string (bs x))
theorem StrsAt.kept {w w' : World} {b off B : Nat} {L : List Bytes} (h : StrsAt w b off L) (hb : Below B w w') (hlt : b < B) : StrsAt w' b off L :=
  fun j x hx => (hb.cell (p := ⟨b, off + j, none⟩) hlt).trans (h j x hx)

set_option maxRecDepth 100000 in
set_option maxHeartbeats 4000000 in
theorem indexFunc_any (b off c : Nat) (L : List Bytes) (w : World) (hb : b < w.heap.size) (hbig : L.length ≤ 1000) (hc : StrsAt w b off L) :
    Calls Tryz.prog 62 #[.slice (some ⟨b, off, none⟩) L.length c, .func (.func 47) #[] #[]] w fun e w' => e = .returned (.int .i64 (firstBad L)) ∧ Below w.heap.size w w' := by
  have HC := Lib.hid hc
  clear hc
  obtain ⟨N, hN⟩ : ∃ N, N = L.length := ⟨_, rfl⟩
  have HN := Lib.hid hN
  rw [← hN] at hbig ⊢
  clear hN
  go_enter Tryz.func62, Tryz.ntmps62
  go_wp2
  go_loopw [5, 8] (fun _ i wr => ∃ k : Nat, k ≤ N ∧ i = .int .i64 k ∧ Hid (∀ j y, j < k → L[j]? = some y → okName y = true) ∧ Below w.heap.size w wr) (fun _ i _ => N - (intOf i).toNat)
  case atStart => exact ⟨0, by omega, rfl, Lib.hid (fun _ _ h => absurd h (Nat.not_lt_zero _)), Below.refl _ _⟩
  case round =>
    obtain ⟨k, hk, rfl, HG, hB⟩ := hrel
    have HB := Lib.hid hB
    by_cases hlt : k < N
    · obtain ⟨x, hx⟩ : ∃ x, L[k]? = some x := ⟨_, List.getElem?_eq_getElem (by rw [← HN.out]; exact hlt)⟩
      have hcell : wr.cell? ⟨b, off + k, none⟩ = some (.string (bs x)) := (hB.cell (p := ⟨b, off + k, none⟩) hb).trans (HC.out k x hx)
      have HX := Lib.hid hx
      have hcl := closure_any (bs x)
      clear hx hB
      cases ho : nameB (bs x) with
      | true =>
        rw [ho] at hcl
        have HO := Lib.hid ho
        clear ho
        go_wp2_with (go_at_call 47; refine (hcl _).mono ?_; rintro e w1 ⟨rfl, B1⟩)
        have HB1 := Lib.hid (HB.out.trans (B1.mono HB.out.size))
        clear B1
        go_roundw
        case rel =>
          refine ⟨k + 1, by omega, by go_num, Lib.hid fun j y hj hy => ?_, HB1.out⟩
          by_cases e : j = k
          · subst e
            have := HX.out
            rw [hy] at this
            cases this
            exact HO.out
          · exact HG.out j y (by omega) hy
        case measure => simp [intOf]; omega
      | false =>
        rw [ho] at hcl
        have HF := Lib.hid (firstBad_hit L k x HX.out ho HG.out)
        clear ho
        go_wp2_with (go_at_call 47; refine (hcl _).mono ?_; rintro e w1 ⟨rfl, B1⟩)
        have HB1 := Lib.hid (HB.out.trans (B1.mono HB.out.size))
        clear B1
        go_ret
        exact ⟨by rw [HF.out]; rfl, HB1.out⟩
    · obtain rfl : k = N := by omega
      have HF := Lib.hid (firstBad_miss L (fun j y hj hy => HG.out j y (by rw [HN.out]; exact hj) hy))
      clear hB
      go_wp2
      go_ret
      exact ⟨by rw [HF.out]; rfl, HB.out⟩

set_option maxRecDepth 100000 in
theorem containsFunc_any (b off c : Nat) (L : List Bytes) (w : World) (hb : b < w.heap.size) (hbig : L.length ≤ 1000) (hc : StrsAt w b off L) :
    Calls Tryz.prog 46 #[.slice (some ⟨b, off, none⟩) L.length c, .func (.func 47) #[] #[]] w fun e w' => e = .returned (.bool (!L.all okName)) ∧ Below w.heap.size w w' := by
  have hi := indexFunc_any b off c L w hb hbig hc
  rw [← firstBad_sign]
  clear hc
  generalize firstBad L = i at *
  go_enter Tryz.func46, Tryz.ntmps46
  go_wp2_with (go_at_call 62; refine hi.mono ?_; rintro e w1 ⟨rfl, B1⟩)
  go_ret
  exact ⟨rfl, B1⟩
end Go.Proofs.YtkhoeiapfoaapaaGreatDoor

namespace Go.Proofs.YtkhoeiapfoaapaaGreatDoor
set_option linter.unusedVariables false
set_option linter.unusedSimpArgs false
open Go.RowKit

/-- The library's variable internal/bytealg.MaxLen holds some number. -/
def MaxInt (w : World) : Prop := ∃ m, w.cell? ⟨0, 0, none⟩ = some (.int .i64 m)
theorem MaxInt.kept {w w' : World} (h : MaxInt w) (hb : Below w.heap.size w w') : MaxInt w' := by
  obtain ⟨m, hm⟩ := h
  exact ⟨m, (hb.cell (p := ⟨0, 0, none⟩) (World.block_lt_of_cell? w _ hm)).trans hm⟩

/-- A block of texts. -/
def BlkS (w : World) (g : Nat) (L : List Bytes) : Prop := w.heap[g]? = some (.cells (L.map fun x => Value.string (bs x)).toArray 9 (0, 0))
theorem BlkS.lt {w : World} {g : Nat} {L : List Bytes} (h : BlkS w g L) : g < w.heap.size := (Array.getElem?_eq_some_iff.1 h).1
theorem BlkS.at {w : World} {g : Nat} {L : List Bytes} (h : BlkS w g L) : StrsAt w g 0 L := by
  intro j x hx
  rw [Nat.zero_add]
  unfold BlkS at h
  simp [World.cell?, h, hx]
theorem BlkS.kept {w w' : World} {g B : Nat} {L : List Bytes} (h : BlkS w g L) (hb : Below B w w') (hlt : g < B) : BlkS w' g L := by
  unfold BlkS at *
  rw [hb.block g hlt]
  exact h
theorem BlkS.owns {w : World} {g base : Nat} {L : List Bytes} (h : BlkS w g L) (hb : base ≤ g) (hl : L.length ≤ maxLen) :
    w.ownsRow base 9 1 (.slice (some ⟨g, 0, none⟩) L.length L.length) L.length (L.map fun x => Value.string (bs x)) :=
  ⟨by simp, .inr ⟨g, L.length, _, rfl, hb, h, Nat.le_refl _, hl, by simp, List.take_of_length_le (by simp)⟩⟩
theorem blk_new (w : World) (L : List Bytes) : BlkS (w.alloc (.cells (L.map fun x => Value.string (bs x)).toArray 9)) w.heap.size L := heap_alloc_new w _

theorem has_slash (r : Bytes) : Lib.hasPrefix (bs (47 :: r)).data.toList (⟨#[47]⟩ : ByteArray).data.toList = true := by
  rw [data_bs]; rfl
theorem trim_slash (r : Bytes) : (⟨(Lib.trimPrefix (bs (47 :: r)).data.toList (⟨#[47]⟩ : ByteArray).data.toList).toArray⟩ : ByteArray) = bs r := by
  rw [data_bs]; rfl
theorem no_slash (l : Bytes) (h : ∀ r, l ≠ 47 :: r) : Lib.hasPrefix (bs l).data.toList (⟨#[47]⟩ : ByteArray).data.toList = false := by
  rw [data_bs]
  cases l with
  | nil => rfl
  | cons c r =>
    have hc : c ≠ 47 := fun e => h r (by rw [e])
    simp [Lib.hasPrefix, List.isPrefixOf, Ne.symm hc]

def SplitBad (w : World) (e : Ending) (w' : World) : Prop := ∃ v, e = .returned (.tuple #[v, .bool false]) ∧ Below w.heap.size w w'

set_option maxRecDepth 100000 in
theorem split_noslash (l : Bytes) (h : ∀ r, l ≠ 47 :: r) (w : World) : Calls Tryz.prog 29 #[.string (bs l)] w (SplitBad w) := by
  have hcp := Tryz.strings_CutPrefix (bs l) ⟨#[47]⟩
  rw [no_slash l h] at hcp
  clear h
  generalize (⟨(Lib.trimPrefix (bs l).data.toList (⟨#[47]⟩ : ByteArray).data.toList).toArray⟩ : ByteArray) = t at hcp
  go_enter Tryz.func29, Tryz.ntmps29
  go_wp2_with (go_at_call 44; refine (hcp _).mono ?_; rintro e w1 ⟨rfl, hw1⟩; subst w1)
  go_ret2
  exact ⟨_, rfl, Below.refl _ _⟩

set_option maxRecDepth 100000 in
theorem split_long (r : Bytes) (h : 64 < (bs (47 :: r)).size) (hm : (bs (47 :: r)).size ≤ 9223372036854775807) (w : World) : Calls Tryz.prog 29 #[.string (bs (47 :: r))] w (SplitBad w) := by
  have hcp := Tryz.strings_CutPrefix (bs (47 :: r)) ⟨#[47]⟩
  rw [has_slash, trim_slash] at hcp
  go_enter Tryz.func29, Tryz.ntmps29
  go_wp2_with (go_at_call 44; refine (hcp _).mono ?_; rintro e w1 ⟨rfl, hw1⟩; subst w1)
  go_ret2
  exact ⟨_, rfl, Below.refl _ _⟩

set_option maxRecDepth 100000 in
theorem split_root (w : World) : Calls Tryz.prog 29 #[.string (bs [47])] w fun e w' => e = .returned (.tuple #[.slice none 0 0, .bool true]) ∧ w = w' := by
  have hcp := Tryz.strings_CutPrefix (bs [47]) ⟨#[47]⟩
  rw [has_slash, trim_slash] at hcp
  have h1 : (bs [47]).size ≤ 64 := by decide
  have h2 : (bs []).toList.isEmpty = true := by rw [toList_bs]; rfl
  go_enter Tryz.func29, Tryz.ntmps29
  go_wp2_with (go_at_call 44; refine (hcp _).mono ?_; rintro e w1 ⟨rfl, hw1⟩; subst w1)
  go_ret2
  exact ⟨rfl, rfl⟩

set_option maxRecDepth 100000 in
set_option maxHeartbeats 1000000 in
theorem split_more (r : Bytes) (ok : Bool) (hr : r ≠ []) (hlen : (bs (47 :: r)).size ≤ 64) (hok : (segs r).all okName = ok) (w : World) (hm : MaxInt w) :
    Calls Tryz.prog 29 #[.string (bs (47 :: r))] w fun e w' => e = .returned (.tuple #[.slice (some ⟨w.heap.size, 0, none⟩) (segs r).length (segs r).length, .bool ok]) ∧ BlkS w' w.heap.size (segs r) ∧ Below w.heap.size w w' := by
  obtain ⟨m, hm⟩ := hm
  have hcp := Tryz.strings_CutPrefix (bs (47 :: r)) ⟨#[47]⟩
  rw [has_slash, trim_slash] at hcp
  have hrl : r.length < 64 := by rw [size_bs] at hlen; simp at hlen; omega
  have hne : (bs r).toList.isEmpty = false := by rw [toList_bs]; cases r <;> simp_all
  have hsp := Tryz.strings_Split (bs r) ⟨#[47]⟩ m w (by rw [size_bs]; omega) hm (by decide)
  have e1 : (⟨#[47]⟩ : ByteArray) = bs [47] := rfl
  rw [e1, split_map, split_count, data_bs, List.map_map, show (Value.string ∘ bs) = fun x => Value.string (bs x) from rfl] at hsp
  have hseg : (segs r).length ≤ 1000 := by
    rw [← data_bs r, ← split_count]
    have := Lib.countB_le (bs [47]) (by decide) (bs r).size (bs r) (Nat.le_refl _)
    rw [size_bs] at this
    omega
  have hcf := fun (W : World) (hb : BlkS W w.heap.size (segs r)) => containsFunc_any w.heap.size 0 (segs r).length (segs r) W hb.lt hseg hb.at
  rw [hok] at hcf
  have HF := Lib.hid hcf
  have HB := Lib.hid (blk_new w (segs r))
  clear hcf hm hok hr hseg
  generalize segs r = L at *
  go_enter Tryz.func29, Tryz.ntmps29
  go_wp2_with (first
    | (go_at_call 44; refine (hcp _).mono ?_; rintro e w1 ⟨rfl, hw1⟩; subst w1)
    | (go_at_call 45; refine hsp.mono ?_; rintro e w2 ⟨rfl, hw2⟩; subst w2)
    | fail)
  refine (HF.out _ HB.out).mono ?_
  rintro e w3 ⟨rfl, B3⟩
  have hB : BlkS w3 w.heap.size L := HB.out.kept B3 HB.out.lt
  have hBl : Below w.heap.size w w3 := ((Below.refl _ w).alloc (Nat.le_refl _) _).trans (B3.mono (by simp))
  have X := Lib.hid (And.intro hB hBl)
  clear B3 hB hBl
  go_wp2
  go_ret2
  exact ⟨by simp, X.out.1, X.out.2⟩
end Go.Proofs.YtkhoeiapfoaapaaGreatDoor
