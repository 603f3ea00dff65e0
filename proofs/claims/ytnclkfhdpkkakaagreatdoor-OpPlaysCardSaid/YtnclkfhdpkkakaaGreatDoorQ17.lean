/-
  The document's tree: nodes, in a list; Find and parent, walked.
-/
import Derived.Test.YtnclkfhdpkkakaaGreatDoorQ15
import Derived.Test.YtnclkfhdpkkakaaGreatDoorQ7
import Derived.Laws.Cover1
import Derived.Sort.Walk0
namespace Go.Proofs.YtnclkfhdpkkakaaGreatDoor
set_option linter.unusedVariables false
set_option linter.unusedSimpArgs false
set_option linter.unusedVariables false
set_option linter.unusedSimpArgs false
open Go Go.RowKit Go.Shelf Go.MapKept Go.ChangeMaps Go.Maps Go.Sort
structure RawA where
 path : Bytes
 node : Raw
def RawA.cells (r : RawA) : List Value := .string (bs r.path) :: r.node.cells
theorem rawA_len (r : RawA) : r.cells.length = 10 := rfl
def AtsAt (w : World) (B : Nat) (Z : Nat → Prop) (ao : Option Addr) (R : List RawA) : Prop := ∀ k r, R[k]? = some r → ∃ b off, ao = some ⟨b, off, none⟩ ∧ ¬ Z b ∧ b < B ∧ w.rangeAt b (off + k * 10) r.cells
def LikeA (w : World) (Z : Nat → Prop) (R : List RawA) (L : List (Bytes × Nd)) : Prop := R.length = L.length ∧ ∀ (k : Nat) (r : RawA) (x : Bytes × Nd), R[k]? = some r → L[k]? = some x → r.path = x.1 ∧ Reads w (fun k => ¬ Z k) r.node x.2
theorem AtsAt.kept {w w' : World} {Z S : Nat → Prop} {ao : Option Addr} {R : List RawA} (h : AtsAt w w.heap.size Z ao R) (hk : Kept S w w') (hz : ∀ k, S k → Z k) : AtsAt w' w'.heap.size Z ao R := fun k r hr => by
 obtain ⟨b, off, h1, h2, h3, h4⟩ := h k r hr
 exact ⟨b, off, h1, h2, Nat.lt_of_lt_of_le h3 hk.size, fun j v hv => (hk.cell (p := ⟨b, off + k * 10 + j, none⟩) h3 (fun hs => h2 (hz _ hs))).trans (h4 j v hv)⟩
theorem LikeA.kept {w w' : World} {Z S : Nat → Prop} {R : List RawA} {L : List (Bytes × Nd)} (h : LikeA w Z R L) (hk : Kept S w w') (hz : ∀ k, S k → Z k) : LikeA w' Z R L := ⟨h.1, fun k r x h1 h2 => by
 obtain ⟨g1, g2⟩ := h.2 k r x h1 h2
 exact ⟨g1, g2.num, g2.len, ((g2.data.kept hk (Nat.le_refl _) (fun b hb _ _ hs => hb (hz _ hs)))).mono (fun _ h => h) hk.size, g2.nil⟩⟩
structure RefAt (w : World) (Z : Nat → Prop) (rb : Nat) (root : Bytes) (cnt : Int) (ao : Option Addr) (c : Nat) (R : List RawA) (L : List (Bytes × Nd)) : Prop where
 blk : w.heap[rb]? = some (.cells #[.string (bs root), .int .u64 cnt, .slice ao R.length c] 106 (0, 0))
 at_ : AtsAt w w.heap.size Z ao R
 like : LikeA w Z R L
 cap : R.length ≤ c
section
variable {w : World} {Z : Nat → Prop} {rb : Nat} {root : Bytes} {cnt : Int} {ao : Option Addr} {c : Nat} {R : List RawA} {L : List (Bytes × Nd)}
theorem RefAt.lt (T : RefAt w Z rb root cnt ao c R L) : rb < w.heap.size := lt_of_block T.blk
theorem RefAt.c0 (T : RefAt w Z rb root cnt ao c R L) : w.cell? ⟨rb, 0, none⟩ = some (.string (bs root)) := cell_of_row _ _ 0 _ 106 (0, 0) T.blk
theorem RefAt.c1 (T : RefAt w Z rb root cnt ao c R L) : w.cell? ⟨rb, 1, none⟩ = some (.int .u64 cnt) := cell_of_row _ _ 1 _ 106 (0, 0) T.blk
theorem RefAt.c2 (T : RefAt w Z rb root cnt ao c R L) : w.cell? ⟨rb, 2, none⟩ = some (.slice ao R.length c) := cell_of_row _ _ 2 _ 106 (0, 0) T.blk
theorem RefAt.kept {w' : World} {S : Nat → Prop} (T : RefAt w Z rb root cnt ao c R L) (hk : Kept S w w') (hz : ∀ k, S k → Z k) (hr : ¬ S rb) : RefAt w' Z rb root cnt ao c R L :=
 ⟨(hk.block rb T.lt hr).trans T.blk, T.at_.kept hk hz, T.like.kept hk hz, T.cap⟩
theorem RefAt.below {w' : World} (T : RefAt w Z rb root cnt ao c R L) (hb : Below w.heap.size w w') : RefAt w' Z rb root cnt ao c R L :=
 T.kept (Kept.ofBelow (S := Nothing) hb) (fun _ h => h.elim) (fun h => h)
theorem RefAt.node (T : RefAt w Z rb root cnt ao c R L) {i : Nat} (hi : i < R.length) : ∃ (r : RawA) (x : Bytes × Nd) (b off : Nat), R[i]? = some r ∧ L[i]? = some x ∧ ao = some ⟨b, off, none⟩ ∧ b < w.heap.size ∧ ¬ Z b ∧ r.path = x.1 ∧ Reads w (fun k => ¬ Z k) r.node x.2 ∧ w.rangeAt b (off + i * 10) r.cells := by
 obtain ⟨r, hr⟩ : ∃ r, R[i]? = some r := ⟨_, List.getElem?_eq_getElem hi⟩
 obtain ⟨x, hx⟩ : ∃ x, L[i]? = some x := ⟨_, List.getElem?_eq_getElem (by rw [← T.like.1]; exact hi)⟩
 obtain ⟨b, off, h1, h2, h3, h4⟩ := T.at_ i r hr
 obtain ⟨g1, g2⟩ := T.like.2 i r x hr hx
 exact ⟨r, x, b, off, hr, hx, h1, h3, h2, g1, g2, h4⟩
def FindIs (L : List (Bytes × Nd)) (p : Bytes) (i : Int) : Prop := (i = -1 ∧ ∀ x ∈ L, x.1 ≠ p) ∨ ∃ (k : Nat) (x : Bytes × Nd), i = (k : Int) ∧ L[k]? = some x ∧ x.1 = p
set_option maxRecDepth 100000 in
set_option maxHeartbeats 8000000 in
theorem RefAt.find (T : RefAt w Z rb root cnt ao c R L) (hl : R.length ≤ 1000) (p : Bytes) :
  Calls Tryz.prog 82 #[.pointer (some ⟨rb, 0, none⟩), .string (bs p)] w fun e w' => w' = w ∧ ∃ i, e = .returned (.int .i64 i) ∧ FindIs L p i := by
 have q2 := T.c2
 have HT := Lib.hid T
 obtain ⟨N, hN⟩ : ∃ N, N = R.length := ⟨_, rfl⟩
 rw [← hN] at q2 hl
 have HN := Lib.hid hN
 clear T hN
 go_enter Tryz.func82, Tryz.ntmps82
 go_wp2
 go_loop [5] (fun i => ∃ k : Nat, k ≤ N ∧ i = .int .i64 k ∧ Hid (∀ j x, j < k → L[j]? = some x → x.1 ≠ p)) (fun i => N - (intOf i).toNat)
 case atStart => exact ⟨0, by omega, rfl, Lib.hid fun j x hj => by omega⟩
 case round =>
  obtain ⟨i, hi, rfl, HS⟩ := hrel
  by_cases hlt : i < N
  ·obtain ⟨r, x, b, off, hr, hx, rfl, hb, _, hp, _, hrg⟩ := HT.out.node (i := i) (by rw [← HN.out]; exact hlt)
   have k0 : w.cell? ⟨b, off + i * 10, none⟩ = some (.string (bs r.path)) := hrg 0 _ rfl
   rw [hp] at k0
   have HX := Lib.hid hx
   clear hr hx hp hrg
   by_cases he : x.1 = p
   ·have t0 : ((bs x.1).toList == (bs p).toList) = true := by rw [he]; simp
    have HE := Lib.hid he
    clear he
    go_wp2
    go_ret
    exact ⟨rfl, _, rfl, .inr ⟨i, x, rfl, HX.out, HE.out⟩⟩
   ·have t0 : ((bs x.1).toList == (bs p).toList) = false := by
     rw [toList_bs, toList_bs]
     simpa using he
    have HE : Hid (∀ j y, j < i + 1 → L[j]? = some y → y.1 ≠ p) := Lib.hid fun j y hj hy => by
     by_cases h : j < i
     ·exact HS.out j y h hy
     ·obtain rfl : i = j := by omega
      rw [HX.out] at hy
      cases hy
      exact he
    clear he
    go_wp2
    go_round
    case rel => exact ⟨i + 1, by omega, by go_num, HE⟩
    case measure => simp [intOf]; omega
  ·obtain rfl : N = i := by omega
   go_wp2
   go_ret
   refine ⟨rfl, _, rfl, .inl ⟨rfl, fun x hx => ?_⟩⟩
   obtain ⟨j, hj⟩ := List.getElem?_of_mem hx
   exact HS.out j x (by rw [HN.out, HT.out.like.1]; exact (List.getElem?_eq_some_iff.1 hj).1) hj
end
set_option maxRecDepth 100000 in
set_option maxHeartbeats 8000000 in
theorem rfParent_any (p : Bytes) (L : List Bytes) (h : partsL p = some L) (hlen : p.length ≤ 1000) (w : World) :
  Calls Tryz.prog 83 #[.string (bs p)] w fun e w' => e = .returned (.string (bs (parentL p))) ∧ Below w.heap.size w w' := by
 have h1 := refParts_some p L h w
 have hp : parentL p = if L = [] then p else ofL L.dropLast := by unfold parentL; rw [h]
 have hll := partsL_len h
 have hsl := slashed_parts h
 by_cases h0 : L = []
 ·rw [if_pos h0] at hp
  rw [hp]
  subst h0
  clear h hp
  go_enter Tryz.func83, Tryz.ntmps83
  go_wp2_with fail
  refine h1.mono ?_
  rintro e w1 ⟨v, rfl, ho, B1⟩
  rcases ownS_form ho with ⟨rfl, _⟩ | ⟨g, cap, rfl, _, _, _, _⟩
  all_goals
   have HB := Lib.hid B1
   clear B1 ho
   go_wp2
   go_ret
   exact ⟨rfl, HB.out⟩
 ·rw [if_neg h0] at hp
  rw [hp]
  have hn0 : 0 < L.length := List.length_pos_iff.2 h0
  have HP := Lib.hid (And.intro hsl h0)
  obtain ⟨n, hn⟩ : ∃ n, n = L.length := ⟨_, rfl⟩
  have HN := Lib.hid hn
  have t0 : ((n : Int) == 0) = false := by simp; omega
  clear h hp hsl
  go_enter Tryz.func83, Tryz.ntmps83
  go_wp2_with fail
  refine h1.mono ?_
  rintro e w1 ⟨v, rfl, ho, B1⟩
  rcases ownS_form ho with ⟨rfl, h2⟩ | ⟨g, cap, rfl, hc, hb, hg, hat⟩
  ·exact absurd h2 h0
  ·have HB := Lib.hid B1
   obtain ⟨m, hm⟩ : ∃ m, n = m + 1 := ⟨n - 1, by omega⟩
   have hdl : L.dropLast.length = m := by rw [List.length_dropLast]; omega
   have hsd : SlS w1 w1.heap.size (some ⟨g, 0, none⟩) L.dropLast := fun j x hx => strs_sl hat hg j x (by
    rw [List.getElem?_dropLast] at hx
    split at hx
    ·exact hx
    ·cases hx)
   have hof : Calls Tryz.prog 109 #[.slice (some ⟨g, 0, none⟩) m cap] w1 fun e w' => e = .returned (.string (bs (ofL L.dropLast))) ∧ w1 = w' := by
    by_cases hd : L.dropLast = []
    ·rw [hd] at hdl ⊢
     rw [← hdl]
     exact refOf_zero _ _ _
    ·rw [← hdl]
     refine refOf_more _ _ _ _ _ hd (by omega) ?_ hsd
     have hx := HP.out.1
     rw [← List.dropLast_concat_getLast HP.out.2] at hx
     simp [slashed] at hx
     simp [slashed]
     omega
   have HOF := Lib.hid hof
   clear B1 ho hat hsd hof hdl
   rw [← hn] at hc ⊢
   have hw : wrap64 ((n : Int) - 1) = (m : Int) := by
    unfold wrap64
    omega
   have hmc : m ≤ cap := by omega
   have hc0 : ¬ cap = 0 := by omega
   clear hn h0 h1 hm
   go_wp2_with fail
   refine HOF.out.mono ?_
   rintro e w2 ⟨rfl, rfl⟩
   go_wp2
   go_ret
   exact ⟨rfl, HB.out⟩
end Go.Proofs.YtnclkfhdpkkakaaGreatDoor
