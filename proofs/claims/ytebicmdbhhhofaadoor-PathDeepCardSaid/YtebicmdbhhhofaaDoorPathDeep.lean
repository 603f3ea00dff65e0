/-
  PathDeep, walked: by Parent again and again one comes to the root.
-/
import Derived.Test.YtebicmdbhhhofaaDoorPathMore
namespace Go.Proofs.YtebicmdbhhhofaaDoor
set_option linter.unusedVariables false
set_option linter.unusedSimpArgs false
open Go.RowKit

set_option maxRecDepth 100000 in
set_option maxHeartbeats 4000000 in
theorem deep_none (l : Bytes) (hl : l.length ≤ 200) (h : partsL l = none) (w : World) (hm : MaxInt w) :
    Calls Tryd.prog 9 #[.string (bs l)] w fun e w' => e = .returned (.bool true) ∧ Below w.heap.size w w' := by
  have s1 : (bs l).size ≤ 200 := by rw [size_bs]; exact hl
  have C1 := Lib.hid (show Later w 18 #[.string (bs l)] (.int .i64 30) from later_of hm fun W hW => check_none l h (size_max hl (by omega)) W hW)
  have C2 := Lib.hid (show Later w 20 #[.string (bs l)] (.string (bs [])) from later_of hm fun W hW => parent_none l h (size_max hl (by omega)) W hW)
  have e0 : (bs []).toList.isEmpty = true := by rw [toList_bs]; rfl
  have CG := Lib.hid (later_goes w hm)
  have B0 := Lib.hid (Below.refl w.heap.size w)
  clear hm h
  go_enter Tryd.func9, Tryd.ntmps9
  go_wp2_with fail
  refine (C1.out _ B0.out).mono ?_
  rintro e w1 ⟨rfl, B1⟩
  have X1 := Lib.hid B1
  clear B1
  go_wp2_with fail
  refine (C2.out _ X1.out).mono ?_
  rintro e w2 ⟨rfl, B2⟩
  have X2 := Lib.hid B2
  clear B2
  go_wp2_with fail
  refine (CG.out _ X2.out).mono ?_
  rintro e w3 ⟨rfl, B3⟩
  have X3 := Lib.hid B3
  clear B3
  go_wp2
  go_ret
  exact ⟨rfl, X3.out⟩

/-- Parts, as far as its length goes. -/
def LaterLen (w : World) (l : Bytes) (n : Nat) : Prop := ∀ W, Below w.heap.size w W → Calls Tryd.prog 19 #[.string (bs l)] W fun e w' => (∃ a c, e = .returned (.slice a n c)) ∧ Below w.heap.size w w'
theorem laterLen (w : World) (hm : MaxInt w) (l : Bytes) (L : List Bytes) (h : partsL l = some L) : LaterLen w l L.length := by
  intro W hW
  cases L with
  | nil => exact (parts_nil l h W).mono fun e w' ⟨he, hw⟩ => ⟨⟨_, _, he⟩, hw ▸ hW⟩
  | cons x L => exact (parts_some l (x :: L) h (by simp) W (hm.kept hW)).mono fun e w' ⟨he, _, hb⟩ => ⟨⟨_, _, he⟩, hW.trans (hb.mono hW.size)⟩

set_option maxRecDepth 100000 in
set_option maxHeartbeats 8000000 in
theorem deep_some (l : Bytes) (L : List Bytes) (hl : l.length ≤ 200) (h : partsL l = some L) (w : World) (hm : MaxInt w) :
    Calls Tryd.prog 9 #[.string (bs l)] w fun e w' => e = .returned (.bool true) ∧ Below w.heap.size w w' := by
  have s1 : (bs l).size ≤ 200 := by rw [size_bs]; exact hl
  have C1 := Lib.hid (show Later w 18 #[.string (bs l)] (.int .i64 0) from later_of hm fun W hW => check_some l L h W hW)
  have C2 := Lib.hid (laterLen w hm l L h)
  have C3 := Lib.hid (fun k => laterLen w hm _ _ (parts_take h k))
  have C4 := Lib.hid (fun k => later_parent w hm (ofL (L.take k)) (by have := take_len64 h k; omega))
  have C5 := Lib.hid (fun k => later_under w hm l (ofL (L.take k)) (by omega) (by have := take_len64 h k; omega))
  have HU := Lib.hid (fun k => under_take h k)
  have HS := Lib.hid (fun k => shorter h k)
  have HPT := Lib.hid (parent_take h)
  have HP := Lib.hid (fun k => parts_take h k)
  have H64 := Lib.hid (fun k => take_len64 h k)
  have hl0 : ofL (L.take L.length) = l := by rw [List.take_length]; exact ofL_parts h
  have HL0 := Lib.hid hl0
  have CG := Lib.hid (later_goes w hm)
  have B0 := Lib.hid (Below.refl w.heap.size w)
  have hk := partsL_len h
  clear hm h hl0
  obtain ⟨N, hN⟩ : ∃ N, N = L.length := ⟨_, rfl⟩
  rw [← hN] at hk HL0 C2
  have HN := Lib.hid hN
  clear hN
  go_enter Tryd.func9, Tryd.ntmps9
  go_wp2_with fail
  refine (C1.out _ B0.out).mono ?_
  rintro e wa1 ⟨rfl, Ba1⟩
  have Xa1 := Lib.hid Ba1
  clear Ba1
  go_wp2_with fail
  refine (C2.out _ Xa1.out).mono ?_
  rintro e w2 ⟨⟨a, c, rfl⟩, B2⟩
  have X2 := Lib.hid B2
  clear B2
  go_wp2_with fail
  go_loopw [3, 4] (fun s i wr => ∃ k : Nat, k ≤ N ∧ i = .int .i64 k ∧ s = .string (bs (ofL (L.take k))) ∧ Hid (Below w.heap.size w wr)) (fun _ i _ => (intOf i).toNat)
  case atStart => exact ⟨N, by omega, rfl, by rw [HL0.out], X2⟩
  case round =>
    obtain ⟨k, hkN, rfl, rfl, HB⟩ := hrel
    by_cases hpos : 0 < k
    · obtain ⟨j, rfl⟩ : ∃ j, k = j + 1 := ⟨k - 1, by omega⟩
      have hjl : j < L.length := by rw [← HN.out]; omega
      have d1 := C4.out (j + 1)
      have hpar := HPT.out j hjl
      rw [hpar] at d1
      have d2 := C5.out j
      rw [HU.out j] at d2
      have d3 := C3.out j
      rw [show (L.take j).length = j from by rw [List.length_take]; omega] at d3
      unfold LaterLen at d3
      have hsh := HS.out j hjl
      have h64 := H64.out (j + 1)
      have z1 : (bs (ofL (L.take j))).size < (bs (ofL (L.take (j + 1)))).size := by rw [size_bs, size_bs]; exact hsh
      have z2 : (bs (ofL (L.take (j + 1)))).size ≤ 64 := by rw [size_bs]; exact h64
      have hc : ((j + 1 : Nat) : Int) - 1 = (j : Int) := by omega
      have hz : ((j + 1 : Nat) : Int) = (j : Int) + 1 := by omega
      have ht : ((j : Int) != (j : Int)) = false := by simp
      have D1 := Lib.hid d1
      have D2 := Lib.hid d2
      have D3 := Lib.hid d3
      clear d1 d2 d3 hpar hsh h64 hjl
      generalize hq : bs (ofL (L.take j)) = q at *
      have HQ := Lib.hid hq
      clear hq
      generalize bs (ofL (L.take (j + 1))) = at1 at *
      go_wp2_with fail
      refine (D1.out _ HB.out).mono ?_
      rintro e wb1 ⟨rfl, Bb1⟩
      have Xb1 := Lib.hid Bb1
      clear Bb1
      go_wp2_with fail
      refine (D2.out _ Xb1.out).mono ?_
      rintro e wb2 ⟨rfl, Bb2⟩
      have Xb2 := Lib.hid Bb2
      clear Bb2
      go_wp2_with fail
      refine (D3.out _ Xb2.out).mono ?_
      rintro e wb3 ⟨⟨a3, c3, rfl⟩, Bb3⟩
      have Xb3 := Lib.hid Bb3
      clear Bb3
      go_wp2
      go_roundw
      case rel => exact ⟨j, by omega, rfl, by rw [HQ.out], Xb3⟩
      case measure => simp [intOf]
    · obtain rfl : k = 0 := by omega
      have hr : partsL [47] = some [] := rfl
      have d1 := later_same (w := w) (fun W => parent_nil [47] hr W)
      have D1 := Lib.hid d1
      have t1 : ((bs [47]).toList == [47]) = true := by rw [toList_bs]; rfl
      have e1 : bs (ofL (L.take 0)) = bs [47] := rfl
      rw [e1]
      clear d1 hr e1
      go_wp2_with fail
      refine (D1.out _ HB.out).mono ?_
      rintro e wc1 ⟨rfl, Bc1⟩
      have Xc1 := Lib.hid Bc1
      clear Bc1
      go_wp2_with fail
      refine (CG.out _ Xc1.out).mono ?_
      rintro e wc2 ⟨rfl, Bc2⟩
      have Xc2 := Lib.hid Bc2
      clear Bc2
      go_wp2
      go_ret
      exact ⟨rfl, Xc2.out⟩
set_option maxRecDepth 100000 in
theorem deep_core (l : Bytes) (m1 : (bs l).size ≤ 9223372036854775807) (w : World) (hm : MaxInt w) :
    Calls Tryd.prog 9 #[.string (bs l)] w fun e w' => e = .returned (.bool true) ∧ Below w.heap.size w w' := by
  by_cases hl : l.length ≤ 200
  · cases h : partsL l with
    | none => exact deep_none l hl h w hm
    | some L => exact deep_some l L hl h w hm
  · have h : 200 < (bs l).size := by rw [size_bs]; omega
    go_enter Tryd.func9, Tryd.ntmps9
    go_wp2
    go_ret
    exact ⟨rfl, Below.refl _ _⟩
end Go.Proofs.YtebicmdbhhhofaaDoor
