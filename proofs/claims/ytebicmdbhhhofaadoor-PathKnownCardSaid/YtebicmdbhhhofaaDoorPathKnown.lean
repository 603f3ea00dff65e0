/-
  PathKnown, walked: the chapter's examples, and limits; runes.
-/
import Derived.Test.YtebicmdbhhhofaaDoorPathMore
namespace Go.Proofs.YtebicmdbhhhofaaDoor
set_option linter.unusedVariables false
set_option linter.unusedSimpArgs false
open Go.RowKit

def G8 : List Bytes := [[47], [47, 97], [47, 97, 47, 98], [47, 46, 46, 46], [47, 195, 164, 47, 230, 151, 165, 230, 156, 172], [47, 32], [47, 194, 128], [47, 244, 143, 191, 191]]
def G14 : List Bytes := [[], [97], [47, 97, 47], [47, 47], [47, 46], [47, 97, 47, 46, 46, 47, 98], [47, 0], [47, 31], [47, 127], [47, 239, 191, 189], [47, 255], [47, 237, 160, 128], [47, 192, 128], [47, 97, 10]]
theorem g8_ok : (G8.all fun x => (partsC x).isSome && decide (x.length ≤ 1000)) = true := by decide +kernel
theorem g14_bad : (G14.all fun x => !(partsC x).isSome && decide (x.length ≤ 1000)) = true := by decide +kernel
theorem g8_at (k : Nat) (x : Bytes) (h : G8[k]? = some x) : checkV x = 0 ∧ x.length ≤ 1000 := by
  have := List.all_eq_true.1 g8_ok x (List.mem_of_getElem? h)
  simp only [Bool.and_eq_true, decide_eq_true_eq] at this
  unfold checkV
  rw [partsL_eq, this.1]
  exact ⟨rfl, this.2⟩
theorem g14_at (k : Nat) (x : Bytes) (h : G14[k]? = some x) : checkV x = 30 ∧ x.length ≤ 1000 := by
  have := List.all_eq_true.1 g14_bad x (List.mem_of_getElem? h)
  simp only [Bool.and_eq_true, decide_eq_true_eq, Bool.not_eq_true'] at this
  unfold checkV
  rw [partsL_eq, this.1]
  exact ⟨rfl, this.2⟩
def X (n : Nat) : Bytes := List.replicate n 120
theorem x_snoc (n : Nat) : X n ++ [120] = X (n + 1) := by unfold X; rw [← List.replicate_succ']
theorem x_len (n : Nat) : (X n).length = n := by unfold X; simp
theorem k1 : joinV [47] (X 63) = .tuple #[.string (bs (47 :: X 63)), .int .i64 0] := by
  have h1 : partsL [47] = some [] := rfl
  have h2 : okName (X 63) = true := by rw [okName_eq]; decide +kernel
  have h3 : joinErr [] (X 63) = false := by decide +kernel
  simp only [joinV, h1, h2, if_true, joinVal, h3, Bool.false_eq_true, if_false]
  rfl
theorem k2 : joinV [47] (X 64) = .tuple #[.string (bs []), .int .i64 3] := by
  have h1 : partsL [47] = some [] := rfl
  have h2 : okName (X 64) = true := by rw [okName_eq]; decide +kernel
  have h3 : joinErr [] (X 64) = true := by decide +kernel
  simp only [joinV, h1, h2, if_true, joinVal, h3]
theorem k3 : joinV [47, 120] (X 63) = .tuple #[.string (bs []), .int .i64 3] := by
  have h1 : partsL [47, 120] = some [[120]] := by rw [partsL_eq]; decide +kernel
  have h2 : okName (X 63) = true := by rw [okName_eq]; decide +kernel
  have h3 : joinErr [[120]] (X 63) = true := by decide +kernel
  simp only [joinV, h1, h2, if_true, joinVal, h3]
theorem k4 : joinV [47, 97] [46, 46] = .tuple #[.string (bs []), .int .i64 30] := by
  have h2 : okName [46, 46] = false := by rw [okName_eq]; decide +kernel
  simp only [joinV, ex_p1, h2, Bool.false_eq_true, if_false]
theorem k5 : joinV [47] [97] = .tuple #[.string (bs [47, 97]), .int .i64 0] := by
  have h1 : partsL [47] = some [] := rfl
  have h2 : okName [97] = true := by rw [okName_eq]; decide +kernel
  have h3 : joinErr [] [97] = false := by decide +kernel
  simp only [joinV, h1, h2, if_true, joinVal, h3, Bool.false_eq_true, if_false]
  rfl
theorem k6 : checkV (47 :: X 63) = 0 := by unfold checkV; rw [partsL_eq]; decide +kernel
theorem k7 : checkV (47 :: X 64) = 30 := by unfold checkV; rw [partsL_eq]; decide +kernel
theorem k8 : okName (47 :: X 64) = false := by rw [okName_eq]; decide +kernel
theorem k9 : okName (X 65) = true := by rw [okName_eq]; decide +kernel
theorem k10 : parentL [47] = [47] := by decide +kernel
theorem k11 : baseL [47] = [] := by decide +kernel
theorem k12 : underB [47, 97] [47, 97, 47, 98] = false := by rw [underB_eq]; decide +kernel
theorem k13 : underB [47, 97] [47] = true := by rw [underB_eq]; decide +kernel
theorem k14 : underB [97] [47] = false := by rw [underB_eq]; decide +kernel
theorem cut1 : (bs (47 :: X 63)).extract 1 (bs (47 :: X 63)).size = bs (X 63) := by
  rw [cut_bs, size_bs]; rfl
theorem cut2 : bs (X 63) ++ (⟨#[120]⟩ : ByteArray) = bs (X 64) := by rw [show (⟨#[120]⟩ : ByteArray) = bs [120] from rfl, cat_bs]; rfl
theorem cut3 : bs (47 :: X 63) ++ (⟨#[120]⟩ : ByteArray) = bs (47 :: X 64) := by rw [show (⟨#[120]⟩ : ByteArray) = bs [120] from rfl, cat_bs]; rfl
theorem cut4 : bs (X 63) ++ (⟨#[120, 120]⟩ : ByteArray) = bs (X 65) := by rw [show (⟨#[120, 120]⟩ : ByteArray) = bs [120, 120] from rfl, cat_bs]; rfl

set_option maxRecDepth 100000 in
set_option maxHeartbeats 16000000 in
theorem pknown_core (w : World) (hm : MaxInt w) : Calls Tryd.prog 8 #[] w fun e w' => e = .returned (.bool true) ∧ Below w.heap.size w w' := by
  have HM := Lib.hid hm
  clear hm
  go_enter Tryd.func8, Tryd.ntmps8
  go_wp2
  go_loopw [2] (fun i wr => ∃ k : Nat, k ≤ 8 ∧ i = .int .i64 k ∧ Hid (BlkS wr w.heap.size G8 ∧ Below w.heap.size w wr)) (fun i _ => 8 - (intOf i).toNat)
  case atStart => exact ⟨0, by omega, rfl, Lib.hid ⟨blk_new w G8, (Below.refl _ w).alloc (Nat.le_refl _) _⟩⟩
  case round =>
    obtain ⟨k, hk, rfl, HB⟩ := hrel
    by_cases hlt : k < 8
    · obtain ⟨x, hx⟩ : ∃ x, G8[k]? = some x := ⟨_, List.getElem?_eq_getElem (by simp only [G8, List.length_cons, List.length_nil]; omega)⟩
      have hcell : wr.cell? ⟨w.heap.size, k, none⟩ = some (.string (bs x)) := by have := HB.out.1.at k x hx; rwa [Nat.zero_add] at this
      obtain ⟨hv, hl⟩ := g8_at k x hx
      have d1 := later_check wr (HM.out.kept HB.out.2) x hl
      rw [hv] at d1
      have D1 := Lib.hid d1
      have Y0 := Lib.hid (Below.refl wr.heap.size wr)
      clear d1 hv hl hx
      go_wp2_with fail
      refine (D1.out _ Y0.out).mono ?_
      rintro e wb ⟨rfl, Bb⟩
      have XB := Lib.hid (And.intro (HB.out.1.kept Bb HB.out.1.lt) (HB.out.2.trans (Bb.mono HB.out.2.size)))
      clear Bb
      go_wp2
      go_roundw
      case rel => exact ⟨k + 1, by omega, by go_num, XB⟩
      case measure => simp [intOf]; omega
    · obtain rfl : k = 8 := by omega
      rw [show ((8 : Nat) : Int) = (8 : Int) from rfl]
      go_wp2_with fail
      have hbs : Below w.heap.size w wr := HB.out.2
      obtain ⟨wo, hwo⟩ : ∃ wo : World, wo = wr := ⟨_, rfl⟩
      rw [← hwo] at hbs ⊢
      clear HB hwo
      go_loopw [4] (fun i wx => ∃ k : Nat, k ≤ 14 ∧ i = .int .i64 k ∧ Hid (BlkS wx wo.heap.size G14 ∧ Below w.heap.size w wx)) (fun i _ => 14 - (intOf i).toNat)
      case atStart => exact ⟨0, by omega, rfl, Lib.hid ⟨blk_new wo G14, hbs.alloc hbs.size _⟩⟩
      case round =>
        obtain ⟨k, hk, rfl, HB⟩ := hrel
        by_cases hlt : k < 14
        · obtain ⟨x, hx⟩ : ∃ x, G14[k]? = some x := ⟨_, List.getElem?_eq_getElem (by simp only [G14, List.length_cons, List.length_nil]; omega)⟩
          have hcell : wr.cell? ⟨wo.heap.size, k, none⟩ = some (.string (bs x)) := by have := HB.out.1.at k x hx; rwa [Nat.zero_add] at this
          obtain ⟨hv, hl⟩ := g14_at k x hx
          have d1 := later_check wr (HM.out.kept HB.out.2) x hl
          rw [hv] at d1
          have D1 := Lib.hid d1
          have Y0 := Lib.hid (Below.refl wr.heap.size wr)
          clear d1 hv hl hx
          go_wp2_with fail
          refine (D1.out _ Y0.out).mono ?_
          rintro e wb ⟨rfl, Bb⟩
          have XB := Lib.hid (And.intro (HB.out.1.kept Bb HB.out.1.lt) (HB.out.2.trans (Bb.mono HB.out.2.size)))
          clear Bb
          go_wp2
          go_roundw
          case rel => exact ⟨k + 1, by omega, by go_num, XB⟩
          case measure => simp [intOf]; omega
        · obtain rfl : k = 14 := by omega
          rw [show ((14 : Nat) : Int) = (14 : Int) from rfl]
          have HW := Lib.hid HB.out.2
          go_wp2_with fail
          go_loop [5] (fun v => ∃ k : Nat, k ≤ 63 ∧ v = .string (bs (47 :: X k))) (fun v => match v with | .string s => 64 - s.size | _ => 0)
          case atStart => exact ⟨0, by omega, rfl⟩
          case round =>
            obtain ⟨k, hk, rfl⟩ := hrel
            have hsz : (bs (47 :: X k)).size = k + 1 := by rw [size_bs, List.length_cons, x_len]
            by_cases hlt : k < 63
            · have hs1 : (bs (47 :: X k)).size < 64 := by omega
              have HSZ := Lib.hid hsz
              have HE := Lib.hid (show bs (47 :: X k) ++ (⟨#[120]⟩ : ByteArray) = bs (47 :: X (k + 1)) from by rw [show (⟨#[120]⟩ : ByteArray) = bs [120] from rfl, cat_bs, ← x_snoc]; rfl)
              clear hsz
              go_wp2
              go_round
              case rel => exact ⟨k + 1, by omega, by rw [HE.out]⟩
              case measure =>
                dsimp only
                rw [HE.out, HSZ.out, size_bs, List.length_cons, x_len]
                omega
            · obtain rfl : k = 63 := by omega
              have hs1 : ¬ (bs (47 :: X 63)).size < 64 := by omega
              have E1 := Lib.hid cut1
              have E2 := Lib.hid cut2
              have E3 := Lib.hid cut3
              have E4 := Lib.hid cut4
              have F1 := Lib.hid (k1 ▸ later_join w HM.out [47] (X 63) (by simp) (by rw [x_len]; omega))
              have F2 := Lib.hid (k2 ▸ later_join w HM.out [47] (X 64) (by simp) (by rw [x_len]; omega))
              have F3 := Lib.hid (k3 ▸ later_join w HM.out [47, 120] (X 63) (by simp) (by rw [x_len]; omega))
              have F4 := Lib.hid (k4 ▸ later_join w HM.out [47, 97] [46, 46] (by simp) (by simp))
              have F5 := Lib.hid (k5 ▸ later_join w HM.out [47] [97] (by simp) (by simp))
              have F6 := Lib.hid (k6 ▸ later_check w HM.out (47 :: X 63) (by rw [List.length_cons, x_len]; omega))
              have F7 := Lib.hid (k7 ▸ later_check w HM.out (47 :: X 64) (by rw [List.length_cons, x_len]; omega))
              have f8 := later_name w (47 :: X 64)
              have f9 := later_name w (X 65)
              rw [k8] at f8
              rw [k9] at f9
              have F8 := Lib.hid f8
              have F9 := Lib.hid f9
              have F10 := Lib.hid (k10 ▸ later_parent w HM.out [47] (by simp))
              have f11 := later_base w HM.out [47] (by simp)
              rw [k11] at f11
              have F11 := Lib.hid f11
              have F12 := Lib.hid (later_same (w := w) (fun W => parts_nil [47] rfl W))
              have f13 := later_under w HM.out [47, 97] [47, 97, 47, 98] (by simp) (by simp)
              rw [k12] at f13
              have f14 := later_under w HM.out [47, 97] [47] (by simp) (by simp)
              rw [k13] at f14
              have f15 := later_under w HM.out [97] [47] (by simp) (by simp)
              rw [k14] at f15
              have F13 := Lib.hid f13
              have F14 := Lib.hid f14
              have F15 := Lib.hid f15
              have FG := Lib.hid (later_goes w HM.out)
              have t1 : ((bs [47, 97]).toList == [47, 97]) = true := by rw [toList_bs]; rfl
              have t2 : ((bs [47]).toList == [47]) = true := by rw [toList_bs]; rfl
              have t3 : (bs []).toList.isEmpty = true := by rw [toList_bs]; rfl
              have g1 : 1 ≤ (bs (47 :: X 63)).size := by omega
              have g2 : (bs (47 :: X 63)).size ≤ 1000 := by omega
              have g3 : (bs (X 63)).size ≤ 1000 := by rw [size_bs, x_len]; omega
              clear f8 f9 f11 f13 f14 f15 hsz
              go_wp2_with fail
              rw [E1.out]
              refine (F1.out _ HW.out).mono ?_
              rintro e wa0 ⟨rfl, Ba0⟩
              have XA0 := Lib.hid Ba0
              clear Ba0
              go_wp2_with fail
              rw [E1.out, E2.out]
              refine (F2.out _ XA0.out).mono ?_
              rintro e wa1 ⟨rfl, Ba1⟩
              have XA1 := Lib.hid Ba1
              clear Ba1
              go_wp2_with fail
              rw [E1.out]
              refine (F3.out _ XA1.out).mono ?_
              rintro e wa2 ⟨rfl, Ba2⟩
              have XA2 := Lib.hid Ba2
              clear Ba2
              go_wp2_with fail
              refine (F4.out _ XA2.out).mono ?_
              rintro e wa3 ⟨rfl, Ba3⟩
              have XA3 := Lib.hid Ba3
              clear Ba3
              go_wp2_with fail
              refine (F5.out _ XA3.out).mono ?_
              rintro e wa4 ⟨rfl, Ba4⟩
              have XA4 := Lib.hid Ba4
              clear Ba4
              go_wp2_with fail
              refine (F6.out _ XA4.out).mono ?_
              rintro e wa5 ⟨rfl, Ba5⟩
              have XA5 := Lib.hid Ba5
              clear Ba5
              go_wp2_with fail
              rw [E3.out]
              refine (F7.out _ XA5.out).mono ?_
              rintro e wa6 ⟨rfl, Ba6⟩
              have XA6 := Lib.hid Ba6
              clear Ba6
              go_wp2_with fail
              rw [E3.out]
              refine (F8.out _ XA6.out).mono ?_
              rintro e wa7 ⟨rfl, Ba7⟩
              have XA7 := Lib.hid Ba7
              clear Ba7
              go_wp2_with fail
              rw [E1.out, E4.out]
              refine (F9.out _ XA7.out).mono ?_
              rintro e wa8 ⟨rfl, Ba8⟩
              have XA8 := Lib.hid Ba8
              clear Ba8
              go_wp2_with fail
              refine (F10.out _ XA8.out).mono ?_
              rintro e wa9 ⟨rfl, Ba9⟩
              have XA9 := Lib.hid Ba9
              clear Ba9
              go_wp2_with fail
              refine (F11.out _ XA9.out).mono ?_
              rintro e wa10 ⟨rfl, Ba10⟩
              have XA10 := Lib.hid Ba10
              clear Ba10
              go_wp2_with fail
              refine (F12.out _ XA10.out).mono ?_
              rintro e wa11 ⟨rfl, Ba11⟩
              have XA11 := Lib.hid Ba11
              clear Ba11
              go_wp2_with fail
              refine (F13.out _ XA11.out).mono ?_
              rintro e wa12 ⟨rfl, Ba12⟩
              have XA12 := Lib.hid Ba12
              clear Ba12
              go_wp2_with fail
              refine (F14.out _ XA12.out).mono ?_
              rintro e wa13 ⟨rfl, Ba13⟩
              have XA13 := Lib.hid Ba13
              clear Ba13
              go_wp2_with fail
              refine (F15.out _ XA13.out).mono ?_
              rintro e wa14 ⟨rfl, Ba14⟩
              have XA14 := Lib.hid Ba14
              clear Ba14
              go_wp2_with fail
              refine (FG.out _ XA14.out).mono ?_
              rintro e wa15 ⟨rfl, Ba15⟩
              have XA15 := Lib.hid Ba15
              clear Ba15
              go_wp2
              go_ret
              exact ⟨rfl, XA15.out⟩
end Go.Proofs.YtebicmdbhhhofaaDoor
