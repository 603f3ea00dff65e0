/-
  The chapter's goes(): the known example, walked.
-/
import Derived.Test.YtebicmdbhhhofaaDoorPathEval
namespace Go.Proofs.YtebicmdbhhhofaaDoor
set_option linter.unusedVariables false
set_option linter.unusedSimpArgs false
open Go.RowKit

set_option maxRecDepth 100000 in
set_option maxHeartbeats 2000000 in
theorem goes03_true (w : World) (hm : MaxInt w) : Calls Tryd.prog 15 #[] w fun e w' => e = .returned (.bool true) ∧ Below w.heap.size w w' := by
  have c1 := join_some [47, 97] [98] [[97]] ex_p1 (by simp) ex_n (by simp) w hm
  rw [ex_join] at c1
  have c2 := fun (W : World) (hW : MaxInt W) => check_none [47, 97, 47, 46, 46, 47, 98] ex_p3 (by rw [size_bs]; decide) W hW
  have c3 := fun (W : World) (hW : MaxInt W) => under_any [47, 97, 47, 98] [47, 97] (by rw [size_bs]; decide) (by rw [size_bs]; decide) W hW
  have c4 := fun (W : World) (hW : MaxInt W) => under_any [47, 97, 98] [47, 97] (by rw [size_bs]; decide) (by rw [size_bs]; decide) W hW
  rw [ex_u1] at c3
  rw [ex_u2] at c4
  have c5 := fun (W : World) (hW : MaxInt W) => parent_some [47, 97, 47, 98] [[97]] [98] ex_p2 W hW
  have c6 := fun (W : World) (hW : MaxInt W) => base_some [47, 97, 47, 98] [[97]] [98] ex_p2 W hW
  rw [show ofL [[97]] = [47, 97] from rfl] at c5
  have C2 := Lib.hid c2
  have C3 := Lib.hid c3
  have C4 := Lib.hid c4
  have C5 := Lib.hid c5
  have C6 := Lib.hid c6
  have HM := Lib.hid hm
  clear c2 c3 c4 c5 c6 hm
  have t1 : ((bs [47, 97, 47, 98]).toList == [47, 97, 47, 98]) = true := by rw [toList_bs]; rfl
  have t2 : ((bs [47, 97]).toList == [47, 97]) = true := by rw [toList_bs]; rfl
  have t3 : ((bs [98]).toList == [98]) = true := by rw [toList_bs]; rfl
  go_enter Tryd.func15, Tryd.ntmps15
  go_wp2_with fail
  refine c1.mono ?_
  rintro e w1 ⟨rfl, B1⟩
  have X1 := Lib.hid B1
  clear B1
  go_wp2_with fail
  refine (C2.out _ (HM.out.kept X1.out)).mono ?_
  rintro e w2 ⟨rfl, B2⟩
  have X2 := Lib.hid (X1.out.trans (B2.mono X1.out.size))
  clear B2
  go_wp2_with fail
  refine (C3.out _ (HM.out.kept X2.out)).mono ?_
  rintro e w3 ⟨rfl, B3⟩
  have X3 := Lib.hid (X2.out.trans (B3.mono X2.out.size))
  clear B3
  go_wp2_with fail
  refine (C4.out _ (HM.out.kept X3.out)).mono ?_
  rintro e w4 ⟨rfl, B4⟩
  have X4 := Lib.hid (X3.out.trans (B4.mono X3.out.size))
  clear B4
  go_wp2_with fail
  refine (C5.out _ (HM.out.kept X4.out)).mono ?_
  rintro e w5 ⟨rfl, B5⟩
  have X5 := Lib.hid (X4.out.trans (B5.mono X4.out.size))
  clear B5
  go_wp2_with fail
  refine (C6.out _ (HM.out.kept X5.out)).mono ?_
  rintro e w6 ⟨rfl, B6⟩
  have X6 := Lib.hid (X5.out.trans (B6.mono X5.out.size))
  clear B6
  go_wp2
  go_ret
  exact ⟨rfl, X6.out⟩
end Go.Proofs.YtebicmdbhhhofaaDoor
