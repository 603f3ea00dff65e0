/-
  TreeNil, walked.
-/
import Derived.Test.YtkhoeiapfoaapaaDoorTrNil
import Derived.Test.YtkhoeiapfoaapaaDoorTrGrows
namespace Go.Proofs.YtkhoeiapfoaapaaDoor
set_option linter.unusedVariables false
set_option linter.unusedSimpArgs false
set_option linter.unusedVariables false
set_option linter.unusedSimpArgs false
open Go Go.RowKit Go.Shelf Go.MapKept Go.ChangeMaps Go.Maps Go.Sort

set_option maxRecDepth 100000 in
set_option maxHeartbeats 8000000 in
theorem treeNil_core (p : Bytes) (w : World) (hm : MaxInt w) (m0 : (bs p).size ≤ 9223372036854775807) : Calls Tryd.prog 8 #[.string (bs p)] w fun e w' => e = .returned (.bool true) ∧ Below w.heap.size w w' := by
  have HM := Lib.hid hm
  clear hm
  by_cases h5 : 500 < (bs p).size
  · have h5d : decide ((500 : Int) < ((bs p).size : Int)) = true := by simpa using (by omega : (500 : Int) < ((bs p).size : Int))
    go_enter Tryd.func8, Tryd.ntmps8
    go_wp2
    go_ret
    exact ⟨rfl, Below.refl _ _⟩
  · have h5d : decide ((500 : Int) < ((bs p).size : Int)) = false := by simpa using (by omega : ((bs p).size : Int) ≤ 500)
    go_enter Tryd.func8, Tryd.ntmps8
    go_wp2_with fail
    refine (getNil w p).mono ?_
    rintro e w1 ⟨rfl, B1⟩
    have HB1 := Lib.hid B1
    clear B1
    unfold Raw.val Raw.cells Nums.cells zRaw zNums
    dsimp only
    go_wp2_with fail
    obtain ⟨w2, hw2⟩ : ∃ w2, w2 = w1.alloc (.cells #[.slice none 0 0, .int .u32 0, .int .u32 0, .int .u32 0, .int .i64 0, .int .u32 0, .int .u64 0, .int .u64 0, .int .u64 0] 33) := ⟨_, rfl⟩
    have hB2 : Below w.heap.size w w2 := by rw [hw2]; exact belowA HB1.out _
    rw [← hw2]
    clear hw2
    have HB2 := Lib.hid hB2
    clear hB2
    refine (cloneNil w2).mono ?_
    rintro e w3 ⟨rfl, rfl⟩
    go_wp2_with fail
    refine (rootNil w3).mono ?_
    rintro e w4 ⟨rfl, rfl⟩
    go_wp2_with fail
    refine (atNil w4).mono ?_
    rintro e w5 ⟨rfl, rfl⟩
    go_wp2_with fail
    refine (kidsNil w5 (HM.out.kept HB2.out) p).mono ?_
    rintro e w6 ⟨v, rfl, R6, B6⟩
    obtain ⟨a6, c6, rfl, _⟩ := R6.form
    have HB6 := Lib.hid (HB2.out.trans (B6.mono HB2.out.size))
    clear R6 B6
    go_wp2_with fail
    refine (pathsNil w6).mono ?_
    rintro e w7 ⟨v, rfl, R7, B7⟩
    obtain ⟨a7, c7, rfl, _⟩ := R7.c.form
    have HB7 := Lib.hid (HB6.out.trans (B7.mono HB6.out.size))
    clear R7 B7
    go_wp2_with fail
    refine (applyNil w7 _).mono ?_
    rintro e w8 ⟨rfl, rfl⟩
    go_wp2_with fail
    refine (sameNil w8).mono ?_
    rintro e w9 ⟨rfl, rfl⟩
    go_wp2_with fail
    refine (TR.new (root := pR) HB7.out HM.out (by decide) rootsR).mono ?_
    rintro e w10 ⟨b, rfl, R10, hb10, B10⟩
    have HR10 : Hid (TR w w10 b pR 0 M0) := Lib.hid R10
    clear R10 B10 hb10
    go_wp2_with fail
    refine (sameNil2 w10 b).mono ?_
    rintro e w11 ⟨rfl, rfl⟩
    go_wp2_with fail
    refine (sameNil1 w11 b).mono ?_
    rintro e w12 ⟨rfl, rfl⟩
    go_wp2_with fail
    refine (putE_cells pRA w12).mono ?_
    rintro e w13 ⟨a2, n2, c2, rfl, E2, B2⟩
    have HR13 := Lib.hid (HR10.out.below B2)
    have HE2 := Lib.hid E2
    clear E2 B2
    go_wp2_with fail
    refine (HR13.out.apply1 (r := ⟨pRA, false, ⟨a2, n2, c2, zNums⟩⟩) (Int.le_refl 0) (by decide) HE2.out (at' := 1) (fit_put pRA (by decide)) (atA_yes grow1)).mono ?_
    rintro e w14 ⟨rfl, R14, _⟩
    have HR14 := Lib.hid R14
    clear R14
    have hd : (getA pRA M1).getD zNd = ⟨pRA, zNums⟩ := by decide +kernel
    have his : (getA pRA M1).isSome = true := by decide +kernel
    have HD := Lib.hid (And.intro hd his)
    clear hd his
    go_wp2_with fail
    refine (HR14.out.get pRA (by decide)).mono ?_
    rintro e w15 ⟨⟨a9, n9, c9, u9⟩, rfl, E9, B9, F9⟩
    rw [HD.out.1] at E9
    have hu : u9 = zNums := E9.num
    subst hu
    have hn9 : n9 = 4 := E9.len
    subst hn9
    have HR15 := Lib.hid (HR14.out.below B9)
    have HE9 := Lib.hid E9
    have HB9 := Lib.hid B9
    clear E9 B9
    rw [HD.out.2]
    unfold Raw.val Raw.cells Nums.cells zNums
    dsimp only
    obtain ⟨bb, off, rfl, hlo, hhi, hcc⟩ := HE9.out.data 0 47 rfl
    have hcc : w15.cell? ⟨bb, off, none⟩ = some (.int .u8 47) := hcc
    have hfr : w15.frozen? ⟨bb, off, none⟩ = false := (F9 _ rfl).2.2 off
    have hbb2 : bb ≠ w15.heap.size := by omega
    clear F9
    go_wp2_with fail
    obtain ⟨w16, hw16⟩ : ∃ w16, w16 = (w15.setCell ⟨bb, off, none⟩ (.int .u8 120)).alloc (.cells #[.slice (some ⟨bb, off, none⟩) 4 c9, .int .u32 0, .int .u32 0, .int .u32 0, .int .i64 0, .int .u32 0, .int .u64 0, .int .u64 0, .int .u64 0] 33) := ⟨_, rfl⟩
    rw [← hw16]
    have hB16 : Below w14.heap.size w14 w16 := by
      rw [hw16]
      have h1 := HB9.out.setCell (show w14.heap.size ≤ (⟨bb, off, none⟩ : Addr).block from hlo) (.int .u8 120)
      exact h1.alloc h1.size _
    clear hw16 hcc hfr
    have HR16 := Lib.hid (HR14.out.below hB16)
    clear hB16
    refine (HR16.out.get pRA (by decide)).mono ?_
    rintro e w17 ⟨⟨ma, mn, mc, mu⟩, rfl, E17, B17, _⟩
    rw [HD.out.1] at E17
    have hu : mu = zNums := E17.num
    subst hu
    have hmn : mn = 4 := E17.len
    subst hmn
    have HR17 := Lib.hid (HR16.out.below B17)
    have HE17 := Lib.hid E17
    clear E17 B17
    rw [HD.out.2]
    unfold Raw.val Raw.cells Nums.cells zNums
    dsimp only
    go_wp2_with fail
    obtain ⟨w18, hw18⟩ : ∃ w18, w18 = w17.alloc (.cells #[.slice ma 4 mc, .int .u32 0, .int .u32 0, .int .u32 0, .int .i64 0, .int .u32 0, .int .u64 0, .int .u64 0, .int .u64 0] 33) := ⟨_, rfl⟩
    rw [← hw18]
    have hB18 : Below w17.heap.size w17 w18 := by rw [hw18]; exact belowA (Below.refl _ w17) _
    have g18 : w18.cell? ⟨w17.heap.size, 0, none⟩ = some (.slice ma 4 mc) := by rw [hw18]; exact cell_of_row _ _ 0 _ 33 (0, 0) (heap_alloc_new w17 _)
    have l18 : w17.heap.size < w18.heap.size := by rw [hw18]; simp
    clear hw18
    have HR18 := Lib.hid (HR17.out.below hB18)
    have HE18 := Lib.hid (HE17.out.below hB18)
    clear hB18
    refine HR18.out.clone.mono ?_
    rintro e w19 ⟨b9, rfl, R19, hb19, B19⟩
    have HR19 := Lib.hid R19
    have HE19 := Lib.hid (HE18.out.below B19)
    have g19 := (B19.cell (p := ⟨w17.heap.size, 0, none⟩) l18).trans g18
    have l19 : w17.heap.size < w19.heap.size := Nat.lt_of_lt_of_le l18 B19.size
    clear R19 B19 g18 l18
    go_wp2_with fail
    refine (HR19.out.get pRA (by decide)).mono ?_
    rintro e w20 ⟨⟨ka, kn, kc, ku⟩, rfl, E20, B20, _⟩
    rw [HD.out.1] at E20
    have hu : ku = zNums := E20.num
    subst hu
    have hkn : kn = 4 := E20.len
    subst hkn
    have HR20 := Lib.hid (HR19.out.below B20)
    have HE20 := Lib.hid E20
    have HM20 := Lib.hid (HE19.out.below B20)
    have g20 := (B20.cell (p := ⟨w17.heap.size, 0, none⟩) l19).trans g19
    have l20 : w17.heap.size < w20.heap.size := Nat.lt_of_lt_of_le l19 B20.size
    clear E20 B20 g19 l19
    rw [HD.out.2]
    unfold Raw.val Raw.cells Nums.cells zNums
    dsimp only
    have hB21 : Below w20.heap.size w20 (w20.alloc (.cells #[.slice ka 4 kc, .int .u32 0, .int .u32 0, .int .u32 0, .int .i64 0, .int .u32 0, .int .u64 0, .int .u64 0, .int .u64 0] 33)) := belowA (Below.refl _ w20) _
    have q1 := conv_len HM20.out.len ((HM20.out.data).below hB21) HM20.out.nil
    have q2 := conv_len HE20.out.len ((HE20.out.data).below hB21) HE20.out.nil
    have HR21 := Lib.hid (HR20.out.below hB21)
    have tA : ((bs pRA).toList == [47, 114, 47, 97]) = true := by rw [toList_bs]; decide
    clear hB21
    go_wp2_with fail
    refine (grows_any _ HR21.out.max).mono ?_
    rintro e w22 ⟨rfl, B22⟩
    have HB22 := Lib.hid (HR21.out.below B22)
    clear B22 q1 q2 tA
    go_wp2
    go_ret
    exact ⟨rfl, HB22.out.bl⟩
end Go.Proofs.YtkhoeiapfoaapaaDoor
