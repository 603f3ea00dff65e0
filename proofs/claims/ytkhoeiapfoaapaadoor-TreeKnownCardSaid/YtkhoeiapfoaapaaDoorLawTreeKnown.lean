/-
  TreeKnown, walked.
-/
import Derived.Test.YtkhoeiapfoaapaaDoorKnEval
import Derived.Test.YtkhoeiapfoaapaaDoorTrGrows
namespace Go.Proofs.YtkhoeiapfoaapaaDoor
set_option linter.unusedVariables false
set_option linter.unusedSimpArgs false
set_option linter.unusedVariables false
set_option linter.unusedSimpArgs false
open Go Go.RowKit Go.Shelf Go.MapKept Go.ChangeMaps Go.Maps Go.Sort

theorem add_bs3 (x y : ByteArray) (z : Bytes) (hz : x ++ y = bs z) (hl : z.length ≤ 1000) (W : World) : (Op.stringOp .add x y).run Tryd.prog W = .ok (.string (bs z)) W := by
  have h : (x ++ y).size = x.size + y.size := ByteArray.size_append
  rw [hz, size_bs] at h
  rw [run_string_add_sum W x y (by omega), hz]
theorem conv_name (wr : World) (k : Nat) (hk : k < 48) : (convert 27 9 (.slice (some ⟨wr.heap.size, 0, none⟩) 2 2)).run Tryd.prog (wr.alloc (.cells #[.int .u8 (97 + (k : Int) / 10), .int .u8 (48 + (k : Int) % 10)] 5)) = .ok (.string (bs (nameK k))) (wr.alloc (.cells #[.int .u8 (97 + (k : Int) / 10), .int .u8 (48 + (k : Int) % 10)] 5)) := by
  refine run_convert_bytes_back _ 27 9 5 ⟨wr.heap.size, 0, none⟩ 2 (nameK k) Tryd.underlying27 Tryd.underlying5 Tryd.underlying9 fun j hj => ?_
  rw [Addr.add_mid, Nat.zero_add, cell_of_row _ _ j _ 5 (0, 0) (heap_alloc_new wr _)]
  have h1 : (UInt8.ofNat (97 + k / 10)).toNat = 97 + k / 10 := by rw [UInt8.toNat_ofNat']; omega
  have h2 : (UInt8.ofNat (48 + k % 10)).toNat = 48 + k % 10 := by rw [UInt8.toNat_ofNat']; omega
  rcases (show j = 0 ∨ j = 1 by simp [nameK] at hj; omega) with rfl | rfl
  · simp only [nameK, List.getElem_cons_zero, h1]
    simp
  · simp only [nameK, List.getElem_cons_succ, List.getElem_cons_zero, h2]
    simp
set_option maxRecDepth 100000 in
set_option maxHeartbeats 8000000 in
theorem treeKnown_any (w : World) (hm : MaxInt w) : Calls Tryd.prog 3 #[] w fun e w' => e = .returned (.bool true) ∧ Below w.heap.size w w' := by
  have HM := Lib.hid hm
  clear hm
  go_enter Tryd.func3, Tryd.ntmps3
  go_wp2_with fail
  refine (new_no [114] w HM.out (by decide) kn0).mono ?_
  rintro e w00 ⟨rfl, B00⟩
  have HB00 := Lib.hid B00
  clear B00
  go_wp2_with fail
  refine (TR.new (root := pR) HB00.out HM.out (by decide) rootsR).mono ?_
  rintro e w0 ⟨b, rfl, R0, hb0, B0⟩
  have HR0 : Hid (TR w w0 b pR 0 M0) := Lib.hid R0
  clear R0 B0 hb0
  go_wp2_with fail
  refine (putE_cells pX w0).mono ?_
  rintro e w1 ⟨a1, n1, c1, rfl, E1, B1⟩
  have HR1 := Lib.hid (HR0.out.below B1)
  have HE1 := Lib.hid E1
  clear E1 B1
  go_wp2_with fail
  refine (HR1.out.apply1 (r := ⟨pX, false, ⟨a1, n1, c1, zNums⟩⟩) (by decide) (by decide) HE1.out (at' := 0) (fit_put pX (by decide)) (atA_no kn1 (by decide))).mono ?_
  rintro e w2 ⟨rfl, R2, _⟩
  have HR2 := Lib.hid R2
  clear R2
  go_wp2_with fail
  refine (putE_cells pRA w2).mono ?_
  rintro e w3 ⟨a3, n3, c3, rfl, E3, B3⟩
  have HR3 := Lib.hid (HR2.out.below B3)
  have HE3 := Lib.hid E3
  clear E3 B3
  go_wp2_with fail
  refine (HR3.out.apply1 (r := ⟨pRA, false, ⟨a3, n3, c3, zNums⟩⟩) (by decide) (by decide) HE3.out (at' := 1) (fit_put pRA (by decide)) (atA_yes grow1)).mono ?_
  rintro e w4 ⟨rfl, R4, _⟩
  have HR4 := Lib.hid R4
  clear R4
  go_wp2_with fail
  refine (goneE_cells pR w4).mono ?_
  rintro e w5 ⟨rfl, E5, B5⟩
  have HR5 := Lib.hid (HR4.out.below B5)
  have HE5 := Lib.hid (E5 w5)
  have HG5 := Lib.hid E5
  clear E5 B5
  go_wp2_with fail
  refine (HR5.out.apply1 (r := ⟨pR, true, zRaw⟩) (by decide) (by decide) HE5.out (at' := 1) (fit_gone pR (by decide)) (atA_no kn3 (by decide))).mono ?_
  rintro e w6 ⟨rfl, R6, _⟩
  have HR6 := Lib.hid R6
  clear R6
  go_wp2_with fail
  refine (goneE_cells pRX w6).mono ?_
  rintro e w7 ⟨rfl, E7, B7⟩
  have HR7 := Lib.hid (HR6.out.below B7)
  have HE7 := Lib.hid (E7 w7)
  have HG7 := Lib.hid E7
  clear E7 B7
  go_wp2_with fail
  refine (HR7.out.apply1 (r := ⟨pRX, true, zRaw⟩) (by decide) (by decide) HE7.out (at' := 1) (fit_gone pRX (by decide)) (atA_no kn4 (by decide))).mono ?_
  rintro e w8 ⟨rfl, R8, _⟩
  have HR8 := Lib.hid R8
  clear R8
  go_wp2_with fail
  refine (goneE_cells pRA w8).mono ?_
  rintro e w9 ⟨rfl, E9, B9⟩
  have HR9 := Lib.hid (HR8.out.below B9)
  have HE9 := Lib.hid (E9 w9)
  have HG9 := Lib.hid E9
  clear E9 B9
  go_wp2_with fail
  refine (goneE_cells pRA w9).mono ?_
  rintro e w10 ⟨rfl, E10, B10⟩
  have HR10 := Lib.hid (HR9.out.below B10)
  have HE10 := Lib.hid (E10 w10)
  have HG10 := Lib.hid E10
  clear E10 B10
  go_wp2_with fail
  refine (HR10.out.apply2 (r := ⟨pRA, true, zRaw⟩) (s := ⟨pRA, true, zRaw⟩) (by decide) (by decide) (HG9.out _) (HE10.out) (fit_gone pRA (by decide)) (fit_gone pRA (by decide)) (at' := 1) (atA_no kn5 (by decide))).mono ?_
  rintro e w11 ⟨rfl, R11, _⟩
  have HR11 := Lib.hid R11
  clear R11
  go_wp2_with fail
  refine (goneE_cells pRA w11).mono ?_
  rintro e w12 ⟨rfl, E12, B12⟩
  have HR12 := Lib.hid (HR11.out.below B12)
  have HE12 := Lib.hid (E12 w12)
  have HG12 := Lib.hid E12
  clear E12 B12
  go_wp2_with fail
  refine (HR12.out.apply1 (r := ⟨pRA, true, zRaw⟩) (by decide) (by decide) HE12.out (at' := 2) (fit_gone pRA (by decide)) (atA_yes kn6)).mono ?_
  rintro e w13 ⟨rfl, R13, _⟩
  have HR13 := Lib.hid R13
  clear R13
  go_wp2_with fail
  refine (HR13.out.applyX (by decide) (by decide) (ao := none) (cap := 0) (L := []) (E := []) (lr := fun _ => True) ⟨rfl, fun k r e h => by simp at h⟩ (fun k r h => by simp at h) (fun e h => by simp at h) (Nat.zero_le _) (at' := 3) (atA_yes (at_ := 2) kn7).1 (atA_yes (at_ := 2) kn7).2.1 (atA_yes (at_ := 2) kn7).2.2 0 rfl).mono ?_
  rintro e w14 ⟨rfl, R14, _⟩
  have HR14 := Lib.hid R14
  clear R14
  have HE14 : Hid (ReadsE w14 (fun _ => True) ⟨pR, false, ⟨none, 0, 0, ⟨3, 0, 0, 0, 0, 0, 0, 0⟩⟩⟩ ⟨pR, false, nd3⟩) := Lib.hid ⟨rfl, rfl, ⟨rfl, rfl, fun j c h => by simp [nd3] at h, fun _ => ⟨rfl, rfl⟩⟩⟩
  go_wp2_with fail
  refine (HR14.out.apply1 (r := ⟨pR, false, ⟨none, 0, 0, ⟨3, 0, 0, 0, 0, 0, 0, 0⟩⟩⟩) (by decide) (by decide) HE14.out (at' := 4) (⟨by decide, by decide⟩) (atA_yes kn8)).mono ?_
  rintro e w15 ⟨rfl, R15, _⟩
  have HR15 := Lib.hid R15
  clear R15
  go_wp2_with fail
  refine (HR15.out.get pR (by decide)).mono ?_
  rintro e w16 ⟨⟨ga, gn, gc, gu⟩, rfl, E16, B16, _⟩
  rw [kn16.1] at E16
  have hu : gu = ⟨3, 0, 0, 0, 0, 0, 0, 0⟩ := E16.num
  subst hu
  have HR16 := Lib.hid (HR15.out.below B16)
  clear E16 B16
  rw [kn16.2]
  unfold Raw.val Raw.cells Nums.cells
  dsimp only
  go_wp2_with fail
  obtain ⟨w17, hw17⟩ : ∃ w17, w17 = w16.alloc (.cells #[.slice ga gn gc, .int .u32 3, .int .u32 0, .int .u32 0, .int .i64 0, .int .u32 0, .int .u64 0, .int .u64 0, .int .u64 0] 33) := ⟨_, rfl⟩
  rw [← hw17]
  have HR17 := Lib.hid (HR16.out.below (w' := w17) (by rw [hw17]; exact belowA (Below.refl _ w16) _))
  have gv : w17.cell? ⟨w16.heap.size, 1, none⟩ = some (.int .u32 3) := by rw [hw17]; exact cell_of_row _ _ 1 _ 33 (0, 0) (heap_alloc_new w16 (.cells #[.slice ga gn gc, .int .u32 3, .int .u32 0, .int .u32 0, .int .i64 0, .int .u32 0, .int .u64 0, .int .u64 0, .int .u64 0] 33))
  clear hw17
  refine HR17.out.at_any.mono ?_
  rintro e wz ⟨rfl, rfl⟩
  go_wp2
  go_loopw [15] (fun p wr => ∃ k : Nat, 1 ≤ k ∧ k ≤ 48 ∧ p = .int .i64 k ∧ Hid (TR w wr b pR (3 + k : Nat) (MK (k - 1)))) (fun p _ => 48 - (intOf p).toNat)
  case atStart => exact ⟨1, by omega, by omega, rfl, HR17⟩
  case round =>
    obtain ⟨k, hk1, hk, rfl, HS⟩ := hrel
    by_cases hlt : k < 48
    · have qc := conv_name wr k hlt
      have ha := add_bs3 ⟨#[47, 114, 47]⟩ (bs (nameK k)) (pathK k) rfl (by simp [pathK, nameK])
      have hpl : (pathK k).length ≤ 1000 := by simp [pathK, nameK]
      have hk9 := kn9 (k - 1) (by omega)
      rw [show k - 1 + 1 = k by omega] at hk9
      have HK9 := Lib.hid (And.intro hk9 hpl)
      clear hk9 hpl
      go_wp2_with fail
      have HB1 := Lib.hid (HS.out.below (belowA (Below.refl _ wr) (.cells #[.int .u8 (97 + (k : Int) / 10), .int .u8 (48 + (k : Int) % 10)] 5)))
      generalize wr.alloc (.cells #[.int .u8 (97 + (k : Int) / 10), .int .u8 (48 + (k : Int) % 10)] 5) = wx at *
      refine (putE_cells (pathK k) wx).mono ?_
      rintro e wy ⟨ya, yn, yc, rfl, E, B⟩
      have HRY := Lib.hid (HB1.out.below B)
      have HEY := Lib.hid E
      clear E B qc ha
      go_wp2_with fail
      refine (HRY.out.apply1 (r := ⟨pathK k, false, ⟨ya, yn, yc, zNums⟩⟩) (by omega) (by omega) HEY.out (fit_put _ HK9.out.2) (atA_yes HK9.out.1)).mono ?_
      rintro e wq ⟨rfl, RQ, _⟩
      have HRQ := Lib.hid RQ
      clear RQ
      go_wp2
      go_roundw
      case rel => exact ⟨k + 1, by omega, by omega, by go_num, by
        have h := HRQ
        rw [show ((3 + k : Nat) : Int) + 1 = ((3 + (k + 1) : Nat) : Int) by omega] at h
        exact h⟩
      case measure => simp [intOf]; omega
    · obtain rfl : k = 48 := by omega
      have HR100 : Hid (TR w wr b pR 51 (MK 47)) := HS
      clear HS
      obtain ⟨w100, rfl⟩ : ∃ x, x = wr := ⟨_, rfl⟩
      go_wp2_with fail
      refine (putE_cells pRX w100).mono ?_
      rintro e w101 ⟨a101, n101, c101, rfl, E101, B101⟩
      have HR101 := Lib.hid (HR100.out.below B101)
      have HE101 := Lib.hid E101
      clear E101 B101
      go_wp2_with fail
      refine (HR101.out.apply1 (r := ⟨pRX, false, ⟨a101, n101, c101, zNums⟩⟩) (by decide) (by decide) HE101.out (at' := 51) (fit_put pRX (by decide)) (atA_no kn10 (by decide))).mono ?_
      rintro e w102 ⟨rfl, R102, _⟩
      have HR102 := Lib.hid R102
      clear R102
      go_wp2_with fail
      refine (putE_cells pA1 w102).mono ?_
      rintro e w103 ⟨a103, n103, c103, rfl, E103, B103⟩
      have HR103 := Lib.hid (HR102.out.below B103)
      have HE103 := Lib.hid E103
      clear E103 B103
      go_wp2_with fail
      refine (HR103.out.apply1 (r := ⟨pA1, false, ⟨a103, n103, c103, zNums⟩⟩) (by decide) (by decide) HE103.out (at' := 52) (fit_put pA1 (by decide)) (atA_yes kn11)).mono ?_
      rintro e w104 ⟨rfl, R104, _⟩
      have HR104 := Lib.hid R104
      clear R104
      go_wp2_with fail
      refine (goneE_cells pA1 w104).mono ?_
      rintro e w105 ⟨rfl, E105, B105⟩
      have HR105 := Lib.hid (HR104.out.below B105)
      have HE105 := Lib.hid (E105 w105)
      have HG105 := Lib.hid E105
      clear E105 B105
      go_wp2_with fail
      refine (putE_cells pRX w105).mono ?_
      rintro e w106 ⟨a106, n106, c106, rfl, E106, B106⟩
      have HR106 := Lib.hid (HR105.out.below B106)
      have HE106 := Lib.hid E106
      clear E106 B106
      go_wp2_with fail
      refine (HR106.out.apply2 (r := ⟨pA1, true, zRaw⟩) (s := ⟨pRX, false, ⟨a106, n106, c106, zNums⟩⟩) (by decide) (by decide) (HG105.out _) (HE106.out) (fit_gone pA1 (by decide)) (fit_put pRX (by decide)) (at' := 53) (atA_yes kn12)).mono ?_
      rintro e w107 ⟨rfl, R107, _⟩
      have HR107 := Lib.hid R107
      clear R107
      go_wp2_with fail
      refine HR107.out.paths.mono ?_
      rintro e w201 ⟨a201, c201, rfl, _, B201⟩
      have HR201 := Lib.hid (HR107.out.below B201)
      clear B201
      rw [kn13]
      go_wp2_with fail
      refine (HR201.out.kids pRX).mono ?_
      rintro e w202 ⟨a202, c202, rfl, S202, B202⟩
      have HR202 := Lib.hid (HR201.out.below B202)
      rw [kn14] at S202
      rw [show (kidsS pR MS pRX).length = 0 by rw [kn14]; rfl]
      have HS202 := Lib.hid S202
      clear S202 B202
      go_wp2_with fail
      refine (texts_any a202 none c202 0 _ 0 [] [] w202 (by decide) (by decide) HS202.out (StrSl.nil _ _ _)).mono ?_
      rintro e w203 ⟨rfl, qn, rfl⟩
      have HR203 := Lib.hid (HR202.out.below (w' := w202.drewN qn) (belowN (Below.refl _ w202) qn))
      rw [show decide (([] : List Bytes) = []) = true by decide]
      generalize w202.drewN qn = w203 at HR203
      go_wp2_with fail
      refine (HR203.out.kids pNone).mono ?_
      rintro e w204 ⟨a204, c204, rfl, _, B204⟩
      have HR204 := Lib.hid (HR203.out.below B204)
      rw [kn15]
      clear B204
      go_wp2_with fail
      refine (grows_any _ HR204.out.max).mono ?_
      rintro e w205 ⟨rfl, B205⟩
      have HR205 := Lib.hid (HR204.out.below B205)
      clear B205
      go_wp2
      go_ret
      exact ⟨rfl, HR205.out.bl⟩
end Go.Proofs.YtkhoeiapfoaapaaDoor
