/-
  The example beside each law of the chapter: goes.
-/
import Derived.Test.YtfbimhbdifmeoaaDoorWtG
namespace Go.Proofs.YtfbimhbdifmeoaaDoor
set_option linter.unusedVariables false
set_option linter.unusedSimpArgs false
open Go Go.RowKit Go.Shelf

set_option maxRecDepth 100000 in
set_option maxHeartbeats 8000000 in
theorem goes_true (w : World) (hm : MaxInt w) : Calls Tryd.prog 15 #[] w fun e w' => e = .returned (.bool true) ∧ Below w.heap.size w w' := by
  have HM := Lib.hid hm
  clear hm
  go_enter Tryd.func15, Tryd.ntmps15
  go_wp2_with fail
  refine (new_any w).mono ?_
  rintro e w1 ⟨rfl, hw1⟩
  have S0 := One.new hw1
  have hs1 : w1.heap.size = w.heap.size + 1 := by rw [hw1]; simp
  have HS1' := Lib.hid hs1
  clear hw1 hs1
  go_wp2_with fail
  obtain ⟨w2, hw2⟩ : ∃ w2, w2 = w1.alloc (.cells #[.int .i64 0, .int .u32 1] 32) := ⟨_, rfl⟩
  have hB2 : Below w1.heap.size w1 w2 := by rw [hw2]; exact belowA (Below.refl _ w1) _
  have S1 := (S0.other hB2).from (by
    obtain ⟨r, hT, hr⟩ := S0.ex
    have hTT := hT.below hB2
    refine ⟨r, hTT, ?_⟩
    cases r with
    | none => rfl
    | some g => have := (hT.rowlt g rfl).2; have := (hr g rfl).1; omega)
  have hbox : ∀ W, Kept (· = w.heap.size) w2 W → W.cell? ⟨w1.heap.size, 0, none⟩ = some (.int .i64 0) ∧ W.cell? ⟨w1.heap.size, 1, none⟩ = some (.int .u32 1) := fun W hW => by
    have h0 : w2.cell? ⟨w1.heap.size, 0, none⟩ = some (.int .i64 0) := by rw [hw2]; exact (new_cell (Below.refl _ _) 0 _ rfl).1
    have h1 : w2.cell? ⟨w1.heap.size, 1, none⟩ = some (.int .u32 1) := by rw [hw2]; exact (new_cell (Below.refl _ _) 1 _ rfl).1
    have hlt : w1.heap.size < w2.heap.size := by rw [hw2]; simp
    have hne : ¬ (w1.heap.size = w.heap.size) := by have := HS1'.out; omega
    exact ⟨(hW.cell (p := ⟨w1.heap.size, 0, none⟩) hlt hne).trans h0, (hW.cell (p := ⟨w1.heap.size, 1, none⟩) hlt hne).trans h1⟩
  have HBOX := Lib.hid hbox
  rw [← hw2]
  clear hw2 hbox S0 hB2
  obtain ⟨q2a, q2b⟩ := HBOX.out _ S1.kept
  have A2 := S1.add HM.out (x := g0) (by decide) (by decide)
  rw [ge1.1, ge1.2] at A2
  have HA2 := Lib.hid A2
  have HS1 := Lib.hid S1
  clear A2 S1
  go_wp2_with fail
  refine HA2.out.mono ?_
  rintro e v2 ⟨rfl, S2, _⟩
  clear q2a q2b HA2
  obtain ⟨q3a, q3b⟩ := HBOX.out _ S2.kept
  have A3 := S2.add HM.out (x := g1) (by decide) (by decide)
  rw [ge2.1, ge2.2] at A3
  have HA3 := Lib.hid A3
  have HS2 := Lib.hid S2
  clear A3 S2
  go_wp2_with fail
  refine HA3.out.mono ?_
  rintro e v3 ⟨rfl, S3, _⟩
  clear q3a q3b HA3
  obtain ⟨q4a, q4b⟩ := HBOX.out _ S3.kept
  have A4 := S3.add HM.out (x := g0) (by decide) (by decide)
  rw [ge3.1, ge3.2] at A4
  have HA4 := Lib.hid A4
  have HS3 := Lib.hid S3
  clear A4 S3
  go_wp2_with fail
  refine HA4.out.mono ?_
  rintro e v4 ⟨rfl, S4, _⟩
  clear q4a q4b HA4
  have A5 := S4.len
  have HA5 := Lib.hid A5
  have HS4 := Lib.hid S4
  clear A5 S4
  go_wp2_with fail
  refine HA5.out.mono ?_
  rintro e v5 ⟨rfl, rfl⟩
  clear HA5
  have T6 := (HS4.out.other (belowA (Below.refl _ v5) (.cells #[.string ⟨#[47, 97, 47, 98]⟩, .bool false, .slice none 0 0, .int .u32 0, .int .u32 0, .int .u32 0, .int .i64 0, .int .u32 0, .int .u64 0, .int .u64 0, .int .u64 0] 56))).touch HM.out (P := [[47, 97, 47, 98]]) (ao := some ⟨v5.heap.size, 0, none⟩) (c := 1) (by decide) (by decide) (by decide) (effs_one v5 [47, 97, 47, 98] [.bool false, .slice none 0 0, .int .u32 0, .int .u32 0, .int .u32 0, .int .i64 0, .int .u32 0, .int .u64 0, .int .u64 0, .int .u64 0] rfl)
  rw [gt1.1, gt1.2] at T6
  have HT6 := Lib.hid T6
  clear T6
  go_wp2_with fail
  refine HT6.out.mono ?_
  rintro e v6 ⟨a6, c6, rfl, O6, S6, K6⟩
  have HS6 := Lib.hid S6
  have HO6 := Lib.hid O6
  have HK6 := Lib.hid (K6 : Kept (· = w.heap.size) _ _)
  have hz6 : Hid (v5.heap.size ≤ v6.heap.size) := Lib.hid (by have := K6.size; simp at this; omega)
  clear S6 O6 K6 HT6
  have T7 := (HS6.out.other (belowA (Below.refl _ v6) (.cells #[.string ⟨#[47, 97, 47, 98]⟩, .bool false, .slice none 0 0, .int .u32 0, .int .u32 0, .int .u32 0, .int .i64 0, .int .u32 0, .int .u64 0, .int .u64 0, .int .u64 0] 56))).touch HM.out (P := [[47, 97, 47, 98]]) (ao := some ⟨v6.heap.size, 0, none⟩) (c := 1) (by decide) (by decide) (by decide) (effs_one v6 [47, 97, 47, 98] [.bool false, .slice none 0 0, .int .u32 0, .int .u32 0, .int .u32 0, .int .i64 0, .int .u32 0, .int .u64 0, .int .u64 0, .int .u64 0] rfl)
  rw [gt2.1, gt2.2] at T7
  have HT7 := Lib.hid T7
  clear T7
  go_wp2_with fail
  refine HT7.out.mono ?_
  rintro e v7 ⟨a7, c7, rfl, O7, S7, K7⟩
  have HS7 := Lib.hid S7
  have HO7 := Lib.hid O7
  have HK7 := Lib.hid (K7 : Kept (· = w.heap.size) _ _)
  have hz7 : Hid (v6.heap.size ≤ v7.heap.size) := Lib.hid (by have := K7.size; simp at this; omega)
  clear S7 O7 K7 HT7
  have T8 := (HS7.out.other (belowA (Below.refl _ v7) (.cells #[.string ⟨#[47, 97]⟩, .bool true, .slice none 0 0, .int .u32 0, .int .u32 0, .int .u32 0, .int .i64 0, .int .u32 0, .int .u64 0, .int .u64 0, .int .u64 0] 56))).touch HM.out (P := [[47, 97]]) (ao := some ⟨v7.heap.size, 0, none⟩) (c := 1) (by decide) (by decide) (by decide) (effs_one v7 [47, 97] [.bool true, .slice none 0 0, .int .u32 0, .int .u32 0, .int .u32 0, .int .i64 0, .int .u32 0, .int .u64 0, .int .u64 0, .int .u64 0] rfl)
  rw [gt3.1, gt3.2] at T8
  have HT8 := Lib.hid T8
  clear T8
  go_wp2_with fail
  refine HT8.out.mono ?_
  rintro e v8 ⟨a8, c8, rfl, O8, S8, K8⟩
  have HS8 := Lib.hid S8
  have HO8 := Lib.hid O8
  have HK8 := Lib.hid (K8 : Kept (· = w.heap.size) _ _)
  have hz8 : Hid (v7.heap.size ≤ v8.heap.size) := Lib.hid (by have := K8.size; simp at this; omega)
  clear S8 O8 K8 HT8
  obtain ⟨gx, hax, hgx1, hgx2, hgx3⟩ := HO6.out 0 g1 rfl
  subst hax
  obtain ⟨gz, haz, hgz1, hgz2, hgz3⟩ := HO8.out 0 g0 rfl
  subst haz
  have KA : ∀ W, Below v8.heap.size v8 W → Kept (· = w.heap.size) v6 W := fun W hW => ((((Kept.refl _ v6).alloc _).trans HK7.out).trans (((Kept.refl _ v7).alloc _).trans HK8.out)).trans (Kept.of_below hW _)
  have hbx := fun W (hW : Below v8.heap.size v8 W) => HBOX.out W (HS8.out.kept.trans (Kept.of_below hW _))
  have hb6 : w.heap.size < v5.heap.size + 1 := by have := HS6.out.lt; have := HS4.out.kept.size; omega
  have hgne : ¬ gx = w.heap.size := by have h := HS6.out.lt; have h2 := HS4.out.kept.size; simp at hgx1; omega
  have fx : ∀ o j v, g1.cells[j]? = some v → (Wext v8 o).cell? ⟨gx, 0 * 4 + j, none⟩ = some v := fun o j v hv => ((KA _ (Wext.below v8 o)).cell (p := ⟨gx, 0 * 4 + j, none⟩) hgx2 hgne).trans (hgx3 j v hv)
  have fz : ∀ o j v, g0.cells[j]? = some v → (Wext v8 o).cell? ⟨gz, 0 * 4 + j, none⟩ = some v := fun o j v hv => ((Wext.below v8 o).cell (p := ⟨gz, 0 * 4 + j, none⟩) hgz2).trans (hgz3 j v hv)
  have x0 : ∀ o, (Wext v8 o).cell? ⟨gx, 0, none⟩ = some (.int .i64 0) := fun o => fx o 0 _ rfl
  have x1 : ∀ o, (Wext v8 o).cell? ⟨gx, 1, none⟩ = some (.int .u32 1) := fun o => fx o 1 _ rfl
  have x2 : ∀ o, (Wext v8 o).cell? ⟨gx, 2, none⟩ = some (.string ⟨#[47, 97]⟩) := fun o => fx o 2 _ rfl
  have x3 : ∀ o, (Wext v8 o).cell? ⟨gx, 3, none⟩ = some (.bool true) := fun o => fx o 3 _ rfl
  have z3 : ∀ o, (Wext v8 o).cell? ⟨gz, 3, none⟩ = some (.bool false) := fun o => fz o 3 _ rfl
  have b0 : ∀ o, (Wext v8 o).cell? ⟨w1.heap.size, 0, none⟩ = some (.int .i64 0) := fun o => (hbx _ (Wext.below v8 o)).1
  have b1 : ∀ o, (Wext v8 o).cell? ⟨w1.heap.size, 1, none⟩ = some (.int .u32 1) := fun o => (hbx _ (Wext.below v8 o)).2
  have hq : ∀ W : World, (_root_.Go.binOp BinOp.eql 44 (.agg #[.int .i64 0, .int .u32 1, .string ⟨#[47, 97]⟩, .bool true]) (.agg #[.int .i64 0, .int .u32 1, .string ⟨#[47, 97]⟩, .bool true]) : Sem Value).run Tryd.prog W = Result.ok (Value.bool true) W := fun W => by
    have := eqEv g1 g1 W
    rw [decide_eq_true rfl] at this
    exact this
  have KL : Hid (∀ o, Calls Tryd.prog 14 #[.pointer (some ⟨w.heap.size, 0, none⟩)] (Wext v8 o) fun e w' => e = .returned (.int .i64 0) ∧ ∃ o', w' = Wext v8 o') := Lib.hid (fun o => ((HS8.out.other (Wext.below v8 o)).len).mono fun e w' ⟨he, hw⟩ => ⟨he, o, hw⟩)
  have HFIN := Lib.hid HS8.out.below
  clear fx fz hbx KA hgx3 hgz3
  go_wp2_with fail
  refine wp_region_ext (by kernel_rfl) (by kernel_rfl) ?_
  repeat (go_big_quiet_step (first | (go_at_call 14; exact KL.out _)))
  refine wpQuiet_nil ?_
  intro w' hw'
  obtain ⟨oq, hw''⟩ := hw'
  subst hw''
  go_wp2
  go_ret
  exact ⟨rfl, HFIN.out.trans ((Wext.below v8 oq).mono HFIN.out.size)⟩
end Go.Proofs.YtfbimhbdifmeoaaDoor
