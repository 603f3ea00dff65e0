/-
  Add, walked.
-/
import Derived.Test.YtfbimhbdifmeoaaDoorWt6
import Derived.Test.YtfbimhbdifmeoaaDoorWtT
import Derived.RegionTactic
import Derived.BigRegion
namespace Go.Proofs.YtfbimhbdifmeoaaDoor
set_option linter.unusedVariables false
set_option linter.unusedSimpArgs false
open Go.RowKit Go.Shelf

theorem add_nil (x : Ev) (w : World) : Calls Tryd.prog 10 #[.pointer none, .agg #[.int .i64 x.site, .int .u32 x.num], .string (bs x.path), .bool x.kids] w fun e w' => e = .returned (.int .i64 8) ∧ Below w.heap.size w w' := by
  go_enter Tryd.func10, Tryd.ntmps10
  go_wp2
  go_ret
  exact ⟨rfl, ((Below.refl _ w).alloc (Nat.le_refl _) _).alloc (by simp) _⟩

/-- Behind the append and the store. -/
theorem tab_pushed {t e : TypeId} {B b n m : Nat} {w w1 : World} {v v' : Value} {xs ys : List Value} {tmp : Obj} (hB : B ≤ b) (hv : Boxed w b t v) (hte : t ≠ e) (hrow : w.ownsRow B e 4 v n xs) (hBw : B ≤ w.heap.size)
    (hown' : w1.ownsRow B e 4 v' m ys) (hgrow : (w.alloc tmp).drew.grownBy w1 v.ownBlock) :
    Boxed w1 b t v ∧ Boxed (w1.setCell ⟨b, 0, none⟩ v') b t v' ∧ (w1.setCell ⟨b, 0, none⟩ v').ownsRow B e 4 v' m ys ∧ Kept (fun k => k = b ∨ v.ownBlock = some k) w (w1.setCell ⟨b, 0, none⟩ v') := by
  have hgrow' : (w.alloc tmp).grownBy w1 v.ownBlock := ⟨hgrow.os, hgrow.tape, hgrow.output, hgrow.size, hgrow.block⟩
  obtain ⟨h1, h2, h3, h4, _⟩ := Boxed.appended (n₀ := 0) (tmp := tmp) hv hte (hrow.mono (Nat.zero_le _)) (Nat.zero_le _) (Nat.zero_le _) (hown'.mono (Nat.zero_le _)) hgrow'
  refine ⟨h1, h2, hown'.kept (grownBy_setCell' w1 b v') (.inr (h1.not_row hte hown').symm), ?_⟩
  exact (((Kept.refl _ w).alloc tmp).grown hgrow' (fun k e => .inr (.inr e))).setCell (p := ⟨b, 0, none⟩) (.inl rfl) _

set_option maxRecDepth 100000 in
set_option maxHeartbeats 4000000 in
theorem add_any (B b : Nat) (row : Option Nat) (L : List Ev) (x : Ev) (w : World) (hm : MaxInt w) (hT : TabAt 58 44 B w b row L) (hB : B ≤ w.heap.size) (hL : L.length ≤ 16) (hp : x.path.length ≤ 1000) :
    Calls Tryd.prog 10 #[.pointer (some ⟨b, 0, none⟩), .agg #[.int .i64 x.site, .int .u32 x.num], .string (bs x.path), .bool x.kids] w (TabPost 58 44 B w b row (.int .i64 (addE L x)) (addL L x)) := by
  have HT := Lib.hid hT
  have HM := Lib.hid hm
  have hlt := hT.lt
  obtain ⟨W0, hW0⟩ : ∃ W0, W0 = (w.alloc (Obj.cells #[Value.int IntKind.i64 x.site, Value.int IntKind.u32 x.num] 32)).alloc (.cells #[Value.int IntKind.i64 x.site, Value.int IntKind.u32 x.num, Value.string (bs x.path), Value.bool x.kids] 44) := ⟨_, rfl⟩
  have hB0 : Below w.heap.size w W0 := by rw [hW0]; exact ((Below.refl _ w).alloc (Nat.le_refl _) _).alloc (by simp) _
  have hs0 : W0.heap.size = w.heap.size + 2 := by rw [hW0]; simp
  have hcell : ∀ (W : World), Below W0.heap.size W0 W → ∀ j v, x.cells[j]? = some v → W.cell? ⟨w.heap.size + 1, j, none⟩ = some v := by
    intro W hW j v hv
    rw [hW.cell (p := ⟨w.heap.size + 1, j, none⟩) (by simp [hs0])]
    have := heap_alloc_new (w.alloc (Obj.cells #[Value.int IntKind.i64 x.site, Value.int IntKind.u32 x.num] 32)) (.cells #[Value.int IntKind.i64 x.site, Value.int IntKind.u32 x.num, Value.string (bs x.path), Value.bool x.kids] 44)
    rw [World.size_alloc, ← hW0] at this
    rw [cell_of_row _ _ j _ 44 (0, 0) this]
    simpa [Ev.cells] using hv
  have hx := hcell W0 (Below.refl _ _)
  obtain ⟨hBb, v, hv, hrow, hvr⟩ := hT
  obtain ⟨ao, c, hvE, hEv⟩ := HT.out.evs (OB := w.heap.size) (Nat.le_refl _)
  have hvs : v = .slice ao L.length c := by
    have := (show w.heap[b]? = _ from hv).symm.trans hvE
    simpa using this
  have c1 := always_check hm x.path hp
  unfold checkV at c1
  have ck := fun (W : World) (hW : Below w.heap.size w W) => containsEv x w.heap.size ao c L W hL (fun k e hk => by
    obtain ⟨b', off, h1, h2, h3, h4⟩ := hEv k e hk
    exact ⟨b', off, h1, Nat.lt_of_lt_of_le h2 hW.size, h3, range_kept h4 hW h2⟩)
  have hxv : x.val = .agg #[.int .i64 x.site, .int .u32 x.num, .string (bs x.path), .bool x.kids] := rfl
  rw [hxv] at ck
  obtain ⟨N, hN⟩ : ∃ N, N = L.length := ⟨_, rfl⟩
  have HN := Lib.hid hN
  rw [← hN] at hL ck hvs hrow
  subst hvs
  have HV := Lib.hid hv
  have HR := Lib.hid hrow
  have HVR := Lib.hid hvr
  have HBB := Lib.hid hBb
  have CK := Lib.hid ck
  have HB0 := Lib.hid hB0
  have HCELL := Lib.hid hcell
  have hltb : b < W0.heap.size := by omega
  clear hv hrow hvr hBb ck hB0 hcell hvE hEv hm hxv hN hp
  have tcell : ∀ (W : World), Below w.heap.size w W → W.cell? ⟨b, 0, none⟩ = some (.slice ao N c) := fun W hW => (hW.cell (p := ⟨b, 0, none⟩) hlt).trans HV.out.cell
  have HTC := Lib.hid tcell
  clear tcell
  cases hok : (partsL x.path).isSome with
  | false =>
    rw [hok] at c1
    have C1 := Lib.hid c1
    have HE : Hid (addE L x = 30) := Lib.hid (by unfold addE; rw [hok]; rfl)
    have HA : Hid (addL L x = L) := Lib.hid (by unfold addL; rw [hok]; rfl)
    clear c1 hok hx
    go_enter Tryd.func10, Tryd.ntmps10
    go_wp2_with fail
    rw [← hW0]
    clear hW0
    refine (C1.out _ HB0.out).mono ?_
    rintro e w1 ⟨rfl, B1⟩
    have HB1 := Lib.hid (HB0.out.trans (B1.mono HB0.out.size))
    clear B1
    go_wp2
    go_ret
    rw [HE.out, HA.out]
    exact HT.out.same_post HB1.out
  | true =>
    rw [hok] at c1
    have C1 := Lib.hid c1
    have hx0 := fun (W : World) (hW : Below W0.heap.size W0 W) => (HCELL.out W hW 0 _ rfl : W.cell? ⟨w.heap.size + 1, 0, none⟩ = some (.int .i64 x.site))
    have hx1 := fun (W : World) (hW : Below W0.heap.size W0 W) => (HCELL.out W hW 1 _ rfl : W.cell? ⟨w.heap.size + 1, 1, none⟩ = some (.int .u32 x.num))
    have hx2 := fun (W : World) (hW : Below W0.heap.size W0 W) => (HCELL.out W hW 2 _ rfl : W.cell? ⟨w.heap.size + 1, 2, none⟩ = some (.string (bs x.path)))
    have hx3 := fun (W : World) (hW : Below W0.heap.size W0 W) => (HCELL.out W hW 3 _ rfl : W.cell? ⟨w.heap.size + 1, 3, none⟩ = some (.bool x.kids))
    have H0 := Lib.hid hx0
    have H1 := Lib.hid hx1
    have H2 := Lib.hid hx2
    have H3 := Lib.hid hx3
    clear hx0 hx1 hx2 hx3
    have HXV : Hid (x.cells = [Value.int .i64 x.site, .int .u32 x.num, .string (bs x.path), .bool x.kids]) := Lib.hid rfl
    have HOK := Lib.hid hok
    clear c1 hok hx
    have REG : ∀ w1, Below W0.heap.size W0 w1 → (∀ o, (Wext w1 o).cell? ⟨b, 0, none⟩ = some (.slice ao N c)) ∧ (∀ o, (Wext w1 o).cell? ⟨w.heap.size + 1, 0, none⟩ = some (.int .i64 x.site)) ∧ (∀ o, (Wext w1 o).cell? ⟨w.heap.size + 1, 1, none⟩ = some (.int .u32 x.num)) ∧
        (∀ o, (Wext w1 o).cell? ⟨w.heap.size + 1, 2, none⟩ = some (.string (bs x.path))) ∧ (∀ o, (Wext w1 o).cell? ⟨w.heap.size + 1, 3, none⟩ = some (.bool x.kids)) := fun w1 hw1 =>
      have hb := fun o => hw1.trans ((Wext.below w1 o).mono hw1.size)
      ⟨fun o => HTC.out _ (HB0.out.trans ((hb o).mono HB0.out.size)), fun o => H0.out _ (hb o), fun o => H1.out _ (hb o), fun o => H2.out _ (hb o), fun o => H3.out _ (hb o)⟩
    have HREG := Lib.hid REG
    clear REG
    cases hin : L.contains x with
    | true =>
      rw [hin] at CK
      have HE : Hid (addE L x = 0) := Lib.hid (by unfold addE; rw [HOK.out, hin]; rfl)
      have HA : Hid (addL L x = L) := Lib.hid (by unfold addL; rw [HOK.out, hin]; rfl)
      clear hin
      go_enter Tryd.func10, Tryd.ntmps10
      go_wp2_with fail
      rw [← hW0]
      clear hW0
      refine (C1.out _ HB0.out).mono ?_
      rintro e w1 ⟨rfl, B1⟩
      have HB1 := Lib.hid B1
      clear B1
      go_wp2_with fail
      obtain ⟨f0, f1, f2, f3, f4⟩ := HREG.out w1 HB1.out
      have KX := Lib.hid (Always.ext (w := w) CK.out (HB0.out.trans (HB1.out.mono HB0.out.size)))
      refine wp_region_ext (by kernel_rfl) (by kernel_rfl) ?_
      repeat (go_big_quiet_step (first | (go_at_call 18; exact KX.out _)))
      refine wpQuiet_nil ?_
      intro w' hw'
      obtain ⟨oq, hw''⟩ := hw'
      subst hw''
      go_wp2
      go_ret
      rw [HE.out, HA.out]
      exact HT.out.same_post (HB0.out.trans ((HB1.out.trans ((Wext.below w1 oq).mono HB1.out.size)).mono HB0.out.size))
    | false =>
      rw [hin] at CK
      by_cases hfull : 16 ≤ N
      · have HE : Hid (addE L x = 4) := Lib.hid (by unfold addE; rw [HOK.out, hin, ← HN.out]; simp [hfull])
        have HA : Hid (addL L x = L) := Lib.hid (by unfold addL; rw [HOK.out, hin, ← HN.out]; simp [hfull])
        have dn : decide (16 ≤ (N : Int)) = true := by simp; omega
        clear hin hfull
        go_enter Tryd.func10, Tryd.ntmps10
        go_wp2_with fail
        rw [← hW0]
        clear hW0
        refine (C1.out _ HB0.out).mono ?_
        rintro e w1 ⟨rfl, B1⟩
        have HB1 := Lib.hid B1
        clear B1
        go_wp2_with fail
        obtain ⟨f0, f1, f2, f3, f4⟩ := HREG.out w1 HB1.out
        have KX := Lib.hid (Always.ext (w := w) CK.out (HB0.out.trans (HB1.out.mono HB0.out.size)))
        refine wp_region_ext (by kernel_rfl) (by kernel_rfl) ?_
        repeat (go_big_quiet_step (first | (go_at_call 18; exact KX.out _)))
        refine wpQuiet_nil ?_
        intro w' hw'
        obtain ⟨oq, hw''⟩ := hw'
        subst hw''
        go_wp2
        go_ret
        rw [HE.out, HA.out]
        exact HT.out.same_post (HB0.out.trans ((HB1.out.trans ((Wext.below w1 oq).mono HB1.out.size)).mono HB0.out.size))
      · have HE : Hid (addE L x = 0) := Lib.hid (by unfold addE; rw [HOK.out, hin, ← HN.out]; simp [hfull])
        have HA : Hid (addL L x = L ++ [x]) := Lib.hid (by unfold addL; rw [HOK.out, hin, ← HN.out]; simp [hfull])
        have dn : decide (16 ≤ (N : Int)) = false := by simp; omega
        obtain ⟨i0, hi, hz0, hz1, hz2⟩ := info_parts infoEv
        clear hin
        go_enter Tryd.func10, Tryd.ntmps10
        go_wp2_with fail
        rw [← hW0]
        clear hW0
        refine (C1.out _ HB0.out).mono ?_
        rintro e w1 ⟨rfl, B1⟩
        have HB1 := Lib.hid B1
        clear B1
        go_wp2_with fail
        obtain ⟨f0, f1, f2, f3, f4⟩ := HREG.out w1 HB1.out
        have KX := Lib.hid (Always.ext (w := w) CK.out (HB0.out.trans (HB1.out.mono HB0.out.size)))
        refine wp_region_ext (by kernel_rfl) (by kernel_rfl) ?_
        repeat (go_big_quiet_step (first | (go_at_call 18; exact KX.out _)))
        refine wpQuiet_nil ?_
        intro w' hw'
        obtain ⟨oq, hw''⟩ := hw'
        subst hw''
        go_wp2_with fail
        clear f0 f1 f2 f3 f4 KX
        have HB2 := Lib.hid (HB1.out.trans ((Wext.below w1 oq).mono HB1.out.size))
        generalize Wext w1 oq = w2 at *
        have HW2 := Lib.hid (HB0.out.trans (HB2.out.mono HB0.out.size))
        have g0 := HTC.out w2 HW2.out
        have g1 := H0.out w2 HB2.out
        have g2 := H1.out w2 HB2.out
        have g3 := H2.out w2 HB2.out
        have g4 := H3.out w2 HB2.out
        have hlt2 : b < w2.heap.size := Nat.lt_of_lt_of_le hlt HW2.out.size
        have hlt3 : w.heap.size + 1 < w2.heap.size := by have := HB2.out.size; omega
        have HV2 := Lib.hid (show Boxed w2 b 58 (.slice ao N c) from (HW2.out.block b hlt).trans HV.out)
        have HR2 := Lib.hid (row_kept HR.out (Nat.le_refl _) (fun g cs fr hg _ ho => HW2.out.block g (Array.getElem?_eq_some_iff.1 ho).1))
        have hBs : B ≤ w2.heap.size := Nat.le_trans hB HW2.out.size
        go_region_law (refine step_append_new rfl (.tmp 39) (.tmp 41) 41 rfl B 44 i0 evZero 4 40 Tryd.underlying41 hi hz0 hz1 hz2 rfl (by decide) (.slice ao N c) N (flat L) (by simp [Act.eval, Act.put]) ((HR2.out.drew).alloc _) ⟨w2.heap.size, 0, none⟩ 1 1 x.cells (by simp [Act.eval, Act.put]) rfl (cells_new _ x.cells 44) (by intro u hu; simp [Ev.cells] at hu; rcases hu with rfl | rfl | rfl | rfl <;> rfl) (by unfold maxLen; omega) (by omega) (by simp; omega) ?_; intro v' w3 hown' hgrow hwhere; obtain ⟨g', cap', rfl⟩ := ownsRow_succ hown'; obtain ⟨d2, d3, d4, d5⟩ := tab_pushed HBB.out HV2.out (by decide) HR2.out hBs hown' hgrow; have dc := d2.cell; have df := d2.frozen)
        all_goals
          go_wp2
          go_ret
          rw [HE.out, HA.out]
          refine ⟨rfl, (Value.slice (some ⟨g', 0, none⟩) (N + 1) cap').ownBlock, ⟨HBB.out, _, d3, ?_, rfl⟩, fun g hg => ?_, ?_⟩
          · rw [flat_snoc, List.length_append, ← HN.out]
            exact d4
          · rcases hwhere g hg with h | h
            · exact .inl (HVR.out ▸ h)
            · refine .inr ?_
              have := HW2.out.size
              simp [World.drew] at h
              omega
          · have h5 := d5
            rw [HVR.out] at h5
            exact (Kept.of_below HW2.out _).trans h5
end Go.Proofs.YtfbimhbdifmeoaaDoor
