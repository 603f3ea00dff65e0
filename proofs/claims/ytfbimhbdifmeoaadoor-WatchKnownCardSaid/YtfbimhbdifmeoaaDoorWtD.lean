/-
  The document's Add, walked.
-/
import Derived.Test.YtfbimhbdifmeoaaDoorWtC
namespace Go.Proofs.YtfbimhbdifmeoaaDoor
set_option linter.unusedVariables false
set_option linter.unusedSimpArgs false
open Go Go.RowKit Go.Shelf

theorem fields34 : (Tryd.prog.fieldsOf 34).toList = [⟨"Who", 32, 0, false, "", "", 0⟩, ⟨"Path", 9, 2, false, "", "", 16⟩, ⟨"Kids", 4, 3, false, "", "", 32⟩] := by kernel_rfl
theorem eqEv34 (x e : Ev) (w : World) : (_root_.Go.binOp BinOp.eql 34 x.val e.val : Sem Value).run Tryd.prog w = Result.ok (Value.bool (decide (x = e))) w := by
  obtain ⟨s, n, q, k⟩ := x
  obtain ⟨s', n', q', k'⟩ := e
  unfold Ev.val Ev.cells
  rw [run_eql_struct, run_equalIn_agg _ _ _ _ _ (by kernel_rfl) (by kernel_rfl), fields34]
  have e1 := fun w : World => run_equalIn_string (P := Tryd.prog) w 9998 9 (bs q) (bs q') Tryd.underlying9
  have e2 := fun w : World => run_equalIn_bool' (P := Tryd.prog) w 9998 4 k k' Tryd.underlying4
  have e3 := fun w : World => run_equalIn_int (P := Tryd.prog) w 9997 3 .i64 .i64 s s' Tryd.underlying3
  have e4 := fun w : World => run_equalIn_int (P := Tryd.prog) w 9997 30 .u32 .u32 n n' Tryd.underlying30
  have e5 := fun w : World => run_equalIn_agg (P := Tryd.prog) w 9998 32 #[.int .i64 s, .int .u32 n] #[.int .i64 s', .int .u32 n'] (by kernel_rfl) (by kernel_rfl)
  simp only [fields32] at e5
  simp [Op.eqFields, Sem.run_bind, part, e5, e1, e2, e3, e4, eq_bs]
  by_cases h1 : s = s' <;> by_cases h2 : n = n' <;> by_cases h3 : q = q' <;> by_cases h4 : k = k' <;> simp [h1, h2, h3, h4]
/-- A row of watches in some block below n. -/
theorem evs_any {w : World} {base : Nat} {e : TypeId} {v : Value} {L : List Ev} (h : w.ownsRow base e 4 v L.length (flat L)) : ∃ ao c, v = .slice ao L.length c ∧ L.length ≤ maxLen ∧ EvsAt w w.heap.size w.heap.size ao L := by
  rcases h.2 with ⟨rfl, h0⟩ | ⟨g, cap, cur, rfl, hbg, hg, hnc, hcm, hsz, htk⟩
  · exact ⟨none, 0, by rw [h0], by omega, fun k e hk => by rw [List.eq_nil_of_length_eq_zero h0] at hk; simp at hk⟩
  · have hlt : g < w.heap.size := (Array.getElem?_eq_some_iff.1 hg).1
    refine ⟨some ⟨g, 0, none⟩, cap, rfl, by omega, fun k e hk => ⟨g, 0, rfl, hlt, by omega, fun j v hv => ?_⟩⟩
    have := h.cells (g := g) rfl (k * 4 + j) v (flat_at L k e j v hk hv)
    rw [Addr.add_lit] at this
    rw [Nat.zero_add]
    rw [Nat.zero_add] at this
    exact this
theorem EvsAt.below {w W : World} {ao : Option Addr} {L : List Ev} (h : EvsAt w w.heap.size w.heap.size ao L) (hW : Below w.heap.size w W) : ∀ k e, L[k]? = some e → ∃ b off, ao = some ⟨b, off, none⟩ ∧ b < w.heap.size ∧ W.rangeAt b (off + k * 4) e.cells := fun k e hk => by
  obtain ⟨b, off, h1, h2, h3, h4⟩ := h k e hk
  exact ⟨b, off, h1, h2, range_kept h4 hW h2⟩
theorem infoWt : (Tryd.prog.info? 34).map (fun i => (i.zero, i.size, i.bytes)) = some (some evZero, 4, 40) := by kernel_rfl

set_option maxRecDepth 100000 in
set_option maxHeartbeats 8000000 in
theorem refAdd_any (B b : Nat) (row : Option Nat) (L : List Ev) (x : Ev) (w : World) (hT : TabAt 29 34 B w b row L) (hB : B ≤ w.heap.size) (hL : L.length ≤ 16) (hp : x.path.length ≤ 1000) :
    Calls Tryd.prog 11 #[.pointer (some ⟨b, 0, none⟩), x.val] w (TabPost 29 34 B w b row (.int .i64 (addE L x)) (addL L x)) := by
  have HT := Lib.hid hT
  have hlt := hT.lt
  have hxv : x.val = .agg #[.int .i64 x.site, .int .u32 x.num, .string (bs x.path), .bool x.kids] := rfl
  rw [hxv]
  obtain ⟨W0, hW0⟩ : ∃ W0, W0 = w.alloc (.cells #[Value.int IntKind.i64 x.site, Value.int IntKind.u32 x.num, Value.string (bs x.path), Value.bool x.kids] 34) := ⟨_, rfl⟩
  have hB0 : Below w.heap.size w W0 := by rw [hW0]; exact belowA (Below.refl _ w) _
  have hs0 : W0.heap.size = w.heap.size + 1 := by rw [hW0]; simp
  have hcell : ∀ (W : World), Below W0.heap.size W0 W → ∀ j v, x.cells[j]? = some v → W.cell? ⟨w.heap.size, j, none⟩ = some v := by
    intro W hW j v hv
    rw [hW0] at hW
    exact (new_cell hW j v (by simpa [Ev.cells] using hv)).1
  obtain ⟨hBb, v, hv, hrow, hvr⟩ := hT
  obtain ⟨ao, c, rfl, _, hEv⟩ := evs_any hrow
  have HEV := Lib.hid hEv
  have c1 := refParts_any x.path (size_max hp (Nat.le_refl _))
  obtain ⟨N, hN⟩ : ∃ N, N = L.length := ⟨_, rfl⟩
  have HN := Lib.hid hN
  rw [← hN] at hL hrow hv hvr
  have HV := Lib.hid hv
  have HR := Lib.hid hrow
  have HVR := Lib.hid hvr
  have HBB := Lib.hid hBb
  have HB0 := Lib.hid hB0
  have HCELL := Lib.hid hcell
  have hx2 := hcell W0 (Below.refl _ _) 2 _ rfl
  have tcell : ∀ (W : World), Below w.heap.size w W → W.cell? ⟨b, 0, none⟩ = some (.slice ao N c) := fun W hW => (hW.cell (p := ⟨b, 0, none⟩) hlt).trans HV.out.cell
  have HTC := Lib.hid tcell
  clear hv hrow hvr hBb hB0 hcell hN hp hxv hEv tcell
  cases hok : (partsL x.path).isSome with
  | false =>
    rw [hok] at c1
    have C1 := Lib.hid c1
    have HE : Hid (addE L x = 30) := Lib.hid (by unfold addE; rw [hok]; rfl)
    have HA : Hid (addL L x = L) := Lib.hid (by unfold addL; rw [hok]; rfl)
    clear c1 hok
    go_enter Tryd.func11, Tryd.ntmps11
    go_wp2_with fail
    rw [← hW0]
    clear hW0
    refine (C1.out _).mono ?_
    rintro e w1 ⟨vv, rfl, B1⟩
    have HB1 := Lib.hid (HB0.out.trans (B1.mono HB0.out.size))
    clear B1
    go_wp2
    go_ret
    rw [HE.out, HA.out]
    exact HT.out.same_post HB1.out
  | true =>
    rw [hok] at c1
    have C1 := Lib.hid c1
    have HOK := Lib.hid hok
    clear c1 hok
    go_enter Tryd.func11, Tryd.ntmps11
    go_wp2_with fail
    rw [← hW0]
    clear hW0
    refine (C1.out _).mono ?_
    rintro e w1 ⟨vv, rfl, B1⟩
    have HB1 := Lib.hid B1
    clear B1 hx2
    go_wp2
    go_loopw [7] (fun i wr => ∃ k : Nat, k ≤ N ∧ i = .int .i64 k ∧ Hid (∀ j y, j < k → L[j]? = some y → y ≠ x) ∧ Hid (Below W0.heap.size W0 wr)) (fun i _ => N - (intOf i).toNat)
    case atStart => exact ⟨0, by omega, rfl, Lib.hid (fun _ _ h => absurd h (Nat.not_lt_zero _)), HB1⟩
    case round =>
      obtain ⟨k, hk, rfl, HG, HB⟩ := hrel
      have HW := Lib.hid (HB0.out.trans (HB.out.mono HB0.out.size))
      have t0 := HTC.out wr HW.out
      by_cases hlt2 : k < N
      · obtain ⟨y, hy⟩ : ∃ y, L[k]? = some y := ⟨_, List.getElem?_eq_getElem (by rw [← HN.out]; exact hlt2)⟩
        obtain ⟨bb, off, rfl, hbb, hrg⟩ := HEV.out.below HW.out k y hy
        have h0c : wr.cell? ⟨bb, off + k * 4, none⟩ = some (.int .i64 y.site) := hrg 0 _ rfl
        have h1c : wr.cell? ⟨bb, off + k * 4 + 1, none⟩ = some (.int .u32 y.num) := hrg 1 _ rfl
        have h2c : wr.cell? ⟨bb, off + k * 4 + 2, none⟩ = some (.string (bs y.path)) := hrg 2 _ rfl
        have h3c : wr.cell? ⟨bb, off + k * 4 + 3, none⟩ = some (.bool y.kids) := hrg 3 _ rfl
        have g0 : wr.cell? ⟨w.heap.size, 0, none⟩ = some (.int .i64 x.site) := HCELL.out wr HB.out 0 _ rfl
        have g1 : wr.cell? ⟨w.heap.size, 1, none⟩ = some (.int .u32 x.num) := HCELL.out wr HB.out 1 _ rfl
        have g2 : wr.cell? ⟨w.heap.size, 2, none⟩ = some (.string (bs x.path)) := HCELL.out wr HB.out 2 _ rfl
        have g3 : wr.cell? ⟨w.heap.size, 3, none⟩ = some (.bool x.kids) := HCELL.out wr HB.out 3 _ rfl
        have HY := Lib.hid hy
        clear hrg hy
        have hq := fun (W : World) => eqEv34 y x W
        have hyv : y.val = .agg #[.int .i64 y.site, .int .u32 y.num, .string (bs y.path), .bool y.kids] := rfl
        have hxv : x.val = .agg #[.int .i64 x.site, .int .u32 x.num, .string (bs x.path), .bool x.kids] := rfl
        rw [hxv, hyv] at hq
        clear hxv hyv
        by_cases hyx : y = x
        · rw [decide_eq_true hyx] at hq
          have hin : L.contains x = true := by rw [List.contains_iff_mem]; exact hyx ▸ List.mem_of_getElem? HY.out
          have HE : Hid (addE L x = 0) := Lib.hid (by unfold addE; rw [HOK.out, hin]; rfl)
          have HA : Hid (addL L x = L) := Lib.hid (by unfold addL; rw [HOK.out, hin]; rfl)
          clear hyx hin
          go_wp2_with fail
          go_quiet (fail)
          go_wp2
          go_ret
          rw [HE.out, HA.out]
          exact HT.out.same_post (below_drewN HW.out _)
        · rw [decide_eq_false hyx] at hq
          have HNE := Lib.hid hyx
          clear hyx
          go_wp2_with fail
          go_quiet (fail)
          go_wp2
          go_roundw
          case rel =>
            refine ⟨k + 1, by omega, by go_num, Lib.hid fun j z hj hz => ?_, Lib.hid (below_drewN HB.out _)⟩
            by_cases e2 : j = k
            · subst e2
              have := HY.out
              rw [hz] at this
              cases this
              exact HNE.out
            · exact HG.out j z (by omega) hz
          case measure => simp [intOf]; omega
      · obtain rfl : k = N := by omega
        have hin : L.contains x = false := by
          rw [← Bool.not_eq_true, List.contains_iff_mem]
          intro hm
          obtain ⟨j, hj, hje⟩ := List.mem_iff_getElem.1 hm
          exact HG.out j _ (by rw [HN.out]; exact hj) (List.getElem?_eq_getElem hj) hje
        by_cases hfull : 16 ≤ k
        · have HE : Hid (addE L x = 4) := Lib.hid (by unfold addE; rw [HOK.out, hin, ← HN.out]; simp [hfull])
          have HA : Hid (addL L x = L) := Lib.hid (by unfold addL; rw [HOK.out, hin, ← HN.out]; simp [hfull])
          have dn : decide (16 ≤ (k : Int)) = true := by simp; omega
          clear hin hfull
          go_wp2
          go_ret
          rw [HE.out, HA.out]
          exact HT.out.same_post HW.out
        · have HE : Hid (addE L x = 0) := Lib.hid (by unfold addE; rw [HOK.out, hin, ← HN.out]; simp [hfull])
          have HA : Hid (addL L x = L ++ [x]) := Lib.hid (by unfold addL; rw [HOK.out, hin, ← HN.out]; simp [hfull])
          have dn : decide (16 ≤ (k : Int)) = false := by simp; omega
          obtain ⟨i0, hi, hz0, hz1, hz2⟩ := info_parts infoWt
          clear hin
          have g0 : wr.cell? ⟨w.heap.size, 0, none⟩ = some (.int .i64 x.site) := HCELL.out wr HB.out 0 _ rfl
          have g1 : wr.cell? ⟨w.heap.size, 1, none⟩ = some (.int .u32 x.num) := HCELL.out wr HB.out 1 _ rfl
          have g2 : wr.cell? ⟨w.heap.size, 2, none⟩ = some (.string (bs x.path)) := HCELL.out wr HB.out 2 _ rfl
          have g3 : wr.cell? ⟨w.heap.size, 3, none⟩ = some (.bool x.kids) := HCELL.out wr HB.out 3 _ rfl
          have hltr : b < wr.heap.size := Nat.lt_of_lt_of_le hlt HW.out.size
          have hltx : w.heap.size < wr.heap.size := by have := HB.out.size; omega
          have HV2 := Lib.hid (show Boxed wr b 29 (.slice ao k c) from (HW.out.block b hlt).trans HV.out)
          have HR2 := Lib.hid (row_kept HR.out (Nat.le_refl _) (fun g cs fr hg _ ho => HW.out.block g (Array.getElem?_eq_some_iff.1 ho).1))
          have hBs : B ≤ wr.heap.size := Nat.le_trans hB HW.out.size
          go_wp2_with fail
          go_region_law (refine step_append_new rfl (.tmp 44) (.tmp 46) 27 rfl B 34 i0 evZero 4 40 Tryd.underlying27 hi hz0 hz1 hz2 rfl (by decide) (.slice ao k c) k (flat L) (by simp [Act.eval, Act.put]) ((HR2.out.drew).alloc _) ⟨wr.heap.size, 0, none⟩ 1 1 x.cells (by simp [Act.eval, Act.put]) rfl (cells_new _ x.cells 34) (by intro u hu; simp [Ev.cells] at hu; rcases hu with rfl | rfl | rfl | rfl <;> rfl) (by unfold maxLen; omega) (by omega) (by simp; omega) ?_; intro v' w3 hown' hgrow hwhere; obtain ⟨g', cap', rfl⟩ := ownsRow_succ hown'; obtain ⟨d2, d3, d4, d5⟩ := tab_pushed HBB.out HV2.out (by decide) HR2.out hBs hown' hgrow; have dc := d2.cell; have df := d2.frozen)
          all_goals
            go_wp2
            go_ret
            rw [HE.out, HA.out]
            refine ⟨rfl, (Value.slice (some ⟨g', 0, none⟩) (k + 1) cap').ownBlock, ⟨HBB.out, _, d3, ?_, rfl⟩, fun g hg => ?_, ?_⟩
            · rw [flat_snoc, List.length_append, ← HN.out]
              exact d4
            · rcases hwhere g hg with h | h
              · exact .inl (HVR.out ▸ h)
              · refine .inr ?_
                have := HW.out.size
                simp [World.drew] at h
                omega
            · have h5 := d5
              rw [HVR.out] at h5
              exact (Kept.of_below HW.out _).trans h5
end Go.Proofs.YtfbimhbdifmeoaaDoor
