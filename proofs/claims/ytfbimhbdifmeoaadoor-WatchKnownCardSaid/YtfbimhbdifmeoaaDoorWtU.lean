/-
  The law's own 'touched', walked.
-/
import Derived.Test.YtfbimhbdifmeoaaDoorWtE
namespace Go.Proofs.YtfbimhbdifmeoaaDoor
set_option linter.unusedVariables false
set_option linter.unusedSimpArgs false
open Go Go.RowKit Go.Shelf

set_option maxRecDepth 100000 in
set_option maxHeartbeats 8000000 in
theorem lawTouched_any (e : Ev) (ao : Option Addr) (c : Nat) (P : List Bytes) (w : World) (hm : MaxInt w) (hbig : P.length ≤ 4000) (hp : ∀ p ∈ P, p.length ≤ 1000) (hE : EffsAt w w.heap.size ao P) :
    Calls Tryd.prog 17 #[e.val, .slice ao P.length c] w fun en w' => en = .returned (.bool (hitB P e)) ∧ Below w.heap.size w w' := by
  have HM := Lib.hid hm
  have HP := Lib.hid hp
  have HE := Lib.hid hE
  obtain ⟨N, hN⟩ : ∃ N, N = P.length := ⟨_, rfl⟩
  have HN := Lib.hid hN
  rw [← hN] at hbig ⊢
  clear hN hm hp hE
  obtain ⟨s, n, q, k⟩ := e
  unfold Ev.val Ev.cells
  dsimp only
  have XB := Lib.hid ((Below.refl w.heap.size w).alloc (Nat.le_refl _) (Obj.cells #[Value.int IntKind.i64 s, Value.int IntKind.u32 n, Value.string (bs q), Value.bool k] 44))
  have hbox := fun (W' : World) (hW' : Below (w.alloc (Obj.cells #[Value.int IntKind.i64 s, Value.int IntKind.u32 n, Value.string (bs q), Value.bool k] 44)).heap.size (w.alloc (Obj.cells #[Value.int IntKind.i64 s, Value.int IntKind.u32 n, Value.string (bs q), Value.bool k] 44)) W') (j : Nat) =>
    (hW'.cell (p := ⟨w.heap.size, j, none⟩) (by simp)).trans (cell_of_row _ _ j _ 44 (0, 0) (heap_alloc_new w _))
  have HBX := Lib.hid hbox
  clear hbox
  go_enter Tryd.func17, Tryd.ntmps17
  go_wp2
  generalize w.alloc (Obj.cells #[Value.int IntKind.i64 s, Value.int IntKind.u32 n, Value.string (bs q), Value.bool k] 44) = W0 at *
  go_loopw [5] (fun i wr => ∃ j : Nat, j ≤ N ∧ i = .int .i64 j ∧ Hid (∀ z p, z < j → P[z]? = some p → touchB ⟨s, n, q, k⟩ p = false) ∧ Hid (Below W0.heap.size W0 wr)) (fun i _ => N - (intOf i).toNat)
  case atStart => exact ⟨0, by omega, rfl, Lib.hid (fun _ _ h => absurd h (Nat.not_lt_zero _)), Lib.hid (Below.refl _ _)⟩
  case round =>
    obtain ⟨j, hj, rfl, HG, HB⟩ := hrel
    by_cases hlt : j < N
    · obtain ⟨p, hpp⟩ : ∃ p, P[j]? = some p := ⟨_, List.getElem?_eq_getElem (by rw [← HN.out]; exact hlt)⟩
      obtain ⟨bp, offp, rest, rfl, hbp, hrl, hrg⟩ := HE.out j p hpp
      have HPJ := Lib.hid hpp
      have hpl := HP.out p (List.mem_of_getElem? hpp)
      have hX : ∀ o, Below W0.heap.size W0 (Wext wr o) := fun o => HB.out.trans ((Wext.below wr o).mono HB.out.size)
      have f0 : ∀ o, (Wext wr o).cell? ⟨bp, offp + j * 11, none⟩ = some (.string (bs p)) := fun o => range_kept hrg (XB.out.trans ((hX o).mono XB.out.size)) hbp 0 _ rfl
      have f2 : ∀ o, (Wext wr o).cell? ⟨w.heap.size, 2, none⟩ = some (.string (bs q)) := fun o => HBX.out _ (hX o) 2
      have f3 : ∀ o, (Wext wr o).cell? ⟨w.heap.size, 3, none⟩ = some (.bool k) := fun o => HBX.out _ (hX o) 3
      have KP : Hid (∀ o, Calls Tryd.prog 27 #[.string (bs p)] (Wext wr o) fun e w' => e = .returned (.string (bs (parentL p))) ∧ ∃ o', w' = Wext wr o') := Lib.hid ((always_parent HM.out p hpl).ext (XB.out.trans (HB.out.mono XB.out.size)))
      have hyes : Hid (touchB ⟨s, n, q, k⟩ p = true → hitB P ⟨s, n, q, k⟩ = true) := Lib.hid (fun h => by
        unfold hitB
        rw [List.any_eq_true]
        exact ⟨p, List.mem_of_getElem? HPJ.out, h⟩)
      have hno : Hid (touchB ⟨s, n, q, k⟩ p = false → ∀ z p, z < j + 1 → P[z]? = some p → touchB ⟨s, n, q, k⟩ p = false) := Lib.hid (fun h z y hz hy => by
        by_cases e : z = j
        · subst e
          rw [HPJ.out] at hy
          cases hy
          exact h
        · exact HG.out z y (by omega) hy)
      have t1 := eq_bs p q
      have t2 := eq_bs (parentL p) q
      clear hrg hpp hpl hX
      cases k with
      | false =>
        have hv : touchB ⟨s, n, q, false⟩ p = decide (p = q) := rfl
        rw [hv] at hyes hno
        clear t2
        cases hb : decide (p = q) with
        | true =>
          rw [hb] at t1 hyes
          have HV := Lib.hid (hyes.out rfl)
          clear hb hyes hno hv
          go_wp2_with fail
          refine wp_region_ext (by kernel_rfl) (by kernel_rfl) ?_
          repeat (go_big_quiet_step (first | (go_at_call 27; exact KP.out _)))
          refine wpQuiet_nil ?_
          intro w' hw'
          obtain ⟨oq, hw''⟩ := hw'
          subst hw''
          go_wp2
          go_ret
          exact ⟨by rw [HV.out]; rfl, XB.out.trans ((HB.out.trans ((Wext.below wr oq).mono HB.out.size)).mono XB.out.size)⟩
        | false =>
          rw [hb] at t1 hno
          have HV := Lib.hid (hno.out rfl)
          clear hb hyes hno hv
          go_wp2_with fail
          refine wp_region_ext (by kernel_rfl) (by kernel_rfl) ?_
          repeat (go_big_quiet_step (first | (go_at_call 27; exact KP.out _)))
          refine wpQuiet_nil ?_
          intro w' hw'
          obtain ⟨oq, hw''⟩ := hw'
          subst hw''
          go_wp2
          go_roundw
          case rel => exact ⟨j + 1, by omega, by go_num, Lib.hid HV.out, Lib.hid (HB.out.trans ((Wext.below wr oq).mono HB.out.size))⟩
          case measure => simp [intOf]; omega
      | true =>
        have hv : touchB ⟨s, n, q, true⟩ p = (!decide (p = q) && decide (parentL p = q)) := rfl
        rw [hv] at hyes hno
        cases hb : decide (p = q) with
        | true =>
          rw [hb] at t1 hno
          have t3 : (!((bs p).toList == (bs q).toList)) = false := by rw [t1]; rfl
          have HV := Lib.hid (hno.out (by simp))
          clear hb hyes hno hv t2
          go_wp2_with fail
          refine wp_region_ext (by kernel_rfl) (by kernel_rfl) ?_
          repeat (go_big_quiet_step (first | (go_at_call 27; exact KP.out _)))
          refine wpQuiet_nil ?_
          intro w' hw'
          obtain ⟨oq, hw''⟩ := hw'
          subst hw''
          go_wp2
          go_roundw
          case rel => exact ⟨j + 1, by omega, by go_num, Lib.hid HV.out, Lib.hid (HB.out.trans ((Wext.below wr oq).mono HB.out.size))⟩
          case measure => simp [intOf]; omega
        | false =>
          rw [hb] at t1 hno hyes
          have t3 : (!((bs p).toList == (bs q).toList)) = true := by rw [t1]; rfl
          cases hb2 : decide (parentL p = q) with
          | true =>
            rw [hb2] at t2 hyes
            have HV := Lib.hid (hyes.out rfl)
            clear hb hb2 hyes hno hv
            generalize bs (parentL p) = u at *
            go_wp2_with fail
            refine wp_region_ext (by kernel_rfl) (by kernel_rfl) ?_
            repeat (go_big_quiet_step (first | (go_at_call 27; exact KP.out _)))
            refine wpQuiet_nil ?_
            intro w' hw'
            obtain ⟨oq, hw''⟩ := hw'
            subst hw''
            go_wp2
            go_ret
            exact ⟨by rw [HV.out]; rfl, XB.out.trans ((HB.out.trans ((Wext.below wr oq).mono HB.out.size)).mono XB.out.size)⟩
          | false =>
            rw [hb2] at t2 hno
            have HV := Lib.hid (hno.out rfl)
            clear hb hb2 hyes hno hv
            generalize bs (parentL p) = u at *
            go_wp2_with fail
            refine wp_region_ext (by kernel_rfl) (by kernel_rfl) ?_
            repeat (go_big_quiet_step (first | (go_at_call 27; exact KP.out _)))
            refine wpQuiet_nil ?_
            intro w' hw'
            obtain ⟨oq, hw''⟩ := hw'
            subst hw''
            go_wp2
            go_roundw
            case rel => exact ⟨j + 1, by omega, by go_num, Lib.hid HV.out, Lib.hid (HB.out.trans ((Wext.below wr oq).mono HB.out.size))⟩
            case measure => simp [intOf]; omega
    · obtain rfl : j = N := by omega
      have HV : Hid (hitB P ⟨s, n, q, k⟩ = false) := Lib.hid (by
        unfold hitB
        rw [List.any_eq_false]
        intro p hp
        obtain ⟨z, hz⟩ := List.getElem?_of_mem hp
        rw [HG.out z p (by rw [HN.out]; exact (List.getElem?_eq_some_iff.1 hz).1) hz]
        simp)
      go_wp2
      go_ret
      exact ⟨by rw [HV.out]; rfl, XB.out.trans (HB.out.mono XB.out.size)⟩
end Go.Proofs.YtfbimhbdifmeoaaDoor
