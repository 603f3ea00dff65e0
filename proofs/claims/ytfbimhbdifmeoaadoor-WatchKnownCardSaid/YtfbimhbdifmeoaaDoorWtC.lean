/-
  The document's Touches, walked.
-/
import Derived.Test.YtfbimhbdifmeoaaDoorWtB
namespace Go.Proofs.YtfbimhbdifmeoaaDoor
set_option linter.unusedVariables false
set_option linter.unusedSimpArgs false
open Go.RowKit Go.Shelf

theorem refOf_any (a : Option Addr) (c B : Nat) (L : List Bytes) (w : World) (hbig : L.length ≤ 1000) (hlen : (slashed L).length ≤ 1000000) (hc : SlS w B a L) : Calls Tryd.prog 32 #[.slice a L.length c] w fun e w' => e = .returned (.string (bs (ofL L))) ∧ w = w' := by
  by_cases h : L = []
  · subst h
    exact refOf_zero a c w
  · exact refOf_more a c B L w h hbig hlen hc

set_option maxRecDepth 100000 in
set_option maxHeartbeats 4000000 in
theorem refTouches_any (e : Ev) (p : Bytes) (rest : List Value) (hp : p.length ≤ 1000) (w : World) (hr : rest.length = 10) :
    Calls Tryd.prog 25 #[e.val, .agg (.string (bs p) :: rest).toArray] w fun en w' => en = .returned (.bool (refTouchB e p)) ∧ Below w.heap.size w w' := by
  obtain ⟨s, n, q, k⟩ := e
  match rest, hr with
  | [x1, x2, x3, x4, x5, x6, x7, x8, x9, x10], _ =>
  have t1 := eq_bs p q
  cases k with
  | false =>
    have hv : refTouchB ⟨s, n, q, false⟩ p = decide (p = q) := rfl
    rw [hv]
    unfold Ev.val Ev.cells
    dsimp only
    generalize decide (p = q) = b at *
    go_enter Tryd.func25, Tryd.ntmps25
    go_wp2
    go_ret
    exact ⟨rfl, ((Below.refl _ w).alloc (Nat.le_refl _) _).alloc (by simp) _⟩
  | true =>
    clear t1
    have F := two_ext w #[Value.int IntKind.i64 s, Value.int IntKind.u32 n, Value.string (bs q), Value.bool true] #[Value.string (bs p), x1, x2, x3, x4, x5, x6, x7, x8, x9, x10] 34 56
    have XB := Lib.hid (((Below.refl w.heap.size w).alloc (Nat.le_refl _) (Obj.cells #[Value.int IntKind.i64 s, Value.int IntKind.u32 n, Value.string (bs q), Value.bool true] 34)).alloc (by simp) (Obj.cells #[Value.string (bs p), x1, x2, x3, x4, x5, x6, x7, x8, x9, x10] 56))
    have hbq : ∀ W, Below ((w.alloc (Obj.cells #[Value.int IntKind.i64 s, Value.int IntKind.u32 n, Value.string (bs q), Value.bool true] 34)).alloc (Obj.cells #[Value.string (bs p), x1, x2, x3, x4, x5, x6, x7, x8, x9, x10] 56)).heap.size ((w.alloc (Obj.cells #[Value.int IntKind.i64 s, Value.int IntKind.u32 n, Value.string (bs q), Value.bool true] 34)).alloc (Obj.cells #[Value.string (bs p), x1, x2, x3, x4, x5, x6, x7, x8, x9, x10] 56)) W → W.cell? ⟨w.heap.size, 2, none⟩ = some (.string (bs q)) := fun W hW => by
      obtain ⟨o, rfl⟩ := below_ext hW
      exact F.1 o 2 _ rfl
    have HBQ := Lib.hid hbq
    clear F hbq
    cases hpp : partsL p with
    | none =>
      have hv : refTouchB ⟨s, n, q, true⟩ p = false := by unfold refTouchB; rw [if_pos rfl, hpp]
      have c1 := fun (W : World) => refParts_none p hpp (size_max hp (Nat.le_refl _)) W
      have C1 := Lib.hid c1
      rw [hv]
      unfold Ev.val Ev.cells
      dsimp only
      clear hv hpp c1
      go_enter Tryd.func25, Tryd.ntmps25
      go_wp2_with fail
      generalize hW0 : (w.alloc (Obj.cells #[Value.int IntKind.i64 s, Value.int IntKind.u32 n, Value.string (bs q), Value.bool true] 34)).alloc (Obj.cells #[Value.string (bs p), x1, x2, x3, x4, x5, x6, x7, x8, x9, x10] 56) = W0 at *
      clear hW0
      refine (C1.out _).mono ?_
      rintro en w1 ⟨rfl, B1⟩
      have HB1 := Lib.hid B1
      clear B1
      go_wp2_with fail
      refine wp_region_ext (by kernel_rfl) (by kernel_rfl) ?_
      repeat (go_big_quiet_step (fail))
      refine wpQuiet_nil ?_
      intro w' hw'
      obtain ⟨oq, hw''⟩ := hw'
      subst hw''
      go_wp2
      go_ret
      exact ⟨rfl, XB.out.trans ((HB1.out.trans ((Wext.below w1 oq).mono HB1.out.size)).mono XB.out.size)⟩
    | some L =>
      have c1 := fun (W : World) => refParts_some p L hpp W
      have C1 := Lib.hid c1
      have hll := partsL_len hpp
      have hsl := slashed_parts hpp
      clear c1
      by_cases hL : L = []
      · have hv : refTouchB ⟨s, n, q, true⟩ p = false := by unfold refTouchB; rw [if_pos rfl, hpp]; simp [hL]
        rw [hv]
        subst hL
        unfold Ev.val Ev.cells
        dsimp only
        clear hv hpp
        go_enter Tryd.func25, Tryd.ntmps25
        go_wp2_with fail
        generalize hW0 : (w.alloc (Obj.cells #[Value.int IntKind.i64 s, Value.int IntKind.u32 n, Value.string (bs q), Value.bool true] 34)).alloc (Obj.cells #[Value.string (bs p), x1, x2, x3, x4, x5, x6, x7, x8, x9, x10] 56) = W0 at *
        clear hW0
        refine (C1.out _).mono ?_
        rintro en w1 ⟨v, rfl, ho, B1⟩
        obtain ⟨a, c, rfl, _⟩ := ownS_sl ho
        have HB1 := Lib.hid B1
        clear B1 ho
        go_wp2_with fail
        refine wp_region_ext (by kernel_rfl) (by kernel_rfl) ?_
        repeat (go_big_quiet_step (fail))
        refine wpQuiet_nil ?_
        intro w' hw'
        obtain ⟨oq, hw''⟩ := hw'
        subst hw''
        go_wp2
        go_ret
        exact ⟨rfl, XB.out.trans ((HB1.out.trans ((Wext.below w1 oq).mono HB1.out.size)).mono XB.out.size)⟩
      · have hv : refTouchB ⟨s, n, q, true⟩ p = decide (ofL L.dropLast = q) := by unfold refTouchB; rw [if_pos rfl, hpp]; simp [hL]
        have t2 := eq_bs (ofL L.dropLast) q
        rw [hv]
        generalize decide (ofL L.dropLast = q) = r at *
        have hpos : 0 < L.length := List.length_pos_iff.2 hL
        have hdl : L.dropLast.length = L.length - 1 := List.length_dropLast
        have hsd : (slashed L.dropLast).length ≤ 1000000 := by
          have := ofL_len_take L (L.length - 1)
          rw [← List.dropLast_eq_take] at this
          omega
        have cof := fun (W : World) (a : Option Addr) (c B : Nat) (h : SlS W B a L.dropLast) => refOf_any a c B L.dropLast W (by omega) hsd h
        rw [hdl] at cof
        generalize bs (ofL L.dropLast) = u at *
        obtain ⟨N, hN⟩ : ∃ N, L.length = N := ⟨_, rfl⟩
        have HN := Lib.hid hN
        rw [hN] at cof hpos hll
        have HDL : Hid (∀ (W : World) (B : Nat) (a : Option Addr), SlS W B a L → SlS W B a L.dropLast) := Lib.hid (fun W B a h j x hj => by
          rw [List.dropLast_eq_take, List.getElem?_take] at hj
          split at hj
          · exact h j x hj
          · cases hj)
        have HX : Hid (∃ x, L[0]? = some x) := Lib.hid ⟨_, List.getElem?_eq_getElem (by omega)⟩
        have COF := Lib.hid cof
        have d0 : decide (0 < (N : Int)) = true := by simp; omega
        unfold Ev.val Ev.cells
        dsimp only
        clear hv hpp hL hdl hsd cof hsl hN
        go_enter Tryd.func25, Tryd.ntmps25
        go_wp2_with fail
        generalize hW0 : (w.alloc (Obj.cells #[Value.int IntKind.i64 s, Value.int IntKind.u32 n, Value.string (bs q), Value.bool true] 34)).alloc (Obj.cells #[Value.string (bs p), x1, x2, x3, x4, x5, x6, x7, x8, x9, x10] 56) = W0 at *
        clear hW0
        refine (C1.out _).mono ?_
        rintro en w1 ⟨v, rfl, ho, B1⟩
        obtain ⟨a, c, rfl, hs⟩ := ownS_sl ho
        rw [HN.out]
        obtain ⟨x0, hx0⟩ := HX.out
        obtain ⟨g, rfl, hg, _⟩ := hs 0 x0 hx0
        have hcap : N ≤ c := by
          rcases ho.2 with ⟨h, _⟩ | ⟨g', cap, cur, h, _, _, h3, _⟩
          · cases h
          · cases h; rw [← HN.out]; exact h3
        have HS := Lib.hid hs
        have HB1 := Lib.hid B1
        have f1 : ∀ o, (Wext w1 o).cell? ⟨w.heap.size, 2, none⟩ = some (.string (bs q)) := fun o => HBQ.out _ (HB1.out.trans ((Wext.below w1 o).mono HB1.out.size))
        have KO : Hid (∀ o, Calls Tryd.prog 32 #[.slice (some ⟨g, 0, none⟩) (N - 1) c] (Wext w1 o) fun e w' => e = .returned (.string u) ∧ ∃ o', w' = Wext w1 o') := Lib.hid (fun o => (COF.out (Wext w1 o) (some ⟨g, 0, none⟩) c w1.heap.size (HDL.out _ _ _ (HS.out.kept (Wext.below w1 o)))).mono fun e w' ⟨he, hw⟩ => ⟨he, o, hw.symm⟩)
        clear B1 ho hs hx0
        have e1 : IntKind.i64.wrap ((N : Int) - 1) = (N : Int) - 1 := IntWalk.i64_in _ (by omega)
        have e2 : ((N : Int) - 1).toNat = N - 1 := by omega
        go_wp2_with fail
        refine wp_region_ext (by kernel_rfl) (by kernel_rfl) ?_
        repeat (go_big_quiet_step (first | (go_at_call 32; exact KO.out _)))
        refine wpQuiet_nil ?_
        intro w' hw'
        obtain ⟨oq, hw''⟩ := hw'
        subst hw''
        go_wp2
        go_ret
        exact ⟨rfl, XB.out.trans ((HB1.out.trans ((Wext.below w1 oq).mono HB1.out.size)).mono XB.out.size)⟩
end Go.Proofs.YtfbimhbdifmeoaaDoor
