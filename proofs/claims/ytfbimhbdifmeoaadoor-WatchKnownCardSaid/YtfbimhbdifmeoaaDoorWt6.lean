/-
  slices.Index and Contains at watches, walked.
-/
import Derived.Test.YtfbimhbdifmeoaaDoorEqEv
import Derived.Deep.QuietTactic
namespace Go.Proofs.YtfbimhbdifmeoaaDoor
set_option linter.unusedVariables false
set_option linter.unusedSimpArgs false
open Go.RowKit

theorem below_drewN {B : Nat} {a w : World} (h : Below B a w) (q : Nat) : Below B a (w.drewN q) := ⟨h.os, h.tape, h.output, h.size, h.block⟩
set_option maxRecDepth 100000 in
set_option maxHeartbeats 4000000 in
theorem indexEv (e : Ev) (OB : Nat) (ao : Option Addr) (c : Nat) (L : List Ev) (w : World) (hbig : L.length ≤ 16) (hE : EvsAt w w.heap.size OB ao L) :
    Calls Tryd.prog 28 #[.slice ao L.length c, e.val] w fun en w' => (∃ i, en = .returned (.int .i64 i) ∧ decide (0 ≤ i) = L.contains e) ∧ Below w.heap.size w w' := by
  have HE := Lib.hid hE
  clear hE
  obtain ⟨N, hN⟩ : ∃ N, N = L.length := ⟨_, rfl⟩
  have HN := Lib.hid hN
  rw [← hN] at hbig ⊢
  clear hN
  have hxv : e.val = .agg #[.int .i64 e.site, .int .u32 e.num, .string (bs e.path), .bool e.kids] := rfl
  rw [hxv]
  clear hxv
  have XB := Lib.hid ((Below.refl w.heap.size w).alloc (Nat.le_refl _) (Obj.cells #[Value.int IntKind.i64 e.site, Value.int IntKind.u32 e.num, Value.string (bs e.path), Value.bool e.kids] 44))
  have hbox := fun (W' : World) (hW' : Below (w.alloc (Obj.cells #[Value.int IntKind.i64 e.site, Value.int IntKind.u32 e.num, Value.string (bs e.path), Value.bool e.kids] 44)).heap.size (w.alloc (Obj.cells #[Value.int IntKind.i64 e.site, Value.int IntKind.u32 e.num, Value.string (bs e.path), Value.bool e.kids] 44)) W') (j : Nat) =>
    (hW'.cell (p := ⟨w.heap.size, j, none⟩) (by simp)).trans (cell_of_row _ _ j _ 44 (0, 0) (heap_alloc_new w _))
  have HBX := Lib.hid hbox
  clear hbox
  go_enter Tryd.func28, Tryd.ntmps28
  go_wp2
  generalize w.alloc (Obj.cells #[Value.int IntKind.i64 e.site, Value.int IntKind.u32 e.num, Value.string (bs e.path), Value.bool e.kids] 44) = W0 at *
  go_loopw [5, 8] (fun _ i wr => ∃ k : Nat, k ≤ N ∧ i = .int .i64 k ∧ Hid (∀ j y, j < k → L[j]? = some y → y ≠ e) ∧ Hid (Below W0.heap.size W0 wr)) (fun _ i _ => N - (intOf i).toNat)
  case atStart => exact ⟨0, by omega, rfl, Lib.hid (fun _ _ h => absurd h (Nat.not_lt_zero _)), Lib.hid (Below.refl _ _)⟩
  case round =>
    obtain ⟨k, hk, rfl, HG, HB⟩ := hrel
    by_cases hlt : k < N
    · obtain ⟨x, hx⟩ : ∃ x, L[k]? = some x := ⟨_, List.getElem?_eq_getElem (by rw [← HN.out]; exact hlt)⟩
      obtain ⟨bb, off, rfl, hbb, hbbO, hrg⟩ := HE.out k x hx
      have hrw := range_kept hrg (XB.out.trans (HB.out.mono XB.out.size)) hbb
      have h0c : wr.cell? ⟨bb, off + k * 4, none⟩ = some (.int .i64 x.site) := hrw 0 _ rfl
      have h1c : wr.cell? ⟨bb, off + k * 4 + 1, none⟩ = some (.int .u32 x.num) := hrw 1 _ rfl
      have h2c : wr.cell? ⟨bb, off + k * 4 + 2, none⟩ = some (.string (bs x.path)) := hrw 2 _ rfl
      have h3c : wr.cell? ⟨bb, off + k * 4 + 3, none⟩ = some (.bool x.kids) := hrw 3 _ rfl
      have g0 : wr.cell? ⟨w.heap.size, 0, none⟩ = some (.int .i64 e.site) := HBX.out wr HB.out 0
      have g1 : wr.cell? ⟨w.heap.size, 1, none⟩ = some (.int .u32 e.num) := HBX.out wr HB.out 1
      have g2 : wr.cell? ⟨w.heap.size, 2, none⟩ = some (.string (bs e.path)) := HBX.out wr HB.out 2
      have g3 : wr.cell? ⟨w.heap.size, 3, none⟩ = some (.bool e.kids) := HBX.out wr HB.out 3
      have HX := Lib.hid hx
      clear hrg hrw hx
      have hq := fun (W : World) => eqEv e x W
      have hxv : x.val = .agg #[.int .i64 x.site, .int .u32 x.num, .string (bs x.path), .bool x.kids] := rfl
      have hev : e.val = .agg #[.int .i64 e.site, .int .u32 e.num, .string (bs e.path), .bool e.kids] := rfl
      rw [hxv, hev] at hq
      clear hxv hev
      by_cases hex : e = x
      · rw [decide_eq_true hex] at hq
        have HF : Hid (L.contains e = true) := Lib.hid (by
          rw [List.contains_iff_mem]
          exact hex ▸ List.mem_of_getElem? HX.out)
        clear hex
        go_wp2_with fail
        go_quiet (fail)
        go_wp2
        go_ret
        exact ⟨⟨_, rfl, by rw [HF.out]; simp⟩, XB.out.trans ((below_drewN HB.out _).mono XB.out.size)⟩
      · rw [decide_eq_false hex] at hq
        have HNE := Lib.hid hex
        clear hex
        go_wp2_with fail
        go_quiet (fail)
        go_wp2
        go_roundw
        case rel =>
          refine ⟨k + 1, by omega, by go_num, Lib.hid fun j y hj hy => ?_, Lib.hid (below_drewN HB.out _)⟩
          by_cases e2 : j = k
          · subst e2
            have := HX.out
            rw [hy] at this
            cases this
            exact fun e3 => HNE.out e3.symm
          · exact HG.out j y (by omega) hy
        case measure => simp [intOf]; omega
    · obtain rfl : k = N := by omega
      have HF : Hid (L.contains e = false) := Lib.hid (by
        rw [← Bool.not_eq_true, List.contains_iff_mem]
        intro hm
        obtain ⟨j, hj, hje⟩ := List.mem_iff_getElem.1 hm
        exact HG.out j _ (by rw [HN.out]; exact hj) (List.getElem?_eq_getElem hj) hje)
      go_wp2
      go_ret
      exact ⟨⟨_, rfl, by rw [HF.out]; rfl⟩, XB.out.trans (HB.out.mono XB.out.size)⟩
set_option maxRecDepth 100000 in
set_option maxHeartbeats 1000000 in
theorem containsEv (e : Ev) (OB : Nat) (ao : Option Addr) (c : Nat) (L : List Ev) (w : World) (hbig : L.length ≤ 16) (hE : EvsAt w w.heap.size OB ao L) :
    Calls Tryd.prog 18 #[.slice ao L.length c, e.val] w fun en w' => en = .returned (.bool (L.contains e)) ∧ Below w.heap.size w w' := by
  have hxv : e.val = .agg #[.int .i64 e.site, .int .u32 e.num, .string (bs e.path), .bool e.kids] := rfl
  have hi := fun (W : World) (hW : Below w.heap.size w W) => indexEv e OB ao c L W hbig (fun k x hk => by
    obtain ⟨b, off, h1, h2, h3, h4⟩ := hE k x hk
    exact ⟨b, off, h1, Nat.lt_of_lt_of_le h2 hW.size, h3, range_kept h4 hW h2⟩)
  obtain ⟨N, hN⟩ : ∃ N, N = L.length := ⟨_, rfl⟩
  rw [← hN] at hi ⊢
  rw [hxv] at hi ⊢
  have HI := Lib.hid hi
  have XB := Lib.hid ((Below.refl w.heap.size w).alloc (Nat.le_refl _) (Obj.cells #[Value.int IntKind.i64 e.site, Value.int IntKind.u32 e.num, Value.string (bs e.path), Value.bool e.kids] 44))
  clear hE hN hxv hi
  generalize L.contains e = r at *
  go_enter Tryd.func18, Tryd.ntmps18
  go_wp2_with fail
  refine (HI.out _ XB.out).mono ?_
  rintro en w1 ⟨⟨i, rfl, hr⟩, B1⟩
  have XX := Lib.hid (XB.out.trans (B1.mono XB.out.size))
  have HR := Lib.hid hr
  clear B1 hr
  go_wp2
  go_ret
  exact ⟨by rw [← HR.out]; rfl, XX.out⟩
end Go.Proofs.YtfbimhbdifmeoaaDoor
