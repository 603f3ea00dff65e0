/-
  Does any effect of a row touch a watch: slices.IndexFunc, ContainsFunc and the two closures, walked.
-/
import Derived.Test.YtfbimhbdifmeoaaDoorWt
import Derived.Deep.MidRow
import Derived.Test.YtfbimhbdifmeoaaDoorRowsOpen
namespace Go.Proofs.YtfbimhbdifmeoaaDoor
set_option linter.unusedVariables false
set_option linter.unusedSimpArgs false
open Go.RowKit

/-- A row of effects: their paths; the other cells are whatever. -/
def EffsAt (w : World) (B : Nat) (ao : Option Addr) (L : List Bytes) : Prop :=
  ∀ k p, L[k]? = some p → ∃ b off rest, ao = some ⟨b, off, none⟩ ∧ b < B ∧ rest.length = 10 ∧ w.rangeAt b (off + k * 11) (.string (bs p) :: rest)
theorem EffsAt.kept {w w' : World} {B : Nat} {ao : Option Addr} {L : List Bytes} (h : EffsAt w B ao L) (hb : Below B w w') : EffsAt w' B ao L := fun k p hk => by
  obtain ⟨b, off, rest, h1, h2, h3, h4⟩ := h k p hk
  exact ⟨b, off, rest, h1, h2, h3, range_kept h4 hb h2⟩
theorem EffsAt.mono {w : World} {B B' : Nat} {ao : Option Addr} {L : List Bytes} (h : EffsAt w B ao L) (hB : B ≤ B') : EffsAt w B' ao L := fun k p hk => by
  obtain ⟨b, off, rest, h1, h2, h3, h4⟩ := h k p hk
  exact ⟨b, off, rest, h1, by omega, h3, h4⟩
theorem size56 : (Tryd.prog.info? 56).map (·.size) = some 11 := by kernel_rfl
theorem load_eff {w : World} {b o : Nat} {p : Bytes} {rest : List Value} (hr : rest.length = 10) (h : w.rangeAt b o (.string (bs p) :: rest)) :
    (Instr.loadAt 56 (.pointer (some ⟨b, o, none⟩))).run Tryd.prog w = .ok (.agg (Value.string (bs p) :: rest).toArray) w :=
  run_loadAt_mid w b o 56 (.string (bs p) :: rest) _ h Tryd.underlying56 rfl (by rw [size56, List.length_cons, hr])

set_option maxRecDepth 100000 in
set_option maxHeartbeats 4000000 in
theorem indexEff (e : Ev) (ao : Option Addr) (c : Nat) (L : List Bytes) (w : World) (hm : MaxInt w) (hbig : L.length ≤ 4000) (hp : ∀ p ∈ L, p.length ≤ 1000) (hc : EffsAt w w.heap.size ao L) :
    Calls Tryd.prog 30 #[.slice ao L.length c, .func (.func 22) #[e.val] #[]] w fun en w' => (∃ i, en = .returned (.int .i64 i) ∧ decide (0 ≤ i) = L.any (touchB e)) ∧ Below w.heap.size w w' := by
  have HC := Lib.hid hc
  have HM := Lib.hid hm
  have HP := Lib.hid hp
  clear hc hm hp
  obtain ⟨N, hN⟩ : ∃ N, N = L.length := ⟨_, rfl⟩
  have HN := Lib.hid hN
  rw [← hN] at hbig ⊢
  clear hN
  go_enter Tryd.func30, Tryd.ntmps30
  go_wp2
  go_loopw [5, 8] (fun _ i wr => ∃ k : Nat, k ≤ N ∧ i = .int .i64 k ∧ Hid (∀ j y, j < k → L[j]? = some y → touchB e y = false) ∧ Below w.heap.size w wr) (fun _ i _ => N - (intOf i).toNat)
  case atStart => exact ⟨0, by omega, rfl, Lib.hid (fun _ _ h => absurd h (Nat.not_lt_zero _)), Below.refl _ _⟩
  case round =>
    obtain ⟨k, hk, rfl, HG, hB⟩ := hrel
    have HB := Lib.hid hB
    by_cases hlt : k < N
    · obtain ⟨x, hx⟩ : ∃ x, L[k]? = some x := ⟨_, List.getElem?_eq_getElem (by rw [← HN.out]; exact hlt)⟩
      obtain ⟨b, off, rest, rfl, hb, hr, hrg⟩ := HC.out k x hx
      match rest, hr with
      | [x1, x2, x3, x4, x5, x6, x7, x8, x9, x10], _ =>
      have hrw := range_kept hrg hB hb
      have h0 : wr.cell? ⟨b, off + k * 11, none⟩ = some (.string (bs x)) := hrw 0 _ rfl
      have h1 : wr.cell? ⟨b, off + k * 11 + 1, none⟩ = some x1 := hrw 1 _ rfl
      have h2 : wr.cell? ⟨b, off + k * 11 + 2, none⟩ = some x2 := hrw 2 _ rfl
      have h3 : wr.cell? ⟨b, off + k * 11 + 3, none⟩ = some x3 := hrw 3 _ rfl
      have h4 : wr.cell? ⟨b, off + k * 11 + 4, none⟩ = some x4 := hrw 4 _ rfl
      have h5 : wr.cell? ⟨b, off + k * 11 + 5, none⟩ = some x5 := hrw 5 _ rfl
      have h6 : wr.cell? ⟨b, off + k * 11 + 6, none⟩ = some x6 := hrw 6 _ rfl
      have h7 : wr.cell? ⟨b, off + k * 11 + 7, none⟩ = some x7 := hrw 7 _ rfl
      have h8 : wr.cell? ⟨b, off + k * 11 + 8, none⟩ = some x8 := hrw 8 _ rfl
      have h9 : wr.cell? ⟨b, off + k * 11 + 9, none⟩ = some x9 := hrw 9 _ rfl
      have h10 : wr.cell? ⟨b, off + k * 11 + 10, none⟩ = some x10 := hrw 10 _ rfl
      have HX := Lib.hid hx
      have hcl := fun (W : World) (hW : MaxInt W) => touched_any e x [x1, x2, x3, x4, x5, x6, x7, x8, x9, x10] (HP.out x (List.mem_of_getElem? hx)) W hW rfl
      have HCL := Lib.hid hcl
      have HMr := Lib.hid (HM.out.kept hB)
      clear hx hB hr hrg hcl hrw
      generalize hEV : e.val = ev at *
      clear hEV
      cases ho : touchB e x with
      | false =>
        rw [ho] at HCL
        have HO := Lib.hid ho
        clear ho
        go_wp2_with fail
        refine (HCL.out _ HMr.out).mono ?_
        rintro en w1 ⟨rfl, B1⟩
        have HB1 := Lib.hid (HB.out.trans (B1.mono HB.out.size))
        clear B1
        go_wp2
        go_roundw
        case rel =>
          refine ⟨k + 1, by omega, by go_num, Lib.hid fun j y hj hy => ?_, HB1.out⟩
          by_cases e : j = k
          · subst e
            have := HX.out
            rw [hy] at this
            cases this
            exact HO.out
          · exact HG.out j y (by omega) hy
        case measure => simp [intOf]; omega
      | true =>
        rw [ho] at HCL
        have HF : Hid (L.any (touchB e) = true) := Lib.hid (List.any_eq_true.2 ⟨x, List.mem_of_getElem? HX.out, ho⟩)
        clear ho
        go_wp2_with fail
        refine (HCL.out _ HMr.out).mono ?_
        rintro en w1 ⟨rfl, B1⟩
        have HB1 := Lib.hid (HB.out.trans (B1.mono HB.out.size))
        clear B1
        go_wp2
        go_ret
        exact ⟨⟨_, rfl, by rw [HF.out]; simp⟩, HB1.out⟩
    · obtain rfl : k = N := by omega
      have HF : Hid (L.any (touchB e) = false) := Lib.hid (by
        rw [List.any_eq_false]
        intro y hy
        obtain ⟨j, hj, rfl⟩ := List.mem_iff_getElem.1 hy
        simp [HG.out j _ (by rw [HN.out]; exact hj) (List.getElem?_eq_getElem hj)])
      clear hB
      go_wp2
      go_ret
      exact ⟨⟨_, rfl, by rw [HF.out]; rfl⟩, HB.out⟩

set_option maxRecDepth 100000 in
theorem containsEff (e : Ev) (ao : Option Addr) (c : Nat) (L : List Bytes) (w : World) (hm : MaxInt w) (hbig : L.length ≤ 4000) (hp : ∀ p ∈ L, p.length ≤ 1000) (hc : EffsAt w w.heap.size ao L) :
    Calls Tryd.prog 21 #[.slice ao L.length c, .func (.func 22) #[e.val] #[]] w fun en w' => en = .returned (.bool (L.any (touchB e))) ∧ Below w.heap.size w w' := by
  have hi := indexEff e ao c L w hm hbig hp hc
  clear hc hm hp
  generalize L.any (touchB e) = r at *
  generalize e.val = ev at *
  go_enter Tryd.func21, Tryd.ntmps21
  go_wp2_with (go_at_call 30; refine hi.mono ?_; rintro en w1 ⟨⟨i, rfl, hr⟩, B1⟩)
  go_ret
  exact ⟨by rw [← hr]; rfl, B1⟩

set_option maxRecDepth 100000 in
/-- The closure 'touched'. -/
theorem isTouched (e : Ev) (lb : Nat) (ao : Option Addr) (c : Nat) (L : List Bytes) (w : World) (hm : MaxInt w) (hbig : L.length ≤ 4000) (hp : ∀ p ∈ L, p.length ≤ 1000) (hc : EffsAt w w.heap.size ao L)
    (hl : w.cell? ⟨lb, 0, none⟩ = some (.slice ao L.length c)) :
    Calls Tryd.prog 20 #[e.val, .pointer (some ⟨lb, 0, none⟩)] w fun en w' => en = .returned (.bool (L.any (touchB e))) ∧ Below w.heap.size w w' := by
  have hlt := World.block_lt_of_cell? w _ hl
  have hi := fun (W : World) (hW : MaxInt W) (hW2 : EffsAt W W.heap.size ao L) => containsEff e ao c L W hW hbig hp hW2
  have HI := Lib.hid hi
  have HM := Lib.hid hm
  have HC := Lib.hid hc
  clear hc hm hp hi
  generalize L.any (touchB e) = r at *
  obtain ⟨s, n, q, k⟩ := e
  unfold Ev.val Ev.cells at *
  obtain ⟨N, hN⟩ : ∃ N, N = L.length := ⟨_, rfl⟩
  rw [← hN] at hl HI hbig
  clear hN
  have XB := Lib.hid ((Below.refl w.heap.size w).alloc (Nat.le_refl _) (Obj.cells #[Value.int IntKind.i64 s, Value.int IntKind.u32 n, Value.string (bs q), Value.bool k] 44))
  go_enter Tryd.func20, Tryd.ntmps20
  go_wp2_with fail
  have HK := Lib.hid (HI.out _ (HM.out.kept XB.out) ((HC.out.kept XB.out).mono XB.out.size))
  refine HK.out.mono ?_
  rintro en w1 ⟨rfl, B1⟩
  have X1 := Lib.hid (XB.out.trans (B1.mono XB.out.size))
  clear B1
  go_wp2
  go_ret
  exact ⟨rfl, X1.out⟩

set_option maxRecDepth 100000 in
/-- Its negation. -/
theorem notTouched (e : Ev) (tb lb : Nat) (ao : Option Addr) (c : Nat) (L : List Bytes) (w : World) (hm : MaxInt w) (hbig : L.length ≤ 4000) (hp : ∀ p ∈ L, p.length ≤ 1000) (hc : EffsAt w w.heap.size ao L)
    (hl : w.cell? ⟨lb, 0, none⟩ = some (.slice ao L.length c)) (ht : w.cell? ⟨tb, 0, none⟩ = some (.func (.func 20) #[] #[.pointer (some ⟨lb, 0, none⟩)])) :
    Calls Tryd.prog 24 #[e.val, .pointer (some ⟨tb, 0, none⟩)] w fun en w' => en = .returned (.bool (!L.any (touchB e))) ∧ Below w.heap.size w w' := by
  have hlt := World.block_lt_of_cell? w _ hl
  have hlt2 := World.block_lt_of_cell? w _ ht
  have hi := fun (W : World) (hW : MaxInt W) (hW2 : EffsAt W W.heap.size ao L) (hW3 : W.cell? ⟨lb, 0, none⟩ = some (.slice ao L.length c)) => isTouched e lb ao c L W hW hbig hp hW2 hW3
  have HI := Lib.hid hi
  have HM := Lib.hid hm
  have HC := Lib.hid hc
  have HL := Lib.hid hl
  clear hc hm hp hi hl
  generalize L.any (touchB e) = r at *
  obtain ⟨s, n, q, k⟩ := e
  unfold Ev.val Ev.cells at *
  have XB := Lib.hid ((Below.refl w.heap.size w).alloc (Nat.le_refl _) (Obj.cells #[Value.int IntKind.i64 s, Value.int IntKind.u32 n, Value.string (bs q), Value.bool k] 44))
  go_enter Tryd.func24, Tryd.ntmps24
  go_wp2_with fail
  have HK := Lib.hid (HI.out _ (HM.out.kept XB.out) ((HC.out.kept XB.out).mono XB.out.size) ((XB.out.cell (p := ⟨lb, 0, none⟩) hlt).trans HL.out))
  refine HK.out.mono ?_
  rintro en w1 ⟨rfl, B1⟩
  have X1 := Lib.hid (XB.out.trans (B1.mono XB.out.size))
  clear B1
  go_wp2
  go_ret
  exact ⟨rfl, X1.out⟩
end Go.Proofs.YtfbimhbdifmeoaaDoor
