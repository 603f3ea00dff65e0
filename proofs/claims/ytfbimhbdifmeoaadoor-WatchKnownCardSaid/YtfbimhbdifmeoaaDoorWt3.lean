/-
  The iterator over the watches that a condition holds of, walked.
-/
import Derived.Test.YtfbimhbdifmeoaaDoorWt2
import Derived.RangeFuncBox
import Derived.RangeFuncLeaves
import Derived.RangeFuncCalls
import Derived.Shelf.Abstract
import Derived.OwnWalkIn
import Derived.TacticsInMore
import Derived.LoopNIn
import Derived.LoopIn
import Derived.Maps.AppendAt
namespace Go.Proofs.YtfbimhbdifmeoaaDoor
set_option linter.unusedVariables false
set_option linter.unusedSimpArgs false
open Go.RowKit Go.Shelf

attribute [local go_sem] Oper.semAt_some

/-- All that lay below n stands, but block OB. -/
structure KeepT (n OB : Nat) (W W' : World) : Prop where
  os : W'.os = W.os
  tape : W'.tape = W.tape
  output : W'.output = W.output
  size : W.heap.size ≤ W'.heap.size
  block : ∀ k, k < n → k ≠ OB → W'.heap[k]? = W.heap[k]?
theorem keepT_refl (n OB : Nat) (W : World) : KeepT n OB W W := ⟨rfl, rfl, rfl, Nat.le_refl _, fun _ _ _ => rfl⟩
theorem keepT_t {n OB : Nat} {A B C : World} (h : KeepT n OB A B) (k : KeepT n OB B C) : KeepT n OB A C :=
  ⟨k.os.trans h.os, k.tape.trans h.tape, k.output.trans h.output, Nat.le_trans h.size k.size, fun i hi hn => (k.block i hi hn).trans (h.block i hi hn)⟩
theorem keepT_below {n OB B : Nat} {W W' : World} (h : Below B W W') (hB : n ≤ B) : KeepT n OB W W' := ⟨h.os, h.tape, h.output, h.size, fun k hk _ => h.block k (by omega)⟩
theorem keepT_b {n OB : Nat} {w : World} (hB : n ≤ w.heap.size) (W : World) (l : Nat) (o o' : Obj) (hl : w.heap.size ≤ l) (ho : W.heap[l]? = some o) (hc : o.isCells = false) (hw : o.isWalk = false) : KeepT n OB W (W.putObj l o') :=
  ⟨rfl, rfl, rfl, by simp, fun k hk _ => World.putObj_heap_other (by omega)⟩
theorem KeepT.cell {n OB : Nat} {W W' : World} (h : KeepT n OB W W') {p : Addr} (hp : p.block < n) (hn : p.block ≠ OB) : W'.cell? p = W.cell? p := World.cell?_of_block (w := W) (h.block _ hp hn)
/-- A row of watches, in blocks below n that are not OB. -/
def EvsAt (w : World) (n OB : Nat) (ao : Option Addr) (L : List Ev) : Prop :=
  ∀ k e, L[k]? = some e → ∃ b off, ao = some ⟨b, off, none⟩ ∧ b < n ∧ b ≠ OB ∧ w.rangeAt b (off + k * 4) e.cells
theorem range_keptT {n OB b o : Nat} {w w' : World} {cs : List Value} (h : w.rangeAt b o cs) (hb : KeepT n OB w w') (hl : b < n) (hn : b ≠ OB) : w'.rangeAt b o cs :=
  fun j v hv => (hb.cell (p := ⟨b, o + j, none⟩) hl hn).trans (h j v hv)
theorem filter_hit {α : Type} (f : α → Bool) {L : List α} {k : Nat} {e : α} (hk : L[k]? = some e) (h : f e = true) : (L.take (k + 1)).filter f = (L.take k).filter f ++ [e] := by
  rw [List.take_add_one, hk]
  simp [h]
theorem filter_miss {α : Type} (f : α → Bool) {L : List α} {k : Nat} {e : α} (hk : L[k]? = some e) (h : f e = false) : (L.take (k + 1)).filter f = (L.take k).filter f := by
  rw [List.take_add_one, hk]
  simp [h]
theorem filter_pre {α : Type} (f : α → Bool) (L : List α) (k : Nat) : (L.take k).filter f <+: L.filter f := by
  conv => rhs; rw [← List.take_append_drop k L, List.filter_append]
  exact List.prefix_append _ _

set_option maxRecDepth 100000 in
set_option maxHeartbeats 4000000 in
theorem seq_any20 (n l tB wB pB n₀ OB b c : Nat) (f : Ev → Bool) (ao : Option Addr) (L : List Ev) (hlen : L.length ≤ 16) (J Jx : List Ev → World → Prop)
    (hY : ∀ pre x W, J pre W → pre.length < 16 → YieldAt Fence.wide (n - 1) Tryd.prog l #[x.val] W fun e W' =>
      (e = .returned (.bool true) ∧ J (pre ++ [x]) W' ∧ KeepT n₀ OB W W') ∨ (e = .returned (.bool false) ∧ Jx (pre ++ [x]) W'))
    (W : World) (hJ : AbidesFrom W.heap.size J) (hn : n₀ ≤ W.heap.size) (htB : tB < n₀) (htO : tB ≠ OB) (hwB : wB < n₀) (hwO : wB ≠ OB) (hb : b < n₀) (hbO : b ≠ OB)
    (ht : W.cell? ⟨tB, 0, none⟩ = some (.pointer (some ⟨b, 0, none⟩))) (hw : W.cell? ⟨wB, 0, none⟩ = some (.func (.func 20) #[] #[.pointer (some ⟨pB, 0, none⟩)]))
    (hT : W.cell? ⟨b, 0, none⟩ = some (.slice ao L.length c)) (hE : EvsAt W n₀ OB ao L)
    (hW : ∀ W', KeepT n₀ OB W W' → ∀ e : Ev, Calls Tryd.prog 20 #[e.val, .pointer (some ⟨pB, 0, none⟩)] W' fun en w' => en = .returned (.bool (f e)) ∧ Below W'.heap.size W' w')
    (h0 : J [] W) :
    CallsIn Fence.wide n Tryd.prog 31 #[.func (.yield l) #[] #[], .pointer (some ⟨tB, 0, none⟩), .pointer (some ⟨wB, 0, none⟩)] W fun e W' => (∃ v, e = .returned v) ∧
      ((∃ ys, ys = L.filter f ∧ J ys W') ∨ (∃ pre, pre <+: L.filter f ∧ Jx pre W')) := by
  obtain ⟨N, hN⟩ : ∃ N, N = L.length := ⟨_, rfl⟩
  have HN := Lib.hid hN
  rw [← hN] at hlen hT
  clear hN
  have HE := Lib.hid hE
  have HW := Lib.hid hW
  clear hE hW
  refine callsIn_of_wp Tryd.func31 rfl trivial ?_ rfl
  simp only [Tryd.ntmps31, List.size_toArray, List.length_cons, List.length_nil, Nat.reduceAdd, Nat.reduceSub, Array.replicate_succ, Array.replicate_zero, List.push_toArray, List.append_toArray, List.nil_append, List.cons_append]
  gi_wp2
  gi_loopw [11] (fun p wr => ∃ i : Nat, i ≤ N ∧ p = .int .i64 i ∧ Hid (KeepT n₀ OB W wr) ∧ J ((L.take i).filter f) wr)
    (fun p _ => N - (intOf p).toNat)
  case atStart =>
    exact ⟨0, by omega, rfl, Lib.hid (keepT_refl _ _ _), by simpa using h0⟩
  case round =>
    obtain ⟨i, hi, rfl, HB, hJs⟩ := hrel
    have hcw := (HB.out.cell (p := ⟨wB, 0, none⟩) hwB hwO).trans hw
    have hsz : n₀ ≤ wr.heap.size := Nat.le_trans hn HB.out.size
    have hwl : wB < wr.heap.size := by omega
    by_cases hlt : i < N
    · obtain ⟨x, hx⟩ : ∃ x, L[i]? = some x := ⟨_, List.getElem?_eq_getElem (by rw [← HN.out]; exact hlt)⟩
      obtain ⟨bb, off, rfl, hbb, hbbO, hrg⟩ := HE.out i x hx
      have hrw := range_keptT hrg HB.out hbb hbbO
      have h0c : wr.cell? ⟨bb, off + i * 4, none⟩ = some (.int .i64 x.site) := hrw 0 _ rfl
      have h1c : wr.cell? ⟨bb, off + i * 4 + 1, none⟩ = some (.int .u32 x.num) := hrw 1 _ rfl
      have h2c : wr.cell? ⟨bb, off + i * 4 + 2, none⟩ = some (.string (bs x.path)) := hrw 2 _ rfl
      have h3c : wr.cell? ⟨bb, off + i * 4 + 3, none⟩ = some (.bool x.kids) := hrw 3 _ rfl
      have HX := Lib.hid hx
      clear hrg hrw hx
      have HJ := Lib.hid hJ
      have HJs := Lib.hid hJs
      have HY := Lib.hid hY
      clear hJ hJs hY
      have XB := Lib.hid ((Below.refl wr.heap.size wr).alloc (Nat.le_refl _) (Obj.cells #[Value.int IntKind.i64 x.site, Value.int IntKind.u32 x.num, Value.string (bs x.path), Value.bool x.kids] 44))
      have HV : Hid (x.val = .agg #[Value.int IntKind.i64 x.site, Value.int IntKind.u32 x.num, Value.string (bs x.path), Value.bool x.kids]) := Lib.hid rfl
      have HK := Lib.hid (HW.out _ (keepT_t HB.out (keepT_below XB.out hsz)) x)
      have hbox := fun (W' : World) (hW' : Below (wr.alloc (Obj.cells #[Value.int IntKind.i64 x.site, Value.int IntKind.u32 x.num, Value.string (bs x.path), Value.bool x.kids] 44)).heap.size (wr.alloc (Obj.cells #[Value.int IntKind.i64 x.site, Value.int IntKind.u32 x.num, Value.string (bs x.path), Value.bool x.kids] 44)) W') (j : Nat) =>
        (hW'.cell (p := ⟨wr.heap.size, j, none⟩) (by simp)).trans (cell_of_row _ _ j _ 44 (0, 0) (heap_alloc_new wr _))
      have HBX := Lib.hid hbox
      clear hbox
      cases hl : f x with
      | false =>
        rw [hl] at HK
        have HL := Lib.hid hl
        clear hl
        gi_wp2_with fail
        refine ⟨trivial, (fun h => (by cases h)), ?_⟩
        refine (callsIn_wide.2 HK.out).mono ?_
        rintro e w' ⟨rfl, B1⟩
        have X1 := Lib.hid (XB.out.trans (B1.mono XB.out.size))
        clear B1
        gi_wp2
        refine ⟨(fun _ h => (by cases h)), ?_⟩
        gi_wp2
        go_roundw
        case rel =>
          refine ⟨i + 1, by omega, by go_num, Lib.hid (keepT_t HB.out (keepT_below X1.out hsz)), ?_⟩
          rw [filter_miss f HX.out HL.out]
          exact HJ.out _ _ _ none HJs.out ⟨X1.out.os, X1.out.tape, X1.out.output, X1.out.size, fun k hk _ => X1.out.block k hk⟩ (fun _ e => by cases e)
        case measure => simp [intOf]; omega
      | true =>
        rw [hl] at HK
        have HL := Lib.hid hl
        clear hl
        have hlf : ((L.take i).filter f).length < 16 := by
          have h1 := List.length_filter_le f (L.take i)
          have h2 : (L.take i).length ≤ i := by simp; omega
          omega
        gi_wp2_with fail
        refine ⟨trivial, (fun h => (by cases h)), ?_⟩
        refine (callsIn_wide.2 HK.out).mono ?_
        rintro e w' ⟨rfl, B1⟩
        have X1 := Lib.hid (XB.out.trans (B1.mono XB.out.size))
        have g0 : w'.cell? ⟨wr.heap.size, 0, none⟩ = some (.int .i64 x.site) := HBX.out w' B1 0
        have g1 : w'.cell? ⟨wr.heap.size, 1, none⟩ = some (.int .u32 x.num) := HBX.out w' B1 1
        have g2 : w'.cell? ⟨wr.heap.size, 2, none⟩ = some (.string (bs x.path)) := HBX.out w' B1 2
        have g3 : w'.cell? ⟨wr.heap.size, 3, none⟩ = some (.bool x.kids) := HBX.out w' B1 3
        clear B1
        have hJ2 : J ((L.take i).filter f) w' := HJ.out _ _ _ none HJs.out ⟨X1.out.os, X1.out.tape, X1.out.output, X1.out.size, fun k hk _ => X1.out.block k hk⟩ (fun _ e => by cases e)
        obtain ⟨fn, tmps, assign, body, hy, hR⟩ := HY.out _ x _ hJ2 hlf
        have HR := Lib.hid hR
        clear hJ2 hR
        rw [HV.out] at hy
        gi_wp2_with fail
        refine ⟨(fun h => (by cases h)), ?_⟩
        refine HR.out.mono ?_
        rintro e W3 (⟨rfl, hJ3, hk3⟩ | ⟨rfl, hJx3⟩)
        · have HJ3 := Lib.hid hJ3
          have HK3 := Lib.hid (keepT_t (keepT_t HB.out (keepT_below X1.out hsz)) hk3)
          clear hJ3 hk3
          gi_wp2
          go_roundw
          case rel => exact ⟨i + 1, by omega, by go_num, HK3, by rw [filter_hit f HX.out HL.out]; exact HJ3.out⟩
          case measure => simp [intOf]; omega
        · gi_wp2
          refine bodyPost_ret (results_none rfl _ _ _) rfl ?_
          refine ⟨⟨_, rfl⟩, .inr ⟨_, ?_, hJx3⟩⟩
          rw [← filter_hit f HX.out HL.out]
          exact filter_pre f L (i + 1)
    · obtain rfl : i = N := by omega
      gi_wp2
      go_end0
      refine ⟨⟨_, rfl⟩, .inl ⟨_, rfl, ?_⟩⟩
      have h := hJs
      rw [HN.out, List.take_length] at h
      exact h

set_option maxRecDepth 100000 in
set_option maxHeartbeats 4000000 in
theorem seq_any24 (n l tB wB pB n₀ OB b c : Nat) (f : Ev → Bool) (ao : Option Addr) (L : List Ev) (hlen : L.length ≤ 16) (J Jx : List Ev → World → Prop)
    (hY : ∀ pre x W, J pre W → pre.length < 16 → YieldAt Fence.wide (n - 1) Tryd.prog l #[x.val] W fun e W' =>
      (e = .returned (.bool true) ∧ J (pre ++ [x]) W' ∧ KeepT n₀ OB W W') ∨ (e = .returned (.bool false) ∧ Jx (pre ++ [x]) W'))
    (W : World) (hJ : AbidesFrom W.heap.size J) (hn : n₀ ≤ W.heap.size) (htB : tB < n₀) (htO : tB ≠ OB) (hwB : wB < n₀) (hwO : wB ≠ OB) (hb : b < n₀) (hbO : b ≠ OB)
    (ht : W.cell? ⟨tB, 0, none⟩ = some (.pointer (some ⟨b, 0, none⟩))) (hw : W.cell? ⟨wB, 0, none⟩ = some (.func (.func 24) #[] #[.pointer (some ⟨pB, 0, none⟩)]))
    (hT : W.cell? ⟨b, 0, none⟩ = some (.slice ao L.length c)) (hE : EvsAt W n₀ OB ao L)
    (hW : ∀ W', KeepT n₀ OB W W' → ∀ e : Ev, Calls Tryd.prog 24 #[e.val, .pointer (some ⟨pB, 0, none⟩)] W' fun en w' => en = .returned (.bool (f e)) ∧ Below W'.heap.size W' w')
    (h0 : J [] W) :
    CallsIn Fence.wide n Tryd.prog 31 #[.func (.yield l) #[] #[], .pointer (some ⟨tB, 0, none⟩), .pointer (some ⟨wB, 0, none⟩)] W fun e W' => (∃ v, e = .returned v) ∧
      ((∃ ys, ys = L.filter f ∧ J ys W') ∨ (∃ pre, pre <+: L.filter f ∧ Jx pre W')) := by
  obtain ⟨N, hN⟩ : ∃ N, N = L.length := ⟨_, rfl⟩
  have HN := Lib.hid hN
  rw [← hN] at hlen hT
  clear hN
  have HE := Lib.hid hE
  have HW := Lib.hid hW
  clear hE hW
  refine callsIn_of_wp Tryd.func31 rfl trivial ?_ rfl
  simp only [Tryd.ntmps31, List.size_toArray, List.length_cons, List.length_nil, Nat.reduceAdd, Nat.reduceSub, Array.replicate_succ, Array.replicate_zero, List.push_toArray, List.append_toArray, List.nil_append, List.cons_append]
  gi_wp2
  gi_loopw [11] (fun p wr => ∃ i : Nat, i ≤ N ∧ p = .int .i64 i ∧ Hid (KeepT n₀ OB W wr) ∧ J ((L.take i).filter f) wr)
    (fun p _ => N - (intOf p).toNat)
  case atStart =>
    exact ⟨0, by omega, rfl, Lib.hid (keepT_refl _ _ _), by simpa using h0⟩
  case round =>
    obtain ⟨i, hi, rfl, HB, hJs⟩ := hrel
    have hcw := (HB.out.cell (p := ⟨wB, 0, none⟩) hwB hwO).trans hw
    have hsz : n₀ ≤ wr.heap.size := Nat.le_trans hn HB.out.size
    have hwl : wB < wr.heap.size := by omega
    by_cases hlt : i < N
    · obtain ⟨x, hx⟩ : ∃ x, L[i]? = some x := ⟨_, List.getElem?_eq_getElem (by rw [← HN.out]; exact hlt)⟩
      obtain ⟨bb, off, rfl, hbb, hbbO, hrg⟩ := HE.out i x hx
      have hrw := range_keptT hrg HB.out hbb hbbO
      have h0c : wr.cell? ⟨bb, off + i * 4, none⟩ = some (.int .i64 x.site) := hrw 0 _ rfl
      have h1c : wr.cell? ⟨bb, off + i * 4 + 1, none⟩ = some (.int .u32 x.num) := hrw 1 _ rfl
      have h2c : wr.cell? ⟨bb, off + i * 4 + 2, none⟩ = some (.string (bs x.path)) := hrw 2 _ rfl
      have h3c : wr.cell? ⟨bb, off + i * 4 + 3, none⟩ = some (.bool x.kids) := hrw 3 _ rfl
      have HX := Lib.hid hx
      clear hrg hrw hx
      have HJ := Lib.hid hJ
      have HJs := Lib.hid hJs
      have HY := Lib.hid hY
      clear hJ hJs hY
      have XB := Lib.hid ((Below.refl wr.heap.size wr).alloc (Nat.le_refl _) (Obj.cells #[Value.int IntKind.i64 x.site, Value.int IntKind.u32 x.num, Value.string (bs x.path), Value.bool x.kids] 44))
      have HV : Hid (x.val = .agg #[Value.int IntKind.i64 x.site, Value.int IntKind.u32 x.num, Value.string (bs x.path), Value.bool x.kids]) := Lib.hid rfl
      have HK := Lib.hid (HW.out _ (keepT_t HB.out (keepT_below XB.out hsz)) x)
      have hbox := fun (W' : World) (hW' : Below (wr.alloc (Obj.cells #[Value.int IntKind.i64 x.site, Value.int IntKind.u32 x.num, Value.string (bs x.path), Value.bool x.kids] 44)).heap.size (wr.alloc (Obj.cells #[Value.int IntKind.i64 x.site, Value.int IntKind.u32 x.num, Value.string (bs x.path), Value.bool x.kids] 44)) W') (j : Nat) =>
        (hW'.cell (p := ⟨wr.heap.size, j, none⟩) (by simp)).trans (cell_of_row _ _ j _ 44 (0, 0) (heap_alloc_new wr _))
      have HBX := Lib.hid hbox
      clear hbox
      cases hl : f x with
      | false =>
        rw [hl] at HK
        have HL := Lib.hid hl
        clear hl
        gi_wp2_with fail
        refine ⟨trivial, (fun h => (by cases h)), ?_⟩
        refine (callsIn_wide.2 HK.out).mono ?_
        rintro e w' ⟨rfl, B1⟩
        have X1 := Lib.hid (XB.out.trans (B1.mono XB.out.size))
        clear B1
        gi_wp2
        refine ⟨(fun _ h => (by cases h)), ?_⟩
        gi_wp2
        go_roundw
        case rel =>
          refine ⟨i + 1, by omega, by go_num, Lib.hid (keepT_t HB.out (keepT_below X1.out hsz)), ?_⟩
          rw [filter_miss f HX.out HL.out]
          exact HJ.out _ _ _ none HJs.out ⟨X1.out.os, X1.out.tape, X1.out.output, X1.out.size, fun k hk _ => X1.out.block k hk⟩ (fun _ e => by cases e)
        case measure => simp [intOf]; omega
      | true =>
        rw [hl] at HK
        have HL := Lib.hid hl
        clear hl
        have hlf : ((L.take i).filter f).length < 16 := by
          have h1 := List.length_filter_le f (L.take i)
          have h2 : (L.take i).length ≤ i := by simp; omega
          omega
        gi_wp2_with fail
        refine ⟨trivial, (fun h => (by cases h)), ?_⟩
        refine (callsIn_wide.2 HK.out).mono ?_
        rintro e w' ⟨rfl, B1⟩
        have X1 := Lib.hid (XB.out.trans (B1.mono XB.out.size))
        have g0 : w'.cell? ⟨wr.heap.size, 0, none⟩ = some (.int .i64 x.site) := HBX.out w' B1 0
        have g1 : w'.cell? ⟨wr.heap.size, 1, none⟩ = some (.int .u32 x.num) := HBX.out w' B1 1
        have g2 : w'.cell? ⟨wr.heap.size, 2, none⟩ = some (.string (bs x.path)) := HBX.out w' B1 2
        have g3 : w'.cell? ⟨wr.heap.size, 3, none⟩ = some (.bool x.kids) := HBX.out w' B1 3
        clear B1
        have hJ2 : J ((L.take i).filter f) w' := HJ.out _ _ _ none HJs.out ⟨X1.out.os, X1.out.tape, X1.out.output, X1.out.size, fun k hk _ => X1.out.block k hk⟩ (fun _ e => by cases e)
        obtain ⟨fn, tmps, assign, body, hy, hR⟩ := HY.out _ x _ hJ2 hlf
        have HR := Lib.hid hR
        clear hJ2 hR
        rw [HV.out] at hy
        gi_wp2_with fail
        refine ⟨(fun h => (by cases h)), ?_⟩
        refine HR.out.mono ?_
        rintro e W3 (⟨rfl, hJ3, hk3⟩ | ⟨rfl, hJx3⟩)
        · have HJ3 := Lib.hid hJ3
          have HK3 := Lib.hid (keepT_t (keepT_t HB.out (keepT_below X1.out hsz)) hk3)
          clear hJ3 hk3
          gi_wp2
          go_roundw
          case rel => exact ⟨i + 1, by omega, by go_num, HK3, by rw [filter_hit f HX.out HL.out]; exact HJ3.out⟩
          case measure => simp [intOf]; omega
        · gi_wp2
          refine bodyPost_ret (results_none rfl _ _ _) rfl ?_
          refine ⟨⟨_, rfl⟩, .inr ⟨_, ?_, hJx3⟩⟩
          rw [← filter_hit f HX.out HL.out]
          exact filter_pre f L (i + 1)
    · obtain rfl : i = N := by omega
      gi_wp2
      go_end0
      refine ⟨⟨_, rfl⟩, .inl ⟨_, rfl, ?_⟩⟩
      have h := hJs
      rw [HN.out, List.take_length] at h
      exact h
end Go.Proofs.YtfbimhbdifmeoaaDoor
