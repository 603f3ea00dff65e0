/-
  The session table's live sessions, rising: the iterator, and Lives, which collects them.
-/
import Derived.Test.YtinkoackknmjlaaTwo
import Derived.RangeFuncBox
import Derived.RangeFuncLeaves
import Derived.RangeFuncCalls
import Derived.Shelf.Abstract
import Derived.OwnWalkIn
import Derived.TacticsInMore
import Derived.LoopNIn
import Derived.LoopIn
import Derived.Maps.AppendAt
namespace Go.Proofs.Ytinkoackknmjlaa
open Go.RowKit Go.MapKept Go.ChangeMaps Go.Shelf
open Go.Maps (Keyed)

attribute [local go_sem] Oper.semAt_some

/-- The live ones of 1 .. k, rising. -/
def liveUp (s n : Int) (g : List (Int × Int)) (k : Nat) : List Int := ((List.range k).map (fun i : Nat => ((i : Int) + 1))).filter (liveB s n g)
theorem liveUp_hit {s n : Int} {g : List (Int × Int)} {k : Nat} (h : liveB s n g ((k : Int) + 1) = true) : liveUp s n g (k + 1) = liveUp s n g k ++ [(k : Int) + 1] := by
  simp [liveUp, List.range_succ, h]
theorem liveUp_miss {s n : Int} {g : List (Int × Int)} {k : Nat} (h : liveB s n g ((k : Int) + 1) = false) : liveUp s n g (k + 1) = liveUp s n g k := by
  simp [liveUp, List.range_succ, h]
theorem liveUp_len (s n : Int) (g : List (Int × Int)) (k : Nat) : (liveUp s n g k).length ≤ k := by
  have := List.length_filter_le (liveB s n g) ((List.range k).map (fun i : Nat => ((i : Int) + 1)))
  simpa [liveUp] using this
theorem liveUp_pre (s n : Int) (g : List (Int × Int)) (k : Nat) : ∀ d, ∃ r, liveUp s n g (k + d) = liveUp s n g k ++ r
  | 0 => ⟨[], by simp⟩
  | d + 1 => by
    obtain ⟨r, hr⟩ := liveUp_pre s n g k d
    cases h : liveB s n g (((k + d : Nat) : Int) + 1) with
    | true => exact ⟨r ++ [((k + d : Nat) : Int) + 1], by rw [← Nat.add_assoc, liveUp_hit h, hr, List.append_assoc]⟩
    | false => exact ⟨r, by rw [← Nat.add_assoc, liveUp_miss h, hr]⟩

/-- What a round keeps: whatever lay below n₀, and the box Bn. -/
structure KeepsBox (n₀ Bn : Nat) (W W' : World) : Prop where
  below : Below n₀ W W'
  box : ∀ v, Boxed W Bn 23 v → Boxed W' Bn 23 v
theorem keepsBox_t {n₀ Bn : Nat} {A B C : World} (h : KeepsBox n₀ Bn A B) (k : KeepsBox n₀ Bn B C) : KeepsBox n₀ Bn A C := ⟨h.below.trans k.below, fun v hv => k.box v (h.box v hv)⟩
theorem keepsBox_b {n₀ Bn : Nat} {w : World} (hB : n₀ ≤ w.heap.size) (W : World) (l : Nat) (o o' : Obj) (hl : w.heap.size ≤ l) (ho : W.heap[l]? = some o) (hc : o.isCells = false) (hw : o.isWalk = false) : KeepsBox n₀ Bn W (W.putObj l o') :=
  ⟨belowK_b hB W l o o' hl ho hc hw, fun v hv => (World.putObj_heap_other (fun e => by
    have h1 : W.heap[Bn]? = some (.cells #[v] 23 (0, 0)) := hv
    subst e
    rw [h1] at ho
    cases ho
    cases hc)).trans hv⟩

set_option maxHeartbeats 1000000 in
theorem seq_nil (n l Bn : Nat) (J Jx : List Int → World → Prop) (W : World) (hBn : W.cell? ⟨Bn, 0, none⟩ = some (.pointer none)) (h0 : J [] W) :
    CallsIn Fence.wide n Try.prog 22 #[.func (.yield l) #[] #[], .pointer (some ⟨Bn, 0, none⟩)] W fun e W' => (∃ v, e = .returned v) ∧
      ((∃ ys, ys = ([] : List Int) ∧ J ys W') ∨ (∃ pre, pre <+: ([] : List Int) ∧ Jx pre W')) := by
  refine callsIn_of_wp Try.func22 rfl trivial ?_ rfl
  simp only [Try.ntmps22, List.size_toArray, List.length_cons, List.length_nil, Nat.reduceAdd, Nat.reduceSub, Array.replicate_succ, Array.replicate_zero, List.push_toArray, List.append_toArray, List.nil_append, List.cons_append]
  gi_wp2
  gi_loopw [3] (fun p wr => p = .int .u32 1 ∧ wr = W) (fun _ _ => 0)
  case atStart => exact ⟨rfl, rfl⟩
  case round =>
    obtain ⟨rfl, rfl⟩ := hrel
    gi_wp2
    go_end0
    exact ⟨⟨_, rfl⟩, .inl ⟨[], rfl, h0⟩⟩

set_option maxHeartbeats 1000000 in
theorem seq_any (n l Bn n₀ b mb : Nat) (s : Int) (k : Nat) (g : List (Int × Int)) (hs : I64 s) (hk : k ≤ 32) (hb : b < n₀) (hmb : mb < n₀) (J Jx : List Int → World → Prop) 
    (hY : ∀ pre x W, J pre W → pre.length < 32 → YieldAt Fence.wide (n - 1) Try.prog l #[.int .u32 x] W fun e W' =>
      (e = .returned (.bool true) ∧ J (pre ++ [x]) W' ∧ KeepsBox n₀ Bn W W') ∨ (e = .returned (.bool false) ∧ Jx (pre ++ [x]) W'))
    (W : World) (hJ : AbidesFrom W.heap.size J) (hBn : Boxed W Bn 23 (.pointer (some ⟨b, 0, none⟩))) (hT : STab W b mb s k g) (h0 : J [] W) :
    CallsIn Fence.wide n Try.prog 22 #[.func (.yield l) #[] #[], .pointer (some ⟨Bn, 0, none⟩)] W fun e W' => (∃ v, e = .returned v) ∧
      ((∃ ys, ys = liveUp s k g k ∧ J ys W') ∨ (∃ pre, pre <+: liveUp s k g k ∧ Jx pre W')) := by
  refine callsIn_of_wp Try.func22 rfl trivial ?_ rfl
  simp only [Try.ntmps22, List.size_toArray, List.length_cons, List.length_nil, Nat.reduceAdd, Nat.reduceSub, Array.replicate_succ, Array.replicate_zero, List.push_toArray, List.append_toArray, List.nil_append, List.cons_append]
  gi_wp2
  gi_loopw [3] (fun p wr => ∃ i : Nat, i ≤ k ∧ p = .int .u32 ((i : Int) + 1) ∧ KeepsBox n₀ Bn W wr ∧ J (liveUp s k g i) wr)
    (fun p _ => k + 1 - (intOf p).toNat)
  case atStart =>
    exact ⟨0, by omega, rfl, ⟨Below.refl _ _, fun _ h => h⟩, h0⟩
  case round =>
    obtain ⟨i, hi, rfl, hB, hJs⟩ := hrel
    have hc := (hB.box _ hBn).cell
    have hT2 : STab wr b mb s k g := ⟨(hB.below.block b hb).trans hT.blk, hT.mp.of_block (hB.below.block mb hmb)⟩
    have h1 := hT2.c1
    by_cases hlt : i < k
    · have hc1 : decide (((i : Int) + 1) ≤ (k : Int)) = true := by simp; omega
      cases hl : liveB s k g ((i : Int) + 1) with
      | false =>
        have HL := live_any b mb s k ((i : Int) + 1) g wr hT2 hs ⟨by omega, by omega⟩
        rw [hl] at HL
        have HL' := Lib.hid HL
        have hhl := Lib.hid hl
        clear HL hl
        gi_wp2_with fail
        refine ⟨trivial, (fun h => (by cases h)), ?_⟩
        refine (callsIn_wide.2 HL'.out).mono ?_
        rintro e w' ⟨rfl, q, rfl⟩
        gi_wp2
        refine ⟨(fun _ h => (by cases h)), ?_⟩
        gi_wp2
        go_roundw
        case rel => exact ⟨i + 1, by omega, by go_num, ⟨below_drewN hB.below q, hB.box⟩, by rw [liveUp_miss hhl.out]; exact hJ _ _ _ none hJs ⟨rfl, rfl, rfl, Nat.le_refl _, fun _ _ _ => rfl⟩ (fun _ e => by cases e)⟩
        case measure => simp [intOf]; omega
      | true =>
        have HL := live_any b mb s k ((i : Int) + 1) g wr hT2 hs ⟨by omega, by omega⟩
        rw [hl] at HL
        have HL' := Lib.hid HL
        have hhl := Lib.hid hl
        clear HL hl
        have hlen := liveUp_len s k g i
        gi_wp2_with fail
        refine ⟨trivial, (fun h => (by cases h)), ?_⟩
        refine (callsIn_wide.2 HL'.out).mono ?_
        rintro e w' ⟨rfl, q, rfl⟩
        have hJ2 : J (liveUp s k g i) (wr.drewN q) := hJ _ _ _ none hJs ⟨rfl, rfl, rfl, Nat.le_refl _, fun _ _ _ => rfl⟩ (fun _ e => by cases e)
        obtain ⟨fn, tmps, assign, body, hy, hR⟩ := hY _ ((i : Int) + 1) _ hJ2 (by omega)
        gi_wp2_with fail
        refine ⟨(fun h => (by cases h)), ?_⟩
        refine hR.mono ?_
        rintro e W3 (⟨rfl, hJ3, hk3⟩ | ⟨rfl, hJx3⟩)
        · gi_wp2
          go_roundw
          case rel => exact ⟨i + 1, by omega, by go_num, ⟨(below_drewN hB.below q).trans hk3.below, fun v hv => hk3.box v (hB.box v hv)⟩, by rw [liveUp_hit hhl.out]; exact hJ3⟩
          case measure => simp [intOf]; omega
        · gi_wp2
          refine bodyPost_ret (results_none rfl _ _ _) rfl ?_
          obtain ⟨r, hr⟩ := liveUp_pre s k g (i + 1) (k - (i + 1))
          rw [show i + 1 + (k - (i + 1)) = k by omega, liveUp_hit hhl.out] at hr
          exact ⟨⟨_, rfl⟩, .inr ⟨_, ⟨r, hr.symm⟩, hJx3⟩⟩
    · have hc1 : decide (((i : Int) + 1) ≤ (k : Int)) = false := by simp; omega
      gi_wp2
      go_end0
      obtain rfl : i = k := by omega
      exact ⟨⟨_, rfl⟩, .inl ⟨_, rfl, hJs⟩⟩

theorem Try.info26 : (Try.prog.info? 26).map (fun i => (i.zero, i.size, i.bytes)) = some (some (.int .u32 0), 1, 4) := by kernel_rfl

theorem live_make (p : Option Addr) (w : World) :
    Calls Try.prog 21 #[.pointer p] w fun e w' => e = .returned (.func (.func 22) #[] #[.pointer (some ⟨w.heap.size, 0, none⟩)]) ∧ w' = w.alloc (.cells #[.pointer p] 23) := by
  go_enter Try.func21, Try.ntmps21
  go_wp2
  go_ret
  exact ⟨rfl, rfl⟩

set_option maxRecDepth 100000 in
set_option maxHeartbeats 2000000 in
/-- Lives, over whatever the iterator tells. -/
theorem lives_of (p : Option Addr) (xs : List Int) (hlen : xs.length ≤ 32) (w : World)
    (hseq : ∀ (o : Value) (W : World), W = (w.alloc (.cells #[o] 41)).alloc (.cells #[.pointer p] 23) →
      SeqStopsK Fence.wide 1 Try.prog 22 #[.pointer (some ⟨w.heap.size + 1, 0, none⟩)] (fun x : Int => #[Value.int .u32 x]) (KeepsBox w.heap.size (w.heap.size + 1)) (fun ys => ys = xs) (fun pre => pre <+: xs) 32 W) :
    Calls Try.prog 19 #[.pointer p] w fun e W' => ∃ v, e = .returned v ∧ W'.ownsRow w.heap.size 26 1 v xs.length (xs.map (Value.int .u32)) ∧ Below w.heap.size w W' := by
  obtain ⟨i0, hi, hz0, hz1, hz2⟩ := info_parts Try.info26
  refine (callsIn_wide (n := 2)).1 ?_
  refine callsIn_of_wp_marks Try.func19 rfl trivial ?_ rfl
  simp only [Try.ntmps19, List.size_toArray, List.length_cons, List.length_nil, Nat.reduceAdd, Nat.reduceSub, Array.replicate_succ, Array.replicate_zero, List.push_toArray, List.append_toArray, List.nil_append, List.cons_append]
  gi_wp2_with fail
  refine ⟨trivial, ?_⟩
  refine (callsIn_wide.2 (live_make p _)).mono ?_
  rintro e w' ⟨rfl, rfl⟩
  gi_wp2
  have bO := Boxed.new w 41 (.slice none 0 0)
  have bN := Boxed.new (w.alloc (.cells #[.slice none 0 0] 41)) 23 (.pointer p)
  rw [World.size_alloc] at bN
  have hB0 : Below w.heap.size w ((w.alloc (.cells #[.slice none 0 0] 41)).alloc (.cells #[.pointer p] 23)) := ((Below.refl _ w).alloc (Nat.le_refl _) _).alloc (by simp) _
  refine wpIn_rangeFunc_ownG (α := Int) rfl (by omega) (gf := 22) (lb := #[.pointer (some ⟨w.heap.size + 1, 0, none⟩)]) rfl trivial (enters_of Try.func22 (by kernel_rfl) rfl)
    (hseq _ _ rfl) keepsBox_t (keepsBox_b (by simp; omega)) (Below.refl _ _) (fun _ => rfl)
    (fun pre W => (∃ v, Boxed W w.heap.size 41 v ∧ W.ownsRow w.heap.size 26 1 v pre.length (pre.map (Value.int .u32)) ∧ True) ∧ Below w.heap.size w W)
    (fun _ _ _ => False)
    (OwnFrom.and (Own.from (holdsRow_own w.heap.size w.heap.size 41 26 1 (fun pre : List Int => pre.length) (fun pre => pre.map (Value.int .u32)) (fun _ _ => True)) _) (ownFrom_below (Nat.le_refl _) (by simp; omega)))
    (fun _ _ _ _ _ hs _ _ => hs)
    ⟨⟨_, bO.alloc _, World.ownsRow_nil _ _ _ _, trivial⟩, hB0⟩
    (fun x => { tmps := #[.pointer p, undef, .slice none 0 0, .pointer (some ⟨w.heap.size, 0, none⟩), .int .u32 x, .pointer p, .func (.func 22) #[] #[.pointer (some ⟨w.heap.size + 1, 0, none⟩)], .int .u32 x, undef, undef, undef, undef, undef], defers := [] }) ?assign ?body ?done ?stop
  case assign =>
    intro l x W K hK
    gi_wp2
    exact hK
  case body =>
    rintro l pre x W ⟨⟨v, hv, hrow, _⟩, hB⟩ hlt
    have hc := hv.cell
    gi_wp2_with (gi_at_builtin; refine wpListIn_append_own _ rfl _ _ 41 rfl w.heap.size 26 i0 (.int .u32 0) 1 4 Try.underlying41 hi hz0 hz1 hz2 rfl (by decide) _ _ _ rfl (hrow.alloc _) ⟨W.heap.size, 0, none⟩ 1 1 [.int .u32 x] rfl rfl (cell_one_new _ _ _) (by simp [Value.oneCell']) (by unfold maxLen; omega) (by omega) (by have := hB.size; simp; omega) ?_; intro v' w1 hown' hgrow _; obtain ⟨g', cap', rfl⟩ := ownsRow_succ hown'; obtain ⟨hv1, hv2, hr2, hk2, hb2⟩ := hv.appended (by decide) hrow hB.size (Nat.le_refl _) hown' hgrow; have hc1 := hv1.cell; have hf1 := hv1.frozen)
    have hbox : ∀ u, Boxed W (w.heap.size + 1) 23 u → Boxed (w1.setCell ⟨w.heap.size, 0, none⟩ (.slice (some ⟨g', 0, none⟩) (pre.length + 1) cap')) (w.heap.size + 1) 23 u := fun u hu =>
      ((hu.alloc _).kept hgrow (hu.not_row (by decide) hrow)).kept (grownBy_setCell' _ _ _) (by simp)
    exact ⟨hk2.from _, ⟨hb2, hbox⟩, ⟨_, hv2, by simpa using hr2, trivial⟩, hB.trans hb2⟩
  case done =>
    rintro D ys W hD rfl ⟨⟨v, hv, hrow, _⟩, hB⟩ hK
    have hc := hv.cell
    gi_wp2
    refine ⟨by simp, .inl ⟨_, _, rfl, run_takeDeferred hK, ?_⟩⟩
    exact ⟨_, results_tmp rfl _ _ _, v, rfl, ownsRow_putObj hrow _ hK rfl, hB.trans (belowK_b (w := w) (Nat.le_refl _) W D _ _ (by simp at hD; omega) hK rfl rfl)⟩
  case stop =>
    rintro D c pre W _ _ h _
    exact h.elim

theorem lives_nil (w : World) : Calls Try.prog 19 #[.pointer none] w fun e W' => ∃ v, e = .returned v ∧ W'.ownsRow w.heap.size 26 1 v 0 [] ∧ Below w.heap.size w W' :=
  lives_of none [] (by simp) w fun o W hW l J Jx W2 hW2 _ _ _ h0 => by
    subst hW
    have hc := (Boxed.new (w.alloc (.cells #[o] 41)) 23 (.pointer none)).cell
    rw [World.size_alloc] at hc
    exact seq_nil 1 l _ J Jx W2 ((hW2.cell (p := ⟨w.heap.size + 1, 0, none⟩) (by simp)).trans hc) h0

theorem lives_any (b mb : Nat) (s : Int) (k : Nat) (g : List (Int × Int)) (w : World) (h : STab w b mb s k g) (hs : I64 s) (hk : k ≤ 32) :
    Calls Try.prog 19 #[.pointer (some ⟨b, 0, none⟩)] w fun e W' => ∃ v, e = .returned v ∧ W'.ownsRow w.heap.size 26 1 v (liveUp s k g k).length ((liveUp s k g k).map (Value.int .u32)) ∧ Below w.heap.size w W' :=
  lives_of _ (liveUp s k g k) (by have := liveUp_len s k g k; omega) w fun o W hW l J Jx W2 hW2 hJ _ hY h0 => by
    subst hW
    have hc := (Boxed.new (w.alloc (.cells #[o] 41)) 23 (.pointer (some ⟨b, 0, none⟩))).cell
    rw [World.size_alloc] at hc
    have hB : Below w.heap.size w W2 := (((Below.refl _ w).alloc (Nat.le_refl _) _).alloc (by simp) _).trans (hW2.mono (by simp; omega))
    have hlt := h.lt
    have hltm := h.mp.lt
    have hbx : Boxed W2 (w.heap.size + 1) 23 (.pointer (some ⟨b, 0, none⟩)) := by
      have := Boxed.new (w.alloc (.cells #[o] 41)) 23 (.pointer (some ⟨b, 0, none⟩))
      rw [World.size_alloc] at this
      exact (hW2.block (w.heap.size + 1) (by simp)).trans this
    exact seq_any 1 l _ w.heap.size b mb s k g hs hk hlt hltm J Jx hY W2 hJ hbx ⟨(hB.block b hlt).trans h.blk, h.mp.of_block (hB.block mb hltm)⟩ h0
end Go.Proofs.Ytinkoackknmjlaa
