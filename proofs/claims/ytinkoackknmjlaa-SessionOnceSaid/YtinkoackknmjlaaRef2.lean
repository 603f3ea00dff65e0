/-
  The reference's table: Live, Close, Learn, Open.
-/
import Derived.Test.YtinkoackknmjlaaRef
namespace Go.Proofs.Ytinkoackknmjlaa
open Go.RowKit Go.MapKept Go.ChangeMaps Go.Shelf
open Go.Maps (Keyed)

set_option maxHeartbeats 1000000 in
theorem rlive_any (rb : Nat) (s n m : Int) (base : Nat) (v : Value) (l : List (Int × Int)) (w : World) (h : RTab w rb base s n v l) (hlen : l.length ≤ 200) :
    Calls Try.prog 18 #[.pointer (some ⟨rb, 0, none⟩), .int .u32 m] w fun e w' => e = .returned (.bool (liveB s n l m)) ∧ Kept Nothing w w' := by
  have h0 := h.c0
  have h1 := h.c1
  have hG := fun q : Nat => rgone_any rb s n base v l s m (w.drewN q) (h.kept (S := Nothing) ((Kept.refl _ w).drewN q) (fun e => e) (fun _ _ e => e)) hlen
  have hLB : liveB s n l m = (decide (0 < m) && decide (m ≤ n) && !(l.contains (s, m))) := rfl
  generalize l.contains (s, m) = c at hG hLB
  have HG := Lib.hid hG
  have HLB := Lib.hid hLB
  clear h hG hLB
  by_cases hp : 0 < m
  · have hp' : decide ((1 : Int) ≤ m) = true := by simp; omega
    by_cases hq : m ≤ n
    · have hq' : decide (m ≤ n) = true := by simpa using hq
      have HF : Hid (liveB s n l m = !c) := by show liveB s n l m = _; rw [HLB.out]; simp [hp, hq]
      clear hp hq
      go_enter Try.func18, Try.ntmps18
      go_wp2_with fail
      refine (HG.out 0).mono ?_
      rintro e w1 ⟨rfl, K1⟩
      go_wp2
      go_ret
      exact ⟨by rw [HF.out]; rfl, ((Kept.refl _ w).drewN 0).trans K1⟩
    · have hq' : decide (m ≤ n) = false := by simpa using hq
      have HF : Hid (liveB s n l m = false) := by show liveB s n l m = _; rw [HLB.out]; simp; intro _ h; omega
      clear hp hq
      go_enter Try.func18, Try.ntmps18
      go_wp2
      go_ret
      exact ⟨by rw [HF.out]; rfl, Kept.refl _ w⟩
  · have hp' : decide ((1 : Int) ≤ m) = false := by simp; omega
    have HF : Hid (liveB s n l m = false) := by show liveB s n l m = _; rw [HLB.out]; simp; intro h; omega
    clear hp
    go_enter Try.func18, Try.ntmps18
    go_wp2
    go_ret
    exact ⟨by rw [HF.out]; rfl, Kept.refl _ w⟩

set_option maxHeartbeats 1000000 in
theorem rclose_no (rb : Nat) (s n m : Int) (base : Nat) (v : Value) (l : List (Int × Int)) (w : World) (h : RTab w rb base s n v l) (hlen : l.length ≤ 200) (hl : liveB s n l m = false) :
    Calls Try.prog 10 #[.pointer (some ⟨rb, 0, none⟩), .int .u32 m] w fun e w' => e = .returned (.int .i64 63) ∧ Kept Nothing w w' := by
  have HL := rlive_any rb s n m base v l w h hlen
  rw [hl] at HL
  have HL := Lib.hid HL
  go_enter Try.func10, Try.ntmps10
  go_wp2_with fail
  refine HL.out.mono ?_
  rintro e w1 ⟨rfl, K1⟩
  go_wp2
  go_ret
  exact ⟨rfl, K1⟩

set_option maxHeartbeats 1000000 in
theorem rlearn_no (rb : Nat) (s n x y : Int) (base : Nat) (v : Value) (l : List (Int × Int)) (w : World) (h : RTab w rb base s n v l) (hy : x = s ∨ y = 0) :
    Calls Try.prog 12 #[.pointer (some ⟨rb, 0, none⟩), .agg #[.int .i64 x, .int .u32 y]] w fun e w' => e = .returned (.tuple #[]) ∧ Kept Nothing w w' := by
  have h0 := h.c0
  have hlt := h.lt
  clear h
  by_cases hx : x = s
  · subst hx
    have hd : (x != x) = false := by simp
    clear hy
    go_enter Try.func12, Try.ntmps12
    go_wp2
    go_quiet (fail)
    go_wp2
    go_end0
    exact ⟨rfl, ((Kept.refl _ w).alloc _).drewN _⟩
  · obtain rfl := hy.resolve_left hx
    have hd : (x != s) = true := by simpa using hx
    clear hy hx
    go_enter Try.func12, Try.ntmps12
    go_wp2
    go_quiet (fail)
    go_wp2
    go_end0
    exact ⟨rfl, ((Kept.refl _ w).alloc _).drewN _⟩

set_option maxHeartbeats 1000000 in
theorem rlearn_yes (rb : Nat) (s n x y : Int) (base : Nat) (v : Value) (l : List (Int × Int)) (w : World) (h : RTab w rb base s n v l) (hlen : l.length ≤ 200) (hb : base ≤ w.heap.size) (hx : x ≠ s) (hy : y ≠ 0) :
    Calls Try.prog 12 #[.pointer (some ⟨rb, 0, none⟩), .agg #[.int .i64 x, .int .u32 y]] w fun e w' => e = .returned (.tuple #[]) ∧ ∃ v', RTab w' rb base s n v' (l ++ [(x, y)]) ∧ Kept (fun k => k = rb ∨ v.ownBlock = some k) w w' ∧ (∀ k, v'.ownBlock = some k → v.ownBlock = some k ∨ w.heap.size ≤ k) := by
  obtain ⟨i0, hi, hz0, hz1, hz2⟩ := info_parts Try.info31
  have h0 := h.c0
  have hlt := h.lt
  have hd : (x != s) = true := by simpa using hx
  have hd2 : (y != 0) = true := by simpa using hy
  have HH := Lib.hid h
  clear h hx hy
  go_enter Try.func12, Try.ntmps12
  go_wp2
  go_quiet (fail)
  obtain ⟨w1, hw1⟩ : ∃ w1, (w.alloc (.cells #[.int .i64 x, .int .u32 y] 31)).drewN nq = w1 := ⟨_, rfl⟩
  have K1 : Kept Nothing w w1 := hw1 ▸ ((Kept.refl _ w).alloc _).drewN _
  have h1 : RTab w1 rb base s n v l := HH.out.kept K1 (fun e => e) (fun _ _ e => e)
  have hb1 : base ≤ w1.heap.size := Nat.le_trans hb K1.size
  have q0 : w1.cell? ⟨w.heap.size, 0, none⟩ = some (.int .i64 x) := by rw [← hw1]; show (w.alloc _).cell? _ = _; unfold World.cell?; rw [World.alloc_heap_new]; rfl
  have q1 : w1.cell? ⟨w.heap.size, 1, none⟩ = some (.int .u32 y) := by rw [← hw1]; show (w.alloc _).cell? _ = _; unfold World.cell?; rw [World.alloc_heap_new]; rfl
  have hs1 : w.heap.size < w1.heap.size := by rw [← hw1]; simp
  rw [hw1]
  have KK := Lib.hid K1
  have H1 := Lib.hid h1
  have c2 := h1.c2
  have hrow := h1.row
  have hlt1 := h1.lt
  clear K1 h1 hw1 HH
  go_wp2
  go_region_law (refine step_append_new rfl (.tmp 20) (.tmp 22) 27 rfl base 31 i0 (.agg #[.int .i64 0, .int .u32 0]) 2 16 Try.underlying27 hi hz0 hz1 hz2 rfl (by decide) v l.length (l.flatMap pc) (by simp [Act.eval, Act.put]) ((hrow.drew).alloc _) ⟨w1.heap.size, 0, none⟩ 1 1 (pc (x, y)) (by simp [Act.eval, Act.put]) rfl (cell_two_new _ _ _ _) (by simp [pc, Value.oneCell']) (by unfold maxLen; omega) (by omega) (by simp; omega) ?_; intro v' w2 hown' hgrow hwhere; obtain ⟨g', cap', rfl⟩ := own_succ hown'; obtain ⟨d2, df, dR, dK⟩ := H1.out.pushed (x, y) _ hown' hgrow)
  all_goals
    go_wp2
    go_end0
    exact ⟨rfl, _, dR, (KK.out.mono (fun _ _ e => e.elim)).trans (dK.mono fun k hk e => e), fun k e => (hwhere k e).imp id (fun h => by have := KK.out.size; simp [World.drew] at h; omega)⟩

theorem ropen_full (rb : Nat) (s : Int) (base : Nat) (v : Value) (l : List (Int × Int)) (w : World) (h : RTab w rb base s 32 v l) :
    Calls Try.prog 14 #[.pointer (some ⟨rb, 0, none⟩)] w fun e w' => e = .returned (.tuple #[.int .u32 0, .int .i64 4]) ∧ w' = w := by
  have h1 := h.c1
  clear h
  go_enter Try.func14, Try.ntmps14
  go_wp2
  go_ret2
  exact ⟨rfl, rfl⟩
theorem ropen_ok (rb : Nat) (s n : Int) (base : Nat) (v : Value) (l : List (Int × Int)) (w : World) (h : RTab w rb base s n v l) (hn : n < 32) (h0 : 0 ≤ n) :
    Calls Try.prog 14 #[.pointer (some ⟨rb, 0, none⟩)] w fun e w' => e = .returned (.tuple #[.int .u32 (n+1), .int .i64 0]) ∧ RTab w' rb base s (n + 1) v l ∧ Kept (fun k => k = rb) w w' := by
  have h1 := h.c1
  have hf := h.f 1
  have hlt := h.lt
  have hd : (n == 32) = false := by simp; omega
  have hK : Kept (fun k => k = rb) w (w.setCell ⟨rb, 1, none⟩ (.int .u32 (n+1))) := (Kept.refl (fun k => k = rb) w).setCell (p := ⟨rb, 1, none⟩) rfl _
  have hT : RTab (w.setCell ⟨rb, 1, none⟩ (.int .u32 (n+1))) rb base s (n + 1) v l := by
    refine ⟨?_, ownsRow_setCell_other h.row h.notOwn _⟩
    have h' : w.heap[rb] = .cells #[.int .i64 s, .int .u32 n, v] 29 (0, 0) := by simpa [Array.getElem?_eq_getElem hlt] using h.blk
    show (w.heap.modify rb _)[rb]? = _
    rw [Array.getElem?_eq_getElem (by simpa using hlt), Array.getElem_modify_self, h']
    rfl
  have HT := Lib.hid (And.intro hT hK)
  clear hT hK h
  go_enter Try.func14, Try.ntmps14
  go_wp2
  go_ret2
  exact ⟨rfl, HT.out⟩
end Go.Proofs.Ytinkoackknmjlaa
