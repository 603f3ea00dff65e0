/-
  The session table's contracts: Open, Close, Learn.
-/
import Derived.Test.YtinkoackknmjlaaOne
namespace Go.Proofs.Ytinkoackknmjlaa
open Go.RowKit Go.MapKept Go.ChangeMaps
open Go.Maps (Keyed)

def addS (a : Int × Int) (g : List (Int × Int)) : List (Int × Int) := if g.contains a then g else g ++ [a]
theorem putA_true (a : Int × Int) : ∀ g : List (Int × Int), putA a true (g.map (·, true)) = (addS a g).map (·, true)
  | [] => by simp [putA, addS]
  | p :: r => by
    simp only [List.map_cons, putA]
    by_cases h : p = a
    · simp [h, addS]
    · have h' : (a == p) = false := by simpa using fun e => h e.symm
      simp only [if_neg h]
      rw [putA_true a r]
      simp only [addS, List.contains_cons, h', Bool.false_or]
      split <;> simp
section
variable {w : World} {b mb : Nat} {s n : Int} {g : List (Int × Int)}
theorem STab.store (h : STab w b mb s n g) {x y : Int} (h1 : I64 x) (h2 : U32 y) :
    ∃ o, ∀ w' : World, w'.heap[b]? = w.heap[b]? → w'.heap[mb]? = w.heap[mb]? → (Instr.mapUpdate 46 (.map (some mb)) (.agg #[.int .i64 x, .int .u32 y]) (.bool true)).run Try.prog w' = .ok () (setBlock w' mb o) ∧
      STab (setBlock w' mb o) b mb s n (addS (x, y) g) ∧ Kept (· = mb) w' (setBlock w' mb o) := by
  obtain ⟨l, hl⟩ := sk_key (p := (x, y)) h1 h2
  obtain ⟨o, ho⟩ := h.mp.update Try.law31 sk_inj Try.underlying46 true hl
  refine ⟨o, fun w' hb hmb => ?_⟩
  obtain ⟨h3, h4⟩ := ho w' hmb
  have hlt : mb < w'.heap.size := by
    obtain ⟨es, c, h5, _⟩ := h.mp
    exact lt_of_block (hmb.trans h5)
  have hk := kept_setBlock hlt o
  refine ⟨h3, ⟨hk.same (hb.trans h.blk) h.ne, ?_⟩, hk⟩
  rw [← putA_true]
  exact h4
end

set_option maxHeartbeats 400000 in
theorem close_nil (m : Int) (w : World) :
    Calls Try.prog 9 #[.pointer none, .int .u32 m] w fun e w' => e = .returned (.int .i64 8) ∧ w' = w := by
  go_enter Try.func9, Try.ntmps9
  go_wp2
  go_ret
  exact ⟨rfl, rfl⟩

set_option maxHeartbeats 400000 in
theorem close_no (b mb : Nat) (s n m : Int) (g : List (Int × Int)) (w : World) (h : STab w b mb s n g) (hs : I64 s) (hm : U32 m) (hl : liveB s n g m = false) :
    Calls Try.prog 9 #[.pointer (some ⟨b, 0, none⟩), .int .u32 m] w fun e w' => e = .returned (.int .i64 63) ∧ ∃ k, w' = w.drewN k := by
  go_enter Try.func9, Try.ntmps9
  go_wp2_with fail
  refine (live_any b mb s n m g w h hs hm).mono ?_
  rintro e w' ⟨rfl, k, rfl⟩
  rw [hl]
  go_wp2
  go_ret
  exact ⟨rfl, _, rfl⟩

set_option maxHeartbeats 400000 in
theorem close_yes (b mb : Nat) (s n m : Int) (g : List (Int × Int)) (w : World) (h : STab w b mb s n g) (hs : I64 s) (hm : U32 m) (hl : liveB s n g m = true) :
    Calls Try.prog 9 #[.pointer (some ⟨b, 0, none⟩), .int .u32 m] w fun e w' => e = .returned (.int .i64 0) ∧ STab w' b mb s n (addS (s, m) g) ∧ Kept (· = mb) w w' := by
  obtain ⟨o, ho⟩ := h.store hs hm
  have ho2 : ∀ k, (Instr.mapUpdate 46 (.map (some mb)) (.agg #[.int .i64 s, .int .u32 m]) (.bool true)).run Try.prog (w.drewN k) = .ok () (setBlock (w.drewN k) mb o) := fun k => (ho (w.drewN k) rfl rfl).1
  have ho3 : ∀ k, STab (setBlock (w.drewN k) mb o) b mb s n (addS (s, m) g) ∧ Kept (· = mb) (w.drewN k) (setBlock (w.drewN k) mb o) := fun k => (ho (w.drewN k) rfl rfl).2
  have H3 := Lib.hid ho3
  have h0 := h.c0
  have h2 := h.c2
  have HL := live_any b mb s n m g w h hs hm
  rw [hl] at HL
  have HL' := Lib.hid HL
  clear ho ho3 h hl HL
  go_enter Try.func9, Try.ntmps9
  go_wp2_with fail
  refine HL'.out.mono ?_
  rintro e w' ⟨rfl, k, rfl⟩
  go_wp2
  go_region
  all_goals
    go_wp2
    go_ret
    obtain ⟨g1, g2⟩ := H3.out (k + 1)
    exact ⟨rfl, g1, (((Kept.refl _ w).drewN _).trans g2)⟩

set_option maxHeartbeats 400000 in
theorem learn_nil (x y : Int) (w : World) :
    Calls Try.prog 11 #[.pointer none, .agg #[.int .i64 x, .int .u32 y]] w fun e w' => e = .returned (.tuple #[]) ∧ Kept Nothing w w' := by
  go_enter Try.func11, Try.ntmps11
  go_wp2
  go_quiet (fail)
  go_wp2
  go_end0
  exact ⟨rfl, ((Kept.refl _ w).alloc _).drewN _⟩

set_option maxHeartbeats 400000 in
theorem learn_no (b mb : Nat) (s n : Int) (g : List (Int × Int)) (x y : Int) (w : World) (h : STab w b mb s n g) (hy : x = s ∨ ¬ 0 < y) :
    Calls Try.prog 11 #[.pointer (some ⟨b, 0, none⟩), .agg #[.int .i64 x, .int .u32 y]] w fun e w' => e = .returned (.tuple #[]) ∧ Kept Nothing w w' := by
  have h0 := h.c0
  have hlt := h.lt
  clear h
  by_cases hx : x = s
  · subst hx
    have hd : (x != x) = false := by simp
    clear hy
    go_enter Try.func11, Try.ntmps11
    go_wp2
    go_quiet (fail)
    go_wp2
    go_end0
    exact ⟨rfl, ((Kept.refl _ w).alloc _).drewN _⟩
  · have hd : (x != s) = true := by simpa using hx
    have hd2 : decide (0 < y) = false := by simpa using hy.resolve_left hx
    clear hy hx
    go_enter Try.func11, Try.ntmps11
    go_wp2
    go_quiet (fail)
    go_wp2
    go_end0
    exact ⟨rfl, ((Kept.refl _ w).alloc _).drewN _⟩

set_option maxHeartbeats 400000 in
theorem learn_yes (b mb : Nat) (s n : Int) (g : List (Int × Int)) (x y : Int) (w : World) (h : STab w b mb s n g) (h1 : I64 x) (h2 : U32 y) (hx : x ≠ s) (hy : 0 < y) :
    Calls Try.prog 11 #[.pointer (some ⟨b, 0, none⟩), .agg #[.int .i64 x, .int .u32 y]] w fun e w' => e = .returned (.tuple #[]) ∧ STab w' b mb s n (addS (x, y) g) ∧ Kept (· = mb) w w' := by
  obtain ⟨o, ho⟩ := h.store h1 h2
  have hlt := h.lt
  have hltm := h.mp.lt
  have ho2 : ∀ (u : Obj) k, (Instr.mapUpdate 46 (.map (some mb)) (.agg #[.int .i64 x, .int .u32 y]) (.bool true)).run Try.prog ((w.alloc u).drewN k) = .ok () (setBlock ((w.alloc u).drewN k) mb o) :=
    fun u k => (ho ((w.alloc u).drewN k) (Below.heap_alloc _ _ _ hlt) (Below.heap_alloc _ _ _ hltm)).1
  have ho3 : ∀ (u : Obj) k, STab (setBlock ((w.alloc u).drewN k) mb o) b mb s n (addS (x, y) g) ∧ Kept (· = mb) ((w.alloc u).drewN k) (setBlock ((w.alloc u).drewN k) mb o) :=
    fun u k => (ho ((w.alloc u).drewN k) (Below.heap_alloc _ _ _ hlt) (Below.heap_alloc _ _ _ hltm)).2
  have H3 := Lib.hid ho3
  have h0 := h.c0
  have h2' := h.c2
  have hd : (x != s) = true := by simpa using hx
  have hd2 : decide (0 < y) = true := by simpa using hy
  clear ho ho3 h hx hy h1 h2
  go_enter Try.func11, Try.ntmps11
  go_wp2
  go_quiet (fail)
  go_wp2
  go_region
  all_goals
    go_wp2
    go_end0
    obtain ⟨g1, g2⟩ := H3.out _ (nq + 1)
    exact ⟨rfl, g1, ((((Kept.refl _ w).alloc _).drewN _).trans g2)⟩

theorem open_nil (w : World) :
    Calls Try.prog 13 #[.pointer none] w fun e w' => e = .returned (.tuple #[.int .u32 0, .int .i64 8]) ∧ w' = w := by
  go_enter Try.func13, Try.ntmps13
  go_wp2
  go_ret2
  exact ⟨rfl, rfl⟩
theorem open_full (b mb : Nat) (s n : Int) (g : List (Int × Int)) (w : World) (h : STab w b mb s n g) (hn : 32 ≤ n) :
    Calls Try.prog 13 #[.pointer (some ⟨b, 0, none⟩)] w fun e w' => e = .returned (.tuple #[.int .u32 0, .int .i64 4]) ∧ w' = w := by
  have h1 := h.c1
  clear h
  go_enter Try.func13, Try.ntmps13
  go_wp2
  go_ret2
  exact ⟨rfl, rfl⟩
theorem open_ok (b mb : Nat) (s n : Int) (g : List (Int × Int)) (w : World) (h : STab w b mb s n g) (hn : n < 32) (h0 : 0 ≤ n) :
    Calls Try.prog 13 #[.pointer (some ⟨b, 0, none⟩)] w fun e w' => e = .returned (.tuple #[.int .u32 (n+1), .int .i64 0]) ∧ STab w' b mb s (n + 1) g ∧ Kept (· = b) w w' := by
  have h1 := h.c1
  have hf := h.f1
  have hb : (w.setCell ⟨b, 1, none⟩ (.int .u32 (n+1))).heap[b]? = some (.cells #[.int .i64 s, .int .u32 (n+1), .map (some mb)] 50 (0, 0)) := by
    have hlt := h.lt
    have h' : w.heap[b] = .cells #[.int .i64 s, .int .u32 n, .map (some mb)] 50 (0, 0) := by simpa [Array.getElem?_eq_getElem hlt] using h.blk
    show (w.heap.modify b _)[b]? = _
    rw [Array.getElem?_eq_getElem (by simpa using hlt), Array.getElem_modify_self, h']
    rfl
  have hk : Kept (· = b) w (w.setCell ⟨b, 1, none⟩ (.int .u32 (n+1))) := (Kept.refl (· = b) w).setCell (p := ⟨b, 1, none⟩) rfl _
  have hT := Lib.hid (show STab (w.setCell ⟨b, 1, none⟩ (.int .u32 (n+1))) b mb s (n + 1) g ∧ Kept (· = b) w (w.setCell ⟨b, 1, none⟩ (.int .u32 (n+1))) from ⟨⟨hb, h.mp.kept hk (fun e => h.ne e.symm)⟩, hk⟩)
  clear hb hk h
  go_enter Try.func13, Try.ntmps13
  go_wp2
  go_ret2
  exact ⟨rfl, hT.out⟩
end Go.Proofs.Ytinkoackknmjlaa
