/-
  The session table's contracts: New, Open, Close, Live, Learn, Gone.
-/
import Derived.Test.YtinkoackknmjlaaTab
import Derived.RegionTactic
import Derived.BigRegion
import Derived.StillTailTactics
namespace Go.Proofs.Ytinkoackknmjlaa
open Go.RowKit Go.MapKept Go.ChangeMaps
open Go.Maps (Keyed)

def liveB (s n : Int) (g : List (Int × Int)) (m : Int) : Bool := decide (0 < m) && decide (m ≤ n) && !(g.contains (s, m))

section
variable {w : World} {b mb : Nat} {s n : Int} {g : List (Int × Int)}
theorem STab.lt (h : STab w b mb s n g) : b < w.heap.size := lt_of_block h.blk
theorem STab.ne (h : STab w b mb s n g) : b ≠ mb := by
  intro e
  obtain ⟨es, c, hb, _⟩ := h.mp
  rw [← e, h.blk] at hb
  cases hb
theorem STab.c0 (h : STab w b mb s n g) : w.cell? ⟨b, 0, none⟩ = some (.int .i64 s) := by simp [World.cell?, h.blk]
theorem STab.c1 (h : STab w b mb s n g) : w.cell? ⟨b, 1, none⟩ = some (.int .u32 n) := by simp [World.cell?, h.blk]
theorem STab.c2 (h : STab w b mb s n g) : w.cell? ⟨b, 2, none⟩ = some (.map (some mb)) := by simp [World.cell?, h.blk]
theorem STab.f1 (h : STab w b mb s n g) : w.frozen? ⟨b, 1, none⟩ = false := by simp [World.frozen?, h.blk]
theorem STab.kept (h : STab w b mb s n g) {S : Nat → Prop} {w' : World} (hk : Kept S w w') (h1 : ¬ S b) (h2 : ¬ S mb) : STab w' b mb s n g :=
  ⟨hk.same h.blk h1, h.mp.kept hk h2⟩
theorem getA_true {a : Int × Int} : ∀ {g : List (Int × Int)}, ((getA a (g.map (·, true))).map Value.bool).getD (.bool false) = .bool (g.contains a)
  | [] => by simp [getA]
  | p :: r => by
    simp only [List.map_cons, getA]
    by_cases h : p = a
    · simp [h]
    · simp only [if_neg h, List.contains_cons]
      rw [getA_true]
      have : (a == p) = false := by simpa using fun e => h e.symm
      simp [this]
theorem STab.look (h : STab w b mb s n g) {x y : Int} (h1 : I64 x) (h2 : U32 y) :
    (Instr.lookup 46 (.map (some mb)) (.agg #[.int .i64 x, .int .u32 y]) false).run Try.prog w = .ok (.bool (g.contains (x, y))) w := by
  obtain ⟨l, hl⟩ := sk_key (p := (x, y)) h1 h2
  have := h.mp.lookup Try.law31 sk_inj Try.underlying46 (Try.zero4 w) hl
  rw [getA_true] at this
  exact this
end

set_option maxHeartbeats 400000 in
theorem live_any (b mb : Nat) (s n m : Int) (g : List (Int × Int)) (w : World) (h : STab w b mb s n g) (hs : I64 s) (hm : U32 m) :
    Calls Try.prog 17 #[.pointer (some ⟨b, 0, none⟩), .int .u32 m] w fun e w' => e = .returned (.bool (liveB s n g m)) ∧ ∃ k, w' = w.drewN k := by
  have h0 := h.c0
  have h1 := h.c1
  have h2 := h.c2
  have hrun := fun k => (h.kept (S := Nothing) ((Kept.refl _ w).drewN k) (fun e => e) (fun e => e)).look hs hm
  have hfin : (decide (0 < m) = false ∨ decide (m ≤ n) = false) → liveB s n g m = false := by
    rintro (e | e) <;> simp [liveB, e]
  have hfin2 : decide (0 < m) = true → decide (m ≤ n) = true → liveB s n g m = !(g.contains (s, m)) := by
    intro e1 e2; simp [liveB, e1, e2]
  clear h
  generalize hc : g.contains (s, m) = c at hrun hfin2
  clear hc
  generalize hL : liveB s n g m = L at hfin hfin2 ⊢
  clear hL
  have HF := Lib.hid hfin
  have HF2 := Lib.hid hfin2
  clear hfin hfin2
  by_cases hp : 0 < m
  · have hp' : decide ((0 : Int) < m) = true := by simpa using hp
    by_cases hq : m ≤ n
    · have hq' : decide (m ≤ n) = true := by simpa using hq
      clear hp hq
      go_enter Try.func17, Try.ntmps17
      go_wp2
      go_quiet (fail)
      go_wp2
      go_ret
      exact ⟨by rw [HF2.out hp' hq']; rfl, _, rfl⟩
    · have hq' : decide (m ≤ n) = false := by simpa using hq
      clear hp hq
      go_enter Try.func17, Try.ntmps17
      go_wp2
      go_quiet (fail)
      go_wp2
      go_ret
      exact ⟨by rw [HF.out (.inr hq')]; rfl, _, rfl⟩
  · have hp' : decide ((0 : Int) < m) = false := by simpa using hp
    clear hp
    go_enter Try.func17, Try.ntmps17
    go_wp2
    go_quiet (fail)
    go_wp2
    go_ret
    exact ⟨by rw [HF.out (.inl hp')]; rfl, _, rfl⟩

set_option maxHeartbeats 400000 in
theorem live_nil (n : Int) (w : World) :
    Calls Try.prog 17 #[.pointer none, .int .u32 n] w fun e w' => e = .returned (.bool false) ∧ ∃ k, w' = w.drewN k := by
  go_enter Try.func17, Try.ntmps17
  go_wp2
  go_quiet (fail)
  go_wp2
  go_ret
  exact ⟨rfl, _, rfl⟩

set_option maxHeartbeats 400000 in
theorem gone_nil (x y : Int) (w : World) :
    Calls Try.prog 15 #[.pointer none, .agg #[.int .i64 x, .int .u32 y]] w fun e w' => e = .returned (.bool false) ∧ Kept Nothing w w' := by
  go_enter Try.func15, Try.ntmps15
  go_wp2
  go_quiet (fail)
  go_wp2
  go_ret
  exact ⟨rfl, ((Kept.refl _ w).alloc _).drewN _⟩

set_option maxHeartbeats 400000 in
theorem gone_any (b mb : Nat) (s n : Int) (g : List (Int × Int)) (x y : Int) (w : World) (h : STab w b mb s n g) (h1 : I64 x) (h2 : U32 y) :
    Calls Try.prog 15 #[.pointer (some ⟨b, 0, none⟩), .agg #[.int .i64 x, .int .u32 y]] w fun e w' => e = .returned (.bool (g.contains (x, y))) ∧ Kept Nothing w w' := by
  have h3 := h.c2
  have hlt := h.lt
  have hrun := fun (o : Obj) k => (h.kept (S := Nothing) (((Kept.refl _ w).alloc o).drewN k) (fun e => e) (fun e => e)).look h1 h2
  clear h h1 h2
  generalize g.contains (x, y) = c at hrun ⊢
  go_enter Try.func15, Try.ntmps15
  go_wp2
  go_quiet (fail)
  go_wp2
  go_ret
  exact ⟨rfl, ((Kept.refl _ w).alloc _).drewN _⟩

theorem new_any (s : Int) (w : World) :
    Calls Try.prog 8 #[.int .i64 s] w fun e w' => e = .returned (.pointer (some ⟨w.heap.size + 1, 0, none⟩)) ∧ w' = (w.alloc (.map #[] 0)).alloc (.cells #[.int .i64 s, .int .u32 0, .map (some w.heap.size)] 50) := by
  have hmm := @run_makeMap Try.prog
  go_enter Try.func8, Try.ntmps8
  go_wp2
  go_ret
  exact ⟨rfl, rfl⟩
end Go.Proofs.Ytinkoackknmjlaa
