/-
  The closure that recovers, walked in both modes.
  A function that recovers: its post at a panic; its door.
-/
import Derived.Test.YtnclkfhdpkkakaaGreatDoorJOp7
import Derived.Recover
import Derived.Test.YtnclkfhdpkkakaaGreatDoorJOpRem
import Derived.Defers
namespace Go.Proofs.YtnclkfhdpkkakaaGreatDoor
set_option linter.unusedVariables false
set_option linter.unusedSimpArgs false
set_option linter.unusedVariables false
set_option linter.unusedSimpArgs false
open Go Go.RowKit Go.Shelf Go.MapKept Go.ChangeMaps Go.Maps Go.Sort

theorem assert_nil (w : World) : (Instr.typeAssert Value.nilIface 20 36 true).run Tryz.prog w = .ok (.tuple #[.int .i64 0, .bool false]) w := by kernel_rfl
theorem assert_err (x : Int) (w : World) : (Instr.typeAssert (.iface 36 (.int .i64 x)) 20 36 true).run Tryz.prog w = .ok (.tuple #[.int .i64 x, .bool true]) w := by kernel_rfl
set_option maxRecDepth 100000 in
set_option maxHeartbeats 2000000 in
theorem catch_idle (p : Addr) (w : World) :
    CallsD Tryz.prog 57 #[.pointer (some p)] .returning w fun e u' w' => e = .returned (.tuple #[]) ∧ u' = .returning ∧ w' = w := by
  have h1 := assert_nil
  refine callsD_of_wpS Tryz.func57 rfl fun c₀ cs hu => ?_
  apply wpS_seq
  apply wpS_region
  simp [wpOpsS, go_sem, recoverD, hu, h1, Tryz.ntmps57, Exit.thenS]
  apply wpS_seq
  apply wpS_region
  simp [wpOpsS, go_sem, recoverD, hu, h1, Tryz.ntmps57, Exit.thenS]
  refine wpS_cond (t := false) (by simp [Act.eval, Array.replicate]) ?_
  simp only [Bool.false_eq_true, if_false]
  refine wpS_of_wp (wp_skip ?_)
  cases c₀
  simp_all [bodyPostS, results, Tryz.results57]
set_option maxRecDepth 100000 in
set_option maxHeartbeats 2000000 in
theorem catch_panicking (B : Nat) (x : Int) (older : List PanicEntry) (w : World) (ht : w.there B 0 13) :
    CallsD Tryz.prog 57 #[.pointer (some ⟨B, 0, none⟩)] (.panicking ({ v := .iface 36 (.int .i64 x), recovered := false } :: older)) w fun e u' w' =>
      e = .returned (.tuple #[]) ∧ u' = .panicking ({ v := .iface 36 (.int .i64 x), recovered := true } :: older) ∧ w' = w.setCells B 0 [.int .i64 x, .string ⟨#[]⟩, .slice none 0 0, .int .u32 0, .int .u32 0, .int .u32 0, .int .i64 0, .int .u32 0, .int .u64 0, .int .u64 0, .int .u64 0, .slice none 0 0, .slice none 0 0] := by
  have h1 := assert_err x
  have HSR : Hid ((Tryz.prog.info? 43).map (·.size) = some 13) := Lib.hid (by kernel_rfl)
  have HON : Hid ((#[.int .i64 x, .string ⟨#[]⟩, .slice none 0 0, .int .u32 0, .int .u32 0, .int .u32 0, .int .i64 0, .int .u32 0, .int .u64 0, .int .u64 0, .int .u64 0, .slice none 0 0, .slice none 0 0] : Array Value).all (·.oneCell') = true) := Lib.hid (by simp [Value.oneCell'])
  refine callsD_of_wpS Tryz.func57 rfl fun c₀ cs hu => ?_
  apply wpS_seq
  apply wpS_region
  simp [wpOpsS, go_sem, recoverD, hu, h1, Tryz.ntmps57, Exit.thenS]
  apply wpS_seq
  apply wpS_region
  simp [wpOpsS, go_sem, recoverD, hu, h1, Tryz.ntmps57, Exit.thenS]
  refine wpS_cond (t := true) (by simp [Act.eval, Array.replicate]) ?_
  simp only [if_true]
  refine wpS_of_wp ?_
  have er : (Array.replicate 10 undef : Array Value) = #[undef, undef, undef, undef, undef, undef, undef, undef, undef, undef] := rfl
  rw [er]
  simp only [List.setIfInBounds_toArray, List.set_cons_succ, List.set_cons_zero, List.append_toArray, List.cons_append, List.nil_append]
  go_wp2_with (refine wpList_store_mid rfl 43 (.tmp 0) (.tmp 10) rfl B 0 #[.int .i64 x, .string ⟨#[]⟩, .slice none 0 0, .int .u32 0, .int .u32 0, .int .u32 0, .int .i64 0, .int .u32 0, .int .u64 0, .int .u64 0, .int .u64 0, .slice none 0 0, .slice none 0 0] rfl rfl ht HSR.out HON.out ?_)
  exact ⟨rfl, _, rfl, _, results_none rfl _ _ _, rfl, rfl, rfl⟩
end Go.Proofs.YtnclkfhdpkkakaaGreatDoor

namespace Go.Proofs.YtnclkfhdpkkakaaGreatDoor
set_option linter.unusedVariables false
set_option linter.unusedSimpArgs false
open Go Go.RowKit Go.Shelf Go.MapKept Go.ChangeMaps Go.Maps Go.Sort

/-- The post of a region of such a function: at a panic it hangs on slot 4 and on what is deferred, on no other scratch. -/
def PanicAt (p : Value) (ds : List Deferred) (R : List PanicEntry → World → Prop) (K : Act → World → Prop) : Exit → Act → World → Prop
  | .panic c, a, w => a.tmps.getD 4 undef = p ∧ a.defers = ds ∧ R c w
  | .normal, a, w => K a w
  | _, _, _ => False
theorem panicAt_put {p : Value} {ds : List Deferred} {R : List PanicEntry → World → Prop} {K : Act → World → Prop} {c : List PanicEntry} {a : Act} {dst : Option Tmp} {v : Value} {w : World} (hd : dst ≠ some 4) (h : PanicAt p ds R K (.panic c) (a.put dst v) w) : PanicAt p ds R K (.panic c) a w := by
  obtain ⟨h1, h2, h3⟩ := h
  cases dst with
  | none => exact ⟨h1, h2, h3⟩
  | some k =>
    refine ⟨?_, h2, h3⟩
    have hk : k ≠ 4 := fun e => hd (by rw [e])
    rw [← h1]
    simp [Act.put, Array.getD_eq_getD_getElem?, Array.getElem?_setIfInBounds, hk]
theorem region_panics {P : Program} {c : Code} {Q : Exit → Act → World → Prop} {a : Act} {w : World} (p : Value) (ds : List Deferred) (R : List PanicEntry → World → Prop)
    (hp : ∀ chain a w, a.tmps.getD 4 undef = p → a.defers = ds → R chain w → Q (.panic chain) a w)
    (h : c.wp P (PanicAt p ds R (Q .normal)) a w) : c.wp P Q a w := by
  refine Code.wp_mono ?_ h
  intro e a w h
  cases e with
  | normal => exact h
  | panic c => exact hp c a w h.1 h.2.1 h.2.2
  | _ => exact (h : False).elim
theorem infoReply13 : (Tryz.prog.info? 43).map (·.size) = some 13 := by kernel_rfl
/-- A panic that carries an error is answered by that error. -/
theorem door_panics {tmps : Array Value} {B : Nat} {x : Int} {w' : World} {R : Ending → World → Prop} (hp : tmps.getD 4 undef = .pointer (some ⟨B, 0, none⟩)) (ht : w'.there B 0 13)
    (hR : R (.returned (.agg #[.int .i64 x, .string ⟨#[]⟩, .slice none 0 0, .int .u32 0, .int .u32 0, .int .u32 0, .int .i64 0, .int .u32 0, .int .u64 0, .int .u64 0, .int .u64 0, .slice none 0 0, .slice none 0 0])) (w'.setCells B 0 [.int .i64 x, .string ⟨#[]⟩, .slice none 0 0, .int .u32 0, .int .u32 0, .int .u32 0, .int .i64 0, .int .u32 0, .int .u64 0, .int .u64 0, .int .u64 0, .slice none 0 0, .slice none 0 0])) :
    Leaves Tryz.prog Tryz.f35 tmps R [{ target := .fn (.func 57) #[.pointer (some ⟨B, 0, none⟩)], args := #[] }] (.panicking [{ v := errV x, recovered := false }]) w' := by
  refine leaves_cons (f := 57) (args := #[.pointer (some ⟨B, 0, none⟩)]) (by simp) (by simp [go_sem]) ?_
  refine (catch_panicking B x [] w' ht).mono ?_
  rintro e u' w'' ⟨rfl, rfl, rfl⟩
  exact ⟨_, results_cell_mid rfl tmps _ B 0 [.int .i64 x, .string ⟨#[]⟩, .slice none 0 0, .int .u32 0, .int .u32 0, .int .u32 0, .int .i64 0, .int .u32 0, .int .u64 0, .int .u64 0, .int .u64 0, .slice none 0 0, .slice none 0 0] _ hp (World.rangeAt_setCells_same _ _ _ _ ht) Tryz.underlying43 rfl infoReply13, hR⟩
theorem door_returns {tmps : Array Value} {B : Nat} {cs : List Value} {w' : World} {R : Ending → World → Prop} (hp : tmps.getD 4 undef = .pointer (some ⟨B, 0, none⟩)) (hc : w'.rangeAt B 0 cs) (hl : cs.length = 13)
    (hR : R (.returned (.agg cs.toArray)) w') :
    Leaves Tryz.prog Tryz.f35 tmps R [{ target := .fn (.func 57) #[.pointer (some ⟨B, 0, none⟩)], args := #[] }] .returning w' := by
  refine leaves_cons (f := 57) (args := #[.pointer (some ⟨B, 0, none⟩)]) (by simp) (by simp [go_sem]) ?_
  refine (catch_idle ⟨B, 0, none⟩ w').mono ?_
  rintro e u' w'' ⟨rfl, rfl, rfl⟩
  exact ⟨_, results_cell_mid rfl tmps _ B 0 cs _ hp hc Tryz.underlying43 rfl (by rw [hl]; exact infoReply13), hR⟩
end Go.Proofs.YtnclkfhdpkkakaaGreatDoor
