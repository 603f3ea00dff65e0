/-
  The table of an operation's kinds: walked.
-/
import Derived.Test.YtnclkfhdpkkakaaGreatDoorTr12
import Derived.Carry
namespace Go.Proofs.YtnclkfhdpkkakaaGreatDoor
set_option linter.unusedVariables false
set_option linter.unusedSimpArgs false
set_option linter.unusedVariables false
set_option linter.unusedSimpArgs false
open Go Go.RowKit Go.Shelf Go.MapKept Go.ChangeMaps Go.Sort
open Go.Maps (Keyed)
section
variable {κ ν : Type} [DecidableEq κ] {P : Program} {k : TypeId} {fk : κ → Value} {fv : ν → Value} {w : World} {b : Nat} {m : List (κ × ν)}
/-- 'm[k] = v', at the operation. -/
theorem wpList_insert_has {ops : Array Oper} {rest : List Oper} {o : Oper} {a : Act} {Q : Exit → Act → World → Prop} (h : HasMap P k fk fv w b m) (K : Keyed P k) (hinj : ∀ x y, fk x = fk y → x = y) {t e : TypeId} (ht : P.underlying t = some (.map k e))
    (hg : o.guard = none) (x y z : Operand) (hop : o.op = .insert t x y z) (hx : a.eval x = .map (some b)) (c : κ) (v : ν) (hy : a.eval y = fk c) (hz : a.eval z = fv v) {l : Lit} (ha : keyOf P k (fk c) = some l)
    (hK : ∀ w', HasMap P k fk fv w' b (putA c v m) → Kept (· = b) w w' → wpList P ops Q rest (a.put o.dst undef) w') : wpList P ops Q (o :: rest) a w := by
  obtain ⟨ob, ho⟩ := HasMap.update h K hinj ht v ha
  obtain ⟨h1, h2⟩ := ho w rfl
  refine wpList_plain hg fun K' hK' => ?_
  have he : (execOp a.eval o).run P w = .ok .skip (setBlock w b ob) := by
    unfold execOp
    simp [hop, hx, hy, hz, h1, Result.andThen]
  unfold Oper.wp
  rw [he, Oper.upon_skip]
  exact hK' _ _ (hK _ h2 (kept_setBlock h.lt ob))
end
def kVal (n : Nat) : Value := .int .u8 n
def fVal (f : Nat) : Value := .func (.func f) #[] #[]
def kTab : List (Nat × Nat) := [(1, 85), (2, 86), (3, 87), (4, 88), (5, 89), (6, 90)]
def Table (w : World) (b : Nat) : Prop := HasMap Tryz.prog 5 kVal fVal w b kTab
theorem kVal_inj : ∀ x y : Nat, kVal x = kVal y → x = y := fun x y h => by
  unfold kVal at h
  injection h with _ h
  omega
theorem keyU8 : Keyed Tryz.prog 5 := Maps.int_keyed Tryz.underlying5
set_option maxRecDepth 100000 in
theorem does_ok (w : World) : Calls Tryz.prog 60 #[] w fun e w' => ∃ b, e = .returned (.map (some b)) ∧ Table w' b ∧ w.heap.size ≤ b ∧ Below w.heap.size w w' := by
  have hmm := @run_makeMap Tryz.prog
  have HM0 : HasMap Tryz.prog 5 kVal fVal (w.alloc (.map #[] 0)) w.heap.size ([] : List (Nat × Nat)) := HasMap.made _ _ _ _ w
  go_enter Tryz.func60, Tryz.ntmps60
  go_wp2_with (first
    | (refine wpList_insert_has HM0 keyU8 kVal_inj Tryz.underlying116 rfl (.tmp 1) (.const (.int .u8 1)) (.func 85) rfl rfl 1 85 rfl rfl (l := .int .u8 1) (by rfl) ?_; intro v1 HM1 HK1; clear HM0)
    | (refine wpList_insert_has HM1 keyU8 kVal_inj Tryz.underlying116 rfl (.tmp 1) (.const (.int .u8 2)) (.func 86) rfl rfl 2 86 rfl rfl (l := .int .u8 2) (by rfl) ?_; intro v2 HM2 HK2; clear HM1)
    | (refine wpList_insert_has HM2 keyU8 kVal_inj Tryz.underlying116 rfl (.tmp 1) (.const (.int .u8 3)) (.func 87) rfl rfl 3 87 rfl rfl (l := .int .u8 3) (by rfl) ?_; intro v3 HM3 HK3; clear HM2)
    | (refine wpList_insert_has HM3 keyU8 kVal_inj Tryz.underlying116 rfl (.tmp 1) (.const (.int .u8 4)) (.func 88) rfl rfl 4 88 rfl rfl (l := .int .u8 4) (by rfl) ?_; intro v4 HM4 HK4; clear HM3)
    | (refine wpList_insert_has HM4 keyU8 kVal_inj Tryz.underlying116 rfl (.tmp 1) (.const (.int .u8 5)) (.func 89) rfl rfl 5 89 rfl rfl (l := .int .u8 5) (by rfl) ?_; intro v5 HM5 HK5; clear HM4)
    | (refine wpList_insert_has HM5 keyU8 kVal_inj Tryz.underlying116 rfl (.tmp 1) (.const (.int .u8 6)) (.func 90) rfl rfl 6 90 rfl rfl (l := .int .u8 6) (by rfl) ?_; intro v6 HM6 HK6; clear HM5)
    | fail)
  go_ret
  refine ⟨_, rfl, HM6, Nat.le_refl _, ?_⟩
  have hk : Kept (· = w.heap.size) (w.alloc (.map #[] 0)) v6 := HK1.trans (HK2.trans (HK3.trans (HK4.trans (HK5.trans HK6))))
  exact (belowA (Below.refl _ w) _).trans (hk.below (by simp) (fun k e => by have e : k = w.heap.size := e; omega))
end Go.Proofs.YtnclkfhdpkkakaaGreatDoor
