/-
  Two watches compared.
-/
import Derived.Test.YtfbimhbdifmeoaaDoorWt5
import Derived.Laws.StructEq
namespace Go.Proofs.YtfbimhbdifmeoaaDoor
set_option linter.unusedVariables false
set_option linter.unusedSimpArgs false
open Go Go.RowKit
theorem fields44 : (Tryd.prog.fieldsOf 44).toList = [⟨"Who", 32, 0, false, "", "", 0⟩, ⟨"Path", 9, 2, false, "", "", 16⟩, ⟨"Kids", 4, 3, false, "", "", 32⟩] := by kernel_rfl
theorem fields32 : (Tryd.prog.fieldsOf 32).toList = [⟨"Site", 3, 0, false, "", "", 0⟩, ⟨"N", 30, 1, false, "", "", 8⟩] := by kernel_rfl
theorem eqEv (x e : Ev) (w : World) : (_root_.Go.binOp BinOp.eql 44 x.val e.val : Sem Value).run Tryd.prog w = Result.ok (Value.bool (decide (x = e))) w := by
  obtain ⟨s, n, q, k⟩ := x
  obtain ⟨s', n', q', k'⟩ := e
  unfold Ev.val Ev.cells
  rw [run_eql_struct, run_equalIn_agg _ _ _ _ _ (by kernel_rfl) (by kernel_rfl), fields44]
  have e1 := fun w : World => run_equalIn_string (P := Tryd.prog) w 9998 9 (bs q) (bs q') Tryd.underlying9
  have e2 := fun w : World => run_equalIn_bool' (P := Tryd.prog) w 9998 4 k k' Tryd.underlying4
  have e3 := fun w : World => run_equalIn_int (P := Tryd.prog) w 9997 3 .i64 .i64 s s' Tryd.underlying3
  have e4 := fun w : World => run_equalIn_int (P := Tryd.prog) w 9997 30 .u32 .u32 n n' Tryd.underlying30
  have e5 := fun w : World => run_equalIn_agg (P := Tryd.prog) w 9998 32 #[.int .i64 s, .int .u32 n] #[.int .i64 s', .int .u32 n'] (by kernel_rfl) (by kernel_rfl)
  simp only [fields32] at e5
  simp [Op.eqFields, Sem.run_bind, part, e5, e1, e2, e3, e4, eq_bs]
  by_cases h1 : s = s' <;> by_cases h2 : n = n' <;> by_cases h3 : q = q' <;> by_cases h4 : k = k' <;> simp [h1, h2, h3, h4]
end Go.Proofs.YtfbimhbdifmeoaaDoor
