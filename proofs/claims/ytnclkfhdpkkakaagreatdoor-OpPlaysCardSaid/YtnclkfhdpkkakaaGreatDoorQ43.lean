/-
  What a row lists: the table of powers.
-/
import Derived.Test.YtnclkfhdpkkakaaGreatDoorRows
import Derived.Test.YtnclkfhdpkkakaaGreatDoorQ39
import Derived.Lib.LaidTab
import Derived.LaidMore
import Derived.ProofKit
import Derived.Stop.Joined
namespace Go.Proofs.YtnclkfhdpkkakaaGreatDoor
set_option linter.unusedVariables false
set_option linter.unusedSimpArgs false
open Go Go.RowKit Go.ChangeShapes Go.WideShapes Go.ChangeAt
theorem laid_drop {P : Program} {w : World} {x : String × DataW Unit} {l : List (String × DataW Unit)} {ps : List MemPlace} (h : DataW.LaidVars P w (x :: l) ps) : ∃ q, DataW.LaidVars P w l q := by
 obtain ⟨g', t', cs, fuel, p, q, _, _, _, _, h1, h2⟩ := h
 exact ⟨q, h1⟩
theorem tab_of_vars {W : World} {rest : List (String × DataW Unit)} {ps : List MemPlace} (h : DataW.LaidVars Tryz.prog W (("internal/strconv.uint64pow10", Lib.tabData .u64 Lib.pow10Tab) :: rest) ps) : PowTab W := by
 obtain ⟨g', t', cs, fuel, p, q, hg', ht', hvar, hd, _, _⟩ := h
 obtain rfl : 1 = g' := Option.some.inj ((show Tryz.prog.globalNamed "internal/strconv.uint64pow10" = some 1 by kernel_rfl).symm.trans hg')
 obtain rfl : 196 = t' := Option.some.inj ((show (Tryz.prog.globals[1]?).map (·.type) = some 196 by kernel_rfl).symm.trans ht')
 have hc := Lib.cells_of_tab Tryz.underlying196 Tryz.underlying37 (by kernel_rfl) (by kernel_rfl) hd
 unfold PowTab Lib.TabIs
 rw [hvar, ← hc]
theorem pow_data : (Rows.laid_internal_strconv_uint64pow10 : DataW Unit) = Lib.tabData .u64 Lib.pow10Tab := rfl
theorem powTab_of {W : World} (h : laidMetH Tryz.prog Rows.opVersionsRow.laid W) : PowTab W := by
 rw [MakeChecks.laidMetH_plain _ _ _ (by kernel_rfl)] at h
 obtain ⟨ps, hv, _⟩ := h
 obtain ⟨ps1, hv1⟩ := laid_drop hv
 obtain ⟨ps2, hv2⟩ := laid_drop hv1
 rw [pow_data] at hv2
 exact tab_of_vars hv2
end Go.Proofs.YtnclkfhdpkkakaaGreatDoor
