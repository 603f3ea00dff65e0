/-
  NARROWER THAN 'FOR EVERY INPUT', by the rows' own cells (each row's printed sentence says how): RegionFinds: laid · RegionAll: loops, laid · RegionLongest: laid · RegionKnown: laid · RegionTurned: laid · RegionBelow: laid.
  DERIVED. THE GIVEN ROWS OF THIS SEAT. 6 by the template 'for every input the law returns true; each argument reads behind the call as it read before'; 0 by the template 'total and deterministic' (their statements: YtdengimjjlbmcaaDoorTotals.lean).
  GIVEN WITH THE SEED: the statements are not yours to turn. If you find one false, say at which input.
  Laid BY PROGRAM, IN A SANDBOX (cutbox-rows.mjs): the forced cells as the released guide's own fill.sh prints them over the translation 70f13da6972ddb17… (all of the seat's roots in one cut). By AI agents, Wed Nov 11 2026. No macro, syntax, notation, axiom, sorry.
-/
import Derived.Test.YtdengimjjlbmcaaDoorChecked
import GoSem.PinnedTables
import GoSem.Claim
import GoSem.ClaimJoined
import GoSem.ClaimMapViews
import Derived.JoinedTies
import Derived.KernelRfl
namespace Go.Proofs.YtdengimjjlbmcaaDoor
/- THE CELL 'sum', in the pinned program and in every row, IS THE sha256 OF THE DUMP (.gsa) THAT YtdengimjjlbmcaaDoorProg.lean LOADS. Nothing in Lean hashes anything: it is a label: what it is worth is what the hold of that sum in a sandbox is worth. -/
noncomputable def Tryd.pinned : Pinned := { name := "ytdengimjjlbmcaadoor", sum := "70f13da6972ddb1740fbcdce36a0264f509337bd381407d22b6fabaf29d1bc4d", checked := Tryd.checked }
namespace Rows
def none {H : Type} : Left H := { results := [], args := [] }

/- WHAT THE LISTED PACKAGE-LEVEL VARIABLES READ AS WHEN THE CALL BEGINS. Each datum BY PROGRAM (the guide's laid-datum.mjs) off the statement by which the dump's own 'gosem.cut.vars' lays the variable. In a bare row this is a premise. The card (YtdengimjjlbmcaaDoorCards.lean) ties it to the program's text. -/
def laid_unicode_utf8_acceptRanges {H : Type} : DataW H := .agg [.agg [.lit (.int .u8 128), .lit (.int .u8 191)], .agg [.lit (.int .u8 160), .lit (.int .u8 191)], .agg [.lit (.int .u8 128), .lit (.int .u8 159)], .agg [.lit (.int .u8 144), .lit (.int .u8 191)], .agg [.lit (.int .u8 128), .lit (.int .u8 143)], .agg [.lit (.int .u8 0), .lit (.int .u8 0)], .agg [.lit (.int .u8 0), .lit (.int .u8 0)], .agg [.lit (.int .u8 0), .lit (.int .u8 0)], .agg [.lit (.int .u8 0), .lit (.int .u8 0)], .agg [.lit (.int .u8 0), .lit (.int .u8 0)], .agg [.lit (.int .u8 0), .lit (.int .u8 0)], .agg [.lit (.int .u8 0), .lit (.int .u8 0)], .agg [.lit (.int .u8 0), .lit (.int .u8 0)], .agg [.lit (.int .u8 0), .lit (.int .u8 0)], .agg [.lit (.int .u8 0), .lit (.int .u8 0)], .agg [.lit (.int .u8 0), .lit (.int .u8 0)]]
/-- One of Go's own tables, pinned by name: the form's constant. -/
def laid_unicode_utf8_first : DataW Unit := Go.Pinned.utf8First

/-- 'outriderlaw06.RegionFinds': WHATEVER THE INPUT: true; the input reads as it did. -/
def regionFindsSpec : ChangeSpec := { name := "regionFinds", fn := fun _ => fun
  | [d1, d2] => { results := [.lit (.bool true)], args := [d1, d2] }
  | _ => none }
def regionFindsRow : OpenClaim := { program := "ytdengimjjlbmcaadoor", sum := "70f13da6972ddb1740fbcdce36a0264f509337bd381407d22b6fabaf29d1bc4d", func := "outrider/outriderlaw06.RegionFinds", spec := "regionFinds", inPlace := ["internal/bytealg.CountString", "internal/bytealg.IndexByteString", "internal/bytealg.IndexString"], unfollowed := true, recurses := true, named := ["unicode/utf8.first", "unicode/utf8.acceptRanges", "internal/bytealg.MaxLen"], apart := false, laid := [("unicode/utf8.acceptRanges", laid_unicode_utf8_acceptRanges), ("unicode/utf8.first", laid_unicode_utf8_first)] }
def RegionFindsSaid : Prop := regionFindsRow.holds Tryd.pinned (OpenSpec.ofChange regionFindsSpec)

/-- ITS FALSE NEIGHBOUR: 'it returns false'. Refute it at one input. -/
def regionFindsWrong : ChangeSpec := { name := "regionFinds", fn := fun _ => fun
  | [d1, d2] => { results := [.lit (.bool false)], args := [d1, d2] }
  | _ => none }
def RegionFindsWrongFalsely : Prop := regionFindsRow.holds Tryd.pinned (OpenSpec.ofChange regionFindsWrong)

/-- 'outriderlaw06.RegionAll': WHATEVER THE INPUT: true; the input reads as it did. -/
def regionAllSpec : ChangeSpec := { name := "regionAll", fn := fun _ => fun
  | [d1, d2] => { results := [.lit (.bool true)], args := [d1, d2] }
  | _ => none }
def regionAllRow : OpenClaim := { program := "ytdengimjjlbmcaadoor", sum := "70f13da6972ddb1740fbcdce36a0264f509337bd381407d22b6fabaf29d1bc4d", func := "outrider/outriderlaw06.RegionAll", spec := "regionAll", inPlace := ["internal/bytealg.CountString", "internal/bytealg.IndexByteString", "internal/bytealg.IndexString"], unfollowed := true, recurses := true, named := ["unicode/utf8.first", "unicode/utf8.acceptRanges", "internal/bytealg.MaxLen"], loops := true, apart := false, laid := [("unicode/utf8.acceptRanges", laid_unicode_utf8_acceptRanges), ("unicode/utf8.first", laid_unicode_utf8_first)] }
def RegionAllSaid : Prop := regionAllRow.holds Tryd.pinned (OpenSpec.ofChange regionAllSpec)

/-- ITS FALSE NEIGHBOUR: 'it returns false'. Refute it at one input. -/
def regionAllWrong : ChangeSpec := { name := "regionAll", fn := fun _ => fun
  | [d1, d2] => { results := [.lit (.bool false)], args := [d1, d2] }
  | _ => none }
def RegionAllWrongFalsely : Prop := regionAllRow.holds Tryd.pinned (OpenSpec.ofChange regionAllWrong)

/-- 'outriderlaw06.RegionLongest': WHATEVER THE INPUT: true; the input reads as it did. -/
def regionLongestSpec : ChangeSpec := { name := "regionLongest", fn := fun _ => fun
  | [d1, d2] => { results := [.lit (.bool true)], args := [d1, d2] }
  | _ => none }
def regionLongestRow : OpenClaim := { program := "ytdengimjjlbmcaadoor", sum := "70f13da6972ddb1740fbcdce36a0264f509337bd381407d22b6fabaf29d1bc4d", func := "outrider/outriderlaw06.RegionLongest", spec := "regionLongest", inPlace := ["internal/bytealg.CountString", "internal/bytealg.IndexByteString", "internal/bytealg.IndexString"], unfollowed := true, recurses := true, named := ["unicode/utf8.first", "unicode/utf8.acceptRanges", "internal/bytealg.MaxLen"], apart := false, laid := [("unicode/utf8.acceptRanges", laid_unicode_utf8_acceptRanges), ("unicode/utf8.first", laid_unicode_utf8_first)] }
def RegionLongestSaid : Prop := regionLongestRow.holds Tryd.pinned (OpenSpec.ofChange regionLongestSpec)

/-- ITS FALSE NEIGHBOUR: 'it returns false'. Refute it at one input. -/
def regionLongestWrong : ChangeSpec := { name := "regionLongest", fn := fun _ => fun
  | [d1, d2] => { results := [.lit (.bool false)], args := [d1, d2] }
  | _ => none }
def RegionLongestWrongFalsely : Prop := regionLongestRow.holds Tryd.pinned (OpenSpec.ofChange regionLongestWrong)

/-- 'outriderlaw06.RegionKnown': WHATEVER THE INPUT: true; the input reads as it did. -/
def regionKnownSpec : ChangeSpec := { name := "regionKnown", fn := fun _ => fun
  | [] => { results := [.lit (.bool true)], args := [] }
  | _ => none }
def regionKnownRow : OpenClaim := { program := "ytdengimjjlbmcaadoor", sum := "70f13da6972ddb1740fbcdce36a0264f509337bd381407d22b6fabaf29d1bc4d", func := "outrider/outriderlaw06.RegionKnown", spec := "regionKnown", inPlace := ["internal/bytealg.CountString", "internal/bytealg.IndexByteString", "internal/bytealg.IndexString"], unfollowed := true, recurses := true, named := ["unicode/utf8.first", "unicode/utf8.acceptRanges", "internal/bytealg.MaxLen"], apart := false, laid := [("unicode/utf8.acceptRanges", laid_unicode_utf8_acceptRanges), ("unicode/utf8.first", laid_unicode_utf8_first)] }
def RegionKnownSaid : Prop := regionKnownRow.holds Tryd.pinned (OpenSpec.ofChange regionKnownSpec)

/-- ITS FALSE NEIGHBOUR: 'it returns false'. Refute it at one input. -/
def regionKnownWrong : ChangeSpec := { name := "regionKnown", fn := fun _ => fun
  | [] => { results := [.lit (.bool false)], args := [] }
  | _ => none }
def RegionKnownWrongFalsely : Prop := regionKnownRow.holds Tryd.pinned (OpenSpec.ofChange regionKnownWrong)

/-- 'outriderlaw06.RegionTurned': WHATEVER THE INPUT: true; the input reads as it did. -/
def regionTurnedSpec : ChangeSpec := { name := "regionTurned", fn := fun _ => fun
  | [d1, d2, d3] => { results := [.lit (.bool true)], args := [d1, d2, d3] }
  | _ => none }
def regionTurnedRow : OpenClaim := { program := "ytdengimjjlbmcaadoor", sum := "70f13da6972ddb1740fbcdce36a0264f509337bd381407d22b6fabaf29d1bc4d", func := "outrider/outriderlaw06.RegionTurned", spec := "regionTurned", inPlace := ["internal/bytealg.CountString", "internal/bytealg.IndexByteString", "internal/bytealg.IndexString"], unfollowed := true, recurses := true, named := ["unicode/utf8.first", "unicode/utf8.acceptRanges", "internal/bytealg.MaxLen"], apart := false, laid := [("unicode/utf8.acceptRanges", laid_unicode_utf8_acceptRanges), ("unicode/utf8.first", laid_unicode_utf8_first)] }
def RegionTurnedSaid : Prop := regionTurnedRow.holds Tryd.pinned (OpenSpec.ofChange regionTurnedSpec)

/-- ITS FALSE NEIGHBOUR: 'it returns false'. Refute it at one input. -/
def regionTurnedWrong : ChangeSpec := { name := "regionTurned", fn := fun _ => fun
  | [d1, d2, d3] => { results := [.lit (.bool false)], args := [d1, d2, d3] }
  | _ => none }
def RegionTurnedWrongFalsely : Prop := regionTurnedRow.holds Tryd.pinned (OpenSpec.ofChange regionTurnedWrong)

/-- 'outriderlaw06.RegionBelow': WHATEVER THE INPUT: true; the input reads as it did. -/
def regionBelowSpec : ChangeSpec := { name := "regionBelow", fn := fun _ => fun
  | [d1, d2, d3] => { results := [.lit (.bool true)], args := [d1, d2, d3] }
  | _ => none }
def regionBelowRow : OpenClaim := { program := "ytdengimjjlbmcaadoor", sum := "70f13da6972ddb1740fbcdce36a0264f509337bd381407d22b6fabaf29d1bc4d", func := "outrider/outriderlaw06.RegionBelow", spec := "regionBelow", inPlace := ["internal/bytealg.CountString", "internal/bytealg.IndexByteString", "internal/bytealg.IndexString", "internal/abi.NoEscape", "internal/bytealg.MakeNoZero"], unfollowed := true, recurses := true, named := ["unicode/utf8.first", "unicode/utf8.acceptRanges", "internal/bytealg.MaxLen"], apart := false, laid := [("unicode/utf8.acceptRanges", laid_unicode_utf8_acceptRanges), ("unicode/utf8.first", laid_unicode_utf8_first)] }
def RegionBelowSaid : Prop := regionBelowRow.holds Tryd.pinned (OpenSpec.ofChange regionBelowSpec)

/-- ITS FALSE NEIGHBOUR: 'it returns false'. Refute it at one input. -/
def regionBelowWrong : ChangeSpec := { name := "regionBelow", fn := fun _ => fun
  | [d1, d2, d3] => { results := [.lit (.bool false)], args := [d1, d2, d3] }
  | _ => none }
def RegionBelowWrongFalsely : Prop := regionBelowRow.holds Tryd.pinned (OpenSpec.ofChange regionBelowWrong)

/- THE SECOND FORM. 'bulk': how many values and letters a reading holds, each counted each time it is reached (what is shared counts as often as it is met; a slice's spare places count too). A statement '..UptoSaid' is the law's where the arguments, and the package variables that the reading takes, are together of bulk at most 1048576: NARROWER than '..Said'. Prove '..Said' where nothing that the law and all that it calls make is longer than what came in: it says more and counts as full. Else prove '..UptoSaid'. A law counts once. -/
mutual
def uptoBulk {H : Type} : DataW H → Nat
  | .lit (.string bytes) => bytes.length + 1
  | .lit _ => 1
  | .nil => 1
  | .ptr d => uptoBulk d + 1
  | .slice elems spare => uptoBulkAll elems + uptoBulkAll spare + 1
  | .agg parts => uptoBulkAll parts + 1
  | .iface _ d => uptoBulk d + 1
  | .map entries => uptoBulkEntries entries + 1
  | .held _ => 1
def uptoBulkAll {H : Type} : List (DataW H) → Nat
  | [] => 0
  | d :: r => uptoBulk d + uptoBulkAll r
def uptoBulkEntries {H : Type} : List (Lit × DataW H) → Nat
  | [] => 0
  | x :: r => uptoBulkEntry x + uptoBulkEntries r
def uptoBulkEntry {H : Type} : Lit × DataW H → Nat
  | (.string bytes, d) => bytes.length + uptoBulk d + 1
  | (_, d) => uptoBulk d + 1
 end
def uptoSmall : (H : Type) → List (DataW H) → Bool := fun _ ds => decide (uptoBulkAll ds ≤ 1048576)
def OpenSpec.upto (s : _root_.Go.ChangeSpec) : _root_.Go.OpenSpec := { _root_.Go.OpenSpec.ofChange s with cond := some uptoSmall }

/-- 'outriderlaw06.RegionFinds', WHERE WHAT IT READS IS OF BULK AT MOST 1048576: true; the input reads as it did. -/
def regionFindsUptoRow : OpenClaim := { program := "ytdengimjjlbmcaadoor", sum := "70f13da6972ddb1740fbcdce36a0264f509337bd381407d22b6fabaf29d1bc4d", func := "outrider/outriderlaw06.RegionFinds", spec := "regionFinds", inPlace := ["internal/bytealg.CountString", "internal/bytealg.IndexByteString", "internal/bytealg.IndexString"], unfollowed := true, recurses := true, named := ["unicode/utf8.first", "unicode/utf8.acceptRanges", "internal/bytealg.MaxLen"], apart := false, laid := [("unicode/utf8.acceptRanges", laid_unicode_utf8_acceptRanges), ("unicode/utf8.first", laid_unicode_utf8_first)], narrowed := true }
def RegionFindsUptoSaid : Prop := regionFindsUptoRow.holds Tryd.pinned (OpenSpec.upto regionFindsSpec)

/-- 'outriderlaw06.RegionAll', WHERE WHAT IT READS IS OF BULK AT MOST 1048576: true; the input reads as it did. -/
def regionAllUptoRow : OpenClaim := { program := "ytdengimjjlbmcaadoor", sum := "70f13da6972ddb1740fbcdce36a0264f509337bd381407d22b6fabaf29d1bc4d", func := "outrider/outriderlaw06.RegionAll", spec := "regionAll", inPlace := ["internal/bytealg.CountString", "internal/bytealg.IndexByteString", "internal/bytealg.IndexString"], unfollowed := true, recurses := true, named := ["unicode/utf8.first", "unicode/utf8.acceptRanges", "internal/bytealg.MaxLen"], loops := true, apart := false, laid := [("unicode/utf8.acceptRanges", laid_unicode_utf8_acceptRanges), ("unicode/utf8.first", laid_unicode_utf8_first)], narrowed := true }
def RegionAllUptoSaid : Prop := regionAllUptoRow.holds Tryd.pinned (OpenSpec.upto regionAllSpec)

/-- 'outriderlaw06.RegionLongest', WHERE WHAT IT READS IS OF BULK AT MOST 1048576: true; the input reads as it did. -/
def regionLongestUptoRow : OpenClaim := { program := "ytdengimjjlbmcaadoor", sum := "70f13da6972ddb1740fbcdce36a0264f509337bd381407d22b6fabaf29d1bc4d", func := "outrider/outriderlaw06.RegionLongest", spec := "regionLongest", inPlace := ["internal/bytealg.CountString", "internal/bytealg.IndexByteString", "internal/bytealg.IndexString"], unfollowed := true, recurses := true, named := ["unicode/utf8.first", "unicode/utf8.acceptRanges", "internal/bytealg.MaxLen"], apart := false, laid := [("unicode/utf8.acceptRanges", laid_unicode_utf8_acceptRanges), ("unicode/utf8.first", laid_unicode_utf8_first)], narrowed := true }
def RegionLongestUptoSaid : Prop := regionLongestUptoRow.holds Tryd.pinned (OpenSpec.upto regionLongestSpec)

/-- 'outriderlaw06.RegionKnown', WHERE WHAT IT READS IS OF BULK AT MOST 1048576: true; the input reads as it did. -/
def regionKnownUptoRow : OpenClaim := { program := "ytdengimjjlbmcaadoor", sum := "70f13da6972ddb1740fbcdce36a0264f509337bd381407d22b6fabaf29d1bc4d", func := "outrider/outriderlaw06.RegionKnown", spec := "regionKnown", inPlace := ["internal/bytealg.CountString", "internal/bytealg.IndexByteString", "internal/bytealg.IndexString"], unfollowed := true, recurses := true, named := ["unicode/utf8.first", "unicode/utf8.acceptRanges", "internal/bytealg.MaxLen"], apart := false, laid := [("unicode/utf8.acceptRanges", laid_unicode_utf8_acceptRanges), ("unicode/utf8.first", laid_unicode_utf8_first)], narrowed := true }
def RegionKnownUptoSaid : Prop := regionKnownUptoRow.holds Tryd.pinned (OpenSpec.upto regionKnownSpec)

/-- 'outriderlaw06.RegionTurned', WHERE WHAT IT READS IS OF BULK AT MOST 1048576: true; the input reads as it did. -/
def regionTurnedUptoRow : OpenClaim := { program := "ytdengimjjlbmcaadoor", sum := "70f13da6972ddb1740fbcdce36a0264f509337bd381407d22b6fabaf29d1bc4d", func := "outrider/outriderlaw06.RegionTurned", spec := "regionTurned", inPlace := ["internal/bytealg.CountString", "internal/bytealg.IndexByteString", "internal/bytealg.IndexString"], unfollowed := true, recurses := true, named := ["unicode/utf8.first", "unicode/utf8.acceptRanges", "internal/bytealg.MaxLen"], apart := false, laid := [("unicode/utf8.acceptRanges", laid_unicode_utf8_acceptRanges), ("unicode/utf8.first", laid_unicode_utf8_first)], narrowed := true }
def RegionTurnedUptoSaid : Prop := regionTurnedUptoRow.holds Tryd.pinned (OpenSpec.upto regionTurnedSpec)

/-- 'outriderlaw06.RegionBelow', WHERE WHAT IT READS IS OF BULK AT MOST 1048576: true; the input reads as it did. -/
def regionBelowUptoRow : OpenClaim := { program := "ytdengimjjlbmcaadoor", sum := "70f13da6972ddb1740fbcdce36a0264f509337bd381407d22b6fabaf29d1bc4d", func := "outrider/outriderlaw06.RegionBelow", spec := "regionBelow", inPlace := ["internal/bytealg.CountString", "internal/bytealg.IndexByteString", "internal/bytealg.IndexString", "internal/abi.NoEscape", "internal/bytealg.MakeNoZero"], unfollowed := true, recurses := true, named := ["unicode/utf8.first", "unicode/utf8.acceptRanges", "internal/bytealg.MaxLen"], apart := false, laid := [("unicode/utf8.acceptRanges", laid_unicode_utf8_acceptRanges), ("unicode/utf8.first", laid_unicode_utf8_first)], narrowed := true }
def RegionBelowUptoSaid : Prop := regionBelowUptoRow.holds Tryd.pinned (OpenSpec.upto regionBelowSpec)

end Rows
end Go.Proofs.YtdengimjjlbmcaaDoor
