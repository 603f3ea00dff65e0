/-
  No cell of these rows narrows 'for every input' (looked for: loops, veiled, ifaces, maps, wideKeys, modest, calm, conditions, laid).
  DERIVED. THE GIVEN ROWS OF THIS SEAT. 6 by the template 'for every input the law returns true; each argument reads behind the call as it read before'; 0 by the template 'total and deterministic' (their statements: YtoddbmbifgoliaaTotals.lean).
  GIVEN WITH THE SEED: the statements are not yours to turn. If you find one false, say at which input.
  Laid BY PROGRAM, IN A SANDBOX (cutbox-rows.mjs): the forced cells as the released guide's own fill.sh prints them over the translation 486bc092135155ee… (all of the seat's roots in one cut). By AI agents, Wed Nov 11 2026. No macro, syntax, notation, axiom, sorry.
-/
import Derived.Test.YtoddbmbifgoliaaChecked
import GoSem.Claim
import GoSem.ClaimJoined
import GoSem.ClaimMapViews
import Derived.JoinedTies
import Derived.KernelRfl
namespace Go.Proofs.Ytoddbmbifgoliaa
/- THE CELL 'sum', in the pinned program and in every row, IS THE sha256 OF THE DUMP (.gsa) THAT YtoddbmbifgoliaaProg.lean LOADS. Nothing in Lean hashes anything: it is a label: what it is worth is what the hold of that sum in a sandbox is worth. -/
noncomputable def Try.pinned : Pinned := { name := "ytoddbmbifgoliaa", sum := "486bc092135155ee2a3814d92c93cea2f08e78d55801f0ae934cefc0332033f7", checked := Try.checked }
namespace Rows
def none {H : Type} : Left H := { results := [], args := [] }

/-- 'outriderlaw10.BallotNumbers': WHATEVER THE INPUT: true; the input reads as it did. -/
def ballotNumbersSpec : ChangeSpec := { name := "ballotNumbers", fn := fun _ => fun
  | [d1, d2, d3, d4, d5, d6] => { results := [.lit (.bool true)], args := [d1, d2, d3, d4, d5, d6] }
  | _ => none }
def ballotNumbersRow : OpenClaim := { program := "ytoddbmbifgoliaa", sum := "486bc092135155ee2a3814d92c93cea2f08e78d55801f0ae934cefc0332033f7", func := "outrider/outriderlaw10.BallotNumbers", spec := "ballotNumbers", unfollowed := true, recurses := true, apart := false }
def BallotNumbersSaid : Prop := ballotNumbersRow.holds Try.pinned (OpenSpec.ofChange ballotNumbersSpec)

/-- ITS FALSE NEIGHBOUR: 'it returns false'. Refute it at one input. -/
def ballotNumbersWrong : ChangeSpec := { name := "ballotNumbers", fn := fun _ => fun
  | [d1, d2, d3, d4, d5, d6] => { results := [.lit (.bool false)], args := [d1, d2, d3, d4, d5, d6] }
  | _ => none }
def BallotNumbersWrongFalsely : Prop := ballotNumbersRow.holds Try.pinned (OpenSpec.ofChange ballotNumbersWrong)

/-- 'outriderlaw10.BallotCommits': WHATEVER THE INPUT: true; the input reads as it did. -/
def ballotCommitsSpec : ChangeSpec := { name := "ballotCommits", fn := fun _ => fun
  | [d] => { results := [.lit (.bool true)], args := [d] }
  | _ => none }
def ballotCommitsRow : OpenClaim := { program := "ytoddbmbifgoliaa", sum := "486bc092135155ee2a3814d92c93cea2f08e78d55801f0ae934cefc0332033f7", func := "outrider/outriderlaw10.BallotCommits", spec := "ballotCommits", unfollowed := true, recurses := true, apart := false }
def BallotCommitsSaid : Prop := ballotCommitsRow.holds Try.pinned (OpenSpec.ofChange ballotCommitsSpec)

/-- ITS FALSE NEIGHBOUR: 'it returns false'. Refute it at one input. -/
def ballotCommitsWrong : ChangeSpec := { name := "ballotCommits", fn := fun _ => fun
  | [d] => { results := [.lit (.bool false)], args := [d] }
  | _ => none }
def BallotCommitsWrongFalsely : Prop := ballotCommitsRow.holds Try.pinned (OpenSpec.ofChange ballotCommitsWrong)

/-- 'outriderlaw10.BallotMeet': WHATEVER THE INPUT: true; the input reads as it did. -/
def ballotMeetSpec : ChangeSpec := { name := "ballotMeet", fn := fun _ => fun
  | [d1, d2, d3, d4] => { results := [.lit (.bool true)], args := [d1, d2, d3, d4] }
  | _ => none }
def ballotMeetRow : OpenClaim := { program := "ytoddbmbifgoliaa", sum := "486bc092135155ee2a3814d92c93cea2f08e78d55801f0ae934cefc0332033f7", func := "outrider/outriderlaw10.BallotMeet", spec := "ballotMeet", unfollowed := true, recurses := true, apart := false }
def BallotMeetSaid : Prop := ballotMeetRow.holds Try.pinned (OpenSpec.ofChange ballotMeetSpec)

/-- ITS FALSE NEIGHBOUR: 'it returns false'. Refute it at one input. -/
def ballotMeetWrong : ChangeSpec := { name := "ballotMeet", fn := fun _ => fun
  | [d1, d2, d3, d4] => { results := [.lit (.bool false)], args := [d1, d2, d3, d4] }
  | _ => none }
def BallotMeetWrongFalsely : Prop := ballotMeetRow.holds Try.pinned (OpenSpec.ofChange ballotMeetWrong)

/-- 'outriderlaw10.BallotApart': WHATEVER THE INPUT: true; the input reads as it did. -/
def ballotApartSpec : ChangeSpec := { name := "ballotApart", fn := fun _ => fun
  | [d1, d2, d3, d4, d5] => { results := [.lit (.bool true)], args := [d1, d2, d3, d4, d5] }
  | _ => none }
def ballotApartRow : OpenClaim := { program := "ytoddbmbifgoliaa", sum := "486bc092135155ee2a3814d92c93cea2f08e78d55801f0ae934cefc0332033f7", func := "outrider/outriderlaw10.BallotApart", spec := "ballotApart", unfollowed := true, recurses := true, apart := false }
def BallotApartSaid : Prop := ballotApartRow.holds Try.pinned (OpenSpec.ofChange ballotApartSpec)

/-- ITS FALSE NEIGHBOUR: 'it returns false'. Refute it at one input. -/
def ballotApartWrong : ChangeSpec := { name := "ballotApart", fn := fun _ => fun
  | [d1, d2, d3, d4, d5] => { results := [.lit (.bool false)], args := [d1, d2, d3, d4, d5] }
  | _ => none }
def BallotApartWrongFalsely : Prop := ballotApartRow.holds Try.pinned (OpenSpec.ofChange ballotApartWrong)

/-- 'outriderlaw10.BallotOrder': WHATEVER THE INPUT: true; the input reads as it did. -/
def ballotOrderSpec : ChangeSpec := { name := "ballotOrder", fn := fun _ => fun
  | [d1, d2, d3, d4, d5, d6] => { results := [.lit (.bool true)], args := [d1, d2, d3, d4, d5, d6] }
  | _ => none }
def ballotOrderRow : OpenClaim := { program := "ytoddbmbifgoliaa", sum := "486bc092135155ee2a3814d92c93cea2f08e78d55801f0ae934cefc0332033f7", func := "outrider/outriderlaw10.BallotOrder", spec := "ballotOrder", unfollowed := true, recurses := true, apart := false }
def BallotOrderSaid : Prop := ballotOrderRow.holds Try.pinned (OpenSpec.ofChange ballotOrderSpec)

/-- ITS FALSE NEIGHBOUR: 'it returns false'. Refute it at one input. -/
def ballotOrderWrong : ChangeSpec := { name := "ballotOrder", fn := fun _ => fun
  | [d1, d2, d3, d4, d5, d6] => { results := [.lit (.bool false)], args := [d1, d2, d3, d4, d5, d6] }
  | _ => none }
def BallotOrderWrongFalsely : Prop := ballotOrderRow.holds Try.pinned (OpenSpec.ofChange ballotOrderWrong)

/-- 'outriderlaw10.BallotKnown': WHATEVER THE INPUT: true; the input reads as it did. -/
def ballotKnownSpec : ChangeSpec := { name := "ballotKnown", fn := fun _ => fun
  | [] => { results := [.lit (.bool true)], args := [] }
  | _ => none }
def ballotKnownRow : OpenClaim := { program := "ytoddbmbifgoliaa", sum := "486bc092135155ee2a3814d92c93cea2f08e78d55801f0ae934cefc0332033f7", func := "outrider/outriderlaw10.BallotKnown", spec := "ballotKnown", unfollowed := true, recurses := true, apart := false }
def BallotKnownSaid : Prop := ballotKnownRow.holds Try.pinned (OpenSpec.ofChange ballotKnownSpec)

/-- ITS FALSE NEIGHBOUR: 'it returns false'. Refute it at one input. -/
def ballotKnownWrong : ChangeSpec := { name := "ballotKnown", fn := fun _ => fun
  | [] => { results := [.lit (.bool false)], args := [] }
  | _ => none }
def BallotKnownWrongFalsely : Prop := ballotKnownRow.holds Try.pinned (OpenSpec.ofChange ballotKnownWrong)

/- THE SECOND FORM. 'bulk': how many values and letters a reading holds, each counted each time it is reached (what is shared counts as often as it is met; a slice's spare places count too). A statement '..UptoSaid' is the law's where the arguments, and the package variables that the reading takes, are together of bulk at most 1048576: NARROWER than '..Said'. Prove '..Said' where nothing that the law and all that it calls make is longer than what came in: it says more and counts as full. Else prove '..UptoSaid'. A law counts once. -/
mutual
def uptoBulk {H : Type} : DataW H → Nat
  | .lit (.string bytes) => bytes.length + 1
  | .lit _ => 1
  | .nil => 1
  | .ptr d => uptoBulk d + 1
  | .slice elems spare => uptoBulkAll elems + uptoBulkAll spare + 1
  | .agg parts => uptoBulkAll parts + 1
  | .iface _ d => uptoBulk d + 1
  | .map entries => uptoBulkEntries entries + 1
  | .held _ => 1
def uptoBulkAll {H : Type} : List (DataW H) → Nat
  | [] => 0
  | d :: r => uptoBulk d + uptoBulkAll r
def uptoBulkEntries {H : Type} : List (Lit × DataW H) → Nat
  | [] => 0
  | x :: r => uptoBulkEntry x + uptoBulkEntries r
def uptoBulkEntry {H : Type} : Lit × DataW H → Nat
  | (.string bytes, d) => bytes.length + uptoBulk d + 1
  | (_, d) => uptoBulk d + 1
 end
def uptoSmall : (H : Type) → List (DataW H) → Bool := fun _ ds => decide (uptoBulkAll ds ≤ 1048576)
def OpenSpec.upto (s : _root_.Go.ChangeSpec) : _root_.Go.OpenSpec := { _root_.Go.OpenSpec.ofChange s with cond := some uptoSmall }

/-- 'outriderlaw10.BallotNumbers', WHERE WHAT IT READS IS OF BULK AT MOST 1048576: true; the input reads as it did. -/
def ballotNumbersUptoRow : OpenClaim := { program := "ytoddbmbifgoliaa", sum := "486bc092135155ee2a3814d92c93cea2f08e78d55801f0ae934cefc0332033f7", func := "outrider/outriderlaw10.BallotNumbers", spec := "ballotNumbers", unfollowed := true, recurses := true, apart := false, narrowed := true }
def BallotNumbersUptoSaid : Prop := ballotNumbersUptoRow.holds Try.pinned (OpenSpec.upto ballotNumbersSpec)

/-- 'outriderlaw10.BallotCommits', WHERE WHAT IT READS IS OF BULK AT MOST 1048576: true; the input reads as it did. -/
def ballotCommitsUptoRow : OpenClaim := { program := "ytoddbmbifgoliaa", sum := "486bc092135155ee2a3814d92c93cea2f08e78d55801f0ae934cefc0332033f7", func := "outrider/outriderlaw10.BallotCommits", spec := "ballotCommits", unfollowed := true, recurses := true, apart := false, narrowed := true }
def BallotCommitsUptoSaid : Prop := ballotCommitsUptoRow.holds Try.pinned (OpenSpec.upto ballotCommitsSpec)

/-- 'outriderlaw10.BallotMeet', WHERE WHAT IT READS IS OF BULK AT MOST 1048576: true; the input reads as it did. -/
def ballotMeetUptoRow : OpenClaim := { program := "ytoddbmbifgoliaa", sum := "486bc092135155ee2a3814d92c93cea2f08e78d55801f0ae934cefc0332033f7", func := "outrider/outriderlaw10.BallotMeet", spec := "ballotMeet", unfollowed := true, recurses := true, apart := false, narrowed := true }
def BallotMeetUptoSaid : Prop := ballotMeetUptoRow.holds Try.pinned (OpenSpec.upto ballotMeetSpec)

/-- 'outriderlaw10.BallotApart', WHERE WHAT IT READS IS OF BULK AT MOST 1048576: true; the input reads as it did. -/
def ballotApartUptoRow : OpenClaim := { program := "ytoddbmbifgoliaa", sum := "486bc092135155ee2a3814d92c93cea2f08e78d55801f0ae934cefc0332033f7", func := "outrider/outriderlaw10.BallotApart", spec := "ballotApart", unfollowed := true, recurses := true, apart := false, narrowed := true }
def BallotApartUptoSaid : Prop := ballotApartUptoRow.holds Try.pinned (OpenSpec.upto ballotApartSpec)

/-- 'outriderlaw10.BallotOrder', WHERE WHAT IT READS IS OF BULK AT MOST 1048576: true; the input reads as it did. -/
def ballotOrderUptoRow : OpenClaim := { program := "ytoddbmbifgoliaa", sum := "486bc092135155ee2a3814d92c93cea2f08e78d55801f0ae934cefc0332033f7", func := "outrider/outriderlaw10.BallotOrder", spec := "ballotOrder", unfollowed := true, recurses := true, apart := false, narrowed := true }
def BallotOrderUptoSaid : Prop := ballotOrderUptoRow.holds Try.pinned (OpenSpec.upto ballotOrderSpec)

/-- 'outriderlaw10.BallotKnown', WHERE WHAT IT READS IS OF BULK AT MOST 1048576: true; the input reads as it did. -/
def ballotKnownUptoRow : OpenClaim := { program := "ytoddbmbifgoliaa", sum := "486bc092135155ee2a3814d92c93cea2f08e78d55801f0ae934cefc0332033f7", func := "outrider/outriderlaw10.BallotKnown", spec := "ballotKnown", unfollowed := true, recurses := true, apart := false, narrowed := true }
def BallotKnownUptoSaid : Prop := ballotKnownUptoRow.holds Try.pinned (OpenSpec.upto ballotKnownSpec)

end Rows
end Go.Proofs.Ytoddbmbifgoliaa
