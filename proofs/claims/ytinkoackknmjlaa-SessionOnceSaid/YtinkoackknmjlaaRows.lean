/-
  No cell of these rows narrows 'for every input' (looked for: loops, veiled, ifaces, maps, wideKeys, modest, calm, conditions, laid).
  DERIVED. THE GIVEN ROWS OF THIS SEAT. 5 by the template 'for every input the law returns true; each argument reads behind the call as it read before'; 0 by the template 'total and deterministic' (their statements: YtinkoackknmjlaaTotals.lean).
  GIVEN WITH THE SEED: the statements are not yours to turn. If you find one false, say at which input.
  Laid BY PROGRAM, IN A SANDBOX (cutbox-rows.mjs): the forced cells as the released guide's own fill.sh prints them over the translation 1b3d774f8a07d19a… (all of the seat's roots in one cut). By AI agents, Wed Nov 11 2026. No macro, syntax, notation, axiom, sorry.
-/
import Derived.Test.YtinkoackknmjlaaChecked
import GoSem.Claim
import GoSem.ClaimJoined
import GoSem.ClaimMapViews
import Derived.JoinedTies
import Derived.KernelRfl
namespace Go.Proofs.Ytinkoackknmjlaa
/- THE CELL 'sum', in the pinned program and in every row, IS THE sha256 OF THE DUMP (.gsa) THAT YtinkoackknmjlaaProg.lean LOADS. Nothing in Lean hashes anything: it is a label: what it is worth is what the hold of that sum in a sandbox is worth. -/
noncomputable def Try.pinned : Pinned := { name := "ytinkoackknmjlaa", sum := "1b3d774f8a07d19a77aa995a10742a71d87111e23053f7c58879ccc07af75baf", checked := Try.checked }
namespace Rows
def none {H : Type} : Left H := { results := [], args := [] }

/-- 'outriderlaw17.SessionPlays': WHATEVER THE INPUT: true; the input reads as it did. -/
def sessionPlaysSpec : ChangeSpec := { name := "sessionPlays", fn := fun _ => fun
  | [d1, d2] => { results := [.lit (.bool true)], args := [d1, d2] }
  | _ => none }
def sessionPlaysRow : OpenClaim := { program := "ytinkoackknmjlaa", sum := "1b3d774f8a07d19a77aa995a10742a71d87111e23053f7c58879ccc07af75baf", func := "outrider/outriderlaw17.SessionPlays", spec := "sessionPlays", unfollowed := true, recurses := true, plainKeys := false, apart := false }
def SessionPlaysSaid : Prop := sessionPlaysRow.holds Try.pinned (OpenSpec.ofChange sessionPlaysSpec)

/-- ITS FALSE NEIGHBOUR: 'it returns false'. Refute it at one input. -/
def sessionPlaysWrong : ChangeSpec := { name := "sessionPlays", fn := fun _ => fun
  | [d1, d2] => { results := [.lit (.bool false)], args := [d1, d2] }
  | _ => none }
def SessionPlaysWrongFalsely : Prop := sessionPlaysRow.holds Try.pinned (OpenSpec.ofChange sessionPlaysWrong)

/-- 'outriderlaw17.SessionOnce': WHATEVER THE INPUT: true; the input reads as it did. -/
def sessionOnceSpec : ChangeSpec := { name := "sessionOnce", fn := fun _ => fun
  | [d1, d2] => { results := [.lit (.bool true)], args := [d1, d2] }
  | _ => none }
def sessionOnceRow : OpenClaim := { program := "ytinkoackknmjlaa", sum := "1b3d774f8a07d19a77aa995a10742a71d87111e23053f7c58879ccc07af75baf", func := "outrider/outriderlaw17.SessionOnce", spec := "sessionOnce", unfollowed := true, recurses := true, plainKeys := false, apart := false }
def SessionOnceSaid : Prop := sessionOnceRow.holds Try.pinned (OpenSpec.ofChange sessionOnceSpec)

/-- ITS FALSE NEIGHBOUR: 'it returns false'. Refute it at one input. -/
def sessionOnceWrong : ChangeSpec := { name := "sessionOnce", fn := fun _ => fun
  | [d1, d2] => { results := [.lit (.bool false)], args := [d1, d2] }
  | _ => none }
def SessionOnceWrongFalsely : Prop := sessionOnceRow.holds Try.pinned (OpenSpec.ofChange sessionOnceWrong)

/-- 'outriderlaw17.SessionNil': WHATEVER THE INPUT: true; the input reads as it did. -/
def sessionNilSpec : ChangeSpec := { name := "sessionNil", fn := fun _ => fun
  | [d] => { results := [.lit (.bool true)], args := [d] }
  | _ => none }
def sessionNilRow : OpenClaim := { program := "ytinkoackknmjlaa", sum := "1b3d774f8a07d19a77aa995a10742a71d87111e23053f7c58879ccc07af75baf", func := "outrider/outriderlaw17.SessionNil", spec := "sessionNil", unfollowed := true, recurses := true, plainKeys := false, apart := false }
def SessionNilSaid : Prop := sessionNilRow.holds Try.pinned (OpenSpec.ofChange sessionNilSpec)

/-- ITS FALSE NEIGHBOUR: 'it returns false'. Refute it at one input. -/
def sessionNilWrong : ChangeSpec := { name := "sessionNil", fn := fun _ => fun
  | [d] => { results := [.lit (.bool false)], args := [d] }
  | _ => none }
def SessionNilWrongFalsely : Prop := sessionNilRow.holds Try.pinned (OpenSpec.ofChange sessionNilWrong)

/-- 'outriderlaw17.SessionKnown': WHATEVER THE INPUT: true; the input reads as it did. -/
def sessionKnownSpec : ChangeSpec := { name := "sessionKnown", fn := fun _ => fun
  | [] => { results := [.lit (.bool true)], args := [] }
  | _ => none }
def sessionKnownRow : OpenClaim := { program := "ytinkoackknmjlaa", sum := "1b3d774f8a07d19a77aa995a10742a71d87111e23053f7c58879ccc07af75baf", func := "outrider/outriderlaw17.SessionKnown", spec := "sessionKnown", unfollowed := true, recurses := true, plainKeys := false, apart := false }
def SessionKnownSaid : Prop := sessionKnownRow.holds Try.pinned (OpenSpec.ofChange sessionKnownSpec)

/-- ITS FALSE NEIGHBOUR: 'it returns false'. Refute it at one input. -/
def sessionKnownWrong : ChangeSpec := { name := "sessionKnown", fn := fun _ => fun
  | [] => { results := [.lit (.bool false)], args := [] }
  | _ => none }
def SessionKnownWrongFalsely : Prop := sessionKnownRow.holds Try.pinned (OpenSpec.ofChange sessionKnownWrong)

/-- 'outriderlaw17.SessionCounts': WHATEVER THE INPUT: true; the input reads as it did. -/
def sessionCountsSpec : ChangeSpec := { name := "sessionCounts", fn := fun _ => fun
  | [d1, d2, d3] => { results := [.lit (.bool true)], args := [d1, d2, d3] }
  | _ => none }
def sessionCountsRow : OpenClaim := { program := "ytinkoackknmjlaa", sum := "1b3d774f8a07d19a77aa995a10742a71d87111e23053f7c58879ccc07af75baf", func := "outrider/outriderlaw17.SessionCounts", spec := "sessionCounts", unfollowed := true, recurses := true, plainKeys := false, apart := false }
def SessionCountsSaid : Prop := sessionCountsRow.holds Try.pinned (OpenSpec.ofChange sessionCountsSpec)

/-- ITS FALSE NEIGHBOUR: 'it returns false'. Refute it at one input. -/
def sessionCountsWrong : ChangeSpec := { name := "sessionCounts", fn := fun _ => fun
  | [d1, d2, d3] => { results := [.lit (.bool false)], args := [d1, d2, d3] }
  | _ => none }
def SessionCountsWrongFalsely : Prop := sessionCountsRow.holds Try.pinned (OpenSpec.ofChange sessionCountsWrong)

/- THE SECOND FORM. 'bulk': how many values and letters a reading holds, each counted each time it is reached (what is shared counts as often as it is met; a slice's spare places count too). A statement '..UptoSaid' is the law's where the arguments, and the package variables that the reading takes, are together of bulk at most 1048576: NARROWER than '..Said'. Prove '..Said' where nothing that the law and all that it calls make is longer than what came in: it says more and counts as full. Else prove '..UptoSaid'. A law counts once. -/
mutual
def uptoBulk {H : Type} : DataW H → Nat
  | .lit (.string bytes) => bytes.length + 1
  | .lit _ => 1
  | .nil => 1
  | .ptr d => uptoBulk d + 1
  | .slice elems spare => uptoBulkAll elems + uptoBulkAll spare + 1
  | .agg parts => uptoBulkAll parts + 1
  | .iface _ d => uptoBulk d + 1
  | .map entries => uptoBulkEntries entries + 1
  | .held _ => 1
def uptoBulkAll {H : Type} : List (DataW H) → Nat
  | [] => 0
  | d :: r => uptoBulk d + uptoBulkAll r
def uptoBulkEntries {H : Type} : List (Lit × DataW H) → Nat
  | [] => 0
  | x :: r => uptoBulkEntry x + uptoBulkEntries r
def uptoBulkEntry {H : Type} : Lit × DataW H → Nat
  | (.string bytes, d) => bytes.length + uptoBulk d + 1
  | (_, d) => uptoBulk d + 1
 end
def uptoSmall : (H : Type) → List (DataW H) → Bool := fun _ ds => decide (uptoBulkAll ds ≤ 1048576)
def OpenSpec.upto (s : _root_.Go.ChangeSpec) : _root_.Go.OpenSpec := { _root_.Go.OpenSpec.ofChange s with cond := some uptoSmall }

/-- 'outriderlaw17.SessionPlays', WHERE WHAT IT READS IS OF BULK AT MOST 1048576: true; the input reads as it did. -/
def sessionPlaysUptoRow : OpenClaim := { program := "ytinkoackknmjlaa", sum := "1b3d774f8a07d19a77aa995a10742a71d87111e23053f7c58879ccc07af75baf", func := "outrider/outriderlaw17.SessionPlays", spec := "sessionPlays", unfollowed := true, recurses := true, plainKeys := false, apart := false, narrowed := true }
def SessionPlaysUptoSaid : Prop := sessionPlaysUptoRow.holds Try.pinned (OpenSpec.upto sessionPlaysSpec)

/-- 'outriderlaw17.SessionOnce', WHERE WHAT IT READS IS OF BULK AT MOST 1048576: true; the input reads as it did. -/
def sessionOnceUptoRow : OpenClaim := { program := "ytinkoackknmjlaa", sum := "1b3d774f8a07d19a77aa995a10742a71d87111e23053f7c58879ccc07af75baf", func := "outrider/outriderlaw17.SessionOnce", spec := "sessionOnce", unfollowed := true, recurses := true, plainKeys := false, apart := false, narrowed := true }
def SessionOnceUptoSaid : Prop := sessionOnceUptoRow.holds Try.pinned (OpenSpec.upto sessionOnceSpec)

/-- 'outriderlaw17.SessionNil', WHERE WHAT IT READS IS OF BULK AT MOST 1048576: true; the input reads as it did. -/
def sessionNilUptoRow : OpenClaim := { program := "ytinkoackknmjlaa", sum := "1b3d774f8a07d19a77aa995a10742a71d87111e23053f7c58879ccc07af75baf", func := "outrider/outriderlaw17.SessionNil", spec := "sessionNil", unfollowed := true, recurses := true, plainKeys := false, apart := false, narrowed := true }
def SessionNilUptoSaid : Prop := sessionNilUptoRow.holds Try.pinned (OpenSpec.upto sessionNilSpec)

/-- 'outriderlaw17.SessionKnown', WHERE WHAT IT READS IS OF BULK AT MOST 1048576: true; the input reads as it did. -/
def sessionKnownUptoRow : OpenClaim := { program := "ytinkoackknmjlaa", sum := "1b3d774f8a07d19a77aa995a10742a71d87111e23053f7c58879ccc07af75baf", func := "outrider/outriderlaw17.SessionKnown", spec := "sessionKnown", unfollowed := true, recurses := true, plainKeys := false, apart := false, narrowed := true }
def SessionKnownUptoSaid : Prop := sessionKnownUptoRow.holds Try.pinned (OpenSpec.upto sessionKnownSpec)

/-- 'outriderlaw17.SessionCounts', WHERE WHAT IT READS IS OF BULK AT MOST 1048576: true; the input reads as it did. -/
def sessionCountsUptoRow : OpenClaim := { program := "ytinkoackknmjlaa", sum := "1b3d774f8a07d19a77aa995a10742a71d87111e23053f7c58879ccc07af75baf", func := "outrider/outriderlaw17.SessionCounts", spec := "sessionCounts", unfollowed := true, recurses := true, plainKeys := false, apart := false, narrowed := true }
def SessionCountsUptoSaid : Prop := sessionCountsUptoRow.holds Try.pinned (OpenSpec.upto sessionCountsSpec)

end Rows
end Go.Proofs.Ytinkoackknmjlaa
