/-
  The program's Join, walked.
-/
import Derived.Test.YtkhoeiapfoaapaaGreatDoorPathFns2
import Derived.OwnWalk
import Derived.Maps.AppendAt
import Derived.ProofKit
namespace Go.Proofs.YtkhoeiapfoaapaaGreatDoor
set_option linter.unusedVariables false
set_option linter.unusedSimpArgs false
open Go.RowKit

theorem infoStr : (Tryz.prog.info? 9).map (fun i => (i.zero, i.size, i.bytes)) = some (some (.string ByteArray.empty), 1, 16) := by kernel_rfl
def sv (x : Bytes) : Value := .string (bs x)
theorem sv_one (L : List Bytes) : ∀ u ∈ L.map sv, u.oneCell' = true := by
  intro u hu
  obtain ⟨_, _, rfl⟩ := List.mem_map.1 hu
  rfl
/-- A row of texts that the call owns: its form. -/
theorem ownS_form {w : World} {base : Nat} {v : Value} {n : Nat} {L : List Bytes} (h : w.ownsRow base 9 1 v n (L.map sv)) :
    (v = .slice none 0 0 ∧ L = []) ∨ ∃ g cap, v = .slice (some ⟨g, 0, none⟩) L.length cap ∧ L.length ≤ cap ∧ base ≤ g ∧ g < w.heap.size ∧ StrsAt w g 0 L := by
  have hl : L.length = n := by have := h.1; simpa using this
  subst hl
  rcases h.2 with ⟨rfl, h0⟩ | ⟨g, cap, cur, rfl, hbg, hg, hnc, hcm, hsz, htk⟩
  · exact .inl ⟨rfl, List.eq_nil_of_length_eq_zero h0⟩
  · refine .inr ⟨g, cap, rfl, hnc, hbg, (Array.getElem?_eq_some_iff.1 hg).1, fun j x hx => ?_⟩
    have hcs := h.cells (g := g) rfl j (sv x) (by simp [hx])
    rw [Addr.add_lit] at hcs
    exact hcs

def joinL (L : List Bytes) (nm : Bytes) : Bytes := ofL (L ++ [nm])

def SplitAny (w : World) (ok : Bool) (e : Ending) (w' : World) : Prop := ∃ v, e = .returned (.tuple #[v, .bool ok]) ∧ Below w.heap.size w w'
theorem split_ok (l : Bytes) (L : List Bytes) (h : partsL l = some L) (w : World) (hm : MaxInt w) : Calls Tryz.prog 29 #[.string (bs l)] w (SplitAny w true) := by
  cases L with
  | nil => exact (split_nil l h w).mono fun e w' ⟨he, hw⟩ => ⟨_, he, hw ▸ Below.refl _ _⟩
  | cons x L => exact (split_some l (x :: L) h (by simp) w hm).mono fun e w' ⟨he, _, hb⟩ => ⟨_, he, hb⟩
theorem split_any (l : Bytes) (hs : (bs l).size ≤ 9223372036854775807) (w : World) (hm : MaxInt w) : Calls Tryz.prog 29 #[.string (bs l)] w (SplitAny w (partsL l).isSome) := by
  cases h : partsL l with
  | none => exact split_none l h hs w hm
  | some L => exact split_ok l L h w hm
def joinErr (L : List Bytes) (nm : Bytes) : Bool := decide (64 < (joinL L nm).length)
def joinVal (L : List Bytes) (nm : Bytes) : Value := if joinErr L nm then .tuple #[.string (bs []), .int .i64 3] else .tuple #[.string (bs (joinL L nm)), .int .i64 0]
theorem join_len (L : List Bytes) (nm : Bytes) (hL : (slashed L).length ≤ 64) (hn : nm.length ≤ 1000) : (ofL (L ++ [nm])).length ≤ 2000 := by
  have h1 := ofL_len (L ++ [nm])
  have : (slashed (L ++ [nm])).length = (slashed L).length + nm.length + 1 := by simp [slashed]; omega
  omega

end Go.Proofs.YtkhoeiapfoaapaaGreatDoor
