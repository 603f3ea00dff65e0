/-
  The program's Join, walked.
-/
import Derived.Test.YtkhoeiapfoaapaaDoorPathFns2
import Derived.OwnWalk
import Derived.Maps.AppendAt
import Derived.Maps.AppendAt
import Derived.ProofKit
namespace Go.Proofs.YtkhoeiapfoaapaaDoor
set_option linter.unusedVariables false
set_option linter.unusedSimpArgs false
open Go.RowKit

theorem infoStr : (Tryd.prog.info? 9).map (fun i => (i.zero, i.size, i.bytes)) = some (some (.string ByteArray.empty), 1, 16) := by kernel_rfl
def sv (x : Bytes) : Value := .string (bs x)
theorem sv_one (L : List Bytes) : ∀ u ∈ L.map sv, u.oneCell' = true := by
  intro u hu
  obtain ⟨_, _, rfl⟩ := List.mem_map.1 hu
  rfl
/-- A row of texts that the call owns: its form. -/
theorem ownS_form {w : World} {base : Nat} {v : Value} {n : Nat} {L : List Bytes} (h : w.ownsRow base 9 1 v n (L.map sv)) :
    (v = .slice none 0 0 ∧ L = []) ∨ ∃ g cap, v = .slice (some ⟨g, 0, none⟩) L.length cap ∧ L.length ≤ cap ∧ base ≤ g ∧ g < w.heap.size ∧ StrsAt w g 0 L := by
  have hl : L.length = n := by have := h.1; simpa using this
  subst hl
  rcases h.2 with ⟨rfl, h0⟩ | ⟨g, cap, cur, rfl, hbg, hg, hnc, hcm, hsz, htk⟩
  · exact .inl ⟨rfl, List.eq_nil_of_length_eq_zero h0⟩
  · refine .inr ⟨g, cap, rfl, hnc, hbg, (Array.getElem?_eq_some_iff.1 hg).1, fun j x hx => ?_⟩
    have hcs := h.cells (g := g) rfl j (sv x) (by simp [hx])
    rw [Addr.add_lit] at hcs
    exact hcs

def joinL (L : List Bytes) (nm : Bytes) : Bytes := ofL (L ++ [nm])

set_option maxRecDepth 100000 in
theorem join_none (l nm : Bytes) (h : partsL l = none) (hs : (bs l).size ≤ 9223372036854775807) (w : World) (hm : MaxInt w) :
    Calls Tryd.prog 19 #[.string (bs l), .string (bs nm)] w fun e w' => e = .returned (.tuple #[.string (bs []), .int .i64 30]) ∧ Below w.heap.size w w' := by
  have hsp := split_none l h hs w hm
  clear h hm
  go_enter Tryd.func19, Tryd.ntmps19
  go_wp2_with (go_at_call 36; refine hsp.mono ?_; rintro e w1 ⟨v, rfl, B1⟩)
  go_ret2
  exact ⟨rfl, B1⟩
def SplitAny (w : World) (ok : Bool) (e : Ending) (w' : World) : Prop := ∃ v, e = .returned (.tuple #[v, .bool ok]) ∧ Below w.heap.size w w'
theorem split_ok (l : Bytes) (L : List Bytes) (h : partsL l = some L) (w : World) (hm : MaxInt w) : Calls Tryd.prog 36 #[.string (bs l)] w (SplitAny w true) := by
  cases L with
  | nil => exact (split_nil l h w).mono fun e w' ⟨he, hw⟩ => ⟨_, he, hw ▸ Below.refl _ _⟩
  | cons x L => exact (split_some l (x :: L) h (by simp) w hm).mono fun e w' ⟨he, _, hb⟩ => ⟨_, he, hb⟩
theorem split_any (l : Bytes) (hs : (bs l).size ≤ 9223372036854775807) (w : World) (hm : MaxInt w) : Calls Tryd.prog 36 #[.string (bs l)] w (SplitAny w (partsL l).isSome) := by
  cases h : partsL l with
  | none => exact split_none l h hs w hm
  | some L => exact split_ok l L h w hm
set_option maxRecDepth 100000 in
theorem join_name (l nm : Bytes) (L : List Bytes) (h : partsL l = some L) (hn : okName nm = false) (w : World) (hm : MaxInt w) :
    Calls Tryd.prog 19 #[.string (bs l), .string (bs nm)] w fun e w' => e = .returned (.tuple #[.string (bs []), .int .i64 30]) ∧ Below w.heap.size w w' := by
  have hsp := split_ok l L h w hm
  have hnb := name_bad (bs nm) hn
  clear h hm
  go_enter Tryd.func19, Tryd.ntmps19
  go_wp2_with fail
  refine hsp.mono ?_
  rintro e w1 ⟨v, rfl, B1⟩
  go_wp2_with fail
  refine (hnb _).mono ?_
  rintro e w2 ⟨rfl, B2⟩
  have HB := Lib.hid (B1.trans (B2.mono B1.size))
  clear B1 B2
  go_wp2
  go_ret2
  exact ⟨rfl, HB.out⟩

/-- What Join answers of a path and a name. -/
def joinErr (L : List Bytes) (nm : Bytes) : Bool := decide (64 < (joinL L nm).length)
def joinVal (L : List Bytes) (nm : Bytes) : Value := if joinErr L nm then .tuple #[.string (bs []), .int .i64 3] else .tuple #[.string (bs (joinL L nm)), .int .i64 0]
theorem join_len (L : List Bytes) (nm : Bytes) (hL : (slashed L).length ≤ 64) (hn : nm.length ≤ 1000) : (ofL (L ++ [nm])).length ≤ 2000 := by
  have h1 := ofL_len (L ++ [nm])
  have : (slashed (L ++ [nm])).length = (slashed L).length + nm.length + 1 := by simp [slashed]; omega
  omega

set_option maxRecDepth 100000 in
set_option maxHeartbeats 1000000 in
theorem join_nil (l nm : Bytes) (h : partsL l = some []) (hn : okName nm = true) (hl : nm.length ≤ 1000) (w : World) :
    Calls Tryd.prog 19 #[.string (bs l), .string (bs nm)] w fun e w' => e = .returned (joinVal [] nm) ∧ Below w.heap.size w w' := by
  have hsp := split_nil l h w
  have hnb := name_ok (bs nm) hn
  obtain ⟨i0, hi, hz0, hz1, hz2⟩ := info_parts infoStr
  have hlen := join_len [] nm (by simp [slashed]) hl
  have hof : ∀ (W : World) (g cap : Nat), g < W.heap.size → ([] ++ [nm]).length ≤ cap → StrsAt W g 0 ([] ++ [nm]) → Calls Tryd.prog 38 #[.slice (some ⟨g, 0, none⟩) ([] ++ [nm]).length cap] W fun e w' => e = .returned (.string (bs (joinL [] nm))) ∧ Below W.heap.size W w' :=
    fun W g cap hg hcap hat => of_any g cap ([] ++ [nm]) W hat hg (by simp) hcap (by omega)
  have HO := Lib.hid hof
  have hsz : (bs (joinL [] nm)).size ≤ 2000 := by rw [size_bs]; exact hlen
  clear h hn hof hlen
  cases hj : joinErr [] nm with
  | true =>
    have hgt : 64 < (bs (joinL [] nm)).size := by rw [size_bs]; simpa [joinErr] using hj
    rw [show joinVal [] nm = .tuple #[.string (bs []), .int .i64 3] from by simp [joinVal, hj]]
    clear hj
    generalize bs (joinL [] nm) = q at *
    go_enter Tryd.func19, Tryd.ntmps19
    go_wp2_with fail
    refine hsp.mono ?_
    rintro e w1 ⟨rfl, rfl⟩
    go_wp2_with fail
    refine (hnb _).mono ?_
    rintro e w2 ⟨rfl, B2⟩
    have HB := Lib.hid B2
    clear B2
    go_wp2_with (at_builtin; refine wpList_append_own _ rfl _ _ 41 rfl w.heap.size 9 i0 (.string ByteArray.empty) 1 16 Tryd.underlying41 hi hz0 hz1 hz2 rfl (by decide) _ _ _ rfl ((World.ownsRow_nil w2 w.heap.size 9 1).alloc _) ⟨w2.heap.size, 0, none⟩ 1 1 [sv nm] rfl rfl (cell_one_new _ _ _) (sv_one [nm]) (by unfold maxLen; omega) (by omega) (by have := HB.out.size; simp; omega) ?_; intro v3 w3 hown hgrow _)
    have hown' : w3.ownsRow w.heap.size 9 1 v3 1 ((([] : List Bytes) ++ [nm]).map sv) := (show w3.ownsRow w.heap.size 9 1 v3 1 ((([] : List Bytes) ++ [nm]).map fun x => Value.string (bs x)) from by simpa [sv] using hown)
    rcases ownS_form hown' with ⟨_, h0⟩ | ⟨g, cap, hv, hcap, hbg, hgl, hat⟩
    · simp at h0
    · rw [hv]
      have HB3 := Lib.hid (show Below w.heap.size w w3 from (HB.out.alloc (by have := HB.out.size; omega) _).grown hgrow (by have := HB.out.size; simp; omega) (fun k hk => by cases hk))
      have hcall := HO.out w3 g cap hgl hcap hat
      clear hown hown' hv hgrow hat hcap
      refine hcall.mono ?_
      rintro e w4 ⟨rfl, B4⟩
      have HB4 := Lib.hid (HB3.out.trans (B4.mono HB3.out.size))
      clear B4 hcall
      go_wp2
      go_ret2
      exact ⟨by first | rfl | simp, HB4.out⟩
  | false =>
    have hgt : (bs (joinL [] nm)).size ≤ 64 := by rw [size_bs]; simpa [joinErr] using hj
    rw [show joinVal [] nm = .tuple #[.string (bs (joinL [] nm)), .int .i64 0] from by simp [joinVal, hj]]
    clear hj
    generalize bs (joinL [] nm) = q at *
    go_enter Tryd.func19, Tryd.ntmps19
    go_wp2_with fail
    refine hsp.mono ?_
    rintro e w1 ⟨rfl, rfl⟩
    go_wp2_with fail
    refine (hnb _).mono ?_
    rintro e w2 ⟨rfl, B2⟩
    have HB := Lib.hid B2
    clear B2
    go_wp2_with (at_builtin; refine wpList_append_own _ rfl _ _ 41 rfl w.heap.size 9 i0 (.string ByteArray.empty) 1 16 Tryd.underlying41 hi hz0 hz1 hz2 rfl (by decide) _ _ _ rfl ((World.ownsRow_nil w2 w.heap.size 9 1).alloc _) ⟨w2.heap.size, 0, none⟩ 1 1 [sv nm] rfl rfl (cell_one_new _ _ _) (sv_one [nm]) (by unfold maxLen; omega) (by omega) (by have := HB.out.size; simp; omega) ?_; intro v3 w3 hown hgrow _)
    have hown' : w3.ownsRow w.heap.size 9 1 v3 1 ((([] : List Bytes) ++ [nm]).map sv) := (show w3.ownsRow w.heap.size 9 1 v3 1 ((([] : List Bytes) ++ [nm]).map fun x => Value.string (bs x)) from by simpa [sv] using hown)
    rcases ownS_form hown' with ⟨_, h0⟩ | ⟨g, cap, hv, hcap, hbg, hgl, hat⟩
    · simp at h0
    · rw [hv]
      have HB3 := Lib.hid (show Below w.heap.size w w3 from (HB.out.alloc (by have := HB.out.size; omega) _).grown hgrow (by have := HB.out.size; simp; omega) (fun k hk => by cases hk))
      have hcall := HO.out w3 g cap hgl hcap hat
      clear hown hown' hv hgrow hat hcap
      refine hcall.mono ?_
      rintro e w4 ⟨rfl, B4⟩
      have HB4 := Lib.hid (HB3.out.trans (B4.mono HB3.out.size))
      clear B4 hcall
      go_wp2
      go_ret2
      exact ⟨by first | rfl | simp, HB4.out⟩
set_option maxRecDepth 100000 in
set_option maxHeartbeats 1000000 in
theorem join_some (l nm : Bytes) (L : List Bytes) (h : partsL l = some L) (hL : L ≠ []) (hn : okName nm = true) (hl : nm.length ≤ 1000) (w : World) (hm : MaxInt w) :
    Calls Tryd.prog 19 #[.string (bs l), .string (bs nm)] w fun e w' => e = .returned (joinVal L nm) ∧ Below w.heap.size w w' := by
  have hsp := split_some l L h hL w hm
  have hLl := partsL_len h
  have hLm : L.length ≤ maxLen := by unfold maxLen; omega
  have hnb := name_ok (bs nm) hn
  obtain ⟨i0, hi, hz0, hz1, hz2⟩ := info_parts infoStr
  have hlen := join_len L nm (slashed_parts h) hl
  have hof : ∀ (W : World) (g cap : Nat), g < W.heap.size → (L ++ [nm]).length ≤ cap → StrsAt W g 0 (L ++ [nm]) → Calls Tryd.prog 38 #[.slice (some ⟨g, 0, none⟩) (L ++ [nm]).length cap] W fun e w' => e = .returned (.string (bs (joinL L nm))) ∧ Below W.heap.size W w' :=
    fun W g cap hg hcap hat => of_any g cap (L ++ [nm]) W hat hg (by simp; omega) hcap (by omega)
  have HO := Lib.hid hof
  have hsz : (bs (joinL L nm)).size ≤ 2000 := by rw [size_bs]; exact hlen
  clear h hn hof hlen
  cases hj : joinErr L nm with
  | true =>
    have hgt : 64 < (bs (joinL L nm)).size := by rw [size_bs]; simpa [joinErr] using hj
    rw [show joinVal L nm = .tuple #[.string (bs []), .int .i64 3] from by simp [joinVal, hj]]
    clear hj
    generalize bs (joinL L nm) = q at *
    go_enter Tryd.func19, Tryd.ntmps19
    go_wp2_with fail
    refine hsp.mono ?_
    rintro e w1 ⟨rfl, A1, B1⟩
    go_wp2_with fail
    refine (hnb _).mono ?_
    rintro e w2 ⟨rfl, B2⟩
    have hA2 : BlkS w2 w.heap.size L := A1.kept B2 A1.lt
    have HB := Lib.hid (B1.trans (B2.mono B1.size))
    have HO2 := Lib.hid (hA2.owns (Nat.le_refl _) hLm)
    clear B1 B2 A1 hA2
    go_wp2_with (at_builtin; refine wpList_append_own _ rfl _ _ 41 rfl w.heap.size 9 i0 (.string ByteArray.empty) 1 16 Tryd.underlying41 hi hz0 hz1 hz2 rfl (by decide) _ _ _ rfl (HO2.out.alloc _) ⟨w2.heap.size, 0, none⟩ 1 1 [sv nm] rfl rfl (cell_one_new _ _ _) (sv_one [nm]) (by unfold maxLen; omega) (by omega) (by have := HB.out.size; simp; omega) ?_; intro v3 w3 hown hgrow _)
    have hown' : w3.ownsRow w.heap.size 9 1 v3 (L.length + 1) ((L ++ [nm]).map sv) := (show w3.ownsRow w.heap.size 9 1 v3 (L.length + 1) ((L ++ [nm]).map fun x => Value.string (bs x)) from by simpa [sv] using hown)
    rcases ownS_form hown' with ⟨_, h0⟩ | ⟨g, cap, hv, hcap, hbg, hgl, hat⟩
    · simp at h0
    · rw [hv]
      have HB3 := Lib.hid (show Below w.heap.size w w3 from (HB.out.alloc (by have := HB.out.size; omega) _).grown hgrow (by have := HB.out.size; simp; omega) (fun k hk => by cases hk; exact Nat.le_refl _))
      have hcall := HO.out w3 g cap hgl hcap hat
      clear hown hown' hv hgrow hat hcap
      refine hcall.mono ?_
      rintro e w4 ⟨rfl, B4⟩
      have HB4 := Lib.hid (HB3.out.trans (B4.mono HB3.out.size))
      clear B4 hcall
      go_wp2
      go_ret2
      exact ⟨by first | rfl | simp, HB4.out⟩
  | false =>
    have hgt : (bs (joinL L nm)).size ≤ 64 := by rw [size_bs]; simpa [joinErr] using hj
    rw [show joinVal L nm = .tuple #[.string (bs (joinL L nm)), .int .i64 0] from by simp [joinVal, hj]]
    clear hj
    generalize bs (joinL L nm) = q at *
    go_enter Tryd.func19, Tryd.ntmps19
    go_wp2_with fail
    refine hsp.mono ?_
    rintro e w1 ⟨rfl, A1, B1⟩
    go_wp2_with fail
    refine (hnb _).mono ?_
    rintro e w2 ⟨rfl, B2⟩
    have hA2 : BlkS w2 w.heap.size L := A1.kept B2 A1.lt
    have HB := Lib.hid (B1.trans (B2.mono B1.size))
    have HO2 := Lib.hid (hA2.owns (Nat.le_refl _) hLm)
    clear B1 B2 A1 hA2
    go_wp2_with (at_builtin; refine wpList_append_own _ rfl _ _ 41 rfl w.heap.size 9 i0 (.string ByteArray.empty) 1 16 Tryd.underlying41 hi hz0 hz1 hz2 rfl (by decide) _ _ _ rfl (HO2.out.alloc _) ⟨w2.heap.size, 0, none⟩ 1 1 [sv nm] rfl rfl (cell_one_new _ _ _) (sv_one [nm]) (by unfold maxLen; omega) (by omega) (by have := HB.out.size; simp; omega) ?_; intro v3 w3 hown hgrow _)
    have hown' : w3.ownsRow w.heap.size 9 1 v3 (L.length + 1) ((L ++ [nm]).map sv) := (show w3.ownsRow w.heap.size 9 1 v3 (L.length + 1) ((L ++ [nm]).map fun x => Value.string (bs x)) from by simpa [sv] using hown)
    rcases ownS_form hown' with ⟨_, h0⟩ | ⟨g, cap, hv, hcap, hbg, hgl, hat⟩
    · simp at h0
    · rw [hv]
      have HB3 := Lib.hid (show Below w.heap.size w w3 from (HB.out.alloc (by have := HB.out.size; omega) _).grown hgrow (by have := HB.out.size; simp; omega) (fun k hk => by cases hk; exact Nat.le_refl _))
      have hcall := HO.out w3 g cap hgl hcap hat
      clear hown hown' hv hgrow hat hcap
      refine hcall.mono ?_
      rintro e w4 ⟨rfl, B4⟩
      have HB4 := Lib.hid (HB3.out.trans (B4.mono HB3.out.size))
      clear B4 hcall
      go_wp2
      go_ret2
      exact ⟨by first | rfl | simp, HB4.out⟩
end Go.Proofs.YtkhoeiapfoaapaaDoor
