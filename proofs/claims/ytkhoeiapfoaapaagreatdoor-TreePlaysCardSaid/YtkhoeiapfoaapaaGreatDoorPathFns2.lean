/-
  The program's path functions, walked: of, Check, Parts, Parent, Base.
  The program's path functions, walked: of, Parent, Base.
-/
import Derived.Test.YtkhoeiapfoaapaaGreatDoorPathSplit2
namespace Go.Proofs.YtkhoeiapfoaapaaGreatDoor
set_option linter.unusedVariables false
set_option linter.unusedSimpArgs false
open Go.RowKit

theorem partsL_cons (c : UInt8) (r : Bytes) : partsL (c :: r) = if c = 47 ∧ r.length < 64 then (if r = [] then some [] else if (segs r).all okName then some (segs r) else none) else none := rfl
theorem partsL_some {l : Bytes} {L : List Bytes} (h : partsL l = some L) : ∃ r, l = 47 :: r ∧ (bs (47 :: r)).size ≤ 64 ∧ ((r = [] ∧ L = []) ∨ (r ≠ [] ∧ L = segs r ∧ (segs r).all okName = true)) := by
  cases l with
  | nil => cases h
  | cons c r =>
    rw [partsL_cons] at h
    by_cases hc : c = 47 ∧ r.length < 64
    · rw [if_pos hc] at h
      obtain ⟨rfl, hl⟩ := hc
      refine ⟨r, rfl, by rw [size_bs, List.length_cons]; omega, ?_⟩
      by_cases hr : r = []
      · rw [if_pos hr] at h
        exact .inl ⟨hr, (Option.some.inj h).symm⟩
      · rw [if_neg hr] at h
        by_cases ha : (segs r).all okName = true
        · rw [if_pos ha] at h
          exact .inr ⟨hr, (Option.some.inj h).symm, ha⟩
        · rw [if_neg ha] at h
          cases h
    · rw [if_neg hc] at h
      cases h
theorem partsL_none {l : Bytes} (h : partsL l = none) : (∀ r, l ≠ 47 :: r) ∨ ∃ r, l = 47 :: r ∧ (64 < (bs (47 :: r)).size ∨ (r ≠ [] ∧ (bs (47 :: r)).size ≤ 64 ∧ (segs r).all okName = false)) := by
  cases l with
  | nil => exact .inl (fun r e => by cases e)
  | cons c r =>
    by_cases hc : c = 47
    · subst hc
      refine .inr ⟨r, rfl, ?_⟩
      by_cases hl : r.length < 64
      · rw [partsL_cons, if_pos ⟨rfl, hl⟩] at h
        by_cases hr : r = []
        · rw [if_pos hr] at h
          cases h
        · rw [if_neg hr] at h
          by_cases ha : (segs r).all okName = true
          · rw [if_pos ha] at h
            cases h
          · exact .inr ⟨hr, by rw [size_bs, List.length_cons]; omega, by simpa using ha⟩
      · exact .inl (by rw [size_bs, List.length_cons]; omega)
    · exact .inl (fun r' e => hc (by cases e; rfl))

theorem split_none (l : Bytes) (h : partsL l = none) (hs : (bs l).size ≤ 9223372036854775807) (w : World) (hm : MaxInt w) : Calls Tryz.prog 29 #[.string (bs l)] w (SplitBad w) := by
  rcases partsL_none h with h1 | ⟨r, rfl, h1 | ⟨h1, h2, h3⟩⟩
  · exact split_noslash l h1 w
  · exact split_long r h1 hs w
  · exact (split_more r false h1 h2 h3 w hm).mono fun e w' ⟨he, _, hb⟩ => ⟨_, he, hb⟩
theorem split_nil (l : Bytes) (h : partsL l = some []) (w : World) : Calls Tryz.prog 29 #[.string (bs l)] w fun e w' => e = .returned (.tuple #[.slice none 0 0, .bool true]) ∧ w = w' := by
  obtain ⟨r, rfl, _, ⟨rfl, _⟩ | ⟨_, h2, _⟩⟩ := partsL_some h
  · exact split_root w
  · exact absurd h2.symm (segs_ne r)
theorem split_some (l : Bytes) (L : List Bytes) (h : partsL l = some L) (hL : L ≠ []) (w : World) (hm : MaxInt w) :
    Calls Tryz.prog 29 #[.string (bs l)] w fun e w' => e = .returned (.tuple #[.slice (some ⟨w.heap.size, 0, none⟩) L.length L.length, .bool true]) ∧ BlkS w' w.heap.size L ∧ Below w.heap.size w w' := by
  obtain ⟨r, rfl, hs, ⟨_, rfl⟩ | ⟨h1, rfl, h3⟩⟩ := partsL_some h
  · exact absurd rfl hL
  · exact split_more r true h1 hs h3 w hm
theorem partsL_len {l : Bytes} {L : List Bytes} (h : partsL l = some L) : L.length ≤ 64 := by
  obtain ⟨r, rfl, hs, ⟨_, rfl⟩ | ⟨h1, rfl, h3⟩⟩ := partsL_some h
  · simp
  · rw [size_bs] at hs
    simp at hs
    have h2 := Lib.countB_le (bs [47]) (by decide) (bs r).size (bs r) (Nat.le_refl _)
    rw [size_bs] at h2
    have h3 := split_count (bs r)
    rw [data_bs] at h3
    omega

/-! Check -/
set_option maxRecDepth 100000 in
theorem check_none (l : Bytes) (h : partsL l = none) (hs : (bs l).size ≤ 9223372036854775807) (w : World) (hm : MaxInt w) :
    Calls Tryz.prog 11 #[.string (bs l)] w fun e w' => e = .returned (.int .i64 30) ∧ Below w.heap.size w w' := by
  have hsp := split_none l h hs w hm
  clear h hm
  go_enter Tryz.func11, Tryz.ntmps11
  go_wp2_with (go_at_call 29; refine hsp.mono ?_; rintro e w1 ⟨v, rfl, B1⟩)
  go_ret
  exact ⟨rfl, B1⟩
set_option maxRecDepth 100000 in
theorem check_some (l : Bytes) (L : List Bytes) (h : partsL l = some L) (w : World) (hm : MaxInt w) :
    Calls Tryz.prog 11 #[.string (bs l)] w fun e w' => e = .returned (.int .i64 0) ∧ Below w.heap.size w w' := by
  cases L with
  | nil =>
    have hsp := split_nil l h w
    clear h hm
    go_enter Tryz.func11, Tryz.ntmps11
    go_wp2_with (go_at_call 29; refine hsp.mono ?_; rintro e w1 ⟨rfl, rfl⟩)
    go_ret
    exact ⟨rfl, Below.refl _ _⟩
  | cons x L =>
    have hsp := split_some l (x :: L) h (by simp) w hm
    clear h hm
    go_enter Tryz.func11, Tryz.ntmps11
    go_wp2_with (go_at_call 29; refine hsp.mono ?_; rintro e w1 ⟨rfl, _, B1⟩)
    go_ret
    exact ⟨rfl, B1⟩

end Go.Proofs.YtkhoeiapfoaapaaGreatDoor

namespace Go.Proofs.YtkhoeiapfoaapaaGreatDoor
set_option linter.unusedVariables false
set_option linter.unusedSimpArgs false
open Go.RowKit

theorem join_data (L : List Bytes) : Lib.join ((L.map bs).map (·.data.toList)) (⟨#[47]⟩ : ByteArray).data.toList = [47].intercalate L := by
  rw [List.map_map, show ((fun x : ByteArray => x.data.toList) ∘ bs) = id from by funext x; exact data_bs x, List.map_id]
  rfl
theorem cat_slash (l : Bytes) : (⟨#[47]⟩ : ByteArray) ++ (⟨l.toArray⟩ : ByteArray) = bs (47 :: l) := by
  have h : ((⟨#[47]⟩ : ByteArray) ++ (⟨l.toArray⟩ : ByteArray)).data.toList = (bs (47 :: l)).data.toList := by
    rw [data_bs]; simp
  rw [← bs_data ((⟨#[47]⟩ : ByteArray) ++ _), h, bs_data]
set_option maxRecDepth 100000 in
theorem of_any (b c : Nat) (L : List Bytes) (w : World) (hc : StrsAt w b 0 L) (hb : b < w.heap.size) (hbig : L.length ≤ 1000) (hcap : L.length ≤ c) (hlen : (ofL L).length ≤ 1000000) :
    Calls Tryz.prog 55 #[.slice (some ⟨b, 0, none⟩) L.length c] w fun e w' => e = .returned (.string (bs (ofL L))) ∧ Below w.heap.size w w' := by
  have hj := Tryz.strings_Join b 0 c (L.map bs) ⟨#[47]⟩ w (fun j x hx => by
    rw [List.getElem?_map] at hx
    cases hl : L[j]? with
    | none => rw [hl] at hx; cases hx
    | some y =>
      rw [hl] at hx
      cases hx
      exact hc j y hl) hb (by simp; omega) (by simpa using hcap) (by rw [join_data]; simp only [ofL, List.length_cons] at hlen; omega)
  rw [join_data, List.length_map] at hj
  have he := cat_slash ([47].intercalate L)
  change _ = bs (ofL L) at he
  have HE := Lib.hid he
  have hsz : ([47].intercalate L : Bytes).length ≤ 1000000 := by simp only [ofL, List.length_cons] at hlen; omega
  clear he hc hlen
  generalize ([47].intercalate L : Bytes) = t at *
  generalize ofL L = u at *
  go_enter Tryz.func55, Tryz.ntmps55
  go_wp2_with (go_at_call 64; refine hj.mono ?_; rintro e w1 ⟨rfl, B1⟩)
  go_ret
  exact ⟨by rw [← HE.out]; rfl, B1⟩
set_option maxRecDepth 100000 in
theorem of_zero (a : Option Addr) (c : Nat) (w : World) : Calls Tryz.prog 55 #[.slice a 0 c] w fun e w' => e = .returned (.string (bs [47])) ∧ w = w' := by
  have hj := Tryz.strings_Join_none a c ⟨#[47]⟩ w
  go_enter Tryz.func55, Tryz.ntmps55
  go_wp2_with (go_at_call 64; refine hj.mono ?_; rintro e w1 ⟨rfl, hw1⟩; subst w1)
  go_ret
  exact ⟨rfl, rfl⟩

/-! Parent -/
set_option maxRecDepth 100000 in
theorem parent_none (l : Bytes) (h : partsL l = none) (hs : (bs l).size ≤ 9223372036854775807) (w : World) (hm : MaxInt w) :
    Calls Tryz.prog 36 #[.string (bs l)] w fun e w' => e = .returned (.string (bs [])) ∧ Below w.heap.size w w' := by
  have hsp := split_none l h hs w hm
  clear h hm
  go_enter Tryz.func36, Tryz.ntmps36
  go_wp2_with (go_at_call 29; refine hsp.mono ?_; rintro e w1 ⟨v, rfl, B1⟩)
  go_ret
  exact ⟨rfl, B1⟩
set_option maxRecDepth 100000 in
theorem parent_nil (l : Bytes) (h : partsL l = some []) (w : World) :
    Calls Tryz.prog 36 #[.string (bs l)] w fun e w' => e = .returned (.string (bs l)) ∧ w = w' := by
  have hsp := split_nil l h w
  clear h
  go_enter Tryz.func36, Tryz.ntmps36
  go_wp2_with (go_at_call 29; refine hsp.mono ?_; rintro e w1 ⟨rfl, rfl⟩)
  go_ret
  exact ⟨rfl, rfl⟩
theorem ofL_len_take : ∀ (L : List Bytes) (k : Nat), (slashed (L.take k)).length ≤ (slashed L).length
  | [], k => by simp [slashed]
  | x :: L, 0 => by simp [slashed]
  | x :: L, k + 1 => by
    have := ofL_len_take L k
    simp only [slashed, List.take_succ_cons, List.map_cons, List.flatten_cons, List.length_append] at this ⊢
    omega
theorem ofL_parts {l : Bytes} {L : List Bytes} (h : partsL l = some L) : ofL L = l := by
  obtain ⟨r, rfl, hs, ⟨rfl, rfl⟩ | ⟨h1, rfl, h3⟩⟩ := partsL_some h
  · rfl
  · cases hsg : segs r with
    | nil => exact absurd hsg (segs_ne r)
    | cons x L => rw [ofL_cons, ← hsg, slashed_segs]
theorem ofL_len (L : List Bytes) : (ofL L).length ≤ (slashed L).length + 1 := by
  cases L with
  | nil => simp [ofL, slashed]
  | cons x L => rw [ofL_cons]; omega
theorem slashed_parts {l : Bytes} {L : List Bytes} (h : partsL l = some L) : (slashed L).length ≤ 64 := by
  obtain ⟨r, rfl, hs, ⟨rfl, rfl⟩ | ⟨h1, rfl, h3⟩⟩ := partsL_some h
  · simp [slashed]
  · rw [slashed_segs]
    rw [size_bs] at hs
    exact hs
theorem parts_len64 {l : Bytes} {L : List Bytes} (h : partsL l = some L) : l.length ≤ 64 := by
  obtain ⟨r, rfl, hs, _⟩ := partsL_some h
  rw [size_bs] at hs
  exact hs

set_option maxRecDepth 100000 in
theorem parent_some (l : Bytes) (M : List Bytes) (x : Bytes) (h : partsL l = some (M ++ [x])) (w : World) (hm : MaxInt w) :
    Calls Tryz.prog 36 #[.string (bs l)] w fun e w' => e = .returned (.string (bs (ofL M))) ∧ Below w.heap.size w w' := by
  have hsp := split_some l (M ++ [x]) h (by simp) w hm
  have hl := partsL_len h
  have hof : ∀ W : World, BlkS W w.heap.size (M ++ [x]) → Calls Tryz.prog 55 #[.slice (some ⟨w.heap.size, 0, none⟩) M.length (M.length + 1)] W fun e w' => e = .returned (.string (bs (ofL M))) ∧ Below W.heap.size W w' := fun W hW =>
    of_any w.heap.size (M.length + 1) M W (fun j y hy => hW.at j y (by rw [List.getElem?_append_left (List.getElem?_eq_some_iff.1 hy).1]; exact hy)) hW.lt (by simp at hl; omega) (by omega) (by
      have h1 := ofL_len M
      have h2 := ofL_len_take (M ++ [x]) M.length
      rw [List.take_left] at h2
      have h3 := slashed_parts h
      omega)
  have e1 : (M ++ [x]).length = M.length + 1 := by simp
  rw [e1] at hsp hl
  have HO := Lib.hid hof
  clear hof e1 h hm
  obtain ⟨k, hk⟩ : ∃ k, k = M.length := ⟨_, rfl⟩
  rw [← hk] at hsp hl HO
  clear hk
  have hc : ((k + 1 : Nat) : Int) - 1 = (k : Int) := by omega
  have hz : ((k + 1 : Nat) : Int) = (k : Int) + 1 := by omega
  go_enter Tryz.func36, Tryz.ntmps36
  go_wp2_with (go_at_call 29; refine hsp.mono ?_; rintro e w1 ⟨rfl, A1, B1⟩)
  refine (HO.out _ A1).mono ?_
  rintro e w2 ⟨rfl, B2⟩
  have HB := Lib.hid (B1.trans (B2.mono B1.size))
  clear B1 B2 A1 HO
  go_wp2
  go_ret
  exact ⟨rfl, HB.out⟩

/-! Base -/
set_option maxRecDepth 100000 in
theorem base_none (l : Bytes) (h : partsL l = none) (hs : (bs l).size ≤ 9223372036854775807) (w : World) (hm : MaxInt w) :
    Calls Tryz.prog 37 #[.string (bs l)] w fun e w' => e = .returned (.string (bs [])) ∧ Below w.heap.size w w' := by
  have hsp := split_none l h hs w hm
  clear h hm
  go_enter Tryz.func37, Tryz.ntmps37
  go_wp2_with (go_at_call 29; refine hsp.mono ?_; rintro e w1 ⟨v, rfl, B1⟩)
  go_ret
  exact ⟨rfl, B1⟩
set_option maxRecDepth 100000 in
theorem base_nil (l : Bytes) (h : partsL l = some []) (w : World) :
    Calls Tryz.prog 37 #[.string (bs l)] w fun e w' => e = .returned (.string (bs [])) ∧ w = w' := by
  have hsp := split_nil l h w
  clear h
  go_enter Tryz.func37, Tryz.ntmps37
  go_wp2_with (go_at_call 29; refine hsp.mono ?_; rintro e w1 ⟨rfl, rfl⟩)
  go_ret
  exact ⟨rfl, rfl⟩
set_option maxRecDepth 100000 in
theorem base_some (l : Bytes) (M : List Bytes) (x : Bytes) (h : partsL l = some (M ++ [x])) (w : World) (hm : MaxInt w) :
    Calls Tryz.prog 37 #[.string (bs l)] w fun e w' => e = .returned (.string (bs x)) ∧ Below w.heap.size w w' := by
  have hsp := split_some l (M ++ [x]) h (by simp) w hm
  have hl := partsL_len h
  have hat : ∀ W : World, BlkS W w.heap.size (M ++ [x]) → W.cell? ⟨w.heap.size, M.length, none⟩ = some (.string (bs x)) := fun W hW => by
    have := hW.at M.length x (by simp)
    rw [Nat.zero_add] at this
    exact this
  have e1 : (M ++ [x]).length = M.length + 1 := by simp
  rw [e1] at hsp hl
  have HA := Lib.hid hat
  clear hat e1 h hm
  obtain ⟨k, hk⟩ : ∃ k, k = M.length := ⟨_, rfl⟩
  rw [← hk] at hsp hl HA
  clear hk
  have hc : ((k + 1 : Nat) : Int) - 1 = (k : Int) := by omega
  have hz : ((k + 1 : Nat) : Int) = (k : Int) + 1 := by omega
  go_enter Tryz.func37, Tryz.ntmps37
  go_wp2_with fail
  refine hsp.mono ?_
  rintro e w1 ⟨rfl, A1, B1⟩
  have hcell := HA.out _ A1
  have HB := Lib.hid B1
  clear A1 B1 HA
  go_wp2
  go_ret
  exact ⟨rfl, HB.out⟩
end Go.Proofs.YtkhoeiapfoaapaaGreatDoor
