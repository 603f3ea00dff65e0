/-
  The program's path functions, walked: of, Parent, Base.
-/
import Derived.Test.YtkhoeiapfoaapaaDoorPathFns
namespace Go.Proofs.YtkhoeiapfoaapaaDoor
set_option linter.unusedVariables false
set_option linter.unusedSimpArgs false
open Go.RowKit

theorem join_data (L : List Bytes) : Lib.join ((L.map bs).map (·.data.toList)) (⟨#[47]⟩ : ByteArray).data.toList = [47].intercalate L := by
  rw [List.map_map, show ((fun x : ByteArray => x.data.toList) ∘ bs) = id from by funext x; exact data_bs x, List.map_id]
  rfl
theorem cat_slash (l : Bytes) : (⟨#[47]⟩ : ByteArray) ++ (⟨l.toArray⟩ : ByteArray) = bs (47 :: l) := by
  have h : ((⟨#[47]⟩ : ByteArray) ++ (⟨l.toArray⟩ : ByteArray)).data.toList = (bs (47 :: l)).data.toList := by
    rw [data_bs]; simp
  rw [← bs_data ((⟨#[47]⟩ : ByteArray) ++ _), h, bs_data]
set_option maxRecDepth 100000 in
theorem of_any (b c : Nat) (L : List Bytes) (w : World) (hc : StrsAt w b 0 L) (hb : b < w.heap.size) (hbig : L.length ≤ 1000) (hcap : L.length ≤ c) (hlen : (ofL L).length ≤ 1000000) :
    Calls Tryd.prog 38 #[.slice (some ⟨b, 0, none⟩) L.length c] w fun e w' => e = .returned (.string (bs (ofL L))) ∧ Below w.heap.size w w' := by
  have hj := Tryd.strings_Join b 0 c (L.map bs) ⟨#[47]⟩ w (fun j x hx => by
    rw [List.getElem?_map] at hx
    cases hl : L[j]? with
    | none => rw [hl] at hx; cases hx
    | some y =>
      rw [hl] at hx
      cases hx
      exact hc j y hl) hb (by simp; omega) (by simpa using hcap) (by rw [join_data]; simp only [ofL, List.length_cons] at hlen; omega)
  rw [join_data, List.length_map] at hj
  have he := cat_slash ([47].intercalate L)
  change _ = bs (ofL L) at he
  have HE := Lib.hid he
  have hsz : ([47].intercalate L : Bytes).length ≤ 1000000 := by simp only [ofL, List.length_cons] at hlen; omega
  clear he hc hlen
  generalize ([47].intercalate L : Bytes) = t at *
  generalize ofL L = u at *
  go_enter Tryd.func38, Tryd.ntmps38
  go_wp2_with (go_at_call 54; refine hj.mono ?_; rintro e w1 ⟨rfl, B1⟩)
  go_ret
  exact ⟨by rw [← HE.out]; rfl, B1⟩
set_option maxRecDepth 100000 in
theorem of_zero (a : Option Addr) (c : Nat) (w : World) : Calls Tryd.prog 38 #[.slice a 0 c] w fun e w' => e = .returned (.string (bs [47])) ∧ w = w' := by
  have hj := Tryd.strings_Join_none a c ⟨#[47]⟩ w
  go_enter Tryd.func38, Tryd.ntmps38
  go_wp2_with (go_at_call 54; refine hj.mono ?_; rintro e w1 ⟨rfl, hw1⟩; subst w1)
  go_ret
  exact ⟨rfl, rfl⟩

/-! Parent -/
set_option maxRecDepth 100000 in
theorem parent_none (l : Bytes) (h : partsL l = none) (hs : (bs l).size ≤ 9223372036854775807) (w : World) (hm : MaxInt w) :
    Calls Tryd.prog 23 #[.string (bs l)] w fun e w' => e = .returned (.string (bs [])) ∧ Below w.heap.size w w' := by
  have hsp := split_none l h hs w hm
  clear h hm
  go_enter Tryd.func23, Tryd.ntmps23
  go_wp2_with (go_at_call 36; refine hsp.mono ?_; rintro e w1 ⟨v, rfl, B1⟩)
  go_ret
  exact ⟨rfl, B1⟩
set_option maxRecDepth 100000 in
theorem parent_nil (l : Bytes) (h : partsL l = some []) (w : World) :
    Calls Tryd.prog 23 #[.string (bs l)] w fun e w' => e = .returned (.string (bs l)) ∧ w = w' := by
  have hsp := split_nil l h w
  clear h
  go_enter Tryd.func23, Tryd.ntmps23
  go_wp2_with (go_at_call 36; refine hsp.mono ?_; rintro e w1 ⟨rfl, rfl⟩)
  go_ret
  exact ⟨rfl, rfl⟩
theorem ofL_len_take : ∀ (L : List Bytes) (k : Nat), (slashed (L.take k)).length ≤ (slashed L).length
  | [], k => by simp [slashed]
  | x :: L, 0 => by simp [slashed]
  | x :: L, k + 1 => by
    have := ofL_len_take L k
    simp only [slashed, List.take_succ_cons, List.map_cons, List.flatten_cons, List.length_append] at this ⊢
    omega
theorem ofL_parts {l : Bytes} {L : List Bytes} (h : partsL l = some L) : ofL L = l := by
  obtain ⟨r, rfl, hs, ⟨rfl, rfl⟩ | ⟨h1, rfl, h3⟩⟩ := partsL_some h
  · rfl
  · cases hsg : segs r with
    | nil => exact absurd hsg (segs_ne r)
    | cons x L => rw [ofL_cons, ← hsg, slashed_segs]
theorem ofL_len (L : List Bytes) : (ofL L).length ≤ (slashed L).length + 1 := by
  cases L with
  | nil => simp [ofL, slashed]
  | cons x L => rw [ofL_cons]; omega
theorem slashed_parts {l : Bytes} {L : List Bytes} (h : partsL l = some L) : (slashed L).length ≤ 64 := by
  obtain ⟨r, rfl, hs, ⟨rfl, rfl⟩ | ⟨h1, rfl, h3⟩⟩ := partsL_some h
  · simp [slashed]
  · rw [slashed_segs]
    rw [size_bs] at hs
    exact hs
theorem parts_len64 {l : Bytes} {L : List Bytes} (h : partsL l = some L) : l.length ≤ 64 := by
  obtain ⟨r, rfl, hs, _⟩ := partsL_some h
  rw [size_bs] at hs
  exact hs

set_option maxRecDepth 100000 in
theorem parent_some (l : Bytes) (M : List Bytes) (x : Bytes) (h : partsL l = some (M ++ [x])) (w : World) (hm : MaxInt w) :
    Calls Tryd.prog 23 #[.string (bs l)] w fun e w' => e = .returned (.string (bs (ofL M))) ∧ Below w.heap.size w w' := by
  have hsp := split_some l (M ++ [x]) h (by simp) w hm
  have hl := partsL_len h
  have hof : ∀ W : World, BlkS W w.heap.size (M ++ [x]) → Calls Tryd.prog 38 #[.slice (some ⟨w.heap.size, 0, none⟩) M.length (M.length + 1)] W fun e w' => e = .returned (.string (bs (ofL M))) ∧ Below W.heap.size W w' := fun W hW =>
    of_any w.heap.size (M.length + 1) M W (fun j y hy => hW.at j y (by rw [List.getElem?_append_left (List.getElem?_eq_some_iff.1 hy).1]; exact hy)) hW.lt (by simp at hl; omega) (by omega) (by
      have h1 := ofL_len M
      have h2 := ofL_len_take (M ++ [x]) M.length
      rw [List.take_left] at h2
      have h3 := slashed_parts h
      omega)
  have e1 : (M ++ [x]).length = M.length + 1 := by simp
  rw [e1] at hsp hl
  have HO := Lib.hid hof
  clear hof e1 h hm
  obtain ⟨k, hk⟩ : ∃ k, k = M.length := ⟨_, rfl⟩
  rw [← hk] at hsp hl HO
  clear hk
  have hc : ((k + 1 : Nat) : Int) - 1 = (k : Int) := by omega
  have hz : ((k + 1 : Nat) : Int) = (k : Int) + 1 := by omega
  go_enter Tryd.func23, Tryd.ntmps23
  go_wp2_with (go_at_call 36; refine hsp.mono ?_; rintro e w1 ⟨rfl, A1, B1⟩)
  refine (HO.out _ A1).mono ?_
  rintro e w2 ⟨rfl, B2⟩
  have HB := Lib.hid (B1.trans (B2.mono B1.size))
  clear B1 B2 A1 HO
  go_wp2
  go_ret
  exact ⟨rfl, HB.out⟩

/-! Base -/
set_option maxRecDepth 100000 in
theorem base_none (l : Bytes) (h : partsL l = none) (hs : (bs l).size ≤ 9223372036854775807) (w : World) (hm : MaxInt w) :
    Calls Tryd.prog 34 #[.string (bs l)] w fun e w' => e = .returned (.string (bs [])) ∧ Below w.heap.size w w' := by
  have hsp := split_none l h hs w hm
  clear h hm
  go_enter Tryd.func34, Tryd.ntmps34
  go_wp2_with (go_at_call 36; refine hsp.mono ?_; rintro e w1 ⟨v, rfl, B1⟩)
  go_ret
  exact ⟨rfl, B1⟩
set_option maxRecDepth 100000 in
theorem base_nil (l : Bytes) (h : partsL l = some []) (w : World) :
    Calls Tryd.prog 34 #[.string (bs l)] w fun e w' => e = .returned (.string (bs [])) ∧ w = w' := by
  have hsp := split_nil l h w
  clear h
  go_enter Tryd.func34, Tryd.ntmps34
  go_wp2_with (go_at_call 36; refine hsp.mono ?_; rintro e w1 ⟨rfl, rfl⟩)
  go_ret
  exact ⟨rfl, rfl⟩
set_option maxRecDepth 100000 in
theorem base_some (l : Bytes) (M : List Bytes) (x : Bytes) (h : partsL l = some (M ++ [x])) (w : World) (hm : MaxInt w) :
    Calls Tryd.prog 34 #[.string (bs l)] w fun e w' => e = .returned (.string (bs x)) ∧ Below w.heap.size w w' := by
  have hsp := split_some l (M ++ [x]) h (by simp) w hm
  have hl := partsL_len h
  have hat : ∀ W : World, BlkS W w.heap.size (M ++ [x]) → W.cell? ⟨w.heap.size, M.length, none⟩ = some (.string (bs x)) := fun W hW => by
    have := hW.at M.length x (by simp)
    rw [Nat.zero_add] at this
    exact this
  have e1 : (M ++ [x]).length = M.length + 1 := by simp
  rw [e1] at hsp hl
  have HA := Lib.hid hat
  clear hat e1 h hm
  obtain ⟨k, hk⟩ : ∃ k, k = M.length := ⟨_, rfl⟩
  rw [← hk] at hsp hl HA
  clear hk
  have hc : ((k + 1 : Nat) : Int) - 1 = (k : Int) := by omega
  have hz : ((k + 1 : Nat) : Int) = (k : Int) + 1 := by omega
  go_enter Tryd.func34, Tryd.ntmps34
  go_wp2_with fail
  refine hsp.mono ?_
  rintro e w1 ⟨rfl, A1, B1⟩
  have hcell := HA.out _ A1
  have HB := Lib.hid B1
  clear A1 B1 HA
  go_wp2
  go_ret
  exact ⟨rfl, HB.out⟩
end Go.Proofs.YtkhoeiapfoaapaaDoor
