/-
  The program's path functions, walked: of, Check, Parts, Parent, Base. The program's path functions, walked: of, Parent, Base. The program's Join, walked. The program's Under, walked. Paths that are given, reckoned.
-/
import Derived.Test.YtnclkfhdpkkakaaGreatDoorQ5
import Derived.OwnWalk
import Derived.Maps.AppendAt
import Derived.ProofKit
namespace Go.Proofs.YtnclkfhdpkkakaaGreatDoor
set_option linter.unusedVariables false
set_option linter.unusedSimpArgs false
open Go.RowKit
theorem partsL_cons (c : UInt8) (r : Bytes) : partsL (c :: r) = if c = 47 ∧ r.length < 64 then (if r = [] then some [] else if (segs r).all okName then some (segs r) else none) else none := rfl
theorem partsL_some {l : Bytes} {L : List Bytes} (h : partsL l = some L) : ∃ r, l = 47 :: r ∧ (bs (47 :: r)).size ≤ 64 ∧ ((r = [] ∧ L = []) ∨ (r ≠ [] ∧ L = segs r ∧ (segs r).all okName = true)) := by
 cases l with
 | nil => cases h
 | cons c r =>
  rw [partsL_cons] at h
  by_cases hc : c = 47 ∧ r.length < 64
  ·rw [if_pos hc] at h
   obtain ⟨rfl, hl⟩ := hc
   refine ⟨r, rfl, by rw [size_bs, List.length_cons]; omega, ?_⟩
   by_cases hr : r = []
   ·rw [if_pos hr] at h
    exact .inl ⟨hr, (Option.some.inj h).symm⟩
   ·rw [if_neg hr] at h
    by_cases ha : (segs r).all okName = true
    ·rw [if_pos ha] at h
     exact .inr ⟨hr, (Option.some.inj h).symm, ha⟩
    ·rw [if_neg ha] at h
     cases h
  ·rw [if_neg hc] at h
   cases h
theorem partsL_none {l : Bytes} (h : partsL l = none) : (∀ r, l ≠ 47 :: r) ∨ ∃ r, l = 47 :: r ∧ (64 < (bs (47 :: r)).size ∨ (r ≠ [] ∧ (bs (47 :: r)).size ≤ 64 ∧ (segs r).all okName = false)) := by
 cases l with
 | nil => exact .inl (fun r e => by cases e)
 | cons c r =>
  by_cases hc : c = 47
  ·subst hc
   refine .inr ⟨r, rfl, ?_⟩
   by_cases hl : r.length < 64
   ·rw [partsL_cons, if_pos ⟨rfl, hl⟩] at h
    by_cases hr : r = []
    ·rw [if_pos hr] at h
     cases h
    ·rw [if_neg hr] at h
     by_cases ha : (segs r).all okName = true
     ·rw [if_pos ha] at h
      cases h
     ·exact .inr ⟨hr, by rw [size_bs, List.length_cons]; omega, by simpa using ha⟩
   ·exact .inl (by rw [size_bs, List.length_cons]; omega)
  ·exact .inl (fun r' e => hc (by cases e; rfl))
theorem split_none (l : Bytes) (h : partsL l = none) (hs : (bs l).size ≤ 9223372036854775807) (w : World) (hm : MaxInt w) : Calls Tryz.prog 39 #[.string (bs l)] w (SplitBad w) := by
 rcases partsL_none h with h1 | ⟨r, rfl, h1 | ⟨h1, h2, h3⟩⟩
 ·exact split_noslash l h1 w
 ·exact split_long r h1 hs w
 ·exact (split_more r false h1 h2 h3 w hm).mono fun e w' ⟨he, _, hb⟩ => ⟨_, he, hb⟩
theorem split_nil (l : Bytes) (h : partsL l = some []) (w : World) : Calls Tryz.prog 39 #[.string (bs l)] w fun e w' => e = .returned (.tuple #[.slice none 0 0, .bool true]) ∧ w = w' := by
 obtain ⟨r, rfl, _, ⟨rfl, _⟩ | ⟨_, h2, _⟩⟩ := partsL_some h
 ·exact split_root w
 ·exact absurd h2.symm (segs_ne r)
theorem split_some (l : Bytes) (L : List Bytes) (h : partsL l = some L) (hL : L ≠ []) (w : World) (hm : MaxInt w) :
  Calls Tryz.prog 39 #[.string (bs l)] w fun e w' => e = .returned (.tuple #[.slice (some ⟨w.heap.size, 0, none⟩) L.length L.length, .bool true]) ∧ BlkS w' w.heap.size L ∧ Below w.heap.size w w' := by
 obtain ⟨r, rfl, hs, ⟨_, rfl⟩ | ⟨h1, rfl, h3⟩⟩ := partsL_some h
 ·exact absurd rfl hL
 ·exact split_more r true h1 hs h3 w hm
theorem partsL_len {l : Bytes} {L : List Bytes} (h : partsL l = some L) : L.length ≤ 64 := by
 obtain ⟨r, rfl, hs, ⟨_, rfl⟩ | ⟨h1, rfl, h3⟩⟩ := partsL_some h
 ·simp
 ·rw [size_bs] at hs
  simp at hs
  have h2 := Lib.countB_le (bs [47]) (by decide) (bs r).size (bs r) (Nat.le_refl _)
  rw [size_bs] at h2
  have h3 := split_count (bs r)
  rw [data_bs] at h3
  omega
set_option maxRecDepth 100000 in
theorem check_none (l : Bytes) (h : partsL l = none) (hs : (bs l).size ≤ 9223372036854775807) (w : World) (hm : MaxInt w) :
  Calls Tryz.prog 45 #[.string (bs l)] w fun e w' => e = .returned (.int .i64 30) ∧ Below w.heap.size w w' := by
 have hsp := split_none l h hs w hm
 clear h hm
 go_enter Tryz.func45, Tryz.ntmps45
 go_wp2_with (go_at_call 39; refine hsp.mono ?_; rintro e w1 ⟨v, rfl, B1⟩)
 go_ret
 exact ⟨rfl, B1⟩
set_option maxRecDepth 100000 in
theorem check_some (l : Bytes) (L : List Bytes) (h : partsL l = some L) (w : World) (hm : MaxInt w) :
  Calls Tryz.prog 45 #[.string (bs l)] w fun e w' => e = .returned (.int .i64 0) ∧ Below w.heap.size w w' := by
 cases L with
 | nil =>
  have hsp := split_nil l h w
  clear h hm
  go_enter Tryz.func45, Tryz.ntmps45
  go_wp2_with (go_at_call 39; refine hsp.mono ?_; rintro e w1 ⟨rfl, rfl⟩)
  go_ret
  exact ⟨rfl, Below.refl _ _⟩
 | cons x L =>
  have hsp := split_some l (x :: L) h (by simp) w hm
  clear h hm
  go_enter Tryz.func45, Tryz.ntmps45
  go_wp2_with (go_at_call 39; refine hsp.mono ?_; rintro e w1 ⟨rfl, _, B1⟩)
  go_ret
  exact ⟨rfl, B1⟩
end Go.Proofs.YtnclkfhdpkkakaaGreatDoor
namespace Go.Proofs.YtnclkfhdpkkakaaGreatDoor
set_option linter.unusedVariables false
set_option linter.unusedSimpArgs false
open Go.RowKit
theorem join_data (L : List Bytes) : Lib.join ((L.map bs).map (·.data.toList)) (⟨#[47]⟩ : ByteArray).data.toList = [47].intercalate L := by
 rw [List.map_map, show ((fun x : ByteArray => x.data.toList) ∘ bs) = id from by funext x; exact data_bs x, List.map_id]
 rfl
theorem cat_slash (l : Bytes) : (⟨#[47]⟩ : ByteArray) ++ (⟨l.toArray⟩ : ByteArray) = bs (47 :: l) := by
 have h : ((⟨#[47]⟩ : ByteArray) ++ (⟨l.toArray⟩ : ByteArray)).data.toList = (bs (47 :: l)).data.toList := by
  rw [data_bs]; simp
 rw [← bs_data ((⟨#[47]⟩ : ByteArray) ++ _), h, bs_data]
set_option maxRecDepth 100000 in
theorem of_any (b c : Nat) (L : List Bytes) (w : World) (hc : StrsAt w b 0 L) (hb : b < w.heap.size) (hbig : L.length ≤ 1000) (hcap : L.length ≤ c) (hlen : (ofL L).length ≤ 1000000) :
  Calls Tryz.prog 72 #[.slice (some ⟨b, 0, none⟩) L.length c] w fun e w' => e = .returned (.string (bs (ofL L))) ∧ Below w.heap.size w w' := by
 have hj := Tryz.strings_Join b 0 c (L.map bs) ⟨#[47]⟩ w (fun j x hx => by
  rw [List.getElem?_map] at hx
  cases hl : L[j]? with
  | none => rw [hl] at hx; cases hx
  | some y =>
   rw [hl] at hx
   cases hx
   exact hc j y hl) hb (by simp; omega) (by simpa using hcap) (by rw [join_data]; simp only [ofL, List.length_cons] at hlen; omega)
 rw [join_data, List.length_map] at hj
 have he := cat_slash ([47].intercalate L)
 change _ = bs (ofL L) at he
 have HE := Lib.hid he
 have hsz : ([47].intercalate L : Bytes).length ≤ 1000000 := by simp only [ofL, List.length_cons] at hlen; omega
 clear he hc hlen
 generalize ([47].intercalate L : Bytes) = t at *
 generalize ofL L = u at *
 go_enter Tryz.func72, Tryz.ntmps72
 go_wp2_with (go_at_call 95; refine hj.mono ?_; rintro e w1 ⟨rfl, B1⟩)
 go_ret
 exact ⟨by rw [← HE.out]; rfl, B1⟩
set_option maxRecDepth 100000 in
theorem parent_none (l : Bytes) (h : partsL l = none) (hs : (bs l).size ≤ 9223372036854775807) (w : World) (hm : MaxInt w) :
  Calls Tryz.prog 47 #[.string (bs l)] w fun e w' => e = .returned (.string (bs [])) ∧ Below w.heap.size w w' := by
 have hsp := split_none l h hs w hm
 clear h hm
 go_enter Tryz.func47, Tryz.ntmps47
 go_wp2_with (go_at_call 39; refine hsp.mono ?_; rintro e w1 ⟨v, rfl, B1⟩)
 go_ret
 exact ⟨rfl, B1⟩
set_option maxRecDepth 100000 in
theorem parent_nil (l : Bytes) (h : partsL l = some []) (w : World) :
  Calls Tryz.prog 47 #[.string (bs l)] w fun e w' => e = .returned (.string (bs l)) ∧ w = w' := by
 have hsp := split_nil l h w
 clear h
 go_enter Tryz.func47, Tryz.ntmps47
 go_wp2_with (go_at_call 39; refine hsp.mono ?_; rintro e w1 ⟨rfl, rfl⟩)
 go_ret
 exact ⟨rfl, rfl⟩
theorem ofL_len_take : ∀ (L : List Bytes) (k : Nat), (slashed (L.take k)).length ≤ (slashed L).length
 | [], k => by simp [slashed]
 | x :: L, 0 => by simp [slashed]
 | x :: L, k + 1 => by
  have := ofL_len_take L k
  simp only [slashed, List.take_succ_cons, List.map_cons, List.flatten_cons, List.length_append] at this ⊢
  omega
theorem ofL_parts {l : Bytes} {L : List Bytes} (h : partsL l = some L) : ofL L = l := by
 obtain ⟨r, rfl, hs, ⟨rfl, rfl⟩ | ⟨h1, rfl, h3⟩⟩ := partsL_some h
 ·rfl
 ·cases hsg : segs r with
  | nil => exact absurd hsg (segs_ne r)
  | cons x L => rw [ofL_cons, ← hsg, slashed_segs]
theorem ofL_len (L : List Bytes) : (ofL L).length ≤ (slashed L).length + 1 := by
 cases L with
 | nil => simp [ofL, slashed]
 | cons x L => rw [ofL_cons]; omega
theorem slashed_parts {l : Bytes} {L : List Bytes} (h : partsL l = some L) : (slashed L).length ≤ 64 := by
 obtain ⟨r, rfl, hs, ⟨rfl, rfl⟩ | ⟨h1, rfl, h3⟩⟩ := partsL_some h
 ·simp [slashed]
 ·rw [slashed_segs]
  rw [size_bs] at hs
  exact hs
theorem parts_len64 {l : Bytes} {L : List Bytes} (h : partsL l = some L) : l.length ≤ 64 := by
 obtain ⟨r, rfl, hs, _⟩ := partsL_some h
 rw [size_bs] at hs
 exact hs
set_option maxRecDepth 100000 in
theorem parent_some (l : Bytes) (M : List Bytes) (x : Bytes) (h : partsL l = some (M ++ [x])) (w : World) (hm : MaxInt w) :
  Calls Tryz.prog 47 #[.string (bs l)] w fun e w' => e = .returned (.string (bs (ofL M))) ∧ Below w.heap.size w w' := by
 have hsp := split_some l (M ++ [x]) h (by simp) w hm
 have hl := partsL_len h
 have hof : ∀ W : World, BlkS W w.heap.size (M ++ [x]) → Calls Tryz.prog 72 #[.slice (some ⟨w.heap.size, 0, none⟩) M.length (M.length + 1)] W fun e w' => e = .returned (.string (bs (ofL M))) ∧ Below W.heap.size W w' := fun W hW =>
  of_any w.heap.size (M.length + 1) M W (fun j y hy => hW.at j y (by rw [List.getElem?_append_left (List.getElem?_eq_some_iff.1 hy).1]; exact hy)) hW.lt (by simp at hl; omega) (by omega) (by
   have h1 := ofL_len M
   have h2 := ofL_len_take (M ++ [x]) M.length
   rw [List.take_left] at h2
   have h3 := slashed_parts h
   omega)
 have e1 : (M ++ [x]).length = M.length + 1 := by simp
 rw [e1] at hsp hl
 have HO := Lib.hid hof
 clear hof e1 h hm
 obtain ⟨k, hk⟩ : ∃ k, k = M.length := ⟨_, rfl⟩
 rw [← hk] at hsp hl HO
 clear hk
 have hc : ((k + 1 : Nat) : Int) - 1 = (k : Int) := by omega
 have hz : ((k + 1 : Nat) : Int) = (k : Int) + 1 := by omega
 go_enter Tryz.func47, Tryz.ntmps47
 go_wp2_with (go_at_call 39; refine hsp.mono ?_; rintro e w1 ⟨rfl, A1, B1⟩)
 refine (HO.out _ A1).mono ?_
 rintro e w2 ⟨rfl, B2⟩
 have HB := Lib.hid (B1.trans (B2.mono B1.size))
 clear B1 B2 A1 HO
 go_wp2
 go_ret
 exact ⟨rfl, HB.out⟩
set_option maxRecDepth 100000 in
theorem base_none (l : Bytes) (h : partsL l = none) (hs : (bs l).size ≤ 9223372036854775807) (w : World) (hm : MaxInt w) :
  Calls Tryz.prog 48 #[.string (bs l)] w fun e w' => e = .returned (.string (bs [])) ∧ Below w.heap.size w w' := by
 have hsp := split_none l h hs w hm
 clear h hm
 go_enter Tryz.func48, Tryz.ntmps48
 go_wp2_with (go_at_call 39; refine hsp.mono ?_; rintro e w1 ⟨v, rfl, B1⟩)
 go_ret
 exact ⟨rfl, B1⟩
set_option maxRecDepth 100000 in
theorem base_nil (l : Bytes) (h : partsL l = some []) (w : World) :
  Calls Tryz.prog 48 #[.string (bs l)] w fun e w' => e = .returned (.string (bs [])) ∧ w = w' := by
 have hsp := split_nil l h w
 clear h
 go_enter Tryz.func48, Tryz.ntmps48
 go_wp2_with (go_at_call 39; refine hsp.mono ?_; rintro e w1 ⟨rfl, rfl⟩)
 go_ret
 exact ⟨rfl, rfl⟩
set_option maxRecDepth 100000 in
theorem base_some (l : Bytes) (M : List Bytes) (x : Bytes) (h : partsL l = some (M ++ [x])) (w : World) (hm : MaxInt w) :
  Calls Tryz.prog 48 #[.string (bs l)] w fun e w' => e = .returned (.string (bs x)) ∧ Below w.heap.size w w' := by
 have hsp := split_some l (M ++ [x]) h (by simp) w hm
 have hl := partsL_len h
 have hat : ∀ W : World, BlkS W w.heap.size (M ++ [x]) → W.cell? ⟨w.heap.size, M.length, none⟩ = some (.string (bs x)) := fun W hW => by
  have := hW.at M.length x (by simp)
  rw [Nat.zero_add] at this
  exact this
 have e1 : (M ++ [x]).length = M.length + 1 := by simp
 rw [e1] at hsp hl
 have HA := Lib.hid hat
 clear hat e1 h hm
 obtain ⟨k, hk⟩ : ∃ k, k = M.length := ⟨_, rfl⟩
 rw [← hk] at hsp hl HA
 clear hk
 have hc : ((k + 1 : Nat) : Int) - 1 = (k : Int) := by omega
 have hz : ((k + 1 : Nat) : Int) = (k : Int) + 1 := by omega
 go_enter Tryz.func48, Tryz.ntmps48
 go_wp2_with fail
 refine hsp.mono ?_
 rintro e w1 ⟨rfl, A1, B1⟩
 have hcell := HA.out _ A1
 have HB := Lib.hid B1
 clear A1 B1 HA
 go_wp2
 go_ret
 exact ⟨rfl, HB.out⟩
end Go.Proofs.YtnclkfhdpkkakaaGreatDoor
namespace Go.Proofs.YtnclkfhdpkkakaaGreatDoor
set_option linter.unusedVariables false
set_option linter.unusedSimpArgs false
open Go.RowKit
theorem infoStr : (Tryz.prog.info? 9).map (fun i => (i.zero, i.size, i.bytes)) = some (some (.string ByteArray.empty), 1, 16) := by kernel_rfl
def sv (x : Bytes) : Value := .string (bs x)
theorem sv_one (L : List Bytes) : ∀ u ∈ L.map sv, u.oneCell' = true := by
 intro u hu
 obtain ⟨_, _, rfl⟩ := List.mem_map.1 hu
 rfl
theorem ownS_form {w : World} {base : Nat} {v : Value} {n : Nat} {L : List Bytes} (h : w.ownsRow base 9 1 v n (L.map sv)) :
  (v = .slice none 0 0 ∧ L = []) ∨ ∃ g cap, v = .slice (some ⟨g, 0, none⟩) L.length cap ∧ L.length ≤ cap ∧ base ≤ g ∧ g < w.heap.size ∧ StrsAt w g 0 L := by
 have hl : L.length = n := by have := h.1; simpa using this
 subst hl
 rcases h.2 with ⟨rfl, h0⟩ | ⟨g, cap, cur, rfl, hbg, hg, hnc, hcm, hsz, htk⟩
 ·exact .inl ⟨rfl, List.eq_nil_of_length_eq_zero h0⟩
 ·refine .inr ⟨g, cap, rfl, hnc, hbg, (Array.getElem?_eq_some_iff.1 hg).1, fun j x hx => ?_⟩
  have hcs := h.cells (g := g) rfl j (sv x) (by simp [hx])
  rw [Addr.add_lit] at hcs
  exact hcs
def SplitAny (w : World) (ok : Bool) (e : Ending) (w' : World) : Prop := ∃ v, e = .returned (.tuple #[v, .bool ok]) ∧ Below w.heap.size w w'
theorem split_ok (l : Bytes) (L : List Bytes) (h : partsL l = some L) (w : World) (hm : MaxInt w) : Calls Tryz.prog 39 #[.string (bs l)] w (SplitAny w true) := by
 cases L with
 | nil => exact (split_nil l h w).mono fun e w' ⟨he, hw⟩ => ⟨_, he, hw ▸ Below.refl _ _⟩
 | cons x L => exact (split_some l (x :: L) h (by simp) w hm).mono fun e w' ⟨he, _, hb⟩ => ⟨_, he, hb⟩
theorem split_any (l : Bytes) (hs : (bs l).size ≤ 9223372036854775807) (w : World) (hm : MaxInt w) : Calls Tryz.prog 39 #[.string (bs l)] w (SplitAny w (partsL l).isSome) := by
 cases h : partsL l with
 | none => exact split_none l h hs w hm
 | some L => exact split_ok l L h w hm
end Go.Proofs.YtnclkfhdpkkakaaGreatDoor
namespace Go.Proofs.YtnclkfhdpkkakaaGreatDoor
set_option linter.unusedVariables false
set_option linter.unusedSimpArgs false
open Go.RowKit
def underB (p q : Bytes) : Bool :=
 match partsL p, partsL q with
 | some l, some m => decide (m.length ≤ l.length) && decide (l.take m.length = m)
 | _, _ => false
theorem bs_inj {a b : Bytes} (h : bs a = bs b) : a = b := by rw [← data_bs a, h, data_bs]
theorem map_bs_inj : ∀ {L M : List Bytes}, L.map bs = M.map bs → L = M
 | [], [], _ => rfl
 | [], _ :: _, h => by cases h
 | _ :: _, [], h => by cases h
 | x :: L, y :: M, h => by
  simp only [List.map_cons, List.cons.injEq] at h
  rw [bs_inj h.1, map_bs_inj h.2]
theorem getD_bs (L : List Bytes) (j : Nat) (hj : j < (L.map bs).length) : (L.map bs).getD j ByteArray.empty = bs (L[j]'(by simpa using hj)) := by
 simp [List.getD_eq_getElem?_getD, List.getElem?_eq_getElem (show j < L.length by simpa using hj)]
theorem equal_any (b1 c b2 d : Nat) (l m : List Bytes) (w : World) (h1 : StrsAt w b1 0 l) (h2 : StrsAt w b2 0 m) (hl : l.length ≤ 1000) (hm : m.length ≤ l.length) :
  Calls Tryz.prog 40 #[.slice (some ⟨b1, 0, none⟩) m.length c, .slice (some ⟨b2, 0, none⟩) m.length d] w fun e w' => e = .returned (.bool (decide (l.take m.length = m))) ∧ ∃ q, w' = w.drewN q := by
 have h := Tryz.slices_Equal_string b1 0 m.length c b2 0 m.length d (l.map bs) (m.map bs) w (by simpa using hm) (by simp) (by omega) (by omega)
  (fun j hj => by rw [getD_bs l j hj]; exact h1 j _ (List.getElem?_eq_getElem _)) (fun j hj => by rw [getD_bs m j hj]; exact h2 j _ (List.getElem?_eq_getElem _))
 have e : decide ((l.map bs).take m.length = (m.map bs).take m.length) = decide (l.take m.length = m) := by
  rw [decide_eq_decide]
  have : (m.map bs).take m.length = m.map bs := List.take_of_length_le (by simp)
  rw [this, ← List.map_take]
  exact ⟨map_bs_inj, fun h => by rw [h]⟩
 rw [e] at h
 exact h
set_option maxRecDepth 100000 in
theorem under_f1 (p q : Bytes) (hp : (bs p).size ≤ 9223372036854775807) (hq : (bs q).size ≤ 9223372036854775807) (h : partsL p = none) (w : World) (hm : MaxInt w) :
  Calls Tryz.prog 21 #[.string (bs p), .string (bs q)] w fun e w' => e = .returned (.bool false) ∧ Below w.heap.size w w' := by
 have h1 := split_none p h hp w hm
 have h2 := fun (W : World) (hW : Below w.heap.size w W) => split_any q hq W (hm.kept hW)
 have H2 := Lib.hid h2
 clear h2 h hm
 generalize (partsL q).isSome = ok at *
 go_enter Tryz.func21, Tryz.ntmps21
 go_wp2_with fail
 refine h1.mono ?_
 rintro e w1 ⟨v, rfl, B1⟩
 go_wp2_with fail
 refine (H2.out _ B1).mono ?_
 rintro e w2 ⟨v2, rfl, B2⟩
 have HB := Lib.hid (B1.trans (B2.mono B1.size))
 clear B1 B2
 go_wp2
 go_ret
 exact ⟨rfl, HB.out⟩
set_option maxRecDepth 100000 in
theorem under_f2 (p q : Bytes) (L : List Bytes) (hq : (bs q).size ≤ 9223372036854775807) (h : partsL p = some L) (h0 : partsL q = none) (w : World) (hm : MaxInt w) :
  Calls Tryz.prog 21 #[.string (bs p), .string (bs q)] w fun e w' => e = .returned (.bool false) ∧ Below w.heap.size w w' := by
 have h1 := split_ok p L h w hm
 have h2 := fun (W : World) (hW : Below w.heap.size w W) => split_none q h0 hq W (hm.kept hW)
 have H2 := Lib.hid h2
 clear h2 h hm h0
 go_enter Tryz.func21, Tryz.ntmps21
 go_wp2_with fail
 refine h1.mono ?_
 rintro e w1 ⟨v, rfl, B1⟩
 go_wp2_with fail
 refine (H2.out _ B1).mono ?_
 rintro e w2 ⟨v2, rfl, B2⟩
 have HB := Lib.hid (B1.trans (B2.mono B1.size))
 clear B1 B2
 go_wp2
 go_ret
 exact ⟨rfl, HB.out⟩
set_option maxRecDepth 100000 in
theorem under_nn (p q : Bytes) (h : partsL p = some []) (h0 : partsL q = some []) (w : World) :
  Calls Tryz.prog 21 #[.string (bs p), .string (bs q)] w fun e w' => e = .returned (.bool true) ∧ Below w.heap.size w w' := by
 have h1 := split_nil p h w
 have h2 := split_nil q h0 w
 have h3 := Tryz.slices_Equal_string_empty none none 0 0 0 w (by omega)
 clear h h0
 go_enter Tryz.func21, Tryz.ntmps21
 go_wp2_with fail
 refine h1.mono ?_
 rintro e w1 ⟨rfl, rfl⟩
 go_wp2_with fail
 refine h2.mono ?_
 rintro e w1 ⟨rfl, rfl⟩
 go_wp2_with fail
 refine h3.mono ?_
 rintro e w1 ⟨rfl, hw1⟩
 subst w1
 go_wp2
 go_ret
 exact ⟨rfl, Below.refl _ _⟩
set_option maxRecDepth 100000 in
theorem under_sn (p q : Bytes) (L : List Bytes) (h : partsL p = some L) (hL : L ≠ []) (h0 : partsL q = some []) (w : World) (hm : MaxInt w) :
  Calls Tryz.prog 21 #[.string (bs p), .string (bs q)] w fun e w' => e = .returned (.bool true) ∧ Below w.heap.size w w' := by
 have h1 := split_some p L h hL w hm
 have h2 := split_nil q h0
 have h3 := Tryz.slices_Equal_string_empty (some ⟨w.heap.size, 0, none⟩) none L.length 0 0
 have hl := partsL_len h
 clear h h0 hm hL
 generalize L.length = n at *
 go_enter Tryz.func21, Tryz.ntmps21
 go_wp2_with fail
 refine h1.mono ?_
 rintro e w1 ⟨rfl, _, B1⟩
 go_wp2_with fail
 refine (h2 _).mono ?_
 rintro e w2 ⟨rfl, rfl⟩
 go_wp2_with fail
 refine (h3 _ (by omega)).mono ?_
 rintro e w3 ⟨rfl, hw3⟩
 subst w3
 go_wp2
 go_ret
 exact ⟨rfl, B1⟩
set_option maxRecDepth 100000 in
theorem under_ns (p q : Bytes) (M : List Bytes) (h : partsL p = some []) (hM : M ≠ []) (h0 : partsL q = some M) (w : World) (hm : MaxInt w) :
  Calls Tryz.prog 21 #[.string (bs p), .string (bs q)] w fun e w' => e = .returned (.bool false) ∧ Below w.heap.size w w' := by
 have h1 := split_nil p h w
 have h2 := split_some q M h0 hM w hm
 have hl := partsL_len h0
 have hp : 0 < M.length := List.length_pos_iff.2 hM
 clear h h0 hm hM
 generalize M.length = n at *
 go_enter Tryz.func21, Tryz.ntmps21
 go_wp2_with fail
 refine h1.mono ?_
 rintro e w1 ⟨rfl, rfl⟩
 go_wp2_with fail
 refine h2.mono ?_
 rintro e w1 ⟨rfl, _, B1⟩
 go_wp2
 go_ret
 exact ⟨rfl, B1⟩
set_option maxRecDepth 100000 in
theorem under_gt (p q : Bytes) (L M : List Bytes) (h : partsL p = some L) (hL : L ≠ []) (h0 : partsL q = some M) (hgt : L.length < M.length) (w : World) (hm : MaxInt w) :
  Calls Tryz.prog 21 #[.string (bs p), .string (bs q)] w fun e w' => e = .returned (.bool false) ∧ Below w.heap.size w w' := by
 have h1 := split_some p L h hL w hm
 have h2 := fun (W : World) (hW : Below w.heap.size w W) => split_some q M h0 (fun e => by rw [e] at hgt; simp at hgt) W (hm.kept hW)
 have H2 := Lib.hid h2
 have hl := partsL_len h
 have hl2 := partsL_len h0
 clear h h0 hm hL h2
 generalize L.length = n at *
 generalize M.length = k at *
 go_enter Tryz.func21, Tryz.ntmps21
 go_wp2_with fail
 refine h1.mono ?_
 rintro e w1 ⟨rfl, _, B1⟩
 go_wp2_with fail
 refine (H2.out _ B1).mono ?_
 rintro e w2 ⟨rfl, _, B2⟩
 have HB := Lib.hid (B1.trans (B2.mono B1.size))
 clear B1 B2
 go_wp2
 go_ret
 exact ⟨rfl, HB.out⟩
set_option maxRecDepth 100000 in
theorem under_le (p q : Bytes) (L M : List Bytes) (h : partsL p = some L) (hM : M ≠ []) (h0 : partsL q = some M) (hle : M.length ≤ L.length) (w : World) (hm : MaxInt w) :
  Calls Tryz.prog 21 #[.string (bs p), .string (bs q)] w fun e w' => e = .returned (.bool (decide (L.take M.length = M))) ∧ Below w.heap.size w w' := by
 have hp : 0 < M.length := List.length_pos_iff.2 hM
 have h1 := split_some p L h (fun e => by rw [e] at hle; simp at hle; exact hM hle) w hm
 have h2 := fun (W : World) (hW : Below w.heap.size w W) => split_some q M h0 hM W (hm.kept hW)
 have H2 := Lib.hid h2
 have hl := partsL_len h
 have hl2 := partsL_len h0
 have h3 := fun (W : World) (g : Nat) (a : BlkS W w.heap.size L) (b : BlkS W g M) => equal_any w.heap.size L.length g M.length L M W a.at b.at (by omega) hle
 have H3 := Lib.hid h3
 clear h h0 hm h2 h3 hM
 generalize decide (L.take M.length = M) = r at *
 generalize hn : L.length = n at *
 generalize hk : M.length = k at *
 clear hn hk
 go_enter Tryz.func21, Tryz.ntmps21
 go_wp2_with fail
 refine h1.mono ?_
 rintro e w1 ⟨rfl, A1, B1⟩
 go_wp2_with fail
 refine (H2.out _ B1).mono ?_
 rintro e w2 ⟨rfl, A2, B2⟩
 have h3 := H3.out w2 w1.heap.size (A1.kept B2 A1.lt) A2
 have HB := Lib.hid (B1.trans (B2.mono B1.size))
 clear B1 B2 A1 A2
 go_wp2_with fail
 refine h3.mono ?_
 rintro e w3 ⟨rfl, q3, rfl⟩
 have HB2 := Lib.hid (show Below w.heap.size w (w2.drewN q3) from ⟨HB.out.os, HB.out.tape, HB.out.output, HB.out.size, HB.out.block⟩)
 clear h3
 go_wp2
 go_ret
 exact ⟨rfl, HB2.out⟩
theorem under_any (p q : Bytes) (hp : (bs p).size ≤ 9223372036854775807) (hq : (bs q).size ≤ 9223372036854775807) (w : World) (hm : MaxInt w) :
  Calls Tryz.prog 21 #[.string (bs p), .string (bs q)] w fun e w' => e = .returned (.bool (underB p q)) ∧ Below w.heap.size w w' := by
 unfold underB
 cases h1 : partsL p with
 | none => exact under_f1 p q hp hq h1 w hm
 | some L =>
  cases h2 : partsL q with
  | none => exact under_f2 p q L hq h1 h2 w hm
  | some M =>
   dsimp only
   by_cases hM : M = []
   ·subst hM
    simp only [List.length_nil, Nat.zero_le, decide_true, List.take_zero, Bool.and_true]
    by_cases hL : L = []
    ·subst hL
     exact under_nn p q h1 h2 w
    ·exact under_sn p q L h1 hL h2 w hm
   ·by_cases hle : M.length ≤ L.length
    ·rw [decide_eq_true hle, Bool.true_and]
     exact under_le p q L M h1 hM h2 hle w hm
    ·rw [decide_eq_false hle, Bool.false_and]
     by_cases hL : L = []
     ·subst hL
      exact under_ns p q M h1 hM h2 w hm
     ·exact under_gt p q L M h1 hL h2 (by omega) w hm
end Go.Proofs.YtnclkfhdpkkakaaGreatDoor
namespace Go.Proofs.YtnclkfhdpkkakaaGreatDoor
set_option linter.unusedVariables false
set_option linter.unusedSimpArgs false
open Go.RowKit
theorem isDot_bs (l : Bytes) : isDot (bs l) = (l.isEmpty || l == [46] || l == [46, 46]) := by unfold isDot; rw [toList_bs]
def okC (l : Bytes) : Bool := !(l.isEmpty || l == [46] || l == [46, 46]) && goodFrom (bs l) l.length 0
theorem okName_eq (l : Bytes) : okName l = okC l := by unfold okName nameB okC; rw [isDot_bs, size_bs]
def partsC : Bytes → Option (List Bytes)
 | [] => none
 | c :: r => if c = 47 ∧ r.length < 64 then (if r = [] then some [] else if (segs r).all okC then some (segs r) else none) else none
theorem partsL_eq (l : Bytes) : partsL l = partsC l := by
 cases l with
 | nil => rfl
 | cons c r =>
  rw [partsL_cons, show okName = okC from funext okName_eq]
  rfl
def underC (p q : Bytes) : Bool :=
 match partsC p, partsC q with
 | some l, some m => decide (m.length ≤ l.length) && decide (l.take m.length = m)
 | _, _ => false
theorem underB_eq (p q : Bytes) : underB p q = underC p q := by unfold underB underC; rw [partsL_eq, partsL_eq] <;> rfl
end Go.Proofs.YtnclkfhdpkkakaaGreatDoor
