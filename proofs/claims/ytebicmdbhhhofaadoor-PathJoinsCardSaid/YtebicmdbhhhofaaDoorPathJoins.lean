/-
  PathJoins, walked: every Join and Under.
-/
import Derived.Test.YtebicmdbhhhofaaDoorPathParts
namespace Go.Proofs.YtebicmdbhhhofaaDoor
set_option linter.unusedVariables false
set_option linter.unusedSimpArgs false
open Go.RowKit

set_option maxRecDepth 100000 in
set_option maxHeartbeats 4000000 in
theorem pjoins_bad (p q : Bytes) (hp : p.length ≤ 500) (hq : q.length ≤ 500) (h : partsL p = none) (w : World) (hm : MaxInt w) :
    Calls Tryd.prog 3 #[.string (bs p), .string (bs q)] w fun e w' => e = .returned (.bool true) ∧ Below w.heap.size w w' := by
  have s1 : (bs p).size ≤ 500 := by rw [size_bs]; exact hp
  have s2 : (bs q).size ≤ 500 := by rw [size_bs]; exact hq
  have c1 := later_join w hm p q (by omega) (by omega)
  rw [show joinV p q = .tuple #[.string (bs []), .int .i64 30] from by simp [joinV, h]] at c1
  have C1 := Lib.hid c1
  have C2 := Lib.hid (show Later w 11 #[.string (bs p)] (.tuple #[.slice none 0 0, .bool false]) from later_below fun W => refParts_none p h (size_max hp (by omega)) W)
  have c3 := later_under w hm p q (by omega) (by omega)
  have c4 := later_refUnder w p q (by omega) (by omega)
  generalize underB p q = u at *
  have C3 := Lib.hid c3
  have C4 := Lib.hid c4
  have CG := Lib.hid (later_goes w hm)
  have B0 := Lib.hid (Below.refl w.heap.size w)
  have e0 : (bs []).toList.isEmpty = true := by rw [toList_bs]; rfl
  have eu : (u != u) = false := by simp
  clear c1 c3 c4 hm h
  cases u
  all_goals
    go_enter Tryd.func3, Tryd.ntmps3
    go_wp2_with fail
    refine (C1.out _ B0.out).mono ?_
    rintro e w1 ⟨rfl, B1⟩
    have X1 := Lib.hid B1
    clear B1
    go_wp2_with fail
    refine (C2.out _ X1.out).mono ?_
    rintro e w2 ⟨rfl, B2⟩
    have X2 := Lib.hid B2
    clear B2
    go_wp2_with fail
    refine (C3.out _ X2.out).mono ?_
    rintro e w3 ⟨rfl, B3⟩
    have X3 := Lib.hid B3
    clear B3
    go_wp2_with fail
    refine (C4.out _ X3.out).mono ?_
    rintro e w4 ⟨rfl, B4⟩
    have X4 := Lib.hid B4
    clear B4
    go_wp2_with fail
    refine (CG.out _ X4.out).mono ?_
    rintro e w5 ⟨rfl, B5⟩
    have X5 := Lib.hid B5
    clear B5
    go_wp2
    go_ret
    exact ⟨rfl, X5.out⟩

set_option maxRecDepth 100000 in
set_option maxHeartbeats 4000000 in
theorem pjoins_name (p q : Bytes) (L : List Bytes) (hp : p.length ≤ 500) (hq : q.length ≤ 500) (h : partsL p = some L) (hn : okName q = false) (w : World) (hm : MaxInt w) :
    Calls Tryd.prog 3 #[.string (bs p), .string (bs q)] w fun e w' => e = .returned (.bool true) ∧ Below w.heap.size w w' := by
  have s1 : (bs p).size ≤ 500 := by rw [size_bs]; exact hp
  have s2 : (bs q).size ≤ 500 := by rw [size_bs]; exact hq
  have c1 := later_join w hm p q (by omega) (by omega)
  rw [show joinV p q = .tuple #[.string (bs []), .int .i64 30] from by simp [joinV, h, hn]] at c1
  have C1 := Lib.hid c1
  have C2 := Lib.hid (refParts_some p L h)
  have c3 := later_under w hm p q (by omega) (by omega)
  have c4 := later_refUnder w p q (by omega) (by omega)
  have c5 := later_refName w q (by omega)
  rw [hn] at c5
  generalize underB p q = u at *
  have C3 := Lib.hid c3
  have C4 := Lib.hid c4
  have C5 := Lib.hid c5
  have CG := Lib.hid (later_goes w hm)
  have B0 := Lib.hid (Below.refl w.heap.size w)
  have e0 : (bs []).toList.isEmpty = true := by rw [toList_bs]; rfl
  clear c1 c3 c4 c5 hm h hn
  cases u
  all_goals
    go_enter Tryd.func3, Tryd.ntmps3
    go_wp2_with fail
    refine (C1.out _ B0.out).mono ?_
    rintro e wa1 ⟨rfl, Ba1⟩
    have Xa1 := Lib.hid Ba1
    clear Ba1
    go_wp2_with fail
    refine (C2.out _).mono ?_
    rintro e w1 ⟨v, rfl, _, B1⟩
    have Xa2 := Lib.hid (Xa1.out.trans (B1.mono Xa1.out.size))
    clear B1
    go_wp2_with fail
    refine (C3.out _ Xa2.out).mono ?_
    rintro e wb1 ⟨rfl, Bb1⟩
    have Xb1 := Lib.hid Bb1
    clear Bb1
    go_wp2_with fail
    refine (C4.out _ Xb1.out).mono ?_
    rintro e wb2 ⟨rfl, Bb2⟩
    have Xb2 := Lib.hid Bb2
    clear Bb2
    go_wp2_with fail
    refine (C5.out _ Xb2.out).mono ?_
    rintro e wb3 ⟨rfl, Bb3⟩
    have Xb3 := Lib.hid Bb3
    clear Bb3
    go_wp2_with fail
    refine (CG.out _ Xb3.out).mono ?_
    rintro e wb4 ⟨rfl, Bb4⟩
    have Xb4 := Lib.hid Bb4
    clear Bb4
    go_wp2
    go_ret
    exact ⟨rfl, Xb4.out⟩

set_option maxRecDepth 100000 in
set_option maxHeartbeats 8000000 in
theorem pjoins_nil (p q : Bytes) (hp : p.length ≤ 500) (hq : q.length ≤ 500) (h : partsL p = some []) (hn : okName q = true) (w : World) (hm : MaxInt w) :
    Calls Tryd.prog 3 #[.string (bs p), .string (bs q)] w fun e w' => e = .returned (.bool true) ∧ Below w.heap.size w w' := by
  obtain ⟨i0, hi, hz0, hz1, hz2⟩ := info_parts infoStr
  have s1 : (bs p).size ≤ 500 := by rw [size_bs]; exact hp
  have s2 : (bs q).size ≤ 500 := by rw [size_bs]; exact hq
  have c1 := later_join w hm p q (by omega) (by omega)
  rw [show joinV p q = joinVal ([] : List Bytes) q from by simp [joinV, h, hn]] at c1
  have hk := partsL_len h
  have hjl := join_len ([] : List Bytes) q (slashed_parts h) (by omega)
  obtain rfl : p = [47] := by
    have := ofL_parts h
    rw [← this]
    rfl
  have C2 := Lib.hid (show Later w 11 #[.string (bs [47])] (.tuple #[.slice none 0 0, .bool true]) from later_same fun W => refParts_root W)
  have c3 := later_under w hm [47] q (by omega) (by omega)
  have c4 := later_refUnder w [47] q (by omega) (by omega)
  have c5 := later_refName w q (by omega)
  rw [hn] at c5
  have HM := Lib.hid hm
  generalize underB [47] q = u at *
  have C3 := Lib.hid c3
  have C4 := Lib.hid c4
  have C5 := Lib.hid c5
  have CG := Lib.hid (later_goes w hm)
  have B0 := Lib.hid (Below.refl w.heap.size w)
  have e0 : (bs []).toList.isEmpty = true := by rw [toList_bs]; rfl
  have eq1 : ((bs (joinL ([] : List Bytes) q)).toList == (bs (joinL ([] : List Bytes) q)).toList) = true := by simp
  have hof : ∀ (W : World) (B : Nat) (a : Option Addr) (c : Nat), SlS W B a (([] : List Bytes) ++ [q]) → Calls Tryd.prog 16 #[.slice a (([] : List Bytes) ++ [q]).length c] W fun e w' => e = .returned (.string (bs (joinL ([] : List Bytes) q))) ∧ W = w' :=
    fun W B a c hs => refOf_more a c B (([] : List Bytes) ++ [q]) W (by simp) (by simp) (by
      have h9 : ofL (([] : List Bytes) ++ [q]) = slashed (([] : List Bytes) ++ [q]) := by exact ofL_cons q []
      rw [← h9]
      exact Nat.le_trans hjl (by omega)) hs
  have HO := Lib.hid hof
  have hsz : (bs (joinL ([] : List Bytes) q)).size ≤ 2000 := by rw [size_bs]; exact hjl
  have hkm : ([] : List Bytes).length + 1 ≤ maxLen := by unfold maxLen; omega
  have hkm0 : 0 + ([] : List Bytes).length ≤ maxLen := by unfold maxLen; omega
  clear c3 c4 c5 hof hjl hn h
  cases hj : joinErr ([] : List Bytes) q
  all_goals
    have hsize : {b : Bool} → joinErr ([] : List Bytes) q = b → (b = true → 64 < (bs (joinL ([] : List Bytes) q)).size) ∧ (b = false → (bs (joinL ([] : List Bytes) q)).size ≤ 64) := fun hb => by
      rw [size_bs]
      subst hb
      unfold joinErr
      constructor
      · intro h; simpa using h
      · intro h; simpa using h
    have hgt := hsize hj
    simp only [Bool.false_eq_true, reduceCtorEq, false_implies, true_and, and_true, forall_const] at hgt
    clear hsize
    simp only [joinVal, hj, if_true, Bool.false_eq_true, if_false] at c1
    have C1 := Lib.hid c1
    clear c1 hj
    cases u
    all_goals
      go_enter Tryd.func3, Tryd.ntmps3
      go_wp2_with fail
      refine (C1.out _ B0.out).mono ?_
      rintro e wa1 ⟨rfl, Ba1⟩
      have Xa1 := Lib.hid Ba1
      clear Ba1
      go_wp2_with fail
      refine (C2.out _ Xa1.out).mono ?_
      rintro e wb1 ⟨rfl, Bb1⟩
      have Xb1 := Lib.hid Bb1
      clear Bb1
      go_wp2_with fail
      refine (C3.out _ Xb1.out).mono ?_
      rintro e wb2 ⟨rfl, Bb2⟩
      have Xb2 := Lib.hid Bb2
      clear Bb2
      go_wp2_with fail
      refine (C4.out _ Xb2.out).mono ?_
      rintro e wb3 ⟨rfl, Bb3⟩
      have Xb3 := Lib.hid Bb3
      clear Bb3
      go_wp2_with fail
      refine (C5.out _ Xb3.out).mono ?_
      rintro e wb4 ⟨rfl, Bb4⟩
      have Xb4 := Lib.hid Bb4
      clear Bb4
      have HOW := Lib.hid (World.ownsRow_made (base := w.heap.size) (e := 9) (size := 1) wb4 #[] 0 (by have := Xb4.out.size; omega) (by decide) rfl)
      have hcn := cell_one_new (wb4.alloc (.cells #[] 9)) (sv q) 9
      rw [show (wb4.alloc (.cells #[] 9)).heap.size = wb4.heap.size + 1 from by simp] at hcn
      have HCN := Lib.hid hcn
      clear hcn
      go_wp2_with (at_builtin; refine wpList_append_own _ rfl (.tmp 54) (.tmp 56) 25 rfl w.heap.size 9 i0 (.string ByteArray.empty) 1 16 Tryd.underlying25 hi hz0 hz1 hz2 rfl (by decide) _ _ _ rfl (HOW.out.alloc _) ⟨wb4.heap.size + 1, 0, none⟩ 1 1 [sv q] rfl rfl HCN.out (sv_one [q]) (by unfold maxLen; omega) (by omega) (by have := Xb4.out.size; simp; omega) ?_; intro v3 w3 hown hgrow _)
      have hown' : w3.ownsRow w.heap.size 9 1 v3 1 (([] ++ [q] : List Bytes).map sv) := by simpa [sv] using hown
      have HB3 := Lib.hid (show Below w.heap.size w w3 from ((Xb4.out.alloc Xb4.out.size _).alloc (by have := Xb4.out.size; simp; omega) _).grown hgrow (by have := Xb4.out.size; simp; omega) (fun k hk => by cases hk; exact Xb4.out.size))
      have hsl := ownS_sl hown'
      obtain ⟨a4, c4, hv4, hs4⟩ := hsl
      rw [hv4]
      have hcall := HO.out w3 _ a4 c4 hs4
      clear hown hown' hv4 hs4 hgrow
      refine hcall.mono ?_
      rintro e w4 ⟨rfl, rfl⟩
      clear hcall
      go_wp2_with fail
      refine (CG.out _ HB3.out).mono ?_
      rintro e w5 ⟨rfl, B5⟩
      go_wp2
      go_ret
      exact ⟨rfl, B5⟩
set_option maxRecDepth 100000 in
set_option maxHeartbeats 8000000 in
theorem pjoins_more (p q : Bytes) (L : List Bytes) (hp : p.length ≤ 500) (hq : q.length ≤ 500) (h : partsL p = some L) (hL : L ≠ []) (hn : okName q = true) (w : World) (hm : MaxInt w) :
    Calls Tryd.prog 3 #[.string (bs p), .string (bs q)] w fun e w' => e = .returned (.bool true) ∧ Below w.heap.size w w' := by
  obtain ⟨i0, hi, hz0, hz1, hz2⟩ := info_parts infoStr
  have s1 : (bs p).size ≤ 500 := by rw [size_bs]; exact hp
  have s2 : (bs q).size ≤ 500 := by rw [size_bs]; exact hq
  have c1 := later_join w hm p q (by omega) (by omega)
  rw [show joinV p q = joinVal L q from by simp [joinV, h, hn]] at c1
  have hk := partsL_len h
  have hjl := join_len L q (slashed_parts h) (by omega)
  have C2 := Lib.hid (refParts_some p L h)
  have c3 := fun (W : World) (hW : MaxInt W) => later_under W hW p q (by omega) (by omega)
  have c4 := fun W : World => later_refUnder W p q (by omega) (by omega)
  have c5 := fun W : World => later_refName W q (by omega)
  rw [hn] at c5
  have HM := Lib.hid hm
  generalize underB p q = u at *
  have d3 := Lib.hid c3
  have d4 := Lib.hid c4
  have d5 := Lib.hid c5
  have CG := Lib.hid (later_goes w hm)
  have B0 := Lib.hid (Below.refl w.heap.size w)
  have e0 : (bs []).toList.isEmpty = true := by rw [toList_bs]; rfl
  have eq1 : ((bs (joinL L q)).toList == (bs (joinL L q)).toList) = true := by simp
  have hof : ∀ (W : World) (B : Nat) (a : Option Addr) (c : Nat), SlS W B a (L ++ [q]) → Calls Tryd.prog 16 #[.slice a (L ++ [q]).length c] W fun e w' => e = .returned (.string (bs (joinL L q))) ∧ W = w' :=
    fun W B a c hs => refOf_more a c B (L ++ [q]) W (by simp) (by simp; omega) (by
      have h9 : ofL (L ++ [q]) = slashed (L ++ [q]) := by cases L with
        | nil => exact ofL_cons q []
        | cons x L => exact ofL_cons x (L ++ [q])
      rw [← h9]
      exact Nat.le_trans hjl (by omega)) hs
  have HO := Lib.hid hof
  have hsz : (bs (joinL L q)).size ≤ 2000 := by rw [size_bs]; exact hjl
  have hkm : L.length + 1 ≤ maxLen := by unfold maxLen; omega
  have hkm0 : 0 + L.length ≤ maxLen := by unfold maxLen; omega
  clear c3 c4 c5 hof hjl hn h
  cases hj : joinErr L q
  all_goals
    have hsize : {b : Bool} → joinErr L q = b → (b = true → 64 < (bs (joinL L q)).size) ∧ (b = false → (bs (joinL L q)).size ≤ 64) := fun hb => by
      rw [size_bs]
      subst hb
      unfold joinErr
      constructor
      · intro h; simpa using h
      · intro h; simpa using h
    have hgt := hsize hj
    simp only [Bool.false_eq_true, reduceCtorEq, false_implies, true_and, and_true, forall_const] at hgt
    clear hsize
    simp only [joinVal, hj, if_true, Bool.false_eq_true, if_false] at c1
    have C1 := Lib.hid c1
    clear c1 hj
    cases u
    all_goals
      go_enter Tryd.func3, Tryd.ntmps3
      go_wp2_with fail
      refine (C1.out _ B0.out).mono ?_
      rintro e wa1 ⟨rfl, Ba1⟩
      have Xa1 := Lib.hid Ba1
      clear Ba1
      go_wp2_with fail
      refine (C2.out _).mono ?_
      rintro e w1 ⟨v, rfl, O1, B1⟩
      have Xa2 := Lib.hid (Xa1.out.trans (B1.mono Xa1.out.size))
      have hform : ∃ g cap, v = .slice (some ⟨g, 0, none⟩) L.length cap ∧ g < w1.heap.size ∧ StrsAt w1 g 0 L := by
        rcases ownS_form O1 with ⟨_, h0⟩ | ⟨g, cap, hv, _, _, hg, hat⟩
        · exact absurd h0 hL
        · exact ⟨g, cap, hv, hg, hat⟩
      obtain ⟨g, cap, hv, hg, hat⟩ := hform
      rw [hv]
      have HAT := Lib.hid hat
      have Y0 := Lib.hid (Below.refl w1.heap.size w1)
      clear hv hat O1 B1
      have D3 := Lib.hid (d3.out w1 (HM.out.kept Xa2.out))
      have D4 := Lib.hid (d4.out w1)
      have D5 := Lib.hid (d5.out w1)
      go_wp2_with fail
      refine (D3.out _ Y0.out).mono ?_
      rintro e wb1 ⟨rfl, Bb1⟩
      have Xb1 := Lib.hid Bb1
      clear Bb1
      go_wp2_with fail
      refine (D4.out _ Xb1.out).mono ?_
      rintro e wb2 ⟨rfl, Bb2⟩
      have Xb2 := Lib.hid Bb2
      clear Bb2
      go_wp2_with fail
      refine (D5.out _ Xb2.out).mono ?_
      rintro e wb3 ⟨rfl, Bb3⟩
      have Xb3 := Lib.hid Bb3
      clear Bb3
      have Ybs := Xb3
      have Xb3 := Lib.hid (Xa2.out.trans (Ybs.out.mono Xa2.out.size))
      have HOW := Lib.hid (World.ownsRow_made (base := w.heap.size) (e := 9) (size := 1) wb3 #[] 0 (by have := Xb3.out.size; omega) (by decide) rfl)
      have hnew : ∀ j u, (L.map sv)[j]? = some u → (wb3.alloc (.cells #[] 9)).cell? ((⟨g, 0, none⟩ : Addr).add j) = some u := by
        intro j u hu
        rw [List.getElem?_map] at hu
        cases hlj : L[j]? with
        | none => rw [hlj] at hu; cases hu
        | some y =>
          rw [hlj] at hu
          cases hu
          rw [Addr.add_lit]
          have hgw : g < wb3.heap.size := Nat.lt_of_lt_of_le hg Ybs.out.size
          exact (World.cell?_alloc_past _ _ _ (by simpa using hgw)).trans ((HAT.out.kept Ybs.out hg) j y hlj)
      have HNEW := Lib.hid hnew
      have HLEN := Lib.hid (show (L.map sv).length = L.length * 1 by simp)
      clear hnew
      go_wp2_with (first
        | (at_builtin; refine wpList_append_own _ rfl (.tmp 52) (.tmp 53) 25 rfl w.heap.size 9 i0 (.string ByteArray.empty) 1 16 Tryd.underlying25 hi hz0 hz1 hz2 rfl (by decide) _ _ _ rfl HOW.out ⟨g, 0, none⟩ L.length cap (L.map sv) rfl HLEN.out HNEW.out (sv_one L) hkm0 (by omega) (by have := Xb3.out.size; simp; omega) ?_; intro v2 w2 hown2 hgrow2 _)
        | (at_builtin; refine wpList_append_own _ rfl (.tmp 54) (.tmp 56) 25 rfl w.heap.size 9 i0 (.string ByteArray.empty) 1 16 Tryd.underlying25 hi hz0 hz1 hz2 rfl (by decide) _ _ _ rfl (hown2.alloc _) ⟨w2.heap.size, 0, none⟩ 1 1 [sv q] rfl rfl (cell_one_new _ _ _) (sv_one [q]) (by rw [Nat.zero_add]; exact hkm) (by omega) (by have h1 := hgrow2.size; have h2 := Xb3.out.size; simp at h1; simp; omega) ?_; intro v3 w3 hown hgrow _)
        | fail)
      have hown' : w3.ownsRow w.heap.size 9 1 v3 (L.length + 1) ((L ++ [q]).map sv) := by
        rw [List.map_append]
        simpa using hown
      have HB2 := Lib.hid (show Below w.heap.size w w2 from (Xb3.out.alloc Xb3.out.size _).grown hgrow2 (by have := Xb3.out.size; simp; omega) (fun k hk => by cases hk; exact Xb3.out.size))
      have HB3 := Lib.hid (show Below w.heap.size w w3 from (HB2.out.alloc HB2.out.size _).grown hgrow (by have := HB2.out.size; simp; omega) (fun k hk => (hown2.lt k hk).1))
      clear hown2 hgrow2
      have hsl := ownS_sl hown'
      obtain ⟨a4, c4, hv4, hs4⟩ := hsl
      rw [hv4]
      have hcall := HO.out w3 _ a4 c4 hs4
      clear hown hown' hv4 hs4 hgrow
      refine hcall.mono ?_
      rintro e w4 ⟨rfl, rfl⟩
      clear hcall
      go_wp2_with fail
      refine (CG.out _ HB3.out).mono ?_
      rintro e w5 ⟨rfl, B5⟩
      go_wp2
      go_ret
      exact ⟨rfl, B5⟩

set_option maxRecDepth 100000 in
theorem pjoins_long (p q : Bytes) (h : 500 < p.length ∨ 500 < q.length) (m1 : (bs p).size ≤ 9223372036854775807) (m2 : (bs q).size ≤ 9223372036854775807) (w : World) :
    Calls Tryd.prog 3 #[.string (bs p), .string (bs q)] w fun e w' => e = .returned (.bool true) ∧ Below w.heap.size w w' := by
  rw [← size_bs, ← size_bs q] at h
  rcases (show 500 < (bs p).size ∨ ((bs p).size ≤ 500 ∧ 500 < (bs q).size) by omega) with g | ⟨g1, g2⟩
  all_goals
    clear h
    go_enter Tryd.func3, Tryd.ntmps3
    go_wp2
    go_ret
    exact ⟨rfl, Below.refl _ _⟩
theorem pjoins_core (p q : Bytes) (m1 : (bs p).size ≤ 9223372036854775807) (m2 : (bs q).size ≤ 9223372036854775807) (w : World) (hm : MaxInt w) :
    Calls Tryd.prog 3 #[.string (bs p), .string (bs q)] w fun e w' => e = .returned (.bool true) ∧ Below w.heap.size w w' := by
  by_cases hl : p.length ≤ 500 ∧ q.length ≤ 500
  · obtain ⟨hp, hq⟩ := hl
    cases h : partsL p with
    | none => exact pjoins_bad p q hp hq h w hm
    | some L =>
      cases hn : okName q with
      | false => exact pjoins_name p q L hp hq h hn w hm
      | true =>
        by_cases hL : L = []
        · subst hL
          exact pjoins_nil p q hp hq h hn w hm
        · exact pjoins_more p q L hp hq h hL hn w hm
  · exact pjoins_long p q (by omega) m1 m2 w

end Go.Proofs.YtebicmdbhhhofaaDoor
