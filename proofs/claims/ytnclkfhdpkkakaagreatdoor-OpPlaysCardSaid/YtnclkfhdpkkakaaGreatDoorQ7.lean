/-
  The reference's Name, walked: it is the program's. The reference's Parts, walked: it is the program's. The reference's Of and Under, walked. Contracts at every later world. Names and parts, in plain Lean: what bytes a name has; a path's beginnings are paths. Regions that draw their order and whose callees only add to the store: one walk of the text's order, in the class 'the world with blocks added'.
-/
import Derived.Test.YtnclkfhdpkkakaaGreatDoorQ5
import Derived.Test.YtnclkfhdpkkakaaGreatDoorQ6
import Derived.Deep.QuietTactic
import Derived.Deep.LoopGhost
import Derived.BigQuiet
namespace Go.Proofs.YtnclkfhdpkkakaaGreatDoor
set_option linter.unusedVariables false
set_option linter.unusedSimpArgs false
open Go.RowKit
theorem width_le (s : ByteArray) (i : Nat) : (Utf8.decode s i).2 ≤ 4 := by
 simp only [Utf8.decode]
 repeat' split
 all_goals simp
theorem bad_err : badB 65533 = true := by decide
set_option maxRecDepth 100000 in
set_option maxHeartbeats 4000000 in
theorem refName_walk (s : ByteArray) (r : Bool) (hs : s.size ≤ 1000) (hd : isDot s = false) (hr : goodFrom s s.size 0 = r) (w : World) :
  Calls Tryz.prog 75 #[.string s] w fun e w' => e = .returned (.bool r) ∧ w = w' := by
 have h0 : s.toList.isEmpty = false ∧ (s.toList == [46]) = false ∧ (s.toList == [46, 46]) = false := by
  simp only [isDot, Bool.or_eq_false_iff] at hd
  exact ⟨hd.1.1, hd.1.2, hd.2⟩
 obtain ⟨h0, h1, h2⟩ := h0
 have HR := Lib.hid hr
 clear hr hd
 go_enter Tryz.func75, Tryz.ntmps75
 go_wp2
 go_loop [3] (fun i => ∃ pos b : Nat, i = .int .i64 pos ∧ pos ≤ 1010 ∧ Hid (goodFrom s b pos = r) ∧ s.size ≤ pos + b) (fun i => s.size - (intOf i).toNat)
 case atStart => exact ⟨0, s.size, rfl, by omega, HR, by omega⟩
 case round =>
  obtain ⟨pos, b, rfl, hp0, H, hb⟩ := hrel
  clear HR
  by_cases hp : pos < s.size
  ·have hle := decode_le s pos
   have hwd := width_pos s pos hp
   have hw4 := width_le s pos
   have hrune := rune_any s pos hp (by omega) w
   unfold RuneEnd runeOf at hrune
   obtain ⟨b, rfl⟩ : ∃ b', b = b' + 1 := ⟨b - 1, by omega⟩
   have H2 := Lib.hid (good_succ s b pos hp ▸ H.out)
   clear H
   generalize (Utf8.decode s pos).1 = c at *
   generalize (Utf8.decode s pos).2 = wd at *
   by_cases herr : c = 65533 ∧ wd = 1
   ·rw [if_pos herr] at hrune
    have hr : r = false := by have := H2.out; rw [herr.1, bad_err] at this; simpa using this.symm
    subst hr
    clear H2 herr
    go_wp2_with (go_at_call 107; refine hrune.mono ?_; rintro e w1 ⟨rfl, rfl⟩)
    go_ret
    exact ⟨rfl, rfl⟩
   ·rw [if_neg herr] at hrune
    have t0 : ((wd : Int) == 0) = false := by simp; omega
    clear herr
    cases hbad : badB c with
    | true =>
     have hr : r = false := by have := H2.out; rw [hbad] at this; simpa using this.symm
     subst hr
     rcases bad_cases hbad with rfl | ⟨g1, g2⟩ | rfl | rfl
     ·clear hbad H2
      go_wp2_with (go_at_call 107; refine hrune.mono ?_; rintro e w1 ⟨rfl, rfl⟩)
      go_ret
      exact ⟨rfl, rfl⟩
     ·clear hbad H2
      have t1 : ((c : Int) == 47) = false := by simp; omega
      go_wp2_with (go_at_call 107; refine hrune.mono ?_; rintro e w1 ⟨rfl, rfl⟩)
      go_ret
      exact ⟨rfl, rfl⟩
     ·clear hbad H2
      go_wp2_with (go_at_call 107; refine hrune.mono ?_; rintro e w1 ⟨rfl, rfl⟩)
      go_ret
      exact ⟨rfl, rfl⟩
     ·clear hbad H2
      go_wp2_with (go_at_call 107; refine hrune.mono ?_; rintro e w1 ⟨rfl, rfl⟩)
      go_ret
      exact ⟨rfl, rfl⟩
    | false =>
     obtain ⟨g1, g2, g3, g4⟩ := good_not hbad
     have H3 : Hid (goodFrom s b (pos + wd) = r) := Lib.hid (by have := H2.out; rw [hbad] at this; simpa using this)
     clear hbad H2
     have t1 : ((c : Int) == 47) = false := by simp; omega
     have t3 : ((c : Int) == 127) = false := by simp; omega
     have t4 : ((c : Int) == 65533) = false := by simp; omega
     go_wp2_with (go_at_call 107; refine hrune.mono ?_; rintro e w1 ⟨rfl, rfl⟩)
     go_round
     case rel => exact ⟨pos + wd, b, by go_num, by omega, H3, by omega⟩
     case measure => simp [intOf]; omega
  ·have hr : r = true := by rw [← H.out]; exact good_end s b pos hp
   subst hr
   clear H
   go_wp2
   go_ret
   exact ⟨rfl, rfl⟩
set_option maxRecDepth 100000 in
theorem refName_dot (s : ByteArray) (hd : isDot s = true) (w : World) : Calls Tryz.prog 75 #[.string s] w fun e w' => e = .returned (.bool false) ∧ w = w' := by
 have hc : s.toList.isEmpty = true ∨ (s.toList.isEmpty = false ∧ (s.toList == [46]) = true) ∨ (s.toList.isEmpty = false ∧ (s.toList == [46]) = false ∧ (s.toList == [46, 46]) = true) := by
  simp only [isDot, Bool.or_eq_true] at hd
  cases h0 : s.toList.isEmpty <;> cases h1 : (s.toList == [46]) <;> simp_all
 clear hd
 rcases hc with h0 | ⟨h0, h1⟩ | ⟨h0, h1, h2⟩
 all_goals
  go_enter Tryz.func75, Tryz.ntmps75
  go_wp2
  go_ret
  exact ⟨rfl, rfl⟩
theorem refName_any (s : ByteArray) (hs : s.size ≤ 1000) (w : World) : Calls Tryz.prog 75 #[.string s] w fun e w' => e = .returned (.bool (nameB s)) ∧ w = w' := by
 cases hd : isDot s with
 | true =>
  have : nameB s = false := by simp [nameB, hd]
  rw [this]
  exact refName_dot s hd w
 | false =>
  have : nameB s = goodFrom s s.size 0 := by simp [nameB, hd]
  rw [this]
  exact refName_walk s _ hs hd rfl w
end Go.Proofs.YtnclkfhdpkkakaaGreatDoor
namespace Go.Proofs.YtnclkfhdpkkakaaGreatDoor
set_option linter.unusedVariables false
set_option linter.unusedSimpArgs false
open Go.RowKit
def PRel (r : Bytes) (D : List Bytes) (f i : Nat) : Prop :=
 D.all okName = true ∧
 ((i ≤ r.length + 1 ∧ ∃ cur rest : Bytes, (47 :: r).drop i = rest ∧ ((47 :: r).drop f).take (i - f) = cur ∧ segs r = D ++ segs (cur ++ rest) ∧ (47 : UInt8) ∉ cur) ∨ (i = r.length + 2 ∧ segs r = D))
theorem pstart (r : Bytes) : PRel r [] 1 1 := ⟨rfl, .inl ⟨by omega, [], r, rfl, by simp, by simp, by simp⟩⟩
theorem cut_bs (l : Bytes) (f i : Nat) : (bs l).extract f i = bs ((l.drop f).take (i - f)) := by
 rw [Lib.extract_eq, data_bs]; rfl
theorem elem_bs (l : Bytes) (i : Nat) (h : i < (bs l).size) : (bs l)[i]'h = l[i]'(by rw [size_bs] at h; exact h) := by
 simp [bs, ByteArray.getElem_eq_getElem_data]
theorem plast {r : Bytes} {D : List Bytes} {f : Nat} (h : PRel r D f (r.length + 1)) :
  (okName (((47 :: r).drop f).take (r.length + 1 - f)) = true → PRel r (D ++ [((47 :: r).drop f).take (r.length + 1 - f)]) (r.length + 2) (r.length + 2)) ∧ (okName (((47 :: r).drop f).take (r.length + 1 - f)) = false → (segs r).all okName = false) := by
 obtain ⟨hD, ⟨_, cur, rest, h1, h2, h3, h4⟩ | ⟨h1, _⟩⟩ := h
 ·have hr : rest = [] := by rw [← h1]; simp
  subst hr
  rw [h2]
  rw [List.append_nil, segs_alone cur h4] at h3
  exact ⟨fun ho => ⟨by rw [List.all_append, hD]; simp [ho], .inr ⟨rfl, h3⟩⟩, fun ho => by rw [h3, List.all_append, hD]; simp [ho]⟩
 ·omega
theorem pslash {r : Bytes} {D : List Bytes} {f i : Nat} (h : PRel r D f i) (hi : i < (47 :: r).length) (hc : (47 :: r)[i] = 47) :
  (okName (((47 :: r).drop f).take (i - f)) = true → PRel r (D ++ [((47 :: r).drop f).take (i - f)]) (i + 1) (i + 1)) ∧ (okName (((47 :: r).drop f).take (i - f)) = false → (segs r).all okName = false) := by
 obtain ⟨hD, ⟨_, cur, rest, h1, h2, h3, h4⟩ | ⟨h1, _⟩⟩ := h
 ·have hr : rest = 47 :: (47 :: r).drop (i + 1) := by rw [← h1, List.drop_eq_getElem_cons hi, hc]
  rw [h2]
  rw [hr, segs_append cur h4] at h3
  refine ⟨fun ho => ⟨by rw [List.all_append, hD]; simp [ho], .inl ⟨by simp at hi; omega, [], _, rfl, by simp, by rw [h3]; simp, by simp⟩⟩, fun ho => by rw [h3, List.all_append, hD]; simp [ho]⟩
 ·simp at hi; omega
theorem pother {r : Bytes} {D : List Bytes} {f i : Nat} (h : PRel r D f i) (hf : f ≤ i) (hi : i < (47 :: r).length) (hc : (47 :: r)[i] ≠ 47) : PRel r D f (i + 1) := by
 obtain ⟨hD, ⟨_, cur, rest, h1, h2, h3, h4⟩ | ⟨h1, _⟩⟩ := h
 ·have hr : rest = (47 :: r)[i] :: (47 :: r).drop (i + 1) := by rw [← h1, List.drop_eq_getElem_cons hi]
  refine ⟨hD, .inl ⟨by simp at hi; omega, cur ++ [(47 :: r)[i]], _, rfl, ?_, ?_, ?_⟩⟩
  ·rw [show i + 1 - f = (i - f) + 1 by omega, List.take_add_one, h2]
   have hlt : i - f < ((47 :: r).drop f).length := by rw [List.length_drop]; omega
   rw [List.getElem?_eq_getElem hlt, List.getElem_drop]
   have e : f + (i - f) = i := by omega
   simp [e]
  ·rw [h3, hr]; simp
  ·simp [h4, Ne.symm hc]
 ·simp at hi; omega
theorem pend {r : Bytes} {D : List Bytes} {f i : Nat} (h : PRel r D f i) (hi : r.length + 1 < i) : segs r = D ∧ D.all okName = true := by
 obtain ⟨hD, ⟨_, _⟩ | ⟨_, h2⟩⟩ := h
 ·omega
 ·exact ⟨h2, hD⟩
def PartsEnd (r : Bytes) (w : World) (e : Ending) (w' : World) : Prop :=
 if (segs r).all okName then (∃ v, e = .returned (.tuple #[v, .bool true]) ∧ w'.ownsRow w.heap.size 9 1 v (segs r).length ((segs r).map sv) ∧ Below w.heap.size w w')
 else e = .returned (.tuple #[.slice none 0 0, .bool false]) ∧ Below w.heap.size w w'
set_option maxRecDepth 100000 in
set_option maxHeartbeats 4000000 in
theorem refParts_walk (r : Bytes) (hr : r ≠ []) (hlen : (bs (47 :: r)).size ≤ 64) (w : World) : Calls Tryz.prog 50 #[.string (bs (47 :: r))] w (PartsEnd r w) := by
 obtain ⟨i0, hi, hz0, hz1, hz2⟩ := info_parts infoStr
 have hsz : (bs (47 :: r)).size = r.length + 1 := by rw [size_bs]; rfl
 have hpos : 0 < (bs (47 :: r)).size := by omega
 have h0 : (((bs (47 :: r))[0]'hpos).toNat : Int) = 47 := by rw [elem_bs]; rfl
 have h0' : ((((bs (47 :: r))[0]'hpos).toNat : Int) != 47) = false := by rw [h0]; rfl
 have hne : ((bs (47 :: r)).toList == [47]) = false := by
  rw [toList_bs]
  simp [hr]
 have hz : (((bs (47 :: r)).size : Int) == 0) = false := by rw [beq_eq_false_iff_ne]; omega
 have HSZ := Lib.hid hsz
 clear hsz h0 hr
 go_enter Tryz.func50, Tryz.ntmps50
 go_wp2
 go_loopw [4, 5, 6] (fun v f i wr => ∃ (D : List Bytes) (fn inn : Nat), f = .int .i64 fn ∧ i = .int .i64 inn ∧ fn ≤ inn ∧ inn ≤ 66 ∧ Hid (PRel r D fn inn) ∧ Hid (wr.ownsRow w.heap.size 9 1 v D.length (D.map sv)) ∧ Hid (Below w.heap.size w wr) ∧ D.length ≤ inn) (fun _ _ i _ => 67 - (intOf i).toNat)
 case atStart => exact ⟨[], 1, 1, rfl, rfl, by omega, by omega, Lib.hid (pstart r), Lib.hid (World.ownsRow_nil w _ _ _), Lib.hid (Below.refl _ _), by simp⟩
 case round =>
  obtain ⟨D, f, i, rfl, rfl, hfi, hi66, HP, HO, HB, hDl⟩ := hrel
  by_cases hle : i ≤ (bs (47 :: r)).size
  ·by_cases hsl : i = (bs (47 :: r)).size ∨ ∃ h : i < (47 :: r).length, (47 :: r)[i] = 47
   ·have hstep : (okName (((47 :: r).drop f).take (i - f)) = true → PRel r (D ++ [((47 :: r).drop f).take (i - f)]) (i + 1) (i + 1)) ∧ (okName (((47 :: r).drop f).take (i - f)) = false → (segs r).all okName = false) := by
     rcases hsl with e | ⟨h1, h2⟩
     ·have e2 := HSZ.out
      have e3 : i = r.length + 1 := by omega
      have hp := HP.out
      rw [e3] at hp ⊢
      exact plast hp
     ·exact pslash HP.out h1 h2
    have HS := Lib.hid hstep
    have hn := refName_any ((bs (47 :: r)).extract f i) (by rw [cut_bs, size_bs]; simp; omega)
    have HE := Lib.hid (cut_bs (47 :: r) f i)
    rw [show nameB ((bs (47 :: r)).extract f i) = okName (((47 :: r).drop f).take (i - f)) from by rw [HE.out]; rfl] at hn
    clear hstep
    generalize ((47 :: r).drop f).take (i - f) = cur at *
    have htest : ((i : Int) == ((bs (47 :: r)).size : Int)) = true ∨ (((i : Int) == ((bs (47 :: r)).size : Int)) = false ∧ ∃ h : i < (bs (47 :: r)).size, ((((bs (47 :: r))[i]'h).toNat : Int) == 47) = true) := by
     by_cases e : i = (bs (47 :: r)).size
     ·left; rw [beq_iff_eq]; omega
     ·right
      rcases hsl with e' | ⟨h1, h2⟩
      ·exact absurd e' e
      ·refine ⟨by rw [beq_eq_false_iff_ne]; omega, by omega, ?_⟩
       rw [elem_bs, h2]
       rfl
    clear hsl
    cases hok : okName cur with
    | false =>
     rw [hok] at hn
     have HF := Lib.hid (HS.out.2 hok)
     clear hok HS
     rcases htest with t1 | ⟨t1, t2, t3⟩
     all_goals
      go_wp2_with (go_at_call 75; refine (hn _).mono ?_; rintro e w1 ⟨rfl, rfl⟩)
      go_ret2
      unfold PartsEnd
      rw [HF.out]
      exact ⟨rfl, HB.out⟩
    | true =>
     rw [hok] at hn
     have HP2 := Lib.hid (HS.out.1 hok)
     clear hok HS
     have hal := World.ownsRow.alloc HO.out (.cells #[.string ((bs (47 :: r)).extract f i)] 9)
     have HAL := Lib.hid hal
     clear hal
     rcases htest with t1 | ⟨t1, t2, t3⟩
     all_goals
      go_wp2_with (first
       | (go_at_call 75; refine (hn _).mono ?_; rintro e w1 ⟨rfl, rfl⟩)
       | (at_builtin; refine wpList_append_own _ rfl _ _ 40 rfl w.heap.size 9 i0 (.string ByteArray.empty) 1 16 Tryz.underlying40 hi hz0 hz1 hz2 rfl (by decide) _ _ _ rfl HAL.out ⟨wr.heap.size, 0, none⟩ 1 1 [.string ((bs (47 :: r)).extract f i)] rfl rfl (cell_one_new _ _ _) (by simp [Value.oneCell']) (by unfold maxLen; omega) (by omega) (by have := HB.out.size; simp; omega) ?_; intro v3 w3 hown hgrow _)
       | fail)
      have hown' : w3.ownsRow w.heap.size 9 1 v3 (D ++ [cur]).length ((D ++ [cur]).map sv) := by
       rw [HE.out] at hown
       simpa [sv] using hown
      have HO3 := Lib.hid hown'
      have HB3 := Lib.hid (show Below w.heap.size w w3 from (HB.out.alloc HB.out.size _).grown hgrow (by have := HB.out.size; simp; omega) (fun k hk => (HO.out.lt k hk).1))
      clear hown hown' hgrow
      go_roundw
      case rel => exact ⟨D ++ [cur], i + 1, i + 1, by go_num, by go_num, by omega, by omega, HP2, HO3, HB3, by simp; omega⟩
      case measure => simp [intOf]; omega
   ·have hi1 : i < (bs (47 :: r)).size := by
     have := hle
     by_cases e : i = (bs (47 :: r)).size
     ·exact absurd (.inl e) hsl
     ·omega
    have hi2 : i < (47 :: r).length := by rw [size_bs] at hi1; exact hi1
    have hne47 : (47 :: r)[i] ≠ 47 := fun e => hsl (.inr ⟨hi2, e⟩)
    have t1 : ((i : Int) == ((bs (47 :: r)).size : Int)) = false := by rw [beq_eq_false_iff_ne]; omega
    have t2 : ((((bs (47 :: r))[i]'hi1).toNat : Int) == 47) = false := by
     rw [elem_bs, beq_eq_false_iff_ne]
     intro e
     apply hne47
     apply UInt8.toNat_inj.1
     have : ((47 : UInt8).toNat : Int) = 47 := rfl
     omega
    have HP2 := Lib.hid (pother HP.out hfi hi2 hne47)
    clear hsl hne47
    go_wp2
    go_roundw
    case rel => exact ⟨D, f, i + 1, rfl, by go_num, by omega, by omega, HP2, HO, HB, by omega⟩
    case measure => simp [intOf]; omega
  ·have hend := pend HP.out (by have := HSZ.out; omega)
   have HE := Lib.hid hend
   clear hend
   go_wp2
   go_ret2
   unfold PartsEnd
   rw [HE.out.1, HE.out.2]
   exact ⟨_, rfl, HO.out, HB.out⟩
def RefBad (w : World) (e : Ending) (w' : World) : Prop := e = .returned (.tuple #[.slice none 0 0, .bool false]) ∧ Below w.heap.size w w'
def RefGood (L : List Bytes) (w : World) (e : Ending) (w' : World) : Prop := ∃ v, e = .returned (.tuple #[v, .bool true]) ∧ w'.ownsRow w.heap.size 9 1 v L.length (L.map sv) ∧ Below w.heap.size w w'
set_option maxRecDepth 100000 in
theorem refParts_root (w : World) : Calls Tryz.prog 50 #[.string (bs [47])] w fun e w' => e = .returned (.tuple #[.slice none 0 0, .bool true]) ∧ w = w' := by
 have h1 : (bs [47]).size = 1 := by rw [size_bs]; rfl
 have hp : 0 < (bs [47]).size := by rw [h1]; decide
 have h2 : ((((bs [47])[0]'hp).toNat : Int) != 47) = false := by rw [elem_bs]; rfl
 have h3 : ((bs [47]).toList == [47]) = true := by rw [toList_bs]; rfl
 have h4 : (((bs [47]).size : Int) == 0) = false := by rw [h1]; rfl
 have h5 : (bs [47]).size ≤ 64 := by rw [h1]; decide
 clear h1
 go_enter Tryz.func50, Tryz.ntmps50
 go_wp2
 go_ret2
 exact ⟨rfl, rfl⟩
set_option maxRecDepth 100000 in
theorem refParts_empty (w : World) : Calls Tryz.prog 50 #[.string (bs [])] w fun e w' => e = .returned (.tuple #[.slice none 0 0, .bool false]) ∧ w = w' := by
 have h1 : (bs []).size = 0 := by rw [size_bs]; rfl
 have h4 : (((bs []).size : Int) == 0) = true := by rw [h1]; rfl
 clear h1
 go_enter Tryz.func50, Tryz.ntmps50
 go_wp2
 go_ret2
 exact ⟨rfl, rfl⟩
set_option maxRecDepth 100000 in
theorem refParts_noslash (c : UInt8) (r : Bytes) (hc : c ≠ 47) (hm : (bs (c :: r)).size ≤ 9223372036854775807) (w : World) : Calls Tryz.prog 50 #[.string (bs (c :: r))] w fun e w' => e = .returned (.tuple #[.slice none 0 0, .bool false]) ∧ w = w' := by
 have h1 : (bs (c :: r)).size = r.length + 1 := by rw [size_bs]; rfl
 have hp : 0 < (bs (c :: r)).size := by rw [h1]; omega
 have h2 : ((((bs (c :: r))[0]'hp).toNat : Int) != 47) = true := by
  rw [elem_bs, bne_iff_ne]
  intro e
  apply hc
  apply UInt8.toNat_inj.1
  have : ((47 : UInt8).toNat : Int) = 47 := rfl
  simp only [List.getElem_cons_zero] at e
  omega
 have h4 : (((bs (c :: r)).size : Int) == 0) = false := by rw [h1, beq_eq_false_iff_ne]; omega
 clear h1 hc
 go_enter Tryz.func50, Tryz.ntmps50
 go_wp2
 go_ret2
 exact ⟨rfl, rfl⟩
set_option maxRecDepth 100000 in
theorem refParts_long (r : Bytes) (h : 64 < (bs (47 :: r)).size) (hm : (bs (47 :: r)).size ≤ 9223372036854775807) (w : World) : Calls Tryz.prog 50 #[.string (bs (47 :: r))] w fun e w' => e = .returned (.tuple #[.slice none 0 0, .bool false]) ∧ w = w' := by
 have hp : 0 < (bs (47 :: r)).size := by omega
 have h2 : ((((bs (47 :: r))[0]'hp).toNat : Int) != 47) = false := by rw [elem_bs]; rfl
 have h4 : (((bs (47 :: r)).size : Int) == 0) = false := by rw [beq_eq_false_iff_ne]; omega
 go_enter Tryz.func50, Tryz.ntmps50
 go_wp2
 go_ret2
 exact ⟨rfl, rfl⟩
theorem refParts_none (l : Bytes) (h : partsL l = none) (hs : (bs l).size ≤ 9223372036854775807) (w : World) : Calls Tryz.prog 50 #[.string (bs l)] w (RefBad w) := by
 rcases partsL_none h with h1 | ⟨r, rfl, h1 | ⟨h1, h2, h3⟩⟩
 ·cases l with
  | nil => exact (refParts_empty w).mono fun e w' ⟨he, hw⟩ => ⟨he, hw ▸ Below.refl _ _⟩
  | cons c r => exact (refParts_noslash c r (fun e => h1 r (by rw [e])) hs w).mono fun e w' ⟨he, hw⟩ => ⟨he, hw ▸ Below.refl _ _⟩
 ·exact (refParts_long r h1 hs w).mono fun e w' ⟨he, hw⟩ => ⟨he, hw ▸ Below.refl _ _⟩
 ·refine (refParts_walk r h1 h2 w).mono fun e w' h => ?_
  unfold PartsEnd at h
  rw [h3] at h
  exact h
theorem refParts_some (l : Bytes) (L : List Bytes) (h : partsL l = some L) (w : World) : Calls Tryz.prog 50 #[.string (bs l)] w (RefGood L w) := by
 obtain ⟨r, rfl, hs, ⟨rfl, rfl⟩ | ⟨h1, rfl, h3⟩⟩ := partsL_some h
 ·exact (refParts_root w).mono fun e w' ⟨he, hw⟩ => ⟨_, he, hw ▸ World.ownsRow_nil _ _ _ _, hw ▸ Below.refl _ _⟩
 ·refine (refParts_walk r h1 hs w).mono fun e w' h => ?_
  unfold PartsEnd at h
  rw [h3] at h
  exact h
end Go.Proofs.YtnclkfhdpkkakaaGreatDoor
namespace Go.Proofs.YtnclkfhdpkkakaaGreatDoor
set_option linter.unusedVariables false
set_option linter.unusedSimpArgs false
open Go.RowKit
def SlS (w : World) (B : Nat) (a : Option Addr) (L : List Bytes) : Prop := ∀ j x, L[j]? = some x → ∃ g, a = some ⟨g, 0, none⟩ ∧ g < B ∧ w.cell? ⟨g, j, none⟩ = some (.string (bs x))
theorem SlS.kept {w w' : World} {B : Nat} {a : Option Addr} {L : List Bytes} (h : SlS w B a L) (hb : Below B w w') : SlS w' B a L := by
 intro j x hx
 obtain ⟨g, ha, hg, hc⟩ := h j x hx
 exact ⟨g, ha, hg, (hb.cell (p := ⟨g, j, none⟩) hg).trans hc⟩
theorem SlS.mono {w : World} {B B' : Nat} {a : Option Addr} {L : List Bytes} (h : SlS w B a L) (hB : B ≤ B') : SlS w B' a L := by
 intro j x hx
 obtain ⟨g, ha, hg, hc⟩ := h j x hx
 exact ⟨g, ha, by omega, hc⟩
theorem ownS_sl {w : World} {base : Nat} {v : Value} {n : Nat} {L : List Bytes} (h : w.ownsRow base 9 1 v n (L.map sv)) : ∃ a c, v = .slice a L.length c ∧ SlS w w.heap.size a L := by
 rcases ownS_form h with ⟨rfl, rfl⟩ | ⟨g, cap, rfl, _, _, hg, hat⟩
 ·exact ⟨none, 0, rfl, fun j x hx => by simp at hx⟩
 ·exact ⟨_, cap, rfl, fun j x hx => ⟨g, rfl, hg, by have := hat j x hx; rwa [Nat.zero_add] at this⟩⟩
theorem strs_sl {w : World} {g : Nat} {L : List Bytes} (h : StrsAt w g 0 L) (hg : g < w.heap.size) : SlS w w.heap.size (some ⟨g, 0, none⟩) L :=
 fun j x hx => ⟨g, rfl, hg, by have := h j x hx; rwa [Nat.zero_add] at this⟩
theorem cat_bs (a b : Bytes) : bs a ++ bs b = bs (a ++ b) := by
 have h : (bs a ++ bs b).data.toList = (bs (a ++ b)).data.toList := by
  rw [data_bs]; simp [bs]
 rw [← bs_data (bs a ++ bs b), h, bs_data]
theorem slashed_succ (L : List Bytes) (k : Nat) (x : Bytes) (hx : L[k]? = some x) : slashed (L.take (k + 1)) = slashed (L.take k) ++ 47 :: x := by
 rw [List.take_add_one, hx]
 simp [slashed]
set_option maxRecDepth 100000 in
theorem refOf_zero (a : Option Addr) (c : Nat) (w : World) : Calls Tryz.prog 109 #[.slice a 0 c] w fun e w' => e = .returned (.string (bs [47])) ∧ w = w' := by
 go_enter Tryz.func109, Tryz.ntmps109
 go_wp2
 go_ret
 exact ⟨rfl, rfl⟩
set_option maxRecDepth 100000 in
set_option maxHeartbeats 1000000 in
theorem refOf_more (a : Option Addr) (c B : Nat) (L : List Bytes) (w : World) (hL : L ≠ []) (hbig : L.length ≤ 1000) (hlen : (slashed L).length ≤ 1000000) (hc : SlS w B a L) : Calls Tryz.prog 109 #[.slice a L.length c] w fun e w' => e = .returned (.string (bs (ofL L))) ∧ w = w' := by
 have hof : ofL L = slashed (L.take L.length) := by
  rw [List.take_length]
  cases L with
  | nil => exact absurd rfl hL
  | cons x L => exact ofL_cons x L
 rw [hof]
 have hpos : 0 < L.length := List.length_pos_iff.2 hL
 clear hof hL
 have HC := Lib.hid hc
 clear hc
 obtain ⟨N, hN⟩ : ∃ N, N = L.length := ⟨_, rfl⟩
 have HN := Lib.hid hN
 rw [← hN] at hbig hpos ⊢
 clear hN
 have hz : ((N : Int) == 0) = false := by rw [beq_eq_false_iff_ne]; omega
 go_enter Tryz.func109, Tryz.ntmps109
 go_wp2
 go_loop [3, 4] (fun s i => ∃ k : Nat, k ≤ N ∧ i = .int .i64 k ∧ s = .string (bs (slashed (L.take k)))) (fun _ i => N - (intOf i).toNat)
 case atStart => exact ⟨0, by omega, rfl, rfl⟩
 case round =>
  obtain ⟨k, hk, rfl, rfl⟩ := hrel
  by_cases hlt : k < N
  ·obtain ⟨x, hx⟩ : ∃ x, L[k]? = some x := ⟨_, List.getElem?_eq_getElem (by rw [← HN.out]; exact hlt)⟩
   obtain ⟨g, rfl, _, hcell⟩ := HC.out k x hx
   have hsz : (bs (slashed (L.take k))).size + 1 + (bs x).size ≤ 1000000 := by
    have h1 := ofL_len_take L (k + 1)
    rw [slashed_succ L k x hx] at h1
    rw [size_bs, size_bs]
    simp only [List.length_append, List.length_cons] at h1
    omega
   have hsz2 : (bs (slashed (L.take k))).size + 1 ≤ 1000000 := by omega
   have HS := Lib.hid (slashed_succ L k x hx)
   clear hx
   go_wp2
   go_round
   case rel => exact ⟨k + 1, by omega, by go_num, by rw [HS.out, show (⟨#[47]⟩ : ByteArray) = bs [47] from rfl, cat_bs, cat_bs, List.append_assoc]; rfl⟩
   case measure => simp [intOf]; omega
  ·obtain rfl : k = N := by omega
   go_wp2
   go_ret
   exact ⟨rfl, rfl⟩
def RefAny (w : World) (ok : Bool) (e : Ending) (w' : World) : Prop := ∃ v, e = .returned (.tuple #[v, .bool ok]) ∧ Below w.heap.size w w'
theorem refParts_any (l : Bytes) (hs : (bs l).size ≤ 9223372036854775807) (w : World) : Calls Tryz.prog 50 #[.string (bs l)] w (RefAny w (partsL l).isSome) := by
 cases h : partsL l with
 | none => exact (refParts_none l h hs w).mono fun e w' ⟨he, hb⟩ => ⟨_, he, hb⟩
 | some L => exact (refParts_some l L h w).mono fun e w' ⟨v, he, _, hb⟩ => ⟨v, he, hb⟩
set_option maxRecDepth 100000 in
theorem refUnder_f1 (p q : Bytes) (hp : (bs p).size ≤ 9223372036854775807) (hq : (bs q).size ≤ 9223372036854775807) (h : partsL p = none) (w : World) :
  Calls Tryz.prog 76 #[.string (bs p), .string (bs q)] w fun e w' => e = .returned (.bool false) ∧ Below w.heap.size w w' := by
 have h1 := refParts_none p h hp w
 have h2 := refParts_any q hq
 clear h
 generalize (partsL q).isSome = ok at *
 go_enter Tryz.func76, Tryz.ntmps76
 go_wp2_with fail
 refine h1.mono ?_
 rintro e w1 ⟨rfl, B1⟩
 go_wp2_with fail
 refine (h2 _).mono ?_
 rintro e w2 ⟨v2, rfl, B2⟩
 have HB := Lib.hid (B1.trans (B2.mono B1.size))
 clear B1 B2
 go_wp2
 go_ret
 exact ⟨rfl, HB.out⟩
set_option maxRecDepth 100000 in
theorem refUnder_f2 (p q : Bytes) (L : List Bytes) (hq : (bs q).size ≤ 9223372036854775807) (h : partsL p = some L) (h0 : partsL q = none) (w : World) :
  Calls Tryz.prog 76 #[.string (bs p), .string (bs q)] w fun e w' => e = .returned (.bool false) ∧ Below w.heap.size w w' := by
 have h1 := refParts_some p L h w
 have h2 := refParts_none q h0 hq
 clear h h0
 go_enter Tryz.func76, Tryz.ntmps76
 go_wp2_with fail
 refine h1.mono ?_
 rintro e w1 ⟨v, rfl, _, B1⟩
 go_wp2_with fail
 refine (h2 _).mono ?_
 rintro e w2 ⟨rfl, B2⟩
 have HB := Lib.hid (B1.trans (B2.mono B1.size))
 clear B1 B2
 go_wp2
 go_ret
 exact ⟨rfl, HB.out⟩
theorem take_step (L M : List Bytes) (k : Nat) (x y : Bytes) (hx : L[k]? = some x) (hy : M[k]? = some y) (hk : L.take k = M.take k) : (L.take (k + 1) = M.take (k + 1)) ↔ x = y := by
 rw [List.take_add_one, List.take_add_one, hx, hy, hk]
 simp
set_option maxRecDepth 100000 in
set_option maxHeartbeats 2000000 in
theorem refUnder_both (p q : Bytes) (L M : List Bytes) (h : partsL p = some L) (h0 : partsL q = some M) (w : World) :
  Calls Tryz.prog 76 #[.string (bs p), .string (bs q)] w fun e w' => e = .returned (.bool (decide (M.length ≤ L.length) && decide (L.take M.length = M))) ∧ Below w.heap.size w w' := by
 have h1 := refParts_some p L h w
 have h2 := refParts_some q M h0
 have hl1 := partsL_len h
 have hl2 := partsL_len h0
 clear h h0
 obtain ⟨R, hR⟩ : ∃ R, R = (decide (M.length ≤ L.length) && decide (L.take M.length = M)) := ⟨_, rfl⟩
 rw [← hR]
 have HR := Lib.hid hR
 clear hR
 obtain ⟨n, hn⟩ : ∃ n, n = L.length := ⟨_, rfl⟩
 obtain ⟨k, hk⟩ : ∃ k, k = M.length := ⟨_, rfl⟩
 have HN := Lib.hid hn
 have HK := Lib.hid hk
 rw [← hn] at hl1
 rw [← hk] at hl2
 clear hn hk
 go_enter Tryz.func76, Tryz.ntmps76
 go_wp2_with fail
 refine h1.mono ?_
 rintro e w1 ⟨v, rfl, O1, B1⟩
 obtain ⟨a, c, hv, S1⟩ := ownS_sl O1
 rw [hv, ← HN.out]
 clear hv O1
 go_wp2_with fail
 refine (h2 _).mono ?_
 rintro e w2 ⟨v2, rfl, O2, B2⟩
 obtain ⟨b, d, hv, S2⟩ := ownS_sl O2
 rw [hv, ← HK.out]
 clear hv O2
 have X1 := Lib.hid (S1.kept B2)
 have X2 := Lib.hid S2
 have HB := Lib.hid (B1.trans (B2.mono B1.size))
 clear B1 B2 S1 S2 h2
 by_cases hle : k ≤ n
 ·go_wp2
  go_loopw [9] (fun i wr => ∃ m : Nat, m ≤ k ∧ i = .int .i64 m ∧ Hid (L.take m = M.take m) ∧ ∃ q, wr = w2.drewN q) (fun i _ => k - (intOf i).toNat)
  case atStart => exact ⟨0, by omega, rfl, Lib.hid rfl, 0, rfl⟩
  case round =>
   obtain ⟨m, hm, rfl, HE, q, rfl⟩ := hrel
   by_cases hlt : m < k
   ·obtain ⟨x, hx⟩ : ∃ x, L[m]? = some x := ⟨_, List.getElem?_eq_getElem (by rw [← HN.out]; omega)⟩
    obtain ⟨y, hy⟩ : ∃ y, M[m]? = some y := ⟨_, List.getElem?_eq_getElem (by rw [← HK.out]; exact hlt)⟩
    obtain ⟨g, rfl, _, hc1⟩ := X1.out m x hx
    obtain ⟨g2, rfl, _, hc2⟩ := X2.out m y hy
    have HT := Lib.hid (take_step L M m x y hx hy HE.out)
    by_cases hxy : x = y
    ·subst hxy
     have HE2 := Lib.hid (HT.out.2 rfl)
     have ht : ((bs x).toList == (bs x).toList) = true := by simp
     clear hx hy HT
     go_wp2
     go_quiet (fail)
     go_wp2
     go_roundw
     case rel => exact ⟨m + 1, by omega, by go_num, HE2, _, rfl⟩
     case measure => simp [intOf]; omega
    ·have ht : ((bs x).toList == (bs y).toList) = false := by
      rw [toList_bs, toList_bs]
      simpa using hxy
     have hrf : R = false := by
      rw [HR.out]
      have : ¬ L.take M.length = M := fun e => by
       apply hxy
       have h1 : (L.take M.length)[m]? = M[m]? := by rw [e]
       rw [List.getElem?_take_of_lt (by rw [← HK.out]; exact hlt), hx, hy] at h1
       exact Option.some.inj h1
      simp [this]
     subst hrf
     clear hx hy HT hxy
     go_wp2
     go_quiet (fail)
     go_wp2
     go_ret
     exact ⟨rfl, HB.out.os, HB.out.tape, HB.out.output, HB.out.size, HB.out.block⟩
   ·obtain rfl : m = k := by omega
    have hrt : R = true := by
     rw [HR.out]
     have h1 : M.length ≤ L.length := by rw [← HN.out, ← HK.out]; exact hle
     have h2 : L.take M.length = M := by rw [← HK.out, HE.out, HK.out, List.take_length]
     simp [h1, h2]
    subst hrt
    go_wp2
    go_ret
    exact ⟨rfl, HB.out.os, HB.out.tape, HB.out.output, HB.out.size, HB.out.block⟩
 ·have hrf : R = false := by
   rw [HR.out]
   have : ¬ M.length ≤ L.length := by rw [← HN.out, ← HK.out]; exact hle
   simp [this]
  subst hrf
  go_wp2
  go_ret
  exact ⟨rfl, HB.out⟩
theorem refUnder_any (p q : Bytes) (hp : (bs p).size ≤ 9223372036854775807) (hq : (bs q).size ≤ 9223372036854775807) (w : World) :
  Calls Tryz.prog 76 #[.string (bs p), .string (bs q)] w fun e w' => e = .returned (.bool (underB p q)) ∧ Below w.heap.size w w' := by
 unfold underB
 cases h1 : partsL p with
 | none => exact refUnder_f1 p q hp hq h1 w
 | some L =>
  cases h2 : partsL q with
  | none => exact refUnder_f2 p q L hq h1 h2 w
  | some M => exact refUnder_both p q L M h1 h2 w
end Go.Proofs.YtnclkfhdpkkakaaGreatDoor
namespace Go.Proofs.YtnclkfhdpkkakaaGreatDoor
set_option linter.unusedVariables false
set_option linter.unusedSimpArgs false
open Go.RowKit
def Later (w : World) (n : Nat) (args : Array Value) (r : Value) : Prop := ∀ W, Below w.heap.size w W → Calls Tryz.prog n args W fun e w' => e = .returned r ∧ Below w.heap.size w w'
theorem later_of {w : World} {n : Nat} {args : Array Value} {r : Value} (hm : MaxInt w) (h : ∀ W, MaxInt W → Calls Tryz.prog n args W fun e w' => e = .returned r ∧ Below W.heap.size W w') : Later w n args r :=
 fun W hW => (h W (hm.kept hW)).mono fun e w' ⟨he, hb⟩ => ⟨he, hW.trans (hb.mono hW.size)⟩
theorem later_same {w : World} {n : Nat} {args : Array Value} {r : Value} (h : ∀ W, Calls Tryz.prog n args W fun e w' => e = .returned r ∧ W = w') : Later w n args r :=
 fun W hW => (h W).mono fun e w' ⟨he, hb⟩ => ⟨he, hb ▸ hW⟩
theorem later_below {w : World} {n : Nat} {args : Array Value} {r : Value} (h : ∀ W, Calls Tryz.prog n args W fun e w' => e = .returned r ∧ Below W.heap.size W w') : Later w n args r :=
 fun W hW => (h W).mono fun e w' ⟨he, hb⟩ => ⟨he, hW.trans (hb.mono hW.size)⟩
theorem size_max {l : Bytes} {n : Nat} (h : l.length ≤ n) (hn : n ≤ 1000) : (bs l).size ≤ 9223372036854775807 := by rw [size_bs]; omega
theorem later_under (w : World) (hm : MaxInt w) (p q : Bytes) (hp : p.length ≤ 1000) (hq : q.length ≤ 1000) : Later w 21 #[.string (bs p), .string (bs q)] (.bool (underB p q)) :=
 later_of hm fun W h => under_any p q (size_max hp (Nat.le_refl _)) (size_max hq (Nat.le_refl _)) W h
theorem later_refUnder (w : World) (p q : Bytes) (hp : p.length ≤ 1000) (hq : q.length ≤ 1000) : Later w 76 #[.string (bs p), .string (bs q)] (.bool (underB p q)) :=
 later_below fun W => refUnder_any p q (size_max hp (Nat.le_refl _)) (size_max hq (Nat.le_refl _)) W
def checkV (l : Bytes) : Int := if (partsL l).isSome then 0 else 30
theorem later_check (w : World) (hm : MaxInt w) (l : Bytes) (hl : l.length ≤ 1000) : Later w 45 #[.string (bs l)] (.int .i64 (checkV l)) := by
 unfold checkV
 cases h : partsL l with
 | none => exact later_of hm fun W hW => check_none l h (size_max hl (Nat.le_refl _)) W hW
 | some L => exact later_of hm fun W hW => check_some l L h W hW
def parentL (l : Bytes) : Bytes := match partsL l with
 | none => []
 | some L => if L = [] then l else ofL L.dropLast
def baseL (l : Bytes) : Bytes := match partsL l with
 | none => []
 | some L => L.getLast?.getD []
theorem snoc_cases {α : Type} (L : List α) : L = [] ∨ ∃ M x, L = M ++ [x] := by
 rcases List.eq_nil_or_concat L with h | ⟨M, x, h⟩
 ·exact .inl h
 ·exact .inr ⟨M, x, by rw [h, List.concat_eq_append]⟩
theorem later_parent (w : World) (hm : MaxInt w) (l : Bytes) (hl : l.length ≤ 1000) : Later w 47 #[.string (bs l)] (.string (bs (parentL l))) := by
 unfold parentL
 cases h : partsL l with
 | none => exact later_of hm fun W hW => parent_none l h (size_max hl (Nat.le_refl _)) W hW
 | some L =>
  rcases snoc_cases L with rfl | ⟨M, x, rfl⟩
  ·exact later_same fun W => parent_nil l h W
  ·dsimp only
   rw [if_neg (by simp), List.dropLast_concat]
   exact later_of hm fun W hW => parent_some l M x h W hW
theorem later_base (w : World) (hm : MaxInt w) (l : Bytes) (hl : l.length ≤ 1000) : Later w 48 #[.string (bs l)] (.string (bs (baseL l))) := by
 unfold baseL
 cases h : partsL l with
 | none => exact later_of hm fun W hW => base_none l h (size_max hl (Nat.le_refl _)) W hW
 | some L =>
  rcases snoc_cases L with rfl | ⟨M, x, rfl⟩
  ·exact later_same fun W => base_nil l h W
  ·dsimp only
   rw [show (M ++ [x]).getLast?.getD [] = x by simp]
   exact later_of hm fun W hW => base_some l M x h W hW
end Go.Proofs.YtnclkfhdpkkakaaGreatDoor
namespace Go.Proofs.YtnclkfhdpkkakaaGreatDoor
set_option linter.unusedVariables false
set_option linter.unusedSimpArgs false
open Go.RowKit
theorem decode_conts (s : ByteArray) (i : Nat) : ∀ k, 1 ≤ k → k < (Utf8.decode s i).2 → contB s (i + k) = true := by
 intro k hk1 hk2
 rw [dec_unfold] at hk2
 split at hk2
 ·simp only at hk2; omega
 ·split at hk2
  ·rename_i _ h
   simp only [Bool.and_eq_true] at h
   split at hk2
   ·obtain rfl : k = 1 := by simp only at hk2; omega
    exact h.2
   ·simp only at hk2; omega
  ·split at hk2
   ·rename_i _ _ h
    simp only [Bool.and_eq_true] at h
    split at hk2
    ·rcases (show k = 1 ∨ k = 2 by simp only at hk2; omega) with rfl | rfl
     ·exact h.1.2
     ·exact h.2
    ·simp only at hk2; omega
   ·split at hk2
    ·rename_i _ _ _ h
     simp only [Bool.and_eq_true] at h
     split at hk2
     ·rcases (show k = 1 ∨ k = 2 ∨ k = 3 by simp only at hk2; omega) with rfl | rfl | rfl
      ·exact h.1.1.2
      ·exact h.1.2
      ·exact h.2
     ·simp only at hk2; omega
    ·simp only at hk2; omega
theorem good_at (s : ByteArray) : ∀ (b pos : Nat), goodFrom s b pos = true → s.size ≤ pos + b → ∀ j, pos ≤ j → j < s.size → contB s j = true ∨ badB (Utf8.decode s j).1 = false
 | 0, pos, _, h, j, h1, h2 => by omega
 | b + 1, pos, hg, h, j, h1, h2 => by
  have hp : pos < s.size := by omega
  rw [good_succ s b pos hp, Bool.and_eq_true, Bool.not_eq_true'] at hg
  by_cases hj : j < pos + (Utf8.decode s pos).2
  ·by_cases he : j = pos
   ·subst he
    exact .inr hg.1
   ·obtain ⟨k, rfl⟩ : ∃ k, j = pos + k := ⟨j - pos, by omega⟩
    exact .inl (decode_conts s pos k (by omega) (by omega))
  ·have := width_pos s pos hp
   exact good_at s b _ hg.2 (by omega) j (by omega) h2
theorem name_good {l : Bytes} (h : okName l = true) : goodFrom (bs l) (bs l).size 0 = true := by
 unfold okName nameB at h
 rw [Bool.and_eq_true] at h
 exact h.2
theorem get_bs (l : Bytes) (j : Nat) (h : j < l.length) : (bs l).get! j = l[j] := by
 rw [get_elem (bs l) j (by rw [size_bs]; exact h), elem_bs]
theorem name_no (l : Bytes) (h : okName l = true) (j : Nat) (hj : j < l.length) (c : UInt8) (hc : l[j] = c) (h1 : (c.toNat / 64 == 2) = false) (h2 : c.toNat < 32 ∨ c = 47 ∨ c = 127 ∨ 248 ≤ c.toNat ∨ c = 192) : False := by
 have hj' : j < (bs l).size := by rw [size_bs]; exact hj
 have hget : (bs l).get! j = c := by rw [get_bs l j hj, hc]
 rcases good_at (bs l) _ 0 (name_good h) (by omega) j (Nat.zero_le _) hj' with h3 | h3
 ·unfold contB at h3
  rw [hget, h1] at h3
  simp at h3
 ·rw [dec_unfold, hget] at h3
  rcases h2 with h2 | rfl | rfl | h2 | rfl
  ·rw [if_pos (by omega)] at h3
   simp [badB] at h3
   omega
  ·rw [if_pos (by decide)] at h3
   exact absurd h3 (by decide)
  ·rw [if_pos (by decide)] at h3
   exact absurd h3 (by decide)
  ·have e1 : (c.toNat / 32 == 6) = false := by simp; omega
   have e2 : (c.toNat / 16 == 14) = false := by simp; omega
   have e3 : (c.toNat / 8 == 30) = false := by simp; omega
   rw [if_neg (by omega), e1, e2, e3] at h3
   simp only [Bool.false_and, Bool.false_eq_true, if_false] at h3
   exact absurd h3 (by decide)
  ·have e0 : (192 : UInt8).toNat = 192 := rfl
   rw [e0] at h3
   rw [if_neg (by omega)] at h3
   split at h3
   ·rw [if_neg (by omega)] at h3
    exact absurd h3 (by decide)
   ·simp only [show (192 / 16 == 14) = false from rfl, show (192 / 8 == 30) = false from rfl, Bool.false_and, Bool.false_eq_true, if_false] at h3
    exact absurd h3 (by decide)
theorem name_free {l : Bytes} (h : okName l = true) : (47 : UInt8) ∉ l := by
 intro hm
 obtain ⟨j, hj, hc⟩ := List.mem_iff_getElem.1 hm
 exact name_no l h j hj 47 hc rfl (.inr (.inl rfl))
theorem name_ne {l : Bytes} (h : okName l = true) : l ≠ [] := by
 rintro rfl
 rw [okName_eq] at h
 exact absurd h (by decide)
theorem parts_of (L : List Bytes) (h1 : ∀ x ∈ L, okName x = true) (h2 : (ofL L).length ≤ 64) : partsL (ofL L) = some L := by
 cases L with
 | nil => rfl
 | cons x L =>
  have hs : ofL (x :: L) = 47 :: (x ++ slashed L) := by rw [ofL_cons]; simp [slashed]
  rw [hs] at h2 ⊢
  have hseg : segs (x ++ slashed L) = x :: L := segs_slashed x L (fun y hy => name_free (h1 y hy))
  rw [partsL_cons, if_pos ⟨rfl, by simp only [List.length_cons] at h2; omega⟩, if_neg, hseg, if_pos (List.all_eq_true.2 h1)]
  have := name_ne (h1 x (by simp))
  intro e
  cases x with
  | nil => exact this rfl
  | cons a b => cases e
theorem parts_good {l : Bytes} {L : List Bytes} (h : partsL l = some L) : ∀ x ∈ L, okName x = true := by
 obtain ⟨r, rfl, hs, ⟨rfl, rfl⟩ | ⟨h1, rfl, h3⟩⟩ := partsL_some h
 ·simp
 ·exact List.all_eq_true.1 h3
theorem len_take (L : List Bytes) (k : Nat) (x : Bytes) (hx : L[k]? = some x) : (slashed (L.take (k + 1))).length = (slashed (L.take k)).length + 1 + x.length := by
 rw [slashed_succ L k x hx, List.length_append, List.length_cons]
 omega
theorem ofL_len_eq (L : List Bytes) (hL : L ≠ []) : (ofL L).length = (slashed L).length := by
 cases L with
 | nil => exact absurd rfl hL
 | cons x L => rw [ofL_cons]
theorem take_len64 {l : Bytes} {L : List Bytes} (h : partsL l = some L) (k : Nat) : (ofL (L.take k)).length ≤ 64 := by
 have h1 := slashed_parts h
 have h2 := ofL_len_take L k
 by_cases he : L.take k = []
 ·rw [he]; decide
 ·rw [ofL_len_eq _ he]; omega
theorem parts_take {l : Bytes} {L : List Bytes} (h : partsL l = some L) (k : Nat) : partsL (ofL (L.take k)) = some (L.take k) :=
 parts_of _ (fun x hx => parts_good h x (List.mem_of_mem_take hx)) (take_len64 h k)
theorem shorter {l : Bytes} {L : List Bytes} (h : partsL l = some L) (k : Nat) (hk : k < L.length) : (ofL (L.take k)).length < (ofL (L.take (k + 1))).length := by
 have hx := List.getElem?_eq_getElem hk
 have h1 := len_take L k _ hx
 have hne := name_ne (parts_good h L[k] (List.getElem_mem _))
 have hpos : 0 < (L[k]).length := List.length_pos_iff.2 hne
 have hL1 : L.take (k + 1) ≠ [] := by
  intro e
  have : (L.take (k + 1)).length = 0 := by rw [e]; rfl
  rw [List.length_take] at this
  omega
 rw [ofL_len_eq _ hL1, h1]
 have := ofL_len (L.take k)
 omega
theorem under_parts {p q : Bytes} {L M : List Bytes} (h1 : partsL p = some L) (h2 : partsL q = some M) : underB p q = true ↔ M <+: L := by
 unfold underB
 rw [h1, h2]
 simp only [Bool.and_eq_true, decide_eq_true_eq]
 exact ⟨fun h => by rw [← h.2]; exact List.take_prefix _ _, fun h => ⟨h.length_le, (List.prefix_iff_eq_take.1 h).symm⟩⟩
theorem take_snoc (L : List Bytes) (k : Nat) (hk : k < L.length) : L.take (k + 1) = L.take k ++ [L[k]] := by
 rw [List.take_add_one, List.getElem?_eq_getElem hk]; rfl
theorem snoc_ne {α : Type} (M : List α) (x : α) : M ++ [x] ≠ [] := by cases M <;> simp
theorem parent_take {l : Bytes} {L : List Bytes} (h : partsL l = some L) (k : Nat) (hk : k < L.length) : parentL (ofL (L.take (k + 1))) = ofL (L.take k) := by
 unfold parentL
 rw [parts_take h (k + 1)]
 show (if L.take (k + 1) = [] then _ else ofL (L.take (k + 1)).dropLast) = _
 rw [take_snoc L k hk, if_neg (snoc_ne _ _), List.dropLast_concat]
end Go.Proofs.YtnclkfhdpkkakaaGreatDoor
namespace Go.Proofs.YtnclkfhdpkkakaaGreatDoor
set_option linter.unusedVariables false
set_option linter.unusedSimpArgs false
open Go.RowKit
structure Added where
 objs : Array Obj
 drawn : Nat
instance : Inhabited Added := ⟨⟨#[], 0⟩⟩
def Wext (W : World) (o : Added) : World := { W with heap := W.heap ++ o.objs, drawn := o.drawn }
theorem Wext.below (W : World) (o : Added) : Below W.heap.size W (Wext W o) :=
 ⟨rfl, rfl, rfl, by simp [Wext], fun k hk => by simp [Wext, Array.getElem?_append, hk]⟩
theorem below_ext {W w' : World} (h : Below W.heap.size W w') : ∃ o, w' = Wext W o := by
 refine ⟨⟨w'.heap.extract W.heap.size w'.heap.size, w'.drawn⟩, ?_⟩
 have hh : w'.heap = W.heap ++ w'.heap.extract W.heap.size w'.heap.size := by
  apply Array.ext_getElem?
  intro i
  by_cases hi : i < W.heap.size
  ·rw [Array.getElem?_append, if_pos hi]
   exact h.block i hi
  ·have := h.size
   rw [Array.getElem?_append, if_neg hi, Array.getElem?_extract]
   split
   ·congr 1; omega
   ·rw [Array.getElem?_eq_none]; omega
 obtain ⟨h1, h2, h3, _, _⟩ := h
 cases w'; cases W
 simp only at *
 subst h1 h2 h3
 simp only [Wext]
 rw [← hh]
theorem wp_region_ext {P : Program} {id : Nat} {Q : Exit → Act → World → Prop} {a : Act} {w : World} {l : List Oper} (hm : P.follows .mixedOrders = true) (hB : Region.lexB .any l.toArray = true)
  (h : wpQuiet P l.toArray (fun w' => ∃ o, w' = Wext w o) (fun a' => ∀ w', (∃ o, w' = Wext w o) → Q .normal a' w') l a) : (Code.region id l.toArray true).wp P Q a w :=
 wp_region_quiet (C := fun w' => ∃ o, w' = Wext w o) hm hB (below_ext (Below.refl _ w).drew) (by simpa using h)
theorem later_ext {w : World} {n : Nat} {args : Array Value} {r : Value} (h : Later w n args r) : ∀ o, Calls Tryz.prog n args (Wext w o) fun e w' => e = .returned r ∧ ∃ o', w' = Wext w o' :=
 fun o => (h _ (Wext.below w o)).mono fun _ _ ⟨he, hb⟩ => ⟨he, below_ext hb⟩
end Go.Proofs.YtnclkfhdpkkakaaGreatDoor
