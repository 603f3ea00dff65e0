/-
  Paths, in plain Lean: names, parts, and what is joined. No program in sight. The program's path.Name, walked: the document's names. Splitting at '/': the library's splitting is the plain one; joining is its inverse. The program's split of a path, walked: cut at '/', each piece a name. The program's split of a path, walked. The reference's rune1, walked: it is Go's decoding.
-/
import GoSem.Core.Utf8
import Derived.Laws.RangeAny
import Derived.Lib.Split
import Derived.Lib.Join
import Derived.Test.YtnclkfhdpkkakaaGreatDoorChecked
import Derived.WalkKit
import Derived.Lib.Hide
import Derived.Laws.RangeString
import Derived.Outline
import Derived.Lib.SplitLaws
import Derived.Test.YtnclkfhdpkkakaaGreatDoorQ3
namespace Go.Proofs.YtnclkfhdpkkakaaGreatDoor
set_option linter.unusedVariables false
set_option linter.unusedSimpArgs false
open Go.Lib
abbrev Bytes := List UInt8
def bs (l : Bytes) : ByteArray := ⟨l.toArray⟩
theorem bs_data (s : ByteArray) : bs s.data.toList = s := Lib.mk_data s
theorem data_bs (l : Bytes) : (bs l).data.toList = l := by simp [bs]
theorem toList_bs (l : Bytes) : (bs l).toList = l := by rw [Lib.toList_data, data_bs]
theorem size_bs (l : Bytes) : (bs l).size = l.length := by rw [Lib.size_eq, data_bs]
def badB (c : Nat) : Bool := c == 47 || decide (c < 32) || c == 127 || c == 65533
def goodFrom (s : ByteArray) : Nat → Nat → Bool
 | 0, _ => true
 | b + 1, pos => if pos < s.size then !badB (Utf8.decode s pos).1 && goodFrom s b (pos + (Utf8.decode s pos).2) else true
def isDot (s : ByteArray) : Bool := s.toList.isEmpty || s.toList == [46] || s.toList == [46, 46]
def nameB (s : ByteArray) : Bool := !isDot s && goodFrom s s.size 0
theorem width_pos (s : ByteArray) (pos : Nat) (h : pos < s.size) : 1 ≤ (Utf8.decode s pos).2 := by
 by_cases ha : (s[pos]'h).toNat < 128
 ·rw [decode_ascii s pos h ha]
  exact Nat.le_refl _
 ·exact (decode_high s pos h (by omega)).2
theorem good_end (s : ByteArray) (b pos : Nat) (h : ¬ pos < s.size) : goodFrom s b pos = true := by
 cases b with
 | zero => rfl
 | succ b => simp [goodFrom, h]
theorem good_succ (s : ByteArray) (b pos : Nat) (h : pos < s.size) : goodFrom s (b + 1) pos = (!badB (Utf8.decode s pos).1 && goodFrom s b (pos + (Utf8.decode s pos).2)) := by simp [goodFrom, h]
def segs : Bytes → List Bytes
 | [] => [[]]
 | c :: r => if c = 47 then [] :: segs r else match segs r with
  | [] => [[c]]
  | h :: t => (c :: h) :: t
def partsL : Bytes → Option (List Bytes)
 | [] => none
 | c :: r => if c = 47 ∧ r.length < 64 then (if r = [] then some [] else if (segs r).all (fun x => nameB (bs x)) then some (segs r) else none) else none
def ofL (L : List Bytes) : Bytes := 47 :: [47].intercalate L
end Go.Proofs.YtnclkfhdpkkakaaGreatDoor
namespace Go.Proofs.YtnclkfhdpkkakaaGreatDoor
set_option linter.unusedVariables false
set_option linter.unusedSimpArgs false
open Go.RowKit
theorem below_iter (w : World) (s : ByteArray) (pos : Nat) : Below w.heap.size w (w.iter s pos) := (Below.refl _ w).alloc (Nat.le_refl _) _
theorem bad_cases {c : Nat} (h : badB c = true) : c = 47 ∨ (c < 32 ∧ ¬ c = 47) ∨ (c = 127) ∨ (c = 65533) := by
 simp [badB] at h
 omega
theorem good_not {c : Nat} (h : badB c = false) : ¬ c = 47 ∧ ¬ c < 32 ∧ ¬ c = 127 ∧ ¬ c = 65533 := by
 simp [badB] at h
 omega
set_option maxRecDepth 100000 in
set_option maxHeartbeats 4000000 in
theorem name_walk (s : ByteArray) (r : Bool) (hd : isDot s = false) (hr : goodFrom s s.size 0 = r) (w : World) :
  Calls Tryz.prog 66 #[.string s] w fun e w' => e = .returned (.int .i64 (if r then 0 else 30)) ∧ Below w.heap.size w w' := by
 have h0 : s.toList.isEmpty = false ∧ (s.toList == [46]) = false ∧ (s.toList == [46, 46]) = false := by
  simp only [isDot, Bool.or_eq_false_iff] at hd
  exact ⟨hd.1.1, hd.1.2, hd.2⟩
 obtain ⟨h0, h1, h2⟩ := h0
 have HR := Lib.hid hr
 clear hr hd
 go_enter Tryz.func66, Tryz.ntmps66
 go_wp2
 go_loopw [4] (fun _ w' => ∃ pos b : Nat, w' = w.iter s pos ∧ Hid (goodFrom s b pos = r) ∧ s.size ≤ pos + b) (fun _ w' => s.size - w'.iterPos w.heap.size)
 case atStart => exact ⟨0, s.size, rfl, HR, by omega⟩
 case round =>
  obtain ⟨pos, b, rfl, H, hb⟩ := hrel
  clear HR
  by_cases hp : pos < s.size
  ·have hnx : ∀ ty, (Instr.next (.pointer (some ⟨w.heap.size, 0, none⟩)) true ty).run Tryz.prog (w.iter s pos) = _ := fun ty => run_next_any w s pos ty hp
   have hle := decode_le s pos
   have hwd := width_pos s pos hp
   obtain ⟨b, rfl⟩ : ∃ b', b = b' + 1 := ⟨b - 1, by omega⟩
   have H2 := Lib.hid (good_succ s b pos hp ▸ H.out)
   clear H
   generalize (Utf8.decode s pos).1 = c at *
   generalize (Utf8.decode s pos).2 = wd at *
   cases hbad : badB c with
   | true =>
    have hr : r = false := by have := H2.out; rw [hbad] at this; simpa using this.symm
    subst hr
    rcases bad_cases hbad with rfl | ⟨g1, g2⟩ | rfl | rfl
    ·clear hbad H2
     go_wp2
     go_ret
     exact ⟨rfl, below_iter w s _⟩
    ·clear hbad H2
     have t1 : ((c : Int) == 47) = false := by simp; omega
     go_wp2
     go_ret
     exact ⟨rfl, below_iter w s _⟩
    ·clear hbad H2
     go_wp2
     go_ret
     exact ⟨rfl, below_iter w s _⟩
    ·clear hbad H2
     go_wp2
     go_ret
     exact ⟨rfl, below_iter w s _⟩
   | false =>
    obtain ⟨g1, g2, g3, g4⟩ := good_not hbad
    have H3 : Hid (goodFrom s b (pos + wd) = r) := Lib.hid (by have := H2.out; rw [hbad] at this; simpa using this)
    clear hbad H2
    have t1 : ((c : Int) == 47) = false := by simp; omega
    have t3 : ((c : Int) == 127) = false := by simp; omega
    have t4 : ((c : Int) == 65533) = false := by simp; omega
    go_wp2
    go_roundw
    case rel => exact ⟨pos + wd, b, rfl, H3, by omega⟩
    case measure =>
     simp
     omega
  ·have hnx : ∀ ty, (Instr.next (.pointer (some ⟨w.heap.size, 0, none⟩)) true ty).run Tryz.prog (w.iter s pos) = _ := fun ty => run_next_end w s pos ty hp
   have hr : r = true := by rw [← H.out]; exact good_end s b pos hp
   subst hr
   clear H
   go_wp2
   go_ret
   exact ⟨rfl, below_iter w s _⟩
set_option maxRecDepth 100000 in
theorem name_dot (s : ByteArray) (hd : isDot s = true) (w : World) : Calls Tryz.prog 66 #[.string s] w fun e w' => e = .returned (.int .i64 30) ∧ Below w.heap.size w w' := by
 have hc : s.toList.isEmpty = true ∨ (s.toList.isEmpty = false ∧ (s.toList == [46]) = true) ∨ (s.toList.isEmpty = false ∧ (s.toList == [46]) = false ∧ (s.toList == [46, 46]) = true) := by
  simp only [isDot, Bool.or_eq_true] at hd
  cases h0 : s.toList.isEmpty <;> cases h1 : (s.toList == [46]) <;> simp_all
 clear hd
 rcases hc with h0 | ⟨h0, h1⟩ | ⟨h0, h1, h2⟩
 all_goals
  go_enter Tryz.func66, Tryz.ntmps66
  go_wp2
  go_ret
  exact ⟨rfl, Below.refl _ _⟩
theorem name_any (s : ByteArray) (w : World) : Calls Tryz.prog 66 #[.string s] w fun e w' => e = .returned (.int .i64 (if nameB s then 0 else 30)) ∧ Below w.heap.size w w' := by
 cases hd : isDot s with
 | true =>
  have : nameB s = false := by simp [nameB, hd]
  rw [this]
  exact name_dot s hd w
 | false =>
  have : nameB s = goodFrom s s.size 0 := by simp [nameB, hd]
  rw [this]
  exact name_walk s _ hd rfl w
theorem name_ok (s : ByteArray) (h : nameB s = true) (w : World) : Calls Tryz.prog 66 #[.string s] w fun e w' => e = .returned (.int .i64 0) ∧ Below w.heap.size w w' := by
 have := name_any s w
 rw [h] at this
 exact this
theorem name_bad (s : ByteArray) (h : nameB s = false) (w : World) : Calls Tryz.prog 66 #[.string s] w fun e w' => e = .returned (.int .i64 30) ∧ Below w.heap.size w w' := by
 have := name_any s w
 rw [h] at this
 exact this
theorem closure_any (s : ByteArray) (w : World) : Calls Tryz.prog 65 #[.string s] w fun e w' => e = .returned (.bool (!nameB s)) ∧ Below w.heap.size w w' := by
 cases h : nameB s with
 | true =>
  go_enter Tryz.func65, Tryz.ntmps65
  go_wp2_with (go_at_call 66; refine (name_ok s h _).mono ?_; rintro e w1 ⟨rfl, B1⟩)
  go_ret
  exact ⟨rfl, B1⟩
 | false =>
  go_enter Tryz.func65, Tryz.ntmps65
  go_wp2_with (go_at_call 66; refine (name_bad s h _).mono ?_; rintro e w1 ⟨rfl, B1⟩)
  go_ret
  exact ⟨rfl, B1⟩
end Go.Proofs.YtnclkfhdpkkakaaGreatDoor
namespace Go.Proofs.YtnclkfhdpkkakaaGreatDoor
set_option linter.unusedVariables false
set_option linter.unusedSimpArgs false
open Go.Lib
theorem segs_ne (l : Bytes) : segs l ≠ [] := by
 cases l with
 | nil => simp [segs]
 | cons c r =>
  unfold segs
  split
  ·simp
  ·split <;> simp
theorem segs_slash (r : Bytes) : segs (47 :: r) = [] :: segs r := by simp [segs]
theorem segs_other (c : UInt8) (r : Bytes) (hc : c ≠ 47) : ∃ h t, segs r = h :: t ∧ segs (c :: r) = (c :: h) :: t := by
 cases hs : segs r with
 | nil => exact absurd hs (segs_ne r)
 | cons h t => exact ⟨h, t, rfl, by simp [segs, hc, hs]⟩
theorem splitK_segs : ∀ (l : Bytes), splitK [47] 0 (count l [47]) l = segs l
 | [] => by
  rw [count_miss (by simp [index])]
  rfl
 | c :: r => by
  by_cases hc : c = 47
  ·subst hc
   have hix : index (47 :: r) [47] = ((0 : Nat) : Int) := by rw [index]; simp [List.isPrefixOf]
   rw [count_cons_eq, segs_slash, ← splitK_segs r, Nat.add_comm]
   rw [splitK, hix]
   simp
  ·obtain ⟨h, t, e1, e2⟩ := segs_other c r hc
   rw [e2, count_cons_ne c 47 r hc]
   have ih := splitK_segs r
   rw [e1] at ih
   have hp : ([47] : List UInt8).isPrefixOf (c :: r) = false := by simp [List.isPrefixOf, Ne.symm hc]
   have hix : index (c :: r) [47] = if index r [47] == -1 then -1 else index r [47] + 1 := by rw [index, hp]; simp
   cases hk : count r [47] with
   | zero =>
    rw [hk] at ih
    simp only [splitK, List.cons.injEq] at ih ⊢
    exact ⟨by simp [ih.1], ih.2⟩
   | succ k =>
    rw [hk] at ih
    have hne : ¬ index r [47] = -1 := fun e => by rw [count_miss e] at hk; cases hk
    have hge := index_ge r [47]
    obtain ⟨j, hj⟩ : ∃ j : Nat, index r [47] = j := ⟨(index r [47]).toNat, by omega⟩
    have hix' : index (c :: r) [47] = ((j + 1 : Nat) : Int) := by rw [hix, if_neg (fun e => hne (beq_iff_eq.1 e)), hj]; omega
    have h1 : ¬ ((j : Int) == -1) = true := fun e => by have := beq_iff_eq.1 e; omega
    have h2 : ¬ (((j + 1 : Nat) : Int) == -1) = true := fun e => by have := beq_iff_eq.1 e; omega
    rw [splitK, hj, if_neg h1] at ih
    rw [splitK, hix', if_neg h2]
    have t1 : ((j : Nat) : Int).toNat = j := by omega
    have t2 : ((j + 1 : Nat) : Int).toNat = j + 1 := by omega
    rw [t1] at ih
    rw [t2]
    simp only [List.cons.injEq, List.length_cons, List.length_nil, Nat.add_zero, Nat.zero_add] at ih ⊢
    exact ⟨by rw [← ih.1]; rfl, by rw [← ih.2]; rfl⟩
theorem split_segs (s : ByteArray) : (splitB (bs [47]) 0 (countB s (bs [47])) s).map (·.data.toList) = segs s.data.toList := by
 rw [splitB_data]
 have : (bs [47]).data.toList = [47] := rfl
 rw [this]
 exact splitK_segs _
theorem split_map (s : ByteArray) : splitB (bs [47]) 0 (countB s (bs [47])) s = (segs s.data.toList).map bs := by
 rw [← split_segs, List.map_map]
 have : (bs ∘ fun x : ByteArray => x.data.toList) = id := by funext x; exact bs_data x
 rw [this, List.map_id]
theorem split_count (s : ByteArray) : countB s (bs [47]) + 1 = (segs s.data.toList).length := by
 rw [← split_segs, List.length_map]
 exact (splitB_all (bs [47]) (by decide) 0 _ s rfl).symm
def slashed (L : List Bytes) : Bytes := (L.map (47 :: ·)).flatten
theorem slashed_segs : ∀ (l : Bytes), slashed (segs l) = 47 :: l
 | [] => rfl
 | c :: r => by
  by_cases hc : c = 47
  ·subst hc
   rw [segs_slash]
   have := slashed_segs r
   simp only [slashed, List.map_cons, List.flatten_cons] at this ⊢
   rw [this]
   rfl
  ·obtain ⟨h, t, e1, e2⟩ := segs_other c r hc
   have := slashed_segs r
   rw [e1] at this
   rw [e2]
   simp only [slashed, List.map_cons, List.flatten_cons, List.cons_append, List.cons.injEq, true_and] at this ⊢
   rw [this]
theorem segs_append (x : Bytes) (hx : (47 : UInt8) ∉ x) (l : Bytes) : segs (x ++ 47 :: l) = x :: segs l := by
 induction x with
 | nil => exact segs_slash l
 | cons c r ih =>
  have hc : c ≠ 47 := fun e => hx (by simp [e])
  have hr : (47 : UInt8) ∉ r := fun e => hx (by simp [e])
  obtain ⟨h, t, e1, e2⟩ := segs_other c (r ++ 47 :: l) hc
  rw [ih hr] at e1
  simp only [List.cons.injEq] at e1
  rw [List.cons_append, e2, ← e1.1, ← e1.2]
theorem segs_alone (x : Bytes) (hx : (47 : UInt8) ∉ x) : segs x = [x] := by
 induction x with
 | nil => rfl
 | cons c r ih =>
  have hc : c ≠ 47 := fun e => hx (by simp [e])
  have hr : (47 : UInt8) ∉ r := fun e => hx (by simp [e])
  obtain ⟨h, t, e1, e2⟩ := segs_other c r hc
  rw [ih hr] at e1
  simp only [List.cons.injEq] at e1
  rw [e2, ← e1.1, ← e1.2]
theorem segs_slashed : ∀ (x : Bytes) (L : List Bytes), (∀ y ∈ x :: L, (47 : UInt8) ∉ y) → segs (x ++ slashed L) = x :: L
 | x, [], h => by simpa [slashed] using segs_alone x (h x (by simp))
 | x, y :: L, h => by
  have e : x ++ slashed (y :: L) = x ++ 47 :: (y ++ slashed L) := by simp [slashed]
  rw [e, segs_append x (h x (by simp)), segs_slashed y L (fun z hz => h z (by simp [hz]))]
theorem ofL_cons (x : Bytes) (L : List Bytes) : ofL (x :: L) = slashed (x :: L) := by
 show 47 :: Lib.join (x :: L) [47] = _
 rw [Lib.join_cons]
 have : joinTail [47] L = slashed L := rfl
 rw [this]
 simp [slashed]
theorem ofL_nil : ofL [] = [47] := rfl
end Go.Proofs.YtnclkfhdpkkakaaGreatDoor
namespace Go.Proofs.YtnclkfhdpkkakaaGreatDoor
set_option linter.unusedVariables false
set_option linter.unusedSimpArgs false
open Go.RowKit
def okName (x : Bytes) : Bool := nameB (bs x)
def firstBad (L : List Bytes) : Int := if L.all okName then -1 else ((L.findIdx fun x => !okName x : Nat) : Int)
theorem firstBad_sign (L : List Bytes) : decide (0 ≤ firstBad L) = !L.all okName := by
 unfold firstBad
 cases h : L.all okName <;> simp
theorem firstBad_hit (L : List Bytes) (k : Nat) (x : Bytes) (hx : L[k]? = some x) (hb : okName x = false) (hg : ∀ j y, j < k → L[j]? = some y → okName y = true) : firstBad L = k := by
 obtain ⟨hk, rfl⟩ := List.getElem?_eq_some_iff.1 hx
 have h1 : L.all okName = false := by
  rw [List.all_eq_false]
  exact ⟨_, List.getElem_mem hk, by simp [hb]⟩
 unfold firstBad
 rw [if_neg (by simp [h1])]
 have : L.findIdx (fun x => !okName x) = k := by
  rw [List.findIdx_eq hk]
  exact ⟨by simp [hb], fun j hj => by simp [hg j _ hj (List.getElem?_eq_getElem (by omega))]⟩
 rw [this]
theorem firstBad_miss (L : List Bytes) (hg : ∀ j y, j < L.length → L[j]? = some y → okName y = true) : firstBad L = -1 := by
 have h1 : L.all okName = true := by
  rw [List.all_eq_true]
  intro x hx
  obtain ⟨j, hj, rfl⟩ := List.mem_iff_getElem.1 hx
  exact hg j _ hj (List.getElem?_eq_getElem hj)
 unfold firstBad
 rw [if_pos h1]
def StrsAt (w : World) (b off : Nat) (L : List Bytes) : Prop := ∀ j x, L[j]? = some x → w.cell? ⟨b, off + j, none⟩ = some (.string (bs x))
theorem StrsAt.kept {w w' : World} {b off B : Nat} {L : List Bytes} (h : StrsAt w b off L) (hb : Below B w w') (hlt : b < B) : StrsAt w' b off L :=
 fun j x hx => (hb.cell (p := ⟨b, off + j, none⟩) hlt).trans (h j x hx)
set_option maxRecDepth 100000 in
set_option maxHeartbeats 4000000 in
theorem indexFunc_any (b off c : Nat) (L : List Bytes) (w : World) (hb : b < w.heap.size) (hbig : L.length ≤ 1000) (hc : StrsAt w b off L) :
  Calls Tryz.prog 93 #[.slice (some ⟨b, off, none⟩) L.length c, .func (.func 65) #[] #[]] w fun e w' => e = .returned (.int .i64 (firstBad L)) ∧ Below w.heap.size w w' := by
 have HC := Lib.hid hc
 clear hc
 obtain ⟨N, hN⟩ : ∃ N, N = L.length := ⟨_, rfl⟩
 have HN := Lib.hid hN
 rw [← hN] at hbig ⊢
 clear hN
 go_enter Tryz.func93, Tryz.ntmps93
 go_wp2
 go_loopw [5, 8] (fun _ i wr => ∃ k : Nat, k ≤ N ∧ i = .int .i64 k ∧ Hid (∀ j y, j < k → L[j]? = some y → okName y = true) ∧ Below w.heap.size w wr) (fun _ i _ => N - (intOf i).toNat)
 case atStart => exact ⟨0, by omega, rfl, Lib.hid (fun _ _ h => absurd h (Nat.not_lt_zero _)), Below.refl _ _⟩
 case round =>
  obtain ⟨k, hk, rfl, HG, hB⟩ := hrel
  have HB := Lib.hid hB
  by_cases hlt : k < N
  ·obtain ⟨x, hx⟩ : ∃ x, L[k]? = some x := ⟨_, List.getElem?_eq_getElem (by rw [← HN.out]; exact hlt)⟩
   have hcell : wr.cell? ⟨b, off + k, none⟩ = some (.string (bs x)) := (hB.cell (p := ⟨b, off + k, none⟩) hb).trans (HC.out k x hx)
   have HX := Lib.hid hx
   have hcl := closure_any (bs x)
   clear hx hB
   cases ho : nameB (bs x) with
   | true =>
    rw [ho] at hcl
    have HO := Lib.hid ho
    clear ho
    go_wp2_with (go_at_call 65; refine (hcl _).mono ?_; rintro e w1 ⟨rfl, B1⟩)
    have HB1 := Lib.hid (HB.out.trans (B1.mono HB.out.size))
    clear B1
    go_roundw
    case rel =>
     refine ⟨k + 1, by omega, by go_num, Lib.hid fun j y hj hy => ?_, HB1.out⟩
     by_cases e : j = k
     ·subst e
      have := HX.out
      rw [hy] at this
      cases this
      exact HO.out
     ·exact HG.out j y (by omega) hy
    case measure => simp [intOf]; omega
   | false =>
    rw [ho] at hcl
    have HF := Lib.hid (firstBad_hit L k x HX.out ho HG.out)
    clear ho
    go_wp2_with (go_at_call 65; refine (hcl _).mono ?_; rintro e w1 ⟨rfl, B1⟩)
    have HB1 := Lib.hid (HB.out.trans (B1.mono HB.out.size))
    clear B1
    go_ret
    exact ⟨by rw [HF.out]; rfl, HB1.out⟩
  ·obtain rfl : k = N := by omega
   have HF := Lib.hid (firstBad_miss L (fun j y hj hy => HG.out j y (by rw [HN.out]; exact hj) hy))
   clear hB
   go_wp2
   go_ret
   exact ⟨by rw [HF.out]; rfl, HB.out⟩
set_option maxRecDepth 100000 in
theorem containsFunc_any (b off c : Nat) (L : List Bytes) (w : World) (hb : b < w.heap.size) (hbig : L.length ≤ 1000) (hc : StrsAt w b off L) :
  Calls Tryz.prog 64 #[.slice (some ⟨b, off, none⟩) L.length c, .func (.func 65) #[] #[]] w fun e w' => e = .returned (.bool (!L.all okName)) ∧ Below w.heap.size w w' := by
 have hi := indexFunc_any b off c L w hb hbig hc
 rw [← firstBad_sign]
 clear hc
 generalize firstBad L = i at *
 go_enter Tryz.func64, Tryz.ntmps64
 go_wp2_with (go_at_call 93; refine hi.mono ?_; rintro e w1 ⟨rfl, B1⟩)
 go_ret
 exact ⟨rfl, B1⟩
end Go.Proofs.YtnclkfhdpkkakaaGreatDoor
namespace Go.Proofs.YtnclkfhdpkkakaaGreatDoor
set_option linter.unusedVariables false
set_option linter.unusedSimpArgs false
open Go.RowKit
def MaxInt (w : World) : Prop := ∃ m, w.cell? ⟨0, 0, none⟩ = some (.int .i64 m)
theorem MaxInt.kept {w w' : World} (h : MaxInt w) (hb : Below w.heap.size w w') : MaxInt w' := by
 obtain ⟨m, hm⟩ := h
 exact ⟨m, (hb.cell (p := ⟨0, 0, none⟩) (World.block_lt_of_cell? w _ hm)).trans hm⟩
def BlkS (w : World) (g : Nat) (L : List Bytes) : Prop := w.heap[g]? = some (.cells (L.map fun x => Value.string (bs x)).toArray 9 (0, 0))
theorem BlkS.lt {w : World} {g : Nat} {L : List Bytes} (h : BlkS w g L) : g < w.heap.size := (Array.getElem?_eq_some_iff.1 h).1
theorem BlkS.at {w : World} {g : Nat} {L : List Bytes} (h : BlkS w g L) : StrsAt w g 0 L := by
 intro j x hx
 rw [Nat.zero_add]
 unfold BlkS at h
 simp [World.cell?, h, hx]
theorem BlkS.kept {w w' : World} {g B : Nat} {L : List Bytes} (h : BlkS w g L) (hb : Below B w w') (hlt : g < B) : BlkS w' g L := by
 unfold BlkS at *
 rw [hb.block g hlt]
 exact h
theorem blk_new (w : World) (L : List Bytes) : BlkS (w.alloc (.cells (L.map fun x => Value.string (bs x)).toArray 9)) w.heap.size L := heap_alloc_new w _
theorem has_slash (r : Bytes) : Lib.hasPrefix (bs (47 :: r)).data.toList (⟨#[47]⟩ : ByteArray).data.toList = true := by
 rw [data_bs]; rfl
theorem trim_slash (r : Bytes) : (⟨(Lib.trimPrefix (bs (47 :: r)).data.toList (⟨#[47]⟩ : ByteArray).data.toList).toArray⟩ : ByteArray) = bs r := by
 rw [data_bs]; rfl
theorem no_slash (l : Bytes) (h : ∀ r, l ≠ 47 :: r) : Lib.hasPrefix (bs l).data.toList (⟨#[47]⟩ : ByteArray).data.toList = false := by
 rw [data_bs]
 cases l with
 | nil => rfl
 | cons c r =>
  have hc : c ≠ 47 := fun e => h r (by rw [e])
  simp [Lib.hasPrefix, List.isPrefixOf, Ne.symm hc]
def SplitBad (w : World) (e : Ending) (w' : World) : Prop := ∃ v, e = .returned (.tuple #[v, .bool false]) ∧ Below w.heap.size w w'
set_option maxRecDepth 100000 in
theorem split_noslash (l : Bytes) (h : ∀ r, l ≠ 47 :: r) (w : World) : Calls Tryz.prog 39 #[.string (bs l)] w (SplitBad w) := by
 have hcp := Tryz.strings_CutPrefix (bs l) ⟨#[47]⟩
 rw [no_slash l h] at hcp
 clear h
 generalize (⟨(Lib.trimPrefix (bs l).data.toList (⟨#[47]⟩ : ByteArray).data.toList).toArray⟩ : ByteArray) = t at hcp
 go_enter Tryz.func39, Tryz.ntmps39
 go_wp2_with (go_at_call 62; refine (hcp _).mono ?_; rintro e w1 ⟨rfl, hw1⟩; subst w1)
 go_ret2
 exact ⟨_, rfl, Below.refl _ _⟩
set_option maxRecDepth 100000 in
theorem split_long (r : Bytes) (h : 64 < (bs (47 :: r)).size) (hm : (bs (47 :: r)).size ≤ 9223372036854775807) (w : World) : Calls Tryz.prog 39 #[.string (bs (47 :: r))] w (SplitBad w) := by
 have hcp := Tryz.strings_CutPrefix (bs (47 :: r)) ⟨#[47]⟩
 rw [has_slash, trim_slash] at hcp
 go_enter Tryz.func39, Tryz.ntmps39
 go_wp2_with (go_at_call 62; refine (hcp _).mono ?_; rintro e w1 ⟨rfl, hw1⟩; subst w1)
 go_ret2
 exact ⟨_, rfl, Below.refl _ _⟩
set_option maxRecDepth 100000 in
theorem split_root (w : World) : Calls Tryz.prog 39 #[.string (bs [47])] w fun e w' => e = .returned (.tuple #[.slice none 0 0, .bool true]) ∧ w = w' := by
 have hcp := Tryz.strings_CutPrefix (bs [47]) ⟨#[47]⟩
 rw [has_slash, trim_slash] at hcp
 have h1 : (bs [47]).size ≤ 64 := by decide
 have h2 : (bs []).toList.isEmpty = true := by rw [toList_bs]; rfl
 go_enter Tryz.func39, Tryz.ntmps39
 go_wp2_with (go_at_call 62; refine (hcp _).mono ?_; rintro e w1 ⟨rfl, hw1⟩; subst w1)
 go_ret2
 exact ⟨rfl, rfl⟩
set_option maxRecDepth 100000 in
set_option maxHeartbeats 1000000 in
theorem split_more (r : Bytes) (ok : Bool) (hr : r ≠ []) (hlen : (bs (47 :: r)).size ≤ 64) (hok : (segs r).all okName = ok) (w : World) (hm : MaxInt w) :
  Calls Tryz.prog 39 #[.string (bs (47 :: r))] w fun e w' => e = .returned (.tuple #[.slice (some ⟨w.heap.size, 0, none⟩) (segs r).length (segs r).length, .bool ok]) ∧ BlkS w' w.heap.size (segs r) ∧ Below w.heap.size w w' := by
 obtain ⟨m, hm⟩ := hm
 have hcp := Tryz.strings_CutPrefix (bs (47 :: r)) ⟨#[47]⟩
 rw [has_slash, trim_slash] at hcp
 have hrl : r.length < 64 := by rw [size_bs] at hlen; simp at hlen; omega
 have hne : (bs r).toList.isEmpty = false := by rw [toList_bs]; cases r <;> simp_all
 have hsp := Tryz.strings_Split (bs r) ⟨#[47]⟩ m w (by rw [size_bs]; omega) hm (by decide)
 have e1 : (⟨#[47]⟩ : ByteArray) = bs [47] := rfl
 rw [e1, split_map, split_count, data_bs, List.map_map, show (Value.string ∘ bs) = fun x => Value.string (bs x) from rfl] at hsp
 have hseg : (segs r).length ≤ 1000 := by
  rw [← data_bs r, ← split_count]
  have := Lib.countB_le (bs [47]) (by decide) (bs r).size (bs r) (Nat.le_refl _)
  rw [size_bs] at this
  omega
 have hcf := fun (W : World) (hb : BlkS W w.heap.size (segs r)) => containsFunc_any w.heap.size 0 (segs r).length (segs r) W hb.lt hseg hb.at
 rw [hok] at hcf
 have HF := Lib.hid hcf
 have HB := Lib.hid (blk_new w (segs r))
 clear hcf hm hok hr hseg
 generalize segs r = L at *
 go_enter Tryz.func39, Tryz.ntmps39
 go_wp2_with (first
  | (go_at_call 62; refine (hcp _).mono ?_; rintro e w1 ⟨rfl, hw1⟩; subst w1)
  | (go_at_call 63; refine hsp.mono ?_; rintro e w2 ⟨rfl, hw2⟩; subst w2)
  | fail)
 refine (HF.out _ HB.out).mono ?_
 rintro e w3 ⟨rfl, B3⟩
 have hB : BlkS w3 w.heap.size L := HB.out.kept B3 HB.out.lt
 have hBl : Below w.heap.size w w3 := ((Below.refl _ w).alloc (Nat.le_refl _) _).trans (B3.mono (by simp))
 have X := Lib.hid (And.intro hB hBl)
 clear B3 hB hBl
 go_wp2
 go_ret2
 exact ⟨by simp, X.out.1, X.out.2⟩
end Go.Proofs.YtnclkfhdpkkakaaGreatDoor
namespace Go.Proofs.YtnclkfhdpkkakaaGreatDoor
set_option linter.unusedVariables false
set_option linter.unusedSimpArgs false
open Go.RowKit
def contB (s : ByteArray) (j : Nat) : Bool := decide (j < s.size) && (s.get! j).toNat / 64 == 2
def runeVal (s : ByteArray) (i : Nat) (v0 : Int) : Nat → Int
 | 0 => v0
 | k + 1 => runeVal s i v0 k * 64 + ((s.get! (i + (k + 1))).toNat % 64 : Nat)
def runeOf (s : ByteArray) (i : Nat) : Nat × Nat := if (Utf8.decode s i).1 = 65533 ∧ (Utf8.decode s i).2 = 1 then (0, 0) else ((Utf8.decode s i).2, (Utf8.decode s i).1)
theorem and192 (b : UInt8) : (bits BinOp.and IntKind.u8 (b.toNat : Int) 192 != 128) = !(b.toNat / 64 == 2) := by
 have h : ∀ n : Fin 256, (bits BinOp.and IntKind.u8 (n.val : Int) 192 != 128) = !(n.val / 64 == 2) := by decide +kernel
 exact h ⟨b.toNat, b.toNat_lt⟩
theorem get_elem (s : ByteArray) (j : Nat) (h : j < s.size) : s.get! j = s[j]'h := by
 have := get_at s j h
 simpa using this
theorem runeVal_bd (s : ByteArray) (i : Nat) (v0 : Int) (h0 : 0 ≤ v0) (h1 : v0 ≤ 31) : ∀ k, k ≤ 3 → 0 ≤ runeVal s i v0 k ∧ runeVal s i v0 k ≤ 10000000 := by
 have hm : ∀ j, ((s.get! j).toNat % 64 : Nat) ≤ 63 := fun j => by omega
 have a0 : runeVal s i v0 0 = v0 := rfl
 have a1 : runeVal s i v0 1 = v0 * 64 + ((s.get! (i + 1)).toNat % 64 : Nat) := rfl
 have a2 : runeVal s i v0 2 = runeVal s i v0 1 * 64 + ((s.get! (i + 2)).toNat % 64 : Nat) := rfl
 have a3 : runeVal s i v0 3 = runeVal s i v0 2 * 64 + ((s.get! (i + 3)).toNat % 64 : Nat) := rfl
 have m1 := hm (i + 1)
 have m2 := hm (i + 2)
 have m3 := hm (i + 3)
 intro k hk
 rcases (show k = 0 ∨ k = 1 ∨ k = 2 ∨ k = 3 by omega) with rfl | rfl | rfl | rfl <;> omega
section
variable (s : ByteArray) (i : Nat)
theorem dec_unfold : Utf8.decode s i =
  if (s.get! i).toNat < 0x80 then ((s.get! i).toNat, 1)
  else if ((s.get! i).toNat / 32 == 6 && contB s (i + 1)) = true then
   (if ((s.get! i).toNat % 32) * 64 + (s.get! (i + 1)).toNat % 64 ≥ 0x80 then (((s.get! i).toNat % 32) * 64 + (s.get! (i + 1)).toNat % 64, 2) else (65533, 1))
  else if ((s.get! i).toNat / 16 == 14 && contB s (i + 1) && contB s (i + 2)) = true then
   (if (decide (((s.get! i).toNat % 16) * 4096 + ((s.get! (i + 1)).toNat % 64) * 64 + (s.get! (i + 2)).toNat % 64 ≥ 0x800) && Utf8.valid (((s.get! i).toNat % 16) * 4096 + ((s.get! (i + 1)).toNat % 64) * 64 + (s.get! (i + 2)).toNat % 64 : Nat)) = true
    then (((s.get! i).toNat % 16) * 4096 + ((s.get! (i + 1)).toNat % 64) * 64 + (s.get! (i + 2)).toNat % 64, 3) else (65533, 1))
  else if ((s.get! i).toNat / 8 == 30 && contB s (i + 1) && contB s (i + 2) && contB s (i + 3)) = true then
   (if (decide (((s.get! i).toNat % 8) * 262144 + ((s.get! (i + 1)).toNat % 64) * 4096 + ((s.get! (i + 2)).toNat % 64) * 64 + (s.get! (i + 3)).toNat % 64 ≥ 0x10000) && Utf8.valid (((s.get! i).toNat % 8) * 262144 + ((s.get! (i + 1)).toNat % 64) * 4096 + ((s.get! (i + 2)).toNat % 64) * 64 + (s.get! (i + 3)).toNat % 64 : Nat)) = true
    then (((s.get! i).toNat % 8) * 262144 + ((s.get! (i + 1)).toNat % 64) * 4096 + ((s.get! (i + 2)).toNat % 64) * 64 + (s.get! (i + 3)).toNat % 64, 4) else (65533, 1))
  else (65533, 1) := rfl
theorem dec_err (h : Utf8.decode s i = (65533, 1)) : runeOf s i = (0, 0) := by simp [runeOf, h]
theorem dec_ok (c n : Nat) (h : Utf8.decode s i = (c, n)) (hn : n ≠ 1 ∨ c ≠ 65533) : runeOf s i = (n, c) := by
 unfold runeOf
 rw [h]
 rw [if_neg]
 rintro ⟨rfl, rfl⟩
 rcases hn with h | h <;> exact h rfl
theorem rune_low (h : (s.get! i).toNat < 128) : runeOf s i = (1, (s.get! i).toNat) := by
 refine dec_ok s i _ _ ?_ (.inr (by omega))
 rw [dec_unfold, if_pos h]
theorem rune_no (h1 : 128 ≤ (s.get! i).toNat) (h : (s.get! i).toNat < 192 ∨ 248 ≤ (s.get! i).toNat) : runeOf s i = (0, 0) := by
 apply dec_err
 rw [dec_unfold, if_neg (by omega), if_neg, if_neg, if_neg]
 all_goals
  simp only [Bool.and_eq_true, beq_iff_eq, not_and]
  intros
  omega
theorem two_fail (h1 : 192 ≤ (s.get! i).toNat) (h2 : (s.get! i).toNat < 224) (hj : contB s (i + 1) = false) : runeOf s i = (0, 0) := by
 apply dec_err
 have e1 : ((s.get! i).toNat / 16 == 14) = false := by simp; omega
 have e2 : ((s.get! i).toNat / 8 == 30) = false := by simp; omega
 rw [dec_unfold, if_neg (by omega), hj, e1, e2]
 simp
theorem two_done (h1 : 192 ≤ (s.get! i).toNat) (h2 : (s.get! i).toNat < 224) (hj : contB s (i + 1) = true) (V : Int) (hV : V = runeVal s i ((s.get! i).toNat - 192 : Int) 1) :
  (128 ≤ V ∧ V ≤ 1114111 ∧ ¬ (55296 ≤ V ∧ V < 57344) → runeOf s i = (2, V.toNat)) ∧ (¬ (128 ≤ V ∧ V ≤ 1114111 ∧ ¬ (55296 ≤ V ∧ V < 57344)) → runeOf s i = (0, 0)) := by
 have e1 : ((s.get! i).toNat / 32 == 6) = true := by simp; omega
 have a1 : V = ((s.get! i).toNat - 192 : Int) * 64 + ((s.get! (i + 1)).toNat % 64 : Nat) := hV
 have hd : Utf8.decode s i = if V.toNat ≥ 128 then (V.toNat, 2) else (65533, 1) := by
  rw [dec_unfold, if_neg (by omega), e1, hj]
  have : ((s.get! i).toNat % 32) * 64 + (s.get! (i + 1)).toNat % 64 = V.toNat := by omega
  rw [this]
  simp
 refine ⟨fun h => dec_ok s i _ _ (hd.trans (if_pos (by omega))) (.inl (by decide)), fun h => dec_err s i (hd.trans (if_neg (by omega)))⟩
theorem valid_iff (c : Nat) (V : Int) (h : V = c) : Utf8.valid (c : Int) = decide (V ≤ 1114111 ∧ (V < 55296 ∨ 57344 ≤ V)) := by
 subst h
 unfold Utf8.valid
 rw [Bool.eq_iff_iff]
 simp
 omega
theorem three_fail (h1 : 224 ≤ (s.get! i).toNat) (h2 : (s.get! i).toNat < 240) (hj : contB s (i + 1) = false ∨ contB s (i + 2) = false) : runeOf s i = (0, 0) := by
 apply dec_err
 have e1 : ((s.get! i).toNat / 32 == 6) = false := by simp; omega
 have e2 : ((s.get! i).toNat / 8 == 30) = false := by simp; omega
 rw [dec_unfold, if_neg (by omega), e1, e2]
 rcases hj with hj | hj <;> rw [hj] <;> simp
theorem three_done (h1 : 224 ≤ (s.get! i).toNat) (h2 : (s.get! i).toNat < 240) (hj : contB s (i + 1) = true) (hj2 : contB s (i + 2) = true) (V : Int) (hV : V = runeVal s i ((s.get! i).toNat - 224 : Int) 2) :
  (2048 ≤ V ∧ V ≤ 1114111 ∧ ¬ (55296 ≤ V ∧ V < 57344) → runeOf s i = (3, V.toNat)) ∧ (¬ (2048 ≤ V ∧ V ≤ 1114111 ∧ ¬ (55296 ≤ V ∧ V < 57344)) → runeOf s i = (0, 0)) := by
 have e0 : ((s.get! i).toNat / 32 == 6) = false := by simp; omega
 have e1 : ((s.get! i).toNat / 16 == 14) = true := by simp; omega
 have a1 : V = (((s.get! i).toNat - 224 : Int) * 64 + ((s.get! (i + 1)).toNat % 64 : Nat)) * 64 + ((s.get! (i + 2)).toNat % 64 : Nat) := hV
 have hc : ((s.get! i).toNat % 16) * 4096 + ((s.get! (i + 1)).toNat % 64) * 64 + (s.get! (i + 2)).toNat % 64 = V.toNat := by omega
 have hd : Utf8.decode s i = if V.toNat ≥ 2048 ∧ (V ≤ 1114111 ∧ (V < 55296 ∨ 57344 ≤ V)) then (V.toNat, 3) else (65533, 1) := by
  rw [dec_unfold, if_neg (by omega), e0, e1, hj, hj2, hc, valid_iff V.toNat V (by omega)]
  simp
 refine ⟨fun h => dec_ok s i _ _ (hd.trans (if_pos (by omega))) (.inl (by decide)), fun h => dec_err s i (hd.trans (if_neg (by omega)))⟩
theorem four_fail (h1 : 240 ≤ (s.get! i).toNat) (h2 : (s.get! i).toNat < 248) (hj : contB s (i + 1) = false ∨ contB s (i + 2) = false ∨ contB s (i + 3) = false) : runeOf s i = (0, 0) := by
 apply dec_err
 have e1 : ((s.get! i).toNat / 32 == 6) = false := by simp; omega
 have e2 : ((s.get! i).toNat / 16 == 14) = false := by simp; omega
 rw [dec_unfold, if_neg (by omega), e1, e2]
 rcases hj with hj | hj | hj <;> rw [hj] <;> simp
theorem four_done (h1 : 240 ≤ (s.get! i).toNat) (h2 : (s.get! i).toNat < 248) (hj : contB s (i + 1) = true) (hj2 : contB s (i + 2) = true) (hj3 : contB s (i + 3) = true) (V : Int) (hV : V = runeVal s i ((s.get! i).toNat - 240 : Int) 3) :
  (65536 ≤ V ∧ V ≤ 1114111 ∧ ¬ (55296 ≤ V ∧ V < 57344) → runeOf s i = (4, V.toNat)) ∧ (¬ (65536 ≤ V ∧ V ≤ 1114111 ∧ ¬ (55296 ≤ V ∧ V < 57344)) → runeOf s i = (0, 0)) := by
 have e0 : ((s.get! i).toNat / 32 == 6) = false := by simp; omega
 have e1 : ((s.get! i).toNat / 16 == 14) = false := by simp; omega
 have e2 : ((s.get! i).toNat / 8 == 30) = true := by simp; omega
 have a1 : V = ((((s.get! i).toNat - 240 : Int) * 64 + ((s.get! (i + 1)).toNat % 64 : Nat)) * 64 + ((s.get! (i + 2)).toNat % 64 : Nat)) * 64 + ((s.get! (i + 3)).toNat % 64 : Nat) := hV
 have hc : ((s.get! i).toNat % 8) * 262144 + ((s.get! (i + 1)).toNat % 64) * 4096 + ((s.get! (i + 2)).toNat % 64) * 64 + (s.get! (i + 3)).toNat % 64 = V.toNat := by omega
 have hd : Utf8.decode s i = if V.toNat ≥ 65536 ∧ (V ≤ 1114111 ∧ (V < 55296 ∨ 57344 ≤ V)) then (V.toNat, 4) else (65533, 1) := by
  rw [dec_unfold, if_neg (by omega), e0, e1, e2, hj, hj2, hj3, hc, valid_iff V.toNat V (by omega)]
  simp
 refine ⟨fun h => dec_ok s i _ _ (hd.trans (if_pos (by omega))) (.inl (by decide)), fun h => dec_err s i (hd.trans (if_neg (by omega)))⟩
end
theorem cont_true (s : ByteArray) (j : Nat) (h : j < s.size) (b : Bool) (hb : contB s j = b) : (bits BinOp.and IntKind.u8 ((s[j]'h).toNat : Int) 192 != 128) = !b := by
 rw [and192, ← get_elem s j h]
 rw [← hb]
 simp [contB, h]
theorem cont_out (s : ByteArray) (j : Nat) (h : ¬ j < s.size) : contB s j = false := by simp [contB, h]
theorem val_succ (s : ByteArray) (i k : Nat) (v0 : Int) (hk : 1 ≤ k) (h : i + k < s.size) : runeVal s i v0 (k + 1 - 1) = runeVal s i v0 (k - 1) * 64 + ((s[i + k]'h).toNat : Int) % 64 := by
 obtain ⟨m, rfl⟩ : ∃ m, k = m + 1 := ⟨k - 1, by omega⟩
 show runeVal s i v0 m * 64 + ((s.get! (i + (m + 1))).toNat % 64 : Nat) = _
 rw [get_elem s _ h]
 simp
def RuneEnd (s : ByteArray) (i : Nat) (w : World) (e : Ending) (w' : World) : Prop := e = .returned (.tuple #[.int .i64 ((runeOf s i).1 : Nat), .int .i64 ((runeOf s i).2 : Nat)]) ∧ w = w'
theorem rune_end0 {s : ByteArray} {i : Nat} {w : World} (h : runeOf s i = (0, 0)) : RuneEnd s i w (.returned (.tuple #[.int .i64 0, .int .i64 0])) w := ⟨by rw [h]; rfl, rfl⟩
theorem rune_endN {s : ByteArray} {i n : Nat} {V : Int} {w : World} (h : runeOf s i = (n, V.toNat)) (hV : 0 ≤ V) : RuneEnd s i w (.returned (.tuple #[.int .i64 n, .int .i64 V])) w := ⟨by rw [h]; simp [Int.toNat_of_nonneg hV], rfl⟩
set_option maxRecDepth 100000 in
set_option maxHeartbeats 4000000 in
theorem rune_ascii (s : ByteArray) (i : Nat) (h : i < s.size) (hs : s.size ≤ 1000000) (h1 : ((s[i]'h).toNat : Int) < 128) (w : World) : Calls Tryz.prog 107 #[.string s, .int .i64 i] w (RuneEnd s i w) := by
 have hr := rune_low s i (by rw [get_elem s i h]; omega)
 rw [get_elem s i h] at hr
 have HR := Lib.hid hr
 clear hr
 go_enter Tryz.func107, Tryz.ntmps107
 go_wp2
 go_ret2
 exact ⟨by rw [HR.out]; rfl, rfl⟩
set_option maxRecDepth 100000 in
set_option maxHeartbeats 4000000 in
theorem rune_none (s : ByteArray) (i : Nat) (h : i < s.size) (hs : s.size ≤ 1000000) (h1 : 128 ≤ ((s[i]'h).toNat : Int)) (hb : ((s[i]'h).toNat : Int) ≤ 255) (h2 : ((s[i]'h).toNat : Int) < 192 ∨ 248 ≤ ((s[i]'h).toNat : Int)) (w : World) : Calls Tryz.prog 107 #[.string s, .int .i64 i] w (RuneEnd s i w) := by
 have HR := Lib.hid (rune_no s i (by rw [get_elem s i h]; omega) (by rw [get_elem s i h]; omega))
 rcases h2 with h2 | h2
 all_goals
  go_enter Tryz.func107, Tryz.ntmps107
  go_wp2
  go_ret2
  exact rune_end0 HR.out
set_option maxRecDepth 100000 in
set_option maxHeartbeats 4000000 in
theorem rune_two (s : ByteArray) (i : Nat) (h : i < s.size) (hs : s.size ≤ 1000000) (h1 : 192 ≤ ((s[i]'h).toNat : Int)) (h2 : ((s[i]'h).toNat : Int) < 224) (w : World) : Calls Tryz.prog 107 #[.string s, .int .i64 i] w (RuneEnd s i w) := by
 have g1 : 192 ≤ (s.get! i).toNat := by rw [get_elem s i h]; omega
 have g2 : (s.get! i).toNat < 224 := by rw [get_elem s i h]; omega
 obtain ⟨v0, hv0⟩ : ∃ v0, v0 = ((s[i]'h).toNat : Int) - 192 := ⟨_, rfl⟩
 have hv0' : v0 = ((s.get! i).toNat : Int) - 192 := by rw [get_elem s i h]; exact hv0
 have HV0 := Lib.hid hv0'
 have HV1 := Lib.hid hv0
 have hbd := runeVal_bd s i v0 (by omega) (by omega)
 have HB := Lib.hid hbd
 have G1 := Lib.hid g1
 have G2 := Lib.hid g2
 clear hv0 hv0' hbd g1 g2
 go_enter Tryz.func107, Tryz.ntmps107
 go_wp2
 rw [← HV1.out]
 go_loop [8, 10] (fun v kk => ∃ k : Nat, 1 ≤ k ∧ k ≤ 2 ∧ kk = .int .i64 k ∧ v = .int .i64 (runeVal s i v0 (k - 1)) ∧ Hid (∀ j, 1 ≤ j → j < k → contB s (i + j) = true)) (fun _ kk => 2 - (intOf kk).toNat)
 case atStart => exact ⟨1, by omega, by omega, rfl, rfl, Lib.hid (fun j a b => by omega)⟩
 case round =>
  obtain ⟨k, hk1, hk2, rfl, rfl, HG⟩ := hrel
  obtain ⟨b1, b2⟩ := HB.out (k - 1) (by omega)
  by_cases hlt : k < 2
  ·by_cases hik : i + k < s.size
   ·have HS := Lib.hid (val_succ s i k v0 hk1 hik)
    cases hcb : contB s (i + k) with
    | true =>
     have hbt := cont_true s (i + k) hik true hcb
     rw [Bool.not_true] at hbt
     have HC := Lib.hid hcb
     clear hcb
     have hb : ((s[i + k]'hik).toNat : Int) ≤ 255 := by have := (s[i + k]'hik).toNat_lt; omega
     generalize runeVal s i v0 (k - 1) = v at *
     go_wp2
     go_round
     case rel =>
      refine ⟨k + 1, by omega, by omega, by go_num, by rw [HS.out], Lib.hid fun j a b => ?_⟩
      by_cases e : j = k
      ·subst e; exact HC.out
      ·exact HG.out j a (by omega)
     case measure => simp [intOf]; omega
    | false =>
     have hbt := cont_true s (i + k) hik false hcb
     rw [Bool.not_false] at hbt
     have hf := hcb
     have HR := Lib.hid (two_fail s i G1.out G2.out (by have hk : k = 1 := (by omega); subst hk; exact hf))
     clear hcb hf
     go_wp2
     go_ret2
     exact rune_end0 HR.out
   ·have hf := cont_out s (i + k) hik
    have HR := Lib.hid (two_fail s i G1.out G2.out (by have hk : k = 1 := (by omega); subst hk; exact hf))
    clear hf
    go_wp2
    go_ret2
    exact rune_end0 HR.out
  ·obtain rfl : k = 2 := by omega
   have hd := two_done s i G1.out G2.out (HG.out 1 (by omega) (by omega)) (runeVal s i v0 (2 - 1)) (congrArg (fun v => runeVal s i v (2 - 1)) HV0.out)
   have HD := Lib.hid hd
   clear hd
   generalize runeVal s i v0 (2 - 1) = V at *
   by_cases c1 : V < 128
   ·have HR := Lib.hid (HD.out.2 (by omega))
    go_wp2
    go_ret2
    exact rune_end0 HR.out
   ·by_cases c2 : 1114111 < V
    ·have HR := Lib.hid (HD.out.2 (by omega))
     go_wp2
     go_ret2
     exact rune_end0 HR.out
    ·by_cases c3 : 55296 ≤ V
     ·by_cases c4 : V < 57344
      ·have HR := Lib.hid (HD.out.2 (by omega))
       go_wp2
       go_ret2
       exact rune_end0 HR.out
      ·have HR := Lib.hid (HD.out.1 (by omega))
       go_wp2
       go_ret2
       exact rune_endN HR.out b1
     ·have HR := Lib.hid (HD.out.1 (by omega))
      go_wp2
      go_ret2
      exact rune_endN HR.out b1
set_option maxRecDepth 100000 in
set_option maxHeartbeats 4000000 in
theorem rune_three (s : ByteArray) (i : Nat) (h : i < s.size) (hs : s.size ≤ 1000000) (h1 : 224 ≤ ((s[i]'h).toNat : Int)) (h2 : ((s[i]'h).toNat : Int) < 240) (w : World) : Calls Tryz.prog 107 #[.string s, .int .i64 i] w (RuneEnd s i w) := by
 have g1 : 224 ≤ (s.get! i).toNat := by rw [get_elem s i h]; omega
 have g2 : (s.get! i).toNat < 240 := by rw [get_elem s i h]; omega
 obtain ⟨v0, hv0⟩ : ∃ v0, v0 = ((s[i]'h).toNat : Int) - 224 := ⟨_, rfl⟩
 have hv0' : v0 = ((s.get! i).toNat : Int) - 224 := by rw [get_elem s i h]; exact hv0
 have HV0 := Lib.hid hv0'
 have HV1 := Lib.hid hv0
 have hbd := runeVal_bd s i v0 (by omega) (by omega)
 have HB := Lib.hid hbd
 have G1 := Lib.hid g1
 have G2 := Lib.hid g2
 clear hv0 hv0' hbd g1 g2
 go_enter Tryz.func107, Tryz.ntmps107
 go_wp2
 rw [← HV1.out]
 go_loop [8, 10] (fun v kk => ∃ k : Nat, 1 ≤ k ∧ k ≤ 3 ∧ kk = .int .i64 k ∧ v = .int .i64 (runeVal s i v0 (k - 1)) ∧ Hid (∀ j, 1 ≤ j → j < k → contB s (i + j) = true)) (fun _ kk => 3 - (intOf kk).toNat)
 case atStart => exact ⟨1, by omega, by omega, rfl, rfl, Lib.hid (fun j a b => by omega)⟩
 case round =>
  obtain ⟨k, hk1, hk2, rfl, rfl, HG⟩ := hrel
  obtain ⟨b1, b2⟩ := HB.out (k - 1) (by omega)
  by_cases hlt : k < 3
  ·by_cases hik : i + k < s.size
   ·have HS := Lib.hid (val_succ s i k v0 hk1 hik)
    cases hcb : contB s (i + k) with
    | true =>
     have hbt := cont_true s (i + k) hik true hcb
     rw [Bool.not_true] at hbt
     have HC := Lib.hid hcb
     clear hcb
     have hb : ((s[i + k]'hik).toNat : Int) ≤ 255 := by have := (s[i + k]'hik).toNat_lt; omega
     generalize runeVal s i v0 (k - 1) = v at *
     go_wp2
     go_round
     case rel =>
      refine ⟨k + 1, by omega, by omega, by go_num, by rw [HS.out], Lib.hid fun j a b => ?_⟩
      by_cases e : j = k
      ·subst e; exact HC.out
      ·exact HG.out j a (by omega)
     case measure => simp [intOf]; omega
    | false =>
     have hbt := cont_true s (i + k) hik false hcb
     rw [Bool.not_false] at hbt
     have hf := hcb
     have HR := Lib.hid (three_fail s i G1.out G2.out (by rcases (show k = 1 ∨ k = 2 by omega) with rfl | rfl <;> first | exact .inl hf | exact .inr hf))
     clear hcb hf
     go_wp2
     go_ret2
     exact rune_end0 HR.out
   ·have hf := cont_out s (i + k) hik
    have HR := Lib.hid (three_fail s i G1.out G2.out (by rcases (show k = 1 ∨ k = 2 by omega) with rfl | rfl <;> first | exact .inl hf | exact .inr hf))
    clear hf
    go_wp2
    go_ret2
    exact rune_end0 HR.out
  ·obtain rfl : k = 3 := by omega
   have hd := three_done s i G1.out G2.out (HG.out 1 (by omega) (by omega)) (HG.out 2 (by omega) (by omega)) (runeVal s i v0 (3 - 1)) (congrArg (fun v => runeVal s i v (3 - 1)) HV0.out)
   have HD := Lib.hid hd
   clear hd
   generalize runeVal s i v0 (3 - 1) = V at *
   by_cases c1 : V < 2048
   ·have HR := Lib.hid (HD.out.2 (by omega))
    go_wp2
    go_ret2
    exact rune_end0 HR.out
   ·by_cases c2 : 1114111 < V
    ·have HR := Lib.hid (HD.out.2 (by omega))
     go_wp2
     go_ret2
     exact rune_end0 HR.out
    ·by_cases c3 : 55296 ≤ V
     ·by_cases c4 : V < 57344
      ·have HR := Lib.hid (HD.out.2 (by omega))
       go_wp2
       go_ret2
       exact rune_end0 HR.out
      ·have HR := Lib.hid (HD.out.1 (by omega))
       go_wp2
       go_ret2
       exact rune_endN HR.out b1
     ·have HR := Lib.hid (HD.out.1 (by omega))
      go_wp2
      go_ret2
      exact rune_endN HR.out b1
set_option maxRecDepth 100000 in
set_option maxHeartbeats 4000000 in
theorem rune_four (s : ByteArray) (i : Nat) (h : i < s.size) (hs : s.size ≤ 1000000) (h1 : 240 ≤ ((s[i]'h).toNat : Int)) (h2 : ((s[i]'h).toNat : Int) < 248) (w : World) : Calls Tryz.prog 107 #[.string s, .int .i64 i] w (RuneEnd s i w) := by
 have g1 : 240 ≤ (s.get! i).toNat := by rw [get_elem s i h]; omega
 have g2 : (s.get! i).toNat < 248 := by rw [get_elem s i h]; omega
 obtain ⟨v0, hv0⟩ : ∃ v0, v0 = ((s[i]'h).toNat : Int) - 240 := ⟨_, rfl⟩
 have hv0' : v0 = ((s.get! i).toNat : Int) - 240 := by rw [get_elem s i h]; exact hv0
 have HV0 := Lib.hid hv0'
 have HV1 := Lib.hid hv0
 have hbd := runeVal_bd s i v0 (by omega) (by omega)
 have HB := Lib.hid hbd
 have G1 := Lib.hid g1
 have G2 := Lib.hid g2
 clear hv0 hv0' hbd g1 g2
 go_enter Tryz.func107, Tryz.ntmps107
 go_wp2
 rw [← HV1.out]
 go_loop [8, 10] (fun v kk => ∃ k : Nat, 1 ≤ k ∧ k ≤ 4 ∧ kk = .int .i64 k ∧ v = .int .i64 (runeVal s i v0 (k - 1)) ∧ Hid (∀ j, 1 ≤ j → j < k → contB s (i + j) = true)) (fun _ kk => 4 - (intOf kk).toNat)
 case atStart => exact ⟨1, by omega, by omega, rfl, rfl, Lib.hid (fun j a b => by omega)⟩
 case round =>
  obtain ⟨k, hk1, hk2, rfl, rfl, HG⟩ := hrel
  obtain ⟨b1, b2⟩ := HB.out (k - 1) (by omega)
  by_cases hlt : k < 4
  ·by_cases hik : i + k < s.size
   ·have HS := Lib.hid (val_succ s i k v0 hk1 hik)
    cases hcb : contB s (i + k) with
    | true =>
     have hbt := cont_true s (i + k) hik true hcb
     rw [Bool.not_true] at hbt
     have HC := Lib.hid hcb
     clear hcb
     have hb : ((s[i + k]'hik).toNat : Int) ≤ 255 := by have := (s[i + k]'hik).toNat_lt; omega
     generalize runeVal s i v0 (k - 1) = v at *
     go_wp2
     go_round
     case rel =>
      refine ⟨k + 1, by omega, by omega, by go_num, by rw [HS.out], Lib.hid fun j a b => ?_⟩
      by_cases e : j = k
      ·subst e; exact HC.out
      ·exact HG.out j a (by omega)
     case measure => simp [intOf]; omega
    | false =>
     have hbt := cont_true s (i + k) hik false hcb
     rw [Bool.not_false] at hbt
     have hf := hcb
     have HR := Lib.hid (four_fail s i G1.out G2.out (by rcases (show k = 1 ∨ k = 2 ∨ k = 3 by omega) with rfl | rfl | rfl <;> first | exact .inl hf | exact .inr (.inl hf) | exact .inr (.inr hf)))
     clear hcb hf
     go_wp2
     go_ret2
     exact rune_end0 HR.out
   ·have hf := cont_out s (i + k) hik
    have HR := Lib.hid (four_fail s i G1.out G2.out (by rcases (show k = 1 ∨ k = 2 ∨ k = 3 by omega) with rfl | rfl | rfl <;> first | exact .inl hf | exact .inr (.inl hf) | exact .inr (.inr hf)))
    clear hf
    go_wp2
    go_ret2
    exact rune_end0 HR.out
  ·obtain rfl : k = 4 := by omega
   have hd := four_done s i G1.out G2.out (HG.out 1 (by omega) (by omega)) (HG.out 2 (by omega) (by omega)) (HG.out 3 (by omega) (by omega)) (runeVal s i v0 (4 - 1)) (congrArg (fun v => runeVal s i v (4 - 1)) HV0.out)
   have HD := Lib.hid hd
   clear hd
   generalize runeVal s i v0 (4 - 1) = V at *
   by_cases c1 : V < 65536
   ·have HR := Lib.hid (HD.out.2 (by omega))
    go_wp2
    go_ret2
    exact rune_end0 HR.out
   ·by_cases c2 : 1114111 < V
    ·have HR := Lib.hid (HD.out.2 (by omega))
     go_wp2
     go_ret2
     exact rune_end0 HR.out
    ·by_cases c3 : 55296 ≤ V
     ·by_cases c4 : V < 57344
      ·have HR := Lib.hid (HD.out.2 (by omega))
       go_wp2
       go_ret2
       exact rune_end0 HR.out
      ·have HR := Lib.hid (HD.out.1 (by omega))
       go_wp2
       go_ret2
       exact rune_endN HR.out b1
     ·have HR := Lib.hid (HD.out.1 (by omega))
      go_wp2
      go_ret2
      exact rune_endN HR.out b1
theorem rune_any (s : ByteArray) (i : Nat) (h : i < s.size) (hs : s.size ≤ 1000000) (w : World) : Calls Tryz.prog 107 #[.string s, .int .i64 i] w (RuneEnd s i w) := by
 have hb : ((s[i]'h).toNat : Int) ≤ 255 := by have := (s[i]'h).toNat_lt; omega
 by_cases h1 : ((s[i]'h).toNat : Int) < 128
 ·exact rune_ascii s i h hs h1 w
 ·by_cases h2 : ((s[i]'h).toNat : Int) < 192
  ·exact rune_none s i h hs (by omega) hb (.inl h2) w
  ·by_cases h3 : ((s[i]'h).toNat : Int) < 224
   ·exact rune_two s i h hs (by omega) h3 w
   ·by_cases h4 : ((s[i]'h).toNat : Int) < 240
    ·exact rune_three s i h hs (by omega) h4 w
    ·by_cases h5 : ((s[i]'h).toNat : Int) < 248
     ·exact rune_four s i h hs (by omega) h5 w
     ·exact rune_none s i h hs (by omega) hb (.inr (by omega)) w
end Go.Proofs.YtnclkfhdpkkakaaGreatDoor
