/-
  Paths, in plain Lean: names, parts, and what is joined. No program in sight.
  The program's path.Name, walked: the document's names.
  Splitting at '/': the library's splitting is the plain one; joining is its inverse.
-/
import GoSem.Core.Utf8
import Derived.Laws.RangeAny
import Derived.Lib.Split
import Derived.Lib.Join
import Derived.Test.YtkhoeiapfoaapaaGreatDoorChecked
import Derived.WalkKit
import Derived.Lib.Hide
import Derived.Laws.RangeString
import Derived.Outline
import Derived.Lib.SplitLaws
namespace Go.Proofs.YtkhoeiapfoaapaaGreatDoor
set_option linter.unusedVariables false
set_option linter.unusedSimpArgs false
open Go.Lib

abbrev Bytes := List UInt8
def bs (l : Bytes) : ByteArray := ⟨l.toArray⟩
theorem bs_data (s : ByteArray) : bs s.data.toList = s := Lib.mk_data s
theorem data_bs (l : Bytes) : (bs l).data.toList = l := by simp [bs]
theorem toList_bs (l : Bytes) : (bs l).toList = l := by rw [Lib.toList_data, data_bs]
theorem size_bs (l : Bytes) : (bs l).size = l.length := by rw [Lib.size_eq, data_bs]

/-- What may not be in a name. -/
def badB (c : Nat) : Bool := c == 47 || decide (c < 32) || c == 127 || c == 65533
def goodFrom (s : ByteArray) : Nat → Nat → Bool
  | 0, _ => true
  | b + 1, pos => if pos < s.size then !badB (Utf8.decode s pos).1 && goodFrom s b (pos + (Utf8.decode s pos).2) else true
def isDot (s : ByteArray) : Bool := s.toList.isEmpty || s.toList == [46] || s.toList == [46, 46]
def nameB (s : ByteArray) : Bool := !isDot s && goodFrom s s.size 0

theorem width_pos (s : ByteArray) (pos : Nat) (h : pos < s.size) : 1 ≤ (Utf8.decode s pos).2 := by
  by_cases ha : (s[pos]'h).toNat < 128
  · rw [decode_ascii s pos h ha]
    exact Nat.le_refl _
  · exact (decode_high s pos h (by omega)).2
theorem good_end (s : ByteArray) (b pos : Nat) (h : ¬ pos < s.size) : goodFrom s b pos = true := by
  cases b with
  | zero => rfl
  | succ b => simp [goodFrom, h]
theorem good_succ (s : ByteArray) (b pos : Nat) (h : pos < s.size) : goodFrom s (b + 1) pos = (!badB (Utf8.decode s pos).1 && goodFrom s b (pos + (Utf8.decode s pos).2)) := by simp [goodFrom, h]

def segs : Bytes → List Bytes
  | [] => [[]]
  | c :: r => if c = 47 then [] :: segs r else match segs r with
    | [] => [[c]]
    | h :: t => (c :: h) :: t
def partsL : Bytes → Option (List Bytes)
  | [] => none
  | c :: r => if c = 47 ∧ r.length < 64 then (if r = [] then some [] else if (segs r).all (fun x => nameB (bs x)) then some (segs r) else none) else none
def ofL (L : List Bytes) : Bytes := 47 :: [47].intercalate L
end Go.Proofs.YtkhoeiapfoaapaaGreatDoor

namespace Go.Proofs.YtkhoeiapfoaapaaGreatDoor
set_option linter.unusedVariables false
set_option linter.unusedSimpArgs false
open Go.RowKit

theorem below_iter (w : World) (s : ByteArray) (pos : Nat) : Below w.heap.size w (w.iter s pos) := (Below.refl _ w).alloc (Nat.le_refl _) _
theorem bad_cases {c : Nat} (h : badB c = true) : c = 47 ∨ (c < 32 ∧ ¬ c = 47) ∨ (c = 127) ∨ (c = 65533) := by
  simp [badB] at h
  omega
theorem good_not {c : Nat} (h : badB c = false) : ¬ c = 47 ∧ ¬ c < 32 ∧ ¬ c = 127 ∧ ¬ c = 65533 := by
  simp [badB] at h
  omega

set_option maxRecDepth 100000 in
set_option maxHeartbeats 4000000 in
theorem name_walk (s : ByteArray) (r : Bool) (hd : isDot s = false) (hr : goodFrom s s.size 0 = r) (w : World) :
    Calls Tryz.prog 48 #[.string s] w fun e w' => e = .returned (.int .i64 (if r then 0 else 30)) ∧ Below w.heap.size w w' := by
  have h0 : s.toList.isEmpty = false ∧ (s.toList == [46]) = false ∧ (s.toList == [46, 46]) = false := by
    simp only [isDot, Bool.or_eq_false_iff] at hd
    exact ⟨hd.1.1, hd.1.2, hd.2⟩
  obtain ⟨h0, h1, h2⟩ := h0
  have HR := Lib.hid hr
  clear hr hd
  go_enter Tryz.func48, Tryz.ntmps48
  go_wp2
  go_loopw [4] (fun _ w' => ∃ pos b : Nat, w' = w.iter s pos ∧ Hid (goodFrom s b pos = r) ∧ s.size ≤ pos + b) (fun _ w' => s.size - w'.iterPos w.heap.size)
  case atStart => exact ⟨0, s.size, rfl, HR, by omega⟩
  case round =>
    obtain ⟨pos, b, rfl, H, hb⟩ := hrel
    clear HR
    by_cases hp : pos < s.size
    · have hnx : ∀ ty, (Instr.next (.pointer (some ⟨w.heap.size, 0, none⟩)) true ty).run Tryz.prog (w.iter s pos) = _ := fun ty => run_next_any w s pos ty hp
      have hle := decode_le s pos
      have hwd := width_pos s pos hp
      obtain ⟨b, rfl⟩ : ∃ b', b = b' + 1 := ⟨b - 1, by omega⟩
      have H2 := Lib.hid (good_succ s b pos hp ▸ H.out)
      clear H
      generalize (Utf8.decode s pos).1 = c at *
      generalize (Utf8.decode s pos).2 = wd at *
      cases hbad : badB c with
      | true =>
        have hr : r = false := by have := H2.out; rw [hbad] at this; simpa using this.symm
        subst hr
        rcases bad_cases hbad with rfl | ⟨g1, g2⟩ | rfl | rfl
        · clear hbad H2
          go_wp2
          go_ret
          exact ⟨rfl, below_iter w s _⟩
        · clear hbad H2
          have t1 : ((c : Int) == 47) = false := by simp; omega
          go_wp2
          go_ret
          exact ⟨rfl, below_iter w s _⟩
        · clear hbad H2
          go_wp2
          go_ret
          exact ⟨rfl, below_iter w s _⟩
        · clear hbad H2
          go_wp2
          go_ret
          exact ⟨rfl, below_iter w s _⟩
      | false =>
        obtain ⟨g1, g2, g3, g4⟩ := good_not hbad
        have H3 : Hid (goodFrom s b (pos + wd) = r) := Lib.hid (by have := H2.out; rw [hbad] at this; simpa using this)
        clear hbad H2
        have t1 : ((c : Int) == 47) = false := by simp; omega
        have t3 : ((c : Int) == 127) = false := by simp; omega
        have t4 : ((c : Int) == 65533) = false := by simp; omega
        go_wp2
        go_roundw
        case rel => exact ⟨pos + wd, b, rfl, H3, by omega⟩
        case measure =>
          simp
          omega
    · have hnx : ∀ ty, (Instr.next (.pointer (some ⟨w.heap.size, 0, none⟩)) true ty).run Tryz.prog (w.iter s pos) = _ := fun ty => run_next_end w s pos ty hp
      have hr : r = true := by rw [← H.out]; exact good_end s b pos hp
      subst hr
      clear H
      go_wp2
      go_ret
      exact ⟨rfl, below_iter w s _⟩

set_option maxRecDepth 100000 in
theorem name_dot (s : ByteArray) (hd : isDot s = true) (w : World) : Calls Tryz.prog 48 #[.string s] w fun e w' => e = .returned (.int .i64 30) ∧ Below w.heap.size w w' := by
  have hc : s.toList.isEmpty = true ∨ (s.toList.isEmpty = false ∧ (s.toList == [46]) = true) ∨ (s.toList.isEmpty = false ∧ (s.toList == [46]) = false ∧ (s.toList == [46, 46]) = true) := by
    simp only [isDot, Bool.or_eq_true] at hd
    cases h0 : s.toList.isEmpty <;> cases h1 : (s.toList == [46]) <;> simp_all
  clear hd
  rcases hc with h0 | ⟨h0, h1⟩ | ⟨h0, h1, h2⟩
  all_goals
    go_enter Tryz.func48, Tryz.ntmps48
    go_wp2
    go_ret
    exact ⟨rfl, Below.refl _ _⟩

theorem name_any (s : ByteArray) (w : World) : Calls Tryz.prog 48 #[.string s] w fun e w' => e = .returned (.int .i64 (if nameB s then 0 else 30)) ∧ Below w.heap.size w w' := by
  cases hd : isDot s with
  | true =>
    have : nameB s = false := by simp [nameB, hd]
    rw [this]
    exact name_dot s hd w
  | false =>
    have : nameB s = goodFrom s s.size 0 := by simp [nameB, hd]
    rw [this]
    exact name_walk s _ hd rfl w
theorem name_ok (s : ByteArray) (h : nameB s = true) (w : World) : Calls Tryz.prog 48 #[.string s] w fun e w' => e = .returned (.int .i64 0) ∧ Below w.heap.size w w' := by
  have := name_any s w
  rw [h] at this
  exact this
theorem name_bad (s : ByteArray) (h : nameB s = false) (w : World) : Calls Tryz.prog 48 #[.string s] w fun e w' => e = .returned (.int .i64 30) ∧ Below w.heap.size w w' := by
  have := name_any s w
  rw [h] at this
  exact this

theorem closure_any (s : ByteArray) (w : World) : Calls Tryz.prog 47 #[.string s] w fun e w' => e = .returned (.bool (!nameB s)) ∧ Below w.heap.size w w' := by
  cases h : nameB s with
  | true =>
    go_enter Tryz.func47, Tryz.ntmps47
    go_wp2_with (go_at_call 48; refine (name_ok s h _).mono ?_; rintro e w1 ⟨rfl, B1⟩)
    go_ret
    exact ⟨rfl, B1⟩
  | false =>
    go_enter Tryz.func47, Tryz.ntmps47
    go_wp2_with (go_at_call 48; refine (name_bad s h _).mono ?_; rintro e w1 ⟨rfl, B1⟩)
    go_ret
    exact ⟨rfl, B1⟩
end Go.Proofs.YtkhoeiapfoaapaaGreatDoor

namespace Go.Proofs.YtkhoeiapfoaapaaGreatDoor
set_option linter.unusedVariables false
set_option linter.unusedSimpArgs false
open Go.Lib

theorem segs_ne (l : Bytes) : segs l ≠ [] := by
  cases l with
  | nil => simp [segs]
  | cons c r =>
    unfold segs
    split
    · simp
    · split <;> simp
theorem segs_slash (r : Bytes) : segs (47 :: r) = [] :: segs r := by simp [segs]
theorem segs_other (c : UInt8) (r : Bytes) (hc : c ≠ 47) : ∃ h t, segs r = h :: t ∧ segs (c :: r) = (c :: h) :: t := by
  cases hs : segs r with
  | nil => exact absurd hs (segs_ne r)
  | cons h t => exact ⟨h, t, rfl, by simp [segs, hc, hs]⟩

theorem splitK_segs : ∀ (l : Bytes), splitK [47] 0 (count l [47]) l = segs l
  | [] => by
    rw [count_miss (by simp [index])]
    rfl
  | c :: r => by
    by_cases hc : c = 47
    · subst hc
      have hix : index (47 :: r) [47] = ((0 : Nat) : Int) := by rw [index]; simp [List.isPrefixOf]
      rw [count_cons_eq, segs_slash, ← splitK_segs r, Nat.add_comm]
      rw [splitK, hix]
      simp
    · obtain ⟨h, t, e1, e2⟩ := segs_other c r hc
      rw [e2, count_cons_ne c 47 r hc]
      have ih := splitK_segs r
      rw [e1] at ih
      have hp : ([47] : List UInt8).isPrefixOf (c :: r) = false := by simp [List.isPrefixOf, Ne.symm hc]
      have hix : index (c :: r) [47] = if index r [47] == -1 then -1 else index r [47] + 1 := by rw [index, hp]; simp
      cases hk : count r [47] with
      | zero =>
        rw [hk] at ih
        simp only [splitK, List.cons.injEq] at ih ⊢
        exact ⟨by simp [ih.1], ih.2⟩
      | succ k =>
        rw [hk] at ih
        have hne : ¬ index r [47] = -1 := fun e => by rw [count_miss e] at hk; cases hk
        have hge := index_ge r [47]
        obtain ⟨j, hj⟩ : ∃ j : Nat, index r [47] = j := ⟨(index r [47]).toNat, by omega⟩
        have hix' : index (c :: r) [47] = ((j + 1 : Nat) : Int) := by rw [hix, if_neg (fun e => hne (beq_iff_eq.1 e)), hj]; omega
        have h1 : ¬ ((j : Int) == -1) = true := fun e => by have := beq_iff_eq.1 e; omega
        have h2 : ¬ (((j + 1 : Nat) : Int) == -1) = true := fun e => by have := beq_iff_eq.1 e; omega
        rw [splitK, hj, if_neg h1] at ih
        rw [splitK, hix', if_neg h2]
        have t1 : ((j : Nat) : Int).toNat = j := by omega
        have t2 : ((j + 1 : Nat) : Int).toNat = j + 1 := by omega
        rw [t1] at ih
        rw [t2]
        simp only [List.cons.injEq, List.length_cons, List.length_nil, Nat.add_zero, Nat.zero_add] at ih ⊢
        exact ⟨by rw [← ih.1]; rfl, by rw [← ih.2]; rfl⟩

theorem split_segs (s : ByteArray) : (splitB (bs [47]) 0 (countB s (bs [47])) s).map (·.data.toList) = segs s.data.toList := by
  rw [splitB_data]
  have : (bs [47]).data.toList = [47] := rfl
  rw [this]
  exact splitK_segs _
theorem split_map (s : ByteArray) : splitB (bs [47]) 0 (countB s (bs [47])) s = (segs s.data.toList).map bs := by
  rw [← split_segs, List.map_map]
  have : (bs ∘ fun x : ByteArray => x.data.toList) = id := by funext x; exact bs_data x
  rw [this, List.map_id]
theorem split_count (s : ByteArray) : countB s (bs [47]) + 1 = (segs s.data.toList).length := by
  rw [← split_segs, List.length_map]
  exact (splitB_all (bs [47]) (by decide) 0 _ s rfl).symm

/-- No '/' in any piece. -/
theorem segs_free : ∀ (l : Bytes), ∀ x ∈ segs l, (47 : UInt8) ∉ x
  | [], x, hx => by simp [segs] at hx; subst hx; simp
  | c :: r, x, hx => by
    by_cases hc : c = 47
    · subst hc
      rw [segs_slash] at hx
      rcases List.mem_cons.1 hx with rfl | hx
      · simp
      · exact segs_free r x hx
    · obtain ⟨h, t, e1, e2⟩ := segs_other c r hc
      rw [e2] at hx
      rcases List.mem_cons.1 hx with rfl | hx
      · have := segs_free r h (by rw [e1]; simp)
        simp [Ne.symm hc, this]
      · exact segs_free r x (by rw [e1]; simp [hx])

/-- The pieces, each behind a '/', are the text behind a '/'. -/
def slashed (L : List Bytes) : Bytes := (L.map (47 :: ·)).flatten
theorem slashed_segs : ∀ (l : Bytes), slashed (segs l) = 47 :: l
  | [] => rfl
  | c :: r => by
    by_cases hc : c = 47
    · subst hc
      rw [segs_slash]
      have := slashed_segs r
      simp only [slashed, List.map_cons, List.flatten_cons] at this ⊢
      rw [this]
      rfl
    · obtain ⟨h, t, e1, e2⟩ := segs_other c r hc
      have := slashed_segs r
      rw [e1] at this
      rw [e2]
      simp only [slashed, List.map_cons, List.flatten_cons, List.cons_append, List.cons.injEq, true_and] at this ⊢
      rw [this]
theorem segs_append (x : Bytes) (hx : (47 : UInt8) ∉ x) (l : Bytes) : segs (x ++ 47 :: l) = x :: segs l := by
  induction x with
  | nil => exact segs_slash l
  | cons c r ih =>
    have hc : c ≠ 47 := fun e => hx (by simp [e])
    have hr : (47 : UInt8) ∉ r := fun e => hx (by simp [e])
    obtain ⟨h, t, e1, e2⟩ := segs_other c (r ++ 47 :: l) hc
    rw [ih hr] at e1
    simp only [List.cons.injEq] at e1
    rw [List.cons_append, e2, ← e1.1, ← e1.2]
theorem segs_alone (x : Bytes) (hx : (47 : UInt8) ∉ x) : segs x = [x] := by
  induction x with
  | nil => rfl
  | cons c r ih =>
    have hc : c ≠ 47 := fun e => hx (by simp [e])
    have hr : (47 : UInt8) ∉ r := fun e => hx (by simp [e])
    obtain ⟨h, t, e1, e2⟩ := segs_other c r hc
    rw [ih hr] at e1
    simp only [List.cons.injEq] at e1
    rw [e2, ← e1.1, ← e1.2]
/-- Splitting is the inverse of joining. -/
theorem segs_slashed : ∀ (x : Bytes) (L : List Bytes), (∀ y ∈ x :: L, (47 : UInt8) ∉ y) → segs (x ++ slashed L) = x :: L
  | x, [], h => by simpa [slashed] using segs_alone x (h x (by simp))
  | x, y :: L, h => by
    have e : x ++ slashed (y :: L) = x ++ 47 :: (y ++ slashed L) := by simp [slashed]
    rw [e, segs_append x (h x (by simp)), segs_slashed y L (fun z hz => h z (by simp [hz]))]
theorem ofL_cons (x : Bytes) (L : List Bytes) : ofL (x :: L) = slashed (x :: L) := by
  show 47 :: Lib.join (x :: L) [47] = _
  rw [Lib.join_cons]
  have : joinTail [47] L = slashed L := rfl
  rw [this]
  simp [slashed]
theorem ofL_nil : ofL [] = [47] := rfl
end Go.Proofs.YtkhoeiapfoaapaaGreatDoor
