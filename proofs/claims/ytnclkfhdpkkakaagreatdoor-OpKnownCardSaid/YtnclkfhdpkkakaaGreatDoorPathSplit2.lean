/-
  Paths, in plain Lean: names, parts, and what is joined. No program in sight.
  The program's path.Name, walked: the document's names.
  Splitting at '/': the library's splitting is the plain one; joining is its inverse.
  The program's split of a path, walked: cut at '/', each piece a name.
  The program's split of a path, walked.
-/
import GoSem.Core.Utf8
import Derived.Laws.RangeAny
import Derived.Lib.Split
import Derived.Lib.Join
import Derived.Test.YtnclkfhdpkkakaaGreatDoorChecked
import Derived.WalkKit
import Derived.Lib.Hide
import Derived.Laws.RangeString
import Derived.Outline
import Derived.Lib.SplitLaws
import Derived.Test.YtnclkfhdpkkakaaGreatDoorShelf
namespace Go.Proofs.YtnclkfhdpkkakaaGreatDoor
set_option linter.unusedVariables false
set_option linter.unusedSimpArgs false
open Go.Lib

abbrev Bytes := List UInt8
def bs (l : Bytes) : ByteArray := ⟨l.toArray⟩
theorem bs_data (s : ByteArray) : bs s.data.toList = s := Lib.mk_data s
theorem data_bs (l : Bytes) : (bs l).data.toList = l := by simp [bs]
theorem toList_bs (l : Bytes) : (bs l).toList = l := by rw [Lib.toList_data, data_bs]
theorem size_bs (l : Bytes) : (bs l).size = l.length := by rw [Lib.size_eq, data_bs]

/-- What may not be in a name. -/
def badB (c : Nat) : Bool := c == 47 || decide (c < 32) || c == 127 || c == 65533
def goodFrom (s : ByteArray) : Nat → Nat → Bool
  | 0, _ => true
  | b + 1, pos => if pos < s.size then !badB (Utf8.decode s pos).1 && goodFrom s b (pos + (Utf8.decode s pos).2) else true
def isDot (s : ByteArray) : Bool := s.toList.isEmpty || s.toList == [46] || s.toList == [46, 46]
def nameB (s : ByteArray) : Bool := !isDot s && goodFrom s s.size 0

theorem width_pos (s : ByteArray) (pos : Nat) (h : pos < s.size) : 1 ≤ (Utf8.decode s pos).2 := by
  by_cases ha : (s[pos]'h).toNat < 128
  · rw [decode_ascii s pos h ha]
    exact Nat.le_refl _
  · exact (decode_high s pos h (by omega)).2
theorem good_end (s : ByteArray) (b pos : Nat) (h : ¬ pos < s.size) : goodFrom s b pos = true := by
  cases b with
  | zero => rfl
  | succ b => simp [goodFrom, h]
theorem good_succ (s : ByteArray) (b pos : Nat) (h : pos < s.size) : goodFrom s (b + 1) pos = (!badB (Utf8.decode s pos).1 && goodFrom s b (pos + (Utf8.decode s pos).2)) := by simp [goodFrom, h]

def segs : Bytes → List Bytes
  | [] => [[]]
  | c :: r => if c = 47 then [] :: segs r else match segs r with
    | [] => [[c]]
    | h :: t => (c :: h) :: t
def partsL : Bytes → Option (List Bytes)
  | [] => none
  | c :: r => if c = 47 ∧ r.length < 64 then (if r = [] then some [] else if (segs r).all (fun x => nameB (bs x)) then some (segs r) else none) else none
def ofL (L : List Bytes) : Bytes := 47 :: [47].intercalate L
end Go.Proofs.YtnclkfhdpkkakaaGreatDoor

namespace Go.Proofs.YtnclkfhdpkkakaaGreatDoor
set_option linter.unusedVariables false
set_option linter.unusedSimpArgs false
open Go.RowKit

theorem below_iter (w : World) (s : ByteArray) (pos : Nat) : Below w.heap.size w (w.iter s pos) := (Below.refl _ w).alloc (Nat.le_refl _) _
theorem bad_cases {c : Nat} (h : badB c = true) : c = 47 ∨ (c < 32 ∧ ¬ c = 47) ∨ (c = 127) ∨ (c = 65533) := by
  simp [badB] at h
  omega
theorem good_not {c : Nat} (h : badB c = false) : ¬ c = 47 ∧ ¬ c < 32 ∧ ¬ c = 127 ∧ ¬ c = 65533 := by
  simp [badB] at h
  omega

set_option maxRecDepth 100000 in
set_option maxHeartbeats 4000000 in
theorem name_walk (s : ByteArray) (r : Bool) (hd : isDot s = false) (hr : goodFrom s s.size 0 = r) (w : World) :
    Calls Tryz.prog 66 #[.string s] w fun e w' => e = .returned (.int .i64 (if r then 0 else 30)) ∧ Below w.heap.size w w' := by
  have h0 : s.toList.isEmpty = false ∧ (s.toList == [46]) = false ∧ (s.toList == [46, 46]) = false := by
    simp only [isDot, Bool.or_eq_false_iff] at hd
    exact ⟨hd.1.1, hd.1.2, hd.2⟩
  obtain ⟨h0, h1, h2⟩ := h0
  have HR := Lib.hid hr
  clear hr hd
  go_enter Tryz.func66, Tryz.ntmps66
  go_wp2
  go_loopw [4] (fun _ w' => ∃ pos b : Nat, w' = w.iter s pos ∧ Hid (goodFrom s b pos = r) ∧ s.size ≤ pos + b) (fun _ w' => s.size - w'.iterPos w.heap.size)
  case atStart => exact ⟨0, s.size, rfl, HR, by omega⟩
  case round =>
    obtain ⟨pos, b, rfl, H, hb⟩ := hrel
    clear HR
    by_cases hp : pos < s.size
    · have hnx : ∀ ty, (Instr.next (.pointer (some ⟨w.heap.size, 0, none⟩)) true ty).run Tryz.prog (w.iter s pos) = _ := fun ty => run_next_any w s pos ty hp
      have hle := decode_le s pos
      have hwd := width_pos s pos hp
      obtain ⟨b, rfl⟩ : ∃ b', b = b' + 1 := ⟨b - 1, by omega⟩
      have H2 := Lib.hid (good_succ s b pos hp ▸ H.out)
      clear H
      generalize (Utf8.decode s pos).1 = c at *
      generalize (Utf8.decode s pos).2 = wd at *
      cases hbad : badB c with
      | true =>
        have hr : r = false := by have := H2.out; rw [hbad] at this; simpa using this.symm
        subst hr
        rcases bad_cases hbad with rfl | ⟨g1, g2⟩ | rfl | rfl
        · clear hbad H2
          go_wp2
          go_ret
          exact ⟨rfl, below_iter w s _⟩
        · clear hbad H2
          have t1 : ((c : Int) == 47) = false := by simp; omega
          go_wp2
          go_ret
          exact ⟨rfl, below_iter w s _⟩
        · clear hbad H2
          go_wp2
          go_ret
          exact ⟨rfl, below_iter w s _⟩
        · clear hbad H2
          go_wp2
          go_ret
          exact ⟨rfl, below_iter w s _⟩
      | false =>
        obtain ⟨g1, g2, g3, g4⟩ := good_not hbad
        have H3 : Hid (goodFrom s b (pos + wd) = r) := Lib.hid (by have := H2.out; rw [hbad] at this; simpa using this)
        clear hbad H2
        have t1 : ((c : Int) == 47) = false := by simp; omega
        have t3 : ((c : Int) == 127) = false := by simp; omega
        have t4 : ((c : Int) == 65533) = false := by simp; omega
        go_wp2
        go_roundw
        case rel => exact ⟨pos + wd, b, rfl, H3, by omega⟩
        case measure =>
          simp
          omega
    · have hnx : ∀ ty, (Instr.next (.pointer (some ⟨w.heap.size, 0, none⟩)) true ty).run Tryz.prog (w.iter s pos) = _ := fun ty => run_next_end w s pos ty hp
      have hr : r = true := by rw [← H.out]; exact good_end s b pos hp
      subst hr
      clear H
      go_wp2
      go_ret
      exact ⟨rfl, below_iter w s _⟩

set_option maxRecDepth 100000 in
theorem name_dot (s : ByteArray) (hd : isDot s = true) (w : World) : Calls Tryz.prog 66 #[.string s] w fun e w' => e = .returned (.int .i64 30) ∧ Below w.heap.size w w' := by
  have hc : s.toList.isEmpty = true ∨ (s.toList.isEmpty = false ∧ (s.toList == [46]) = true) ∨ (s.toList.isEmpty = false ∧ (s.toList == [46]) = false ∧ (s.toList == [46, 46]) = true) := by
    simp only [isDot, Bool.or_eq_true] at hd
    cases h0 : s.toList.isEmpty <;> cases h1 : (s.toList == [46]) <;> simp_all
  clear hd
  rcases hc with h0 | ⟨h0, h1⟩ | ⟨h0, h1, h2⟩
  all_goals
    go_enter Tryz.func66, Tryz.ntmps66
    go_wp2
    go_ret
    exact ⟨rfl, Below.refl _ _⟩

theorem name_any (s : ByteArray) (w : World) : Calls Tryz.prog 66 #[.string s] w fun e w' => e = .returned (.int .i64 (if nameB s then 0 else 30)) ∧ Below w.heap.size w w' := by
  cases hd : isDot s with
  | true =>
    have : nameB s = false := by simp [nameB, hd]
    rw [this]
    exact name_dot s hd w
  | false =>
    have : nameB s = goodFrom s s.size 0 := by simp [nameB, hd]
    rw [this]
    exact name_walk s _ hd rfl w
theorem name_ok (s : ByteArray) (h : nameB s = true) (w : World) : Calls Tryz.prog 66 #[.string s] w fun e w' => e = .returned (.int .i64 0) ∧ Below w.heap.size w w' := by
  have := name_any s w
  rw [h] at this
  exact this
theorem name_bad (s : ByteArray) (h : nameB s = false) (w : World) : Calls Tryz.prog 66 #[.string s] w fun e w' => e = .returned (.int .i64 30) ∧ Below w.heap.size w w' := by
  have := name_any s w
  rw [h] at this
  exact this

theorem closure_any (s : ByteArray) (w : World) : Calls Tryz.prog 65 #[.string s] w fun e w' => e = .returned (.bool (!nameB s)) ∧ Below w.heap.size w w' := by
  cases h : nameB s with
  | true =>
    go_enter Tryz.func65, Tryz.ntmps65
    go_wp2_with (go_at_call 66; refine (name_ok s h _).mono ?_; rintro e w1 ⟨rfl, B1⟩)
    go_ret
    exact ⟨rfl, B1⟩
  | false =>
    go_enter Tryz.func65, Tryz.ntmps65
    go_wp2_with (go_at_call 66; refine (name_bad s h _).mono ?_; rintro e w1 ⟨rfl, B1⟩)
    go_ret
    exact ⟨rfl, B1⟩
end Go.Proofs.YtnclkfhdpkkakaaGreatDoor

namespace Go.Proofs.YtnclkfhdpkkakaaGreatDoor
set_option linter.unusedVariables false
set_option linter.unusedSimpArgs false
open Go.Lib

theorem segs_ne (l : Bytes) : segs l ≠ [] := by
  cases l with
  | nil => simp [segs]
  | cons c r =>
    unfold segs
    split
    · simp
    · split <;> simp
theorem segs_slash (r : Bytes) : segs (47 :: r) = [] :: segs r := by simp [segs]
theorem segs_other (c : UInt8) (r : Bytes) (hc : c ≠ 47) : ∃ h t, segs r = h :: t ∧ segs (c :: r) = (c :: h) :: t := by
  cases hs : segs r with
  | nil => exact absurd hs (segs_ne r)
  | cons h t => exact ⟨h, t, rfl, by simp [segs, hc, hs]⟩

theorem splitK_segs : ∀ (l : Bytes), splitK [47] 0 (count l [47]) l = segs l
  | [] => by
    rw [count_miss (by simp [index])]
    rfl
  | c :: r => by
    by_cases hc : c = 47
    · subst hc
      have hix : index (47 :: r) [47] = ((0 : Nat) : Int) := by rw [index]; simp [List.isPrefixOf]
      rw [count_cons_eq, segs_slash, ← splitK_segs r, Nat.add_comm]
      rw [splitK, hix]
      simp
    · obtain ⟨h, t, e1, e2⟩ := segs_other c r hc
      rw [e2, count_cons_ne c 47 r hc]
      have ih := splitK_segs r
      rw [e1] at ih
      have hp : ([47] : List UInt8).isPrefixOf (c :: r) = false := by simp [List.isPrefixOf, Ne.symm hc]
      have hix : index (c :: r) [47] = if index r [47] == -1 then -1 else index r [47] + 1 := by rw [index, hp]; simp
      cases hk : count r [47] with
      | zero =>
        rw [hk] at ih
        simp only [splitK, List.cons.injEq] at ih ⊢
        exact ⟨by simp [ih.1], ih.2⟩
      | succ k =>
        rw [hk] at ih
        have hne : ¬ index r [47] = -1 := fun e => by rw [count_miss e] at hk; cases hk
        have hge := index_ge r [47]
        obtain ⟨j, hj⟩ : ∃ j : Nat, index r [47] = j := ⟨(index r [47]).toNat, by omega⟩
        have hix' : index (c :: r) [47] = ((j + 1 : Nat) : Int) := by rw [hix, if_neg (fun e => hne (beq_iff_eq.1 e)), hj]; omega
        have h1 : ¬ ((j : Int) == -1) = true := fun e => by have := beq_iff_eq.1 e; omega
        have h2 : ¬ (((j + 1 : Nat) : Int) == -1) = true := fun e => by have := beq_iff_eq.1 e; omega
        rw [splitK, hj, if_neg h1] at ih
        rw [splitK, hix', if_neg h2]
        have t1 : ((j : Nat) : Int).toNat = j := by omega
        have t2 : ((j + 1 : Nat) : Int).toNat = j + 1 := by omega
        rw [t1] at ih
        rw [t2]
        simp only [List.cons.injEq, List.length_cons, List.length_nil, Nat.add_zero, Nat.zero_add] at ih ⊢
        exact ⟨by rw [← ih.1]; rfl, by rw [← ih.2]; rfl⟩

theorem split_segs (s : ByteArray) : (splitB (bs [47]) 0 (countB s (bs [47])) s).map (·.data.toList) = segs s.data.toList := by
  rw [splitB_data]
  have : (bs [47]).data.toList = [47] := rfl
  rw [this]
  exact splitK_segs _
theorem split_map (s : ByteArray) : splitB (bs [47]) 0 (countB s (bs [47])) s = (segs s.data.toList).map bs := by
  rw [← split_segs, List.map_map]
  have : (bs ∘ fun x : ByteArray => x.data.toList) = id := by funext x; exact bs_data x
  rw [this, List.map_id]
theorem split_count (s : ByteArray) : countB s (bs [47]) + 1 = (segs s.data.toList).length := by
  rw [← split_segs, List.length_map]
  exact (splitB_all (bs [47]) (by decide) 0 _ s rfl).symm

/-- No '/' in any piece. -/
theorem segs_free : ∀ (l : Bytes), ∀ x ∈ segs l, (47 : UInt8) ∉ x
  | [], x, hx => by simp [segs] at hx; subst hx; simp
  | c :: r, x, hx => by
    by_cases hc : c = 47
    · subst hc
      rw [segs_slash] at hx
      rcases List.mem_cons.1 hx with rfl | hx
      · simp
      · exact segs_free r x hx
    · obtain ⟨h, t, e1, e2⟩ := segs_other c r hc
      rw [e2] at hx
      rcases List.mem_cons.1 hx with rfl | hx
      · have := segs_free r h (by rw [e1]; simp)
        simp [Ne.symm hc, this]
      · exact segs_free r x (by rw [e1]; simp [hx])

/-- The pieces, each behind a '/', are the text behind a '/'. -/
def slashed (L : List Bytes) : Bytes := (L.map (47 :: ·)).flatten
theorem slashed_segs : ∀ (l : Bytes), slashed (segs l) = 47 :: l
  | [] => rfl
  | c :: r => by
    by_cases hc : c = 47
    · subst hc
      rw [segs_slash]
      have := slashed_segs r
      simp only [slashed, List.map_cons, List.flatten_cons] at this ⊢
      rw [this]
      rfl
    · obtain ⟨h, t, e1, e2⟩ := segs_other c r hc
      have := slashed_segs r
      rw [e1] at this
      rw [e2]
      simp only [slashed, List.map_cons, List.flatten_cons, List.cons_append, List.cons.injEq, true_and] at this ⊢
      rw [this]
theorem segs_append (x : Bytes) (hx : (47 : UInt8) ∉ x) (l : Bytes) : segs (x ++ 47 :: l) = x :: segs l := by
  induction x with
  | nil => exact segs_slash l
  | cons c r ih =>
    have hc : c ≠ 47 := fun e => hx (by simp [e])
    have hr : (47 : UInt8) ∉ r := fun e => hx (by simp [e])
    obtain ⟨h, t, e1, e2⟩ := segs_other c (r ++ 47 :: l) hc
    rw [ih hr] at e1
    simp only [List.cons.injEq] at e1
    rw [List.cons_append, e2, ← e1.1, ← e1.2]
theorem segs_alone (x : Bytes) (hx : (47 : UInt8) ∉ x) : segs x = [x] := by
  induction x with
  | nil => rfl
  | cons c r ih =>
    have hc : c ≠ 47 := fun e => hx (by simp [e])
    have hr : (47 : UInt8) ∉ r := fun e => hx (by simp [e])
    obtain ⟨h, t, e1, e2⟩ := segs_other c r hc
    rw [ih hr] at e1
    simp only [List.cons.injEq] at e1
    rw [e2, ← e1.1, ← e1.2]
/-- Splitting is the inverse of joining. -/
theorem segs_slashed : ∀ (x : Bytes) (L : List Bytes), (∀ y ∈ x :: L, (47 : UInt8) ∉ y) → segs (x ++ slashed L) = x :: L
  | x, [], h => by simpa [slashed] using segs_alone x (h x (by simp))
  | x, y :: L, h => by
    have e : x ++ slashed (y :: L) = x ++ 47 :: (y ++ slashed L) := by simp [slashed]
    rw [e, segs_append x (h x (by simp)), segs_slashed y L (fun z hz => h z (by simp [hz]))]
theorem ofL_cons (x : Bytes) (L : List Bytes) : ofL (x :: L) = slashed (x :: L) := by
  show 47 :: Lib.join (x :: L) [47] = _
  rw [Lib.join_cons]
  have : joinTail [47] L = slashed L := rfl
  rw [this]
  simp [slashed]
theorem ofL_nil : ofL [] = [47] := rfl
end Go.Proofs.YtnclkfhdpkkakaaGreatDoor

namespace Go.Proofs.YtnclkfhdpkkakaaGreatDoor
set_option linter.unusedVariables false
set_option linter.unusedSimpArgs false
open Go.RowKit

def okName (x : Bytes) : Bool := nameB (bs x)
def firstBad (L : List Bytes) : Int := if L.all okName then -1 else ((L.findIdx fun x => !okName x : Nat) : Int)
theorem firstBad_sign (L : List Bytes) : decide (0 ≤ firstBad L) = !L.all okName := by
  unfold firstBad
  cases h : L.all okName <;> simp
theorem firstBad_hit (L : List Bytes) (k : Nat) (x : Bytes) (hx : L[k]? = some x) (hb : okName x = false) (hg : ∀ j y, j < k → L[j]? = some y → okName y = true) : firstBad L = k := by
  obtain ⟨hk, rfl⟩ := List.getElem?_eq_some_iff.1 hx
  have h1 : L.all okName = false := by
    rw [List.all_eq_false]
    exact ⟨_, List.getElem_mem hk, by simp [hb]⟩
  unfold firstBad
  rw [if_neg (by simp [h1])]
  have : L.findIdx (fun x => !okName x) = k := by
    rw [List.findIdx_eq hk]
    exact ⟨by simp [hb], fun j hj => by simp [hg j _ hj (List.getElem?_eq_getElem (by omega))]⟩
  rw [this]
theorem firstBad_miss (L : List Bytes) (hg : ∀ j y, j < L.length → L[j]? = some y → okName y = true) : firstBad L = -1 := by
  have h1 : L.all okName = true := by
    rw [List.all_eq_true]
    intro x hx
    obtain ⟨j, hj, rfl⟩ := List.mem_iff_getElem.1 hx
    exact hg j _ hj (List.getElem?_eq_getElem hj)
  unfold firstBad
  rw [if_pos h1]

/-- The cells of a list of texts. -/
def StrsAt (w : World) (b off : Nat) (L : List Bytes) : Prop := ∀ j x, L[j]? = some x → w.cell? ⟨b, off + j, none⟩ = some (.string (bs x))
theorem StrsAt.kept {w w' : World} {b off B : Nat} {L : List Bytes} (h : StrsAt w b off L) (hb : Below B w w') (hlt : b < B) : StrsAt w' b off L :=
  fun j x hx => (hb.cell (p := ⟨b, off + j, none⟩) hlt).trans (h j x hx)

set_option maxRecDepth 100000 in
set_option maxHeartbeats 4000000 in
theorem indexFunc_any (b off c : Nat) (L : List Bytes) (w : World) (hb : b < w.heap.size) (hbig : L.length ≤ 1000) (hc : StrsAt w b off L) :
    Calls Tryz.prog 93 #[.slice (some ⟨b, off, none⟩) L.length c, .func (.func 65) #[] #[]] w fun e w' => e = .returned (.int .i64 (firstBad L)) ∧ Below w.heap.size w w' := by
  have HC := Lib.hid hc
  clear hc
  obtain ⟨N, hN⟩ : ∃ N, N = L.length := ⟨_, rfl⟩
  have HN := Lib.hid hN
  rw [← hN] at hbig ⊢
  clear hN
  go_enter Tryz.func93, Tryz.ntmps93
  go_wp2
  go_loopw [5, 8] (fun _ i wr => ∃ k : Nat, k ≤ N ∧ i = .int .i64 k ∧ Hid (∀ j y, j < k → L[j]? = some y → okName y = true) ∧ Below w.heap.size w wr) (fun _ i _ => N - (intOf i).toNat)
  case atStart => exact ⟨0, by omega, rfl, Lib.hid (fun _ _ h => absurd h (Nat.not_lt_zero _)), Below.refl _ _⟩
  case round =>
    obtain ⟨k, hk, rfl, HG, hB⟩ := hrel
    have HB := Lib.hid hB
    by_cases hlt : k < N
    · obtain ⟨x, hx⟩ : ∃ x, L[k]? = some x := ⟨_, List.getElem?_eq_getElem (by rw [← HN.out]; exact hlt)⟩
      have hcell : wr.cell? ⟨b, off + k, none⟩ = some (.string (bs x)) := (hB.cell (p := ⟨b, off + k, none⟩) hb).trans (HC.out k x hx)
      have HX := Lib.hid hx
      have hcl := closure_any (bs x)
      clear hx hB
      cases ho : nameB (bs x) with
      | true =>
        rw [ho] at hcl
        have HO := Lib.hid ho
        clear ho
        go_wp2_with (go_at_call 65; refine (hcl _).mono ?_; rintro e w1 ⟨rfl, B1⟩)
        have HB1 := Lib.hid (HB.out.trans (B1.mono HB.out.size))
        clear B1
        go_roundw
        case rel =>
          refine ⟨k + 1, by omega, by go_num, Lib.hid fun j y hj hy => ?_, HB1.out⟩
          by_cases e : j = k
          · subst e
            have := HX.out
            rw [hy] at this
            cases this
            exact HO.out
          · exact HG.out j y (by omega) hy
        case measure => simp [intOf]; omega
      | false =>
        rw [ho] at hcl
        have HF := Lib.hid (firstBad_hit L k x HX.out ho HG.out)
        clear ho
        go_wp2_with (go_at_call 65; refine (hcl _).mono ?_; rintro e w1 ⟨rfl, B1⟩)
        have HB1 := Lib.hid (HB.out.trans (B1.mono HB.out.size))
        clear B1
        go_ret
        exact ⟨by rw [HF.out]; rfl, HB1.out⟩
    · obtain rfl : k = N := by omega
      have HF := Lib.hid (firstBad_miss L (fun j y hj hy => HG.out j y (by rw [HN.out]; exact hj) hy))
      clear hB
      go_wp2
      go_ret
      exact ⟨by rw [HF.out]; rfl, HB.out⟩

set_option maxRecDepth 100000 in
theorem containsFunc_any (b off c : Nat) (L : List Bytes) (w : World) (hb : b < w.heap.size) (hbig : L.length ≤ 1000) (hc : StrsAt w b off L) :
    Calls Tryz.prog 64 #[.slice (some ⟨b, off, none⟩) L.length c, .func (.func 65) #[] #[]] w fun e w' => e = .returned (.bool (!L.all okName)) ∧ Below w.heap.size w w' := by
  have hi := indexFunc_any b off c L w hb hbig hc
  rw [← firstBad_sign]
  clear hc
  generalize firstBad L = i at *
  go_enter Tryz.func64, Tryz.ntmps64
  go_wp2_with (go_at_call 93; refine hi.mono ?_; rintro e w1 ⟨rfl, B1⟩)
  go_ret
  exact ⟨rfl, B1⟩
end Go.Proofs.YtnclkfhdpkkakaaGreatDoor

namespace Go.Proofs.YtnclkfhdpkkakaaGreatDoor
set_option linter.unusedVariables false
set_option linter.unusedSimpArgs false
open Go.RowKit

/-- The library's variable internal/bytealg.MaxLen holds some number. -/
def MaxInt (w : World) : Prop := ∃ m, w.cell? ⟨0, 0, none⟩ = some (.int .i64 m)
theorem MaxInt.kept {w w' : World} (h : MaxInt w) (hb : Below w.heap.size w w') : MaxInt w' := by
  obtain ⟨m, hm⟩ := h
  exact ⟨m, (hb.cell (p := ⟨0, 0, none⟩) (World.block_lt_of_cell? w _ hm)).trans hm⟩

/-- A block of texts. -/
def BlkS (w : World) (g : Nat) (L : List Bytes) : Prop := w.heap[g]? = some (.cells (L.map fun x => Value.string (bs x)).toArray 9 (0, 0))
theorem BlkS.lt {w : World} {g : Nat} {L : List Bytes} (h : BlkS w g L) : g < w.heap.size := (Array.getElem?_eq_some_iff.1 h).1
theorem BlkS.at {w : World} {g : Nat} {L : List Bytes} (h : BlkS w g L) : StrsAt w g 0 L := by
  intro j x hx
  rw [Nat.zero_add]
  unfold BlkS at h
  simp [World.cell?, h, hx]
theorem BlkS.kept {w w' : World} {g B : Nat} {L : List Bytes} (h : BlkS w g L) (hb : Below B w w') (hlt : g < B) : BlkS w' g L := by
  unfold BlkS at *
  rw [hb.block g hlt]
  exact h
theorem BlkS.owns {w : World} {g base : Nat} {L : List Bytes} (h : BlkS w g L) (hb : base ≤ g) (hl : L.length ≤ maxLen) :
    w.ownsRow base 9 1 (.slice (some ⟨g, 0, none⟩) L.length L.length) L.length (L.map fun x => Value.string (bs x)) :=
  ⟨by simp, .inr ⟨g, L.length, _, rfl, hb, h, Nat.le_refl _, hl, by simp, List.take_of_length_le (by simp)⟩⟩
theorem blk_new (w : World) (L : List Bytes) : BlkS (w.alloc (.cells (L.map fun x => Value.string (bs x)).toArray 9)) w.heap.size L := heap_alloc_new w _

theorem has_slash (r : Bytes) : Lib.hasPrefix (bs (47 :: r)).data.toList (⟨#[47]⟩ : ByteArray).data.toList = true := by
  rw [data_bs]; rfl
theorem trim_slash (r : Bytes) : (⟨(Lib.trimPrefix (bs (47 :: r)).data.toList (⟨#[47]⟩ : ByteArray).data.toList).toArray⟩ : ByteArray) = bs r := by
  rw [data_bs]; rfl
theorem no_slash (l : Bytes) (h : ∀ r, l ≠ 47 :: r) : Lib.hasPrefix (bs l).data.toList (⟨#[47]⟩ : ByteArray).data.toList = false := by
  rw [data_bs]
  cases l with
  | nil => rfl
  | cons c r =>
    have hc : c ≠ 47 := fun e => h r (by rw [e])
    simp [Lib.hasPrefix, List.isPrefixOf, Ne.symm hc]

def SplitBad (w : World) (e : Ending) (w' : World) : Prop := ∃ v, e = .returned (.tuple #[v, .bool false]) ∧ Below w.heap.size w w'

set_option maxRecDepth 100000 in
theorem split_noslash (l : Bytes) (h : ∀ r, l ≠ 47 :: r) (w : World) : Calls Tryz.prog 39 #[.string (bs l)] w (SplitBad w) := by
  have hcp := Tryz.strings_CutPrefix (bs l) ⟨#[47]⟩
  rw [no_slash l h] at hcp
  clear h
  generalize (⟨(Lib.trimPrefix (bs l).data.toList (⟨#[47]⟩ : ByteArray).data.toList).toArray⟩ : ByteArray) = t at hcp
  go_enter Tryz.func39, Tryz.ntmps39
  go_wp2_with (go_at_call 62; refine (hcp _).mono ?_; rintro e w1 ⟨rfl, hw1⟩; subst w1)
  go_ret2
  exact ⟨_, rfl, Below.refl _ _⟩

set_option maxRecDepth 100000 in
theorem split_long (r : Bytes) (h : 64 < (bs (47 :: r)).size) (hm : (bs (47 :: r)).size ≤ 9223372036854775807) (w : World) : Calls Tryz.prog 39 #[.string (bs (47 :: r))] w (SplitBad w) := by
  have hcp := Tryz.strings_CutPrefix (bs (47 :: r)) ⟨#[47]⟩
  rw [has_slash, trim_slash] at hcp
  go_enter Tryz.func39, Tryz.ntmps39
  go_wp2_with (go_at_call 62; refine (hcp _).mono ?_; rintro e w1 ⟨rfl, hw1⟩; subst w1)
  go_ret2
  exact ⟨_, rfl, Below.refl _ _⟩

set_option maxRecDepth 100000 in
theorem split_root (w : World) : Calls Tryz.prog 39 #[.string (bs [47])] w fun e w' => e = .returned (.tuple #[.slice none 0 0, .bool true]) ∧ w = w' := by
  have hcp := Tryz.strings_CutPrefix (bs [47]) ⟨#[47]⟩
  rw [has_slash, trim_slash] at hcp
  have h1 : (bs [47]).size ≤ 64 := by decide
  have h2 : (bs []).toList.isEmpty = true := by rw [toList_bs]; rfl
  go_enter Tryz.func39, Tryz.ntmps39
  go_wp2_with (go_at_call 62; refine (hcp _).mono ?_; rintro e w1 ⟨rfl, hw1⟩; subst w1)
  go_ret2
  exact ⟨rfl, rfl⟩

set_option maxRecDepth 100000 in
set_option maxHeartbeats 1000000 in
theorem split_more (r : Bytes) (ok : Bool) (hr : r ≠ []) (hlen : (bs (47 :: r)).size ≤ 64) (hok : (segs r).all okName = ok) (w : World) (hm : MaxInt w) :
    Calls Tryz.prog 39 #[.string (bs (47 :: r))] w fun e w' => e = .returned (.tuple #[.slice (some ⟨w.heap.size, 0, none⟩) (segs r).length (segs r).length, .bool ok]) ∧ BlkS w' w.heap.size (segs r) ∧ Below w.heap.size w w' := by
  obtain ⟨m, hm⟩ := hm
  have hcp := Tryz.strings_CutPrefix (bs (47 :: r)) ⟨#[47]⟩
  rw [has_slash, trim_slash] at hcp
  have hrl : r.length < 64 := by rw [size_bs] at hlen; simp at hlen; omega
  have hne : (bs r).toList.isEmpty = false := by rw [toList_bs]; cases r <;> simp_all
  have hsp := Tryz.strings_Split (bs r) ⟨#[47]⟩ m w (by rw [size_bs]; omega) hm (by decide)
  have e1 : (⟨#[47]⟩ : ByteArray) = bs [47] := rfl
  rw [e1, split_map, split_count, data_bs, List.map_map, show (Value.string ∘ bs) = fun x => Value.string (bs x) from rfl] at hsp
  have hseg : (segs r).length ≤ 1000 := by
    rw [← data_bs r, ← split_count]
    have := Lib.countB_le (bs [47]) (by decide) (bs r).size (bs r) (Nat.le_refl _)
    rw [size_bs] at this
    omega
  have hcf := fun (W : World) (hb : BlkS W w.heap.size (segs r)) => containsFunc_any w.heap.size 0 (segs r).length (segs r) W hb.lt hseg hb.at
  rw [hok] at hcf
  have HF := Lib.hid hcf
  have HB := Lib.hid (blk_new w (segs r))
  clear hcf hm hok hr hseg
  generalize segs r = L at *
  go_enter Tryz.func39, Tryz.ntmps39
  go_wp2_with (first
    | (go_at_call 62; refine (hcp _).mono ?_; rintro e w1 ⟨rfl, hw1⟩; subst w1)
    | (go_at_call 63; refine hsp.mono ?_; rintro e w2 ⟨rfl, hw2⟩; subst w2)
    | fail)
  refine (HF.out _ HB.out).mono ?_
  rintro e w3 ⟨rfl, B3⟩
  have hB : BlkS w3 w.heap.size L := HB.out.kept B3 HB.out.lt
  have hBl : Below w.heap.size w w3 := ((Below.refl _ w).alloc (Nat.le_refl _) _).trans (B3.mono (by simp))
  have X := Lib.hid (And.intro hB hBl)
  clear B3 hB hBl
  go_wp2
  go_ret2
  exact ⟨by simp, X.out.1, X.out.2⟩
end Go.Proofs.YtnclkfhdpkkakaaGreatDoor
