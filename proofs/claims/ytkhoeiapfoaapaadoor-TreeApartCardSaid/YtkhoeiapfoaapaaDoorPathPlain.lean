/-
  Paths, in plain Lean: names, parts, and what is joined. No program in sight.
-/
import GoSem.Core.Utf8
import Derived.Laws.RangeAny
import Derived.Lib.Split
import Derived.Lib.Join
namespace Go.Proofs.YtkhoeiapfoaapaaDoor
set_option linter.unusedVariables false
set_option linter.unusedSimpArgs false
open Go.Lib

abbrev Bytes := List UInt8
def bs (l : Bytes) : ByteArray := ⟨l.toArray⟩
theorem bs_data (s : ByteArray) : bs s.data.toList = s := Lib.mk_data s
theorem data_bs (l : Bytes) : (bs l).data.toList = l := by simp [bs]
theorem toList_bs (l : Bytes) : (bs l).toList = l := by rw [Lib.toList_data, data_bs]
theorem size_bs (l : Bytes) : (bs l).size = l.length := by rw [Lib.size_eq, data_bs]

/-- What may not be in a name. -/
def badB (c : Nat) : Bool := c == 47 || decide (c < 32) || c == 127 || c == 65533
def goodFrom (s : ByteArray) : Nat → Nat → Bool
  | 0, _ => true
  | b + 1, pos => if pos < s.size then !badB (Utf8.decode s pos).1 && goodFrom s b (pos + (Utf8.decode s pos).2) else true
def isDot (s : ByteArray) : Bool := s.toList.isEmpty || s.toList == [46] || s.toList == [46, 46]
def nameB (s : ByteArray) : Bool := !isDot s && goodFrom s s.size 0

theorem width_pos (s : ByteArray) (pos : Nat) (h : pos < s.size) : 1 ≤ (Utf8.decode s pos).2 := by
  by_cases ha : (s[pos]'h).toNat < 128
  · rw [decode_ascii s pos h ha]
    exact Nat.le_refl _
  · exact (decode_high s pos h (by omega)).2
theorem good_end (s : ByteArray) (b pos : Nat) (h : ¬ pos < s.size) : goodFrom s b pos = true := by
  cases b with
  | zero => rfl
  | succ b => simp [goodFrom, h]
theorem good_succ (s : ByteArray) (b pos : Nat) (h : pos < s.size) : goodFrom s (b + 1) pos = (!badB (Utf8.decode s pos).1 && goodFrom s b (pos + (Utf8.decode s pos).2)) := by simp [goodFrom, h]

def segs : Bytes → List Bytes
  | [] => [[]]
  | c :: r => if c = 47 then [] :: segs r else match segs r with
    | [] => [[c]]
    | h :: t => (c :: h) :: t
def partsL : Bytes → Option (List Bytes)
  | [] => none
  | c :: r => if c = 47 ∧ r.length < 64 then (if r = [] then some [] else if (segs r).all (fun x => nameB (bs x)) then some (segs r) else none) else none
def ofL (L : List Bytes) : Bytes := 47 :: [47].intercalate L
end Go.Proofs.YtkhoeiapfoaapaaDoor
