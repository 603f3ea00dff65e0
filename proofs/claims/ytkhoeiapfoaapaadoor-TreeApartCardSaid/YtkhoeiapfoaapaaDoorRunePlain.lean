/-
  Go's decoding of a rune, in plain Lean.
-/
import Derived.Test.YtkhoeiapfoaapaaDoorPathUnder
namespace Go.Proofs.YtkhoeiapfoaapaaDoor
set_option linter.unusedVariables false
set_option linter.unusedSimpArgs false
open Go.RowKit

def contB (s : ByteArray) (j : Nat) : Bool := decide (j < s.size) && (s.get! j).toNat / 64 == 2
theorem get_elem (s : ByteArray) (j : Nat) (h : j < s.size) : s.get! j = s[j]'h := by
  have := get_at s j h
  simpa using this
section
variable (s : ByteArray) (i : Nat)
theorem dec_unfold : Utf8.decode s i =
    if (s.get! i).toNat < 0x80 then ((s.get! i).toNat, 1)
    else if ((s.get! i).toNat / 32 == 6 && contB s (i + 1)) = true then
      (if ((s.get! i).toNat % 32) * 64 + (s.get! (i + 1)).toNat % 64 ≥ 0x80 then (((s.get! i).toNat % 32) * 64 + (s.get! (i + 1)).toNat % 64, 2) else (65533, 1))
    else if ((s.get! i).toNat / 16 == 14 && contB s (i + 1) && contB s (i + 2)) = true then
      (if (decide (((s.get! i).toNat % 16) * 4096 + ((s.get! (i + 1)).toNat % 64) * 64 + (s.get! (i + 2)).toNat % 64 ≥ 0x800) && Utf8.valid (((s.get! i).toNat % 16) * 4096 + ((s.get! (i + 1)).toNat % 64) * 64 + (s.get! (i + 2)).toNat % 64 : Nat)) = true
        then (((s.get! i).toNat % 16) * 4096 + ((s.get! (i + 1)).toNat % 64) * 64 + (s.get! (i + 2)).toNat % 64, 3) else (65533, 1))
    else if ((s.get! i).toNat / 8 == 30 && contB s (i + 1) && contB s (i + 2) && contB s (i + 3)) = true then
      (if (decide (((s.get! i).toNat % 8) * 262144 + ((s.get! (i + 1)).toNat % 64) * 4096 + ((s.get! (i + 2)).toNat % 64) * 64 + (s.get! (i + 3)).toNat % 64 ≥ 0x10000) && Utf8.valid (((s.get! i).toNat % 8) * 262144 + ((s.get! (i + 1)).toNat % 64) * 4096 + ((s.get! (i + 2)).toNat % 64) * 64 + (s.get! (i + 3)).toNat % 64 : Nat)) = true
        then (((s.get! i).toNat % 8) * 262144 + ((s.get! (i + 1)).toNat % 64) * 4096 + ((s.get! (i + 2)).toNat % 64) * 64 + (s.get! (i + 3)).toNat % 64, 4) else (65533, 1))
    else (65533, 1) := rfl

end
theorem elem_bs (l : Bytes) (i : Nat) (h : i < (bs l).size) : (bs l)[i]'h = l[i]'(by rw [size_bs] at h; exact h) := by
  simp [bs, ByteArray.getElem_eq_getElem_data]
theorem slashed_succ (L : List Bytes) (k : Nat) (x : Bytes) (hx : L[k]? = some x) : slashed (L.take (k + 1)) = slashed (L.take k) ++ 47 :: x := by
  rw [List.take_add_one, hx]
  simp [slashed]
end Go.Proofs.YtkhoeiapfoaapaaDoor
