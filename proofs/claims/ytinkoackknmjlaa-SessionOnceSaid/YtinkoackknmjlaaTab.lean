/-
  The session table's contracts: New, Open, Close, Live, Learn, Gone, live.
-/
import Derived.Test.YtinkoackknmjlaaRows
import Derived.Test.YtinkoackknmjlaaMaps
import Derived.WalkKit
import Derived.WalkSpells
import Derived.WalkLawsBesides
import Derived.BigQuiet
import Derived.Deep.QuietTactic
import Derived.Lib.Hide
import Derived.ProofKit
namespace Go.Proofs.Ytinkoackknmjlaa
open Go.RowKit Go.MapKept Go.ChangeMaps
open Go.Maps (Keyed)

theorem Try.own : ownKnob Try.prog.godebug = none := by kernel_rfl
theorem Try.laidOut : laidOutB Try.prog = true := by kernel_rfl
theorem Try.row31 : (31 : TypeId) < Try.prog.types.size := of_decide_eq_true (by kernel_rfl)
theorem Try.wide31 : (match Try.prog.underlying 31 with | some (.array _ _) | some (.struct _) => true | _ => false) = true := by rw [Try.underlying31]
theorem Try.law31 : Keyed Try.prog 31 := Keyed.of_law (deep_law_laid Try.laidOut (m := 2) (by omega) Try.row31 (by kernel_rfl) Try.wide31)
theorem Try.keyType31 : Try.prog.keyType 31 = true := by kernel_rfl
theorem Try.cells31 : Try.prog.cellsOf 31 = 2 := by kernel_rfl
theorem Try.cells3 : Try.prog.cellsOf 3 = 1 := by kernel_rfl
theorem Try.cells26 : Try.prog.cellsOf 26 = 1 := by kernel_rfl
theorem Try.zero4 (w : World) : (zeroValue 4).run Try.prog w = .ok (.bool false) w := by kernel_rfl

def I64 (n : Int) : Prop := -9223372036854775808 ≤ n ∧ n ≤ 9223372036854775807
def U32 (n : Int) : Prop := 0 ≤ n ∧ n ≤ 4294967295
theorem I64.wf {n : Int} (h : I64 n) : (Lit.int .i64 n).wf = true := by
  obtain ⟨h1, h2⟩ := h
  simp [Lit.wf, IntKind.min, IntKind.max, IntKind.signed, IntKind.bits]
  omega
theorem U32.wf {n : Int} (h : U32 n) : (Lit.int .u32 n).wf = true := by
  obtain ⟨h1, h2⟩ := h
  simp [Lit.wf, IntKind.min, IntKind.max, IntKind.signed, IntKind.bits]
  omega

/-- A session as a key. -/
def sk (p : Int × Int) : Value := .agg #[.int .i64 p.1, .int .u32 p.2]
theorem sk_inj : ∀ x y, sk x = sk y → x = y := by
  rintro ⟨a, b⟩ ⟨c, d⟩ h
  simp [sk] at h
  simp [h]
theorem keyLits31 (d : Nat) (x y : Int) (w1 : (Lit.int .i64 x).wf = true) (w2 : (Lit.int .u32 y).wf = true) :
    Try.prog.keyLits (d + 2) 31 [.int .i64 x, .int .u32 y] = some [.int .i64 x, .int .u32 y] := by
  simp [Program.keyLits, Try.underlying31, Try.cells31, Try.cells3, Try.cells26, Try.underlying3, Try.underlying26, w1, w2]
theorem Try.typesSize : Try.prog.types.size = 68 + 2 := by kernel_rfl
theorem sk_key {p : Int × Int} (h1 : I64 p.1) (h2 : U32 p.2) : ∃ l, keyOf Try.prog 31 (sk p) = some l := by
  refine ⟨.string (keyBytes [.int .i64 p.1, .int .u32 p.2]), ?_⟩
  unfold keyOf
  rw [Try.underlying31]
  dsimp only
  rw [Try.keyType31, Try.typesSize, show (68 + 2 + 1 : Nat) = 69 + 2 from rfl, show (sk p).cells.toList = [.int .i64 p.1, .int .u32 p.2] from rfl, keyLits31 69 _ _ h1.wf h2.wf,
    show (sk p).formed Try.prog 31 = true by simp [sk, Value.formed, Try.underlying31, Try.cells31]]
  rfl

/-- THE TABLE t AT BLOCK b, ITS MAP AT BLOCK mb: of a site s, n sessions opened, those of g gone. -/
structure STab (w : World) (b mb : Nat) (s n : Int) (g : List (Int × Int)) : Prop where
  blk : w.heap[b]? = some (.cells #[.int .i64 s, .int .u32 n, .map (some mb)] 50 (0, 0))
  mp : HasMap Try.prog 31 sk Value.bool w mb (g.map (·, true))
end Go.Proofs.Ytinkoackknmjlaa
