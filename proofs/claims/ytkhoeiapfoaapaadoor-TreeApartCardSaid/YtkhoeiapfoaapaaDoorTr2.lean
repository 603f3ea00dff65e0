/-
  Trees as blocks of memory: the map's raw nodes read as nodes; Root, At, walked.
-/
import Derived.Test.YtkhoeiapfoaapaaDoorTr1
import Derived.StringKeys
namespace Go.Proofs.YtkhoeiapfoaapaaDoor
set_option linter.unusedVariables false
set_option linter.unusedSimpArgs false
set_option linter.unusedVariables false
set_option linter.unusedSimpArgs false
open Go Go.RowKit Go.Shelf Go.MapKept Go.ChangeMaps
open Go.Maps (Keyed)

theorem sv_inj : ∀ x y, sv x = sv y → x = y := fun x y h => by
  unfold sv at h
  injection h with h
  exact bs_inj h
theorem keyStr : Keyed Tryd.prog 9 := Maps.string_keyed Tryd.underlying9
theorem sv_key {p : Bytes} (h : p.length ≤ maxLen) : ∃ l, keyOf Tryd.prog 9 (sv p) = some l := ⟨_, WideMaps.keyOf_string_mk Tryd.underlying9 (by rw [size_bs]; exact h)⟩
/-- Raw nodes read as nodes, one by one, at the same paths. -/
def Like (w : World) (lo : Nat → Prop) : List (Bytes × Raw) → List (Bytes × Nd) → Prop
  | [], [] => True
  | x :: m, y :: M => (x.1 = y.1 ∧ Reads w lo x.2 y.2) ∧ Like w lo m M
  | _, _ => False
theorem Like.keys {w : World} {lo : Nat → Prop} : ∀ {m : List (Bytes × Raw)} {M : List (Bytes × Nd)}, Like w lo m M → m.map (·.1) = M.map (·.1)
  | [], [], _ => rfl
  | x :: m, y :: M, h => by
    simp only [List.map_cons]
    rw [h.1.1, Like.keys h.2]
  | [], _ :: _, h => h.elim
  | _ :: _, [], h => h.elim
theorem Like.len {w : World} {lo : Nat → Prop} {m : List (Bytes × Raw)} {M : List (Bytes × Nd)} (h : Like w lo m M) : m.length = M.length := by
  have := congrArg List.length h.keys
  simpa using this
theorem Like.imp {w w' : World} {lo lo' : Nat → Prop} (f : ∀ r d, Reads w lo r d → Reads w' lo' r d) : ∀ {m : List (Bytes × Raw)} {M : List (Bytes × Nd)}, Like w lo m M → Like w' lo' m M
  | [], [], _ => trivial
  | x :: m, y :: M, h => ⟨⟨h.1.1, f _ _ h.1.2⟩, Like.imp f h.2⟩
  | [], _ :: _, h => h.elim
  | _ :: _, [], h => h.elim
theorem Like.get {w : World} {lo : Nat → Prop} (p : Bytes) : ∀ {m : List (Bytes × Raw)} {M : List (Bytes × Nd)}, Like w lo m M → (getA p m = none ∧ getA p M = none) ∨ ∃ r d, getA p m = some r ∧ getA p M = some d ∧ Reads w lo r d
  | [], [], _ => .inl ⟨rfl, rfl⟩
  | x :: m, y :: M, h => by
    simp only [getA]
    rw [h.1.1]
    by_cases e : y.1 = p
    · rw [if_pos e, if_pos e]
      exact .inr ⟨_, _, rfl, rfl, h.1.2⟩
    · rw [if_neg e, if_neg e]
      exact Like.get p h.2
  | [], _ :: _, h => h.elim
  | _ :: _, [], h => h.elim
theorem Like.put {w : World} {lo : Nat → Prop} (p : Bytes) {r : Raw} {d : Nd} (hr : Reads w lo r d) : ∀ {m : List (Bytes × Raw)} {M : List (Bytes × Nd)}, Like w lo m M → Like w lo (putA p r m) (putA p d M)
  | [], [], _ => ⟨⟨rfl, hr⟩, trivial⟩
  | x :: m, y :: M, h => by
    simp only [putA]
    rw [h.1.1]
    by_cases e : y.1 = p
    · rw [if_pos e, if_pos e]
      exact ⟨⟨rfl, hr⟩, h.2⟩
    · rw [if_neg e, if_neg e]
      exact ⟨⟨h.1.1, h.1.2⟩, Like.put p hr h.2⟩
  | [], _ :: _, h => h.elim
  | _ :: _, [], h => h.elim
theorem Like.del {w : World} {lo : Nat → Prop} (p : Bytes) : ∀ {m : List (Bytes × Raw)} {M : List (Bytes × Nd)}, Like w lo m M → Like w lo (delA p m) (delA p M)
  | [], [], _ => trivial
  | x :: m, y :: M, h => by
    simp only [delA]
    rw [h.1.1]
    by_cases e : y.1 = p
    · rw [if_pos e, if_pos e]
      exact h.2
    · rw [if_neg e, if_neg e]
      exact ⟨⟨h.1.1, h.1.2⟩, Like.del p h.2⟩
  | [], _ :: _, h => h.elim
  | _ :: _, [], h => h.elim
/-- THE TREE at block b, its map at block mb, its nodes' data in blocks of lo. -/
structure TreeAt (w : World) (lo : Nat → Prop) (b mb : Nat) (root : Bytes) (at_ : Int) (M : List (Bytes × Nd)) : Prop where
  blk : w.heap[b]? = some (.cells #[.string (bs root), .int .u64 at_, .map (some mb)] 62 (0, 0))
  map : ∃ m, HasMap Tryd.prog 9 sv Raw.val w mb m ∧ Like w lo m M
section
variable {w : World} {lo : Nat → Prop} {b mb : Nat} {root : Bytes} {at_ : Int} {M : List (Bytes × Nd)}
theorem TreeAt.below (T : TreeAt w lo b mb root at_ M) {w' : World} (hb : Below w.heap.size w w') : TreeAt w' lo b mb root at_ M := by
  obtain ⟨m, h1, h2⟩ := T.map
  exact ⟨(hb.block _ (lt_of_block T.blk)).trans T.blk, m, h1.of_block (hb.block _ h1.lt), h2.imp fun _ _ h => h.below hb⟩
theorem TreeAt.cells (T : TreeAt w lo b mb root at_ M) : w.cell? ⟨b, 0, none⟩ = some (.string (bs root)) ∧ w.cell? ⟨b, 1, none⟩ = some (.int .u64 at_) ∧ w.cell? ⟨b, 2, none⟩ = some (.map (some mb)) :=
  ⟨cell_of_row _ _ 0 _ _ (0, 0) T.blk, cell_of_row _ _ 1 _ _ (0, 0) T.blk, cell_of_row _ _ 2 _ _ (0, 0) T.blk⟩
set_option maxRecDepth 100000 in
theorem TreeAt.root_any (T : TreeAt w lo b mb root at_ M) : Calls Tryd.prog 25 #[.pointer (some ⟨b, 0, none⟩)] w fun e w' => e = .returned (.string (bs root)) ∧ w' = w := by
  obtain ⟨c0, c1, c2⟩ := T.cells
  clear T
  go_enter Tryd.func25, Tryd.ntmps25
  go_wp2
  go_ret
  exact ⟨rfl, rfl⟩
set_option maxRecDepth 100000 in
theorem TreeAt.at_any (T : TreeAt w lo b mb root at_ M) : Calls Tryd.prog 14 #[.pointer (some ⟨b, 0, none⟩)] w fun e w' => e = .returned (.int .u64 at_) ∧ w' = w := by
  obtain ⟨c0, c1, c2⟩ := T.cells
  clear T
  go_enter Tryd.func14, Tryd.ntmps14
  go_wp2
  go_ret
  exact ⟨rfl, rfl⟩
theorem rootNil (w : World) : Calls Tryd.prog 25 #[.pointer none] w fun e w' => e = .returned (.string ⟨#[]⟩) ∧ w' = w := by
  go_enter Tryd.func25, Tryd.ntmps25
  go_wp2
  go_ret
  exact ⟨rfl, rfl⟩
theorem atNil (w : World) : Calls Tryd.prog 14 #[.pointer none] w fun e w' => e = .returned (.int .u64 0) ∧ w' = w := by
  go_enter Tryd.func14, Tryd.ntmps14
  go_wp2
  go_ret
  exact ⟨rfl, rfl⟩
end
end Go.Proofs.YtkhoeiapfoaapaaDoor
