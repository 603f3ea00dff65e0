/-
  One table, and two, as the laws run them: each method in one contract.
-/
import Derived.Test.YtfbimhbdifmeoaaDoorWtF
namespace Go.Proofs.YtfbimhbdifmeoaaDoor
set_option linter.unusedVariables false
set_option linter.unusedSimpArgs false
open Go Go.RowKit Go.Shelf

/-- A row of watches that a Touch answered. -/
def OutRow (w : World) (n : Nat) (a : Option Addr) (L : List Ev) : Prop := ∀ k e, L[k]? = some e → ∃ g, a = some ⟨g, 0, none⟩ ∧ n ≤ g ∧ g < w.heap.size ∧ w.rangeAt g (k * 4) e.cells
theorem outRow_of {w : World} {n : Nat} {e : TypeId} {a : Option Addr} {c : Nat} {L : List Ev} (h : w.ownsRow n e 4 (.slice a L.length c) L.length (flat L)) : OutRow w n a L := by
  intro k x hk
  rcases h.2 with ⟨h1, h0⟩ | ⟨g, cap, cur, h1, hbg, hg, _⟩
  · rw [List.eq_nil_of_length_eq_zero h0] at hk; simp at hk
  · cases h1
    refine ⟨g, rfl, hbg, (Array.getElem?_eq_some_iff.1 hg).1, fun j v hv => ?_⟩
    have := h.cells (g := g) rfl (k * 4 + j) v (flat_at L k x j v hk hv)
    rw [Addr.add_lit, Nat.zero_add] at this
    exact this
theorem OutRow.kept {w w' : World} {n b : Nat} {a : Option Addr} {L : List Ev} (h : OutRow w n a L) (hk : Kept (· = b) w w') (hb : b < n) : OutRow w' n a L := fun k e he => by
  obtain ⟨g, h1, h2, h3, h4⟩ := h k e he
  refine ⟨g, h1, h2, Nat.lt_of_lt_of_le h3 hk.size, fun j v hv => (hk.cell (p := ⟨g, k * 4 + j, none⟩) h3 (fun e1 => ?_)).trans (h4 j v hv)⟩
  change g = b at e1
  omega
theorem OutRow.below {w w' : World} {n : Nat} {a : Option Addr} {L : List Ev} (h : OutRow w n a L) (hk : Below w.heap.size w w') : OutRow w' n a L := fun k e he => by
  obtain ⟨g, h1, h2, h3, h4⟩ := h k e he
  exact ⟨g, h1, h2, Nat.lt_of_lt_of_le h3 hk.size, range_kept h4 hk h3⟩
def ZNo : Nat → Prop := fun _ => False

/-- One table: at block b; all below W2 stands but b; blocks Z that no step turns. -/
structure One (Z : Nat → Prop) (W0 W2 w : World) (b : Nat) (L : List Ev) : Prop where
  ex : ∃ r, TabAt 58 44 W0.heap.size w b r L ∧ ∀ g, r = some g → W2.heap.size ≤ g ∧ ¬ Z g
  zb : ¬ Z b
  zlt : ∀ k, Z k → k < w.heap.size
  lt : b < W2.heap.size
  hw : W0.heap.size ≤ b
  kept : Kept (· = b) W2 w
  below : Below W0.heap.size W0 w
section
variable {Z : Nat → Prop} {W0 W2 w : World} {b : Nat} {L : List Ev}
theorem One.sz (S : One Z W0 W2 w b L) : W0.heap.size ≤ w.heap.size := S.below.size
theorem One.other (S : One Z W0 W2 w b L) {w' : World} (hb : Below w.heap.size w w') : One Z W0 W2 w' b L := by
  obtain ⟨r, hT, hr⟩ := S.ex
  exact ⟨⟨r, hT.below hb, hr⟩, S.zb, fun k hk => Nat.lt_of_lt_of_le (S.zlt k hk) hb.size, S.lt, S.hw, S.kept.trans (Kept.of_below hb _), S.below.trans (hb.mono S.sz)⟩
theorem One.protect (S : One ZNo W0 W2 w b L) {w' : World} (hb : Below w.heap.size w w') (Z : Nat → Prop) (hZ : ∀ k, Z k → w.heap.size ≤ k ∧ k < w'.heap.size) : One Z W0 W2 w' b L := by
  obtain ⟨r, hT, hr⟩ := S.ex
  have S' := S.other hb
  refine ⟨⟨r, hT.below hb, fun g hg => ⟨(hr g hg).1, fun hz => ?_⟩⟩, fun hz => ?_, fun k hk => (hZ k hk).2, S.lt, S.hw, S'.kept, S'.below⟩
  · have := (hT.rowlt g hg).2
    have := (hZ g hz).1
    omega
  · have := hT.lt
    have := (hZ b hz).1
    omega
theorem One.unprotect (S : One Z W0 W2 w b L) : One ZNo W0 W2 w b L := by
  obtain ⟨r, hT, hr⟩ := S.ex
  exact ⟨⟨r, hT, fun g hg => ⟨(hr g hg).1, fun e => e⟩⟩, fun e => e, fun _ e => e.elim, S.lt, S.hw, S.kept, S.below⟩
theorem One.ofPost (S : One Z W0 W2 w b L) {r : Option Nat} (hT : TabAt 58 44 W0.heap.size w b r L) (hr : ∀ g, r = some g → W2.heap.size ≤ g ∧ ¬ Z g) {v : Value} {L' : List Ev} {en : Ending} {w' : World} (hp : TabPost 58 44 W0.heap.size w b r v L' en w') :
    en = .returned v ∧ One Z W0 W2 w' b L' ∧ Kept (fun k => ¬ Z k) w w' := by
  obtain ⟨he, r', hT', hr', hk⟩ := hp
  have hnz : Kept (fun k => ¬ Z k) w w' := hk.mono fun k _ h => by
    rcases h with rfl | h
    · exact S.zb
    · exact (hr k h).2
  refine ⟨he, ⟨⟨r', hT', fun g hg => ?_⟩, S.zb, fun k hk' => Nat.lt_of_lt_of_le (S.zlt k hk') hk.size, S.lt, S.hw, ?_, ?_⟩, hnz⟩
  · rcases hr' g hg with h | h
    · exact hr g h
    · exact ⟨Nat.le_trans S.kept.size h, fun hz => by have := S.zlt g hz; omega⟩
  · refine ⟨hk.os.trans S.kept.os, hk.tape.trans S.kept.tape, hk.output.trans S.kept.output, Nat.le_trans S.kept.size hk.size, fun k h1 h2 => ?_⟩
    refine (hk.block k (Nat.lt_of_lt_of_le h1 S.kept.size) (fun e => ?_)).trans (S.kept.block k h1 h2)
    rcases e with e | e
    · exact h2 e
    · have := (hr k e).1; omega
  · refine S.below.trans (hk.below S.sz (fun k h => ?_))
    rcases h with rfl | h
    · exact S.hw
    · exact (hT.rowlt k h).1
theorem One.add (S : One Z W0 W2 w b L) (hm : MaxInt W0) (hL : L.length ≤ 16) {x : Ev} (hp : x.path.length ≤ 1000) :
    Calls Tryd.prog 10 #[.pointer (some ⟨b, 0, none⟩), .agg #[.int .i64 x.site, .int .u32 x.num], .string (bs x.path), .bool x.kids] w fun en w' => en = .returned (.int .i64 (addE L x)) ∧ One Z W0 W2 w' b (addL L x) ∧ Kept (fun k => ¬ Z k) w w' := by
  obtain ⟨r, hT, hr⟩ := S.ex
  exact (add_any W0.heap.size b r L x w (hm.kept S.below) hT S.sz hL hp).mono fun en w' hp' => S.ofPost hT hr hp'
theorem One.ofTouch (S : One Z W0 W2 w b L) {out left : List Ev} {en : Ending} {w' : World} (h : TouchEnd 58 44 W0.heap.size b w out left en w') :
    ∃ a c, en = .returned (.slice a out.length c) ∧ OutRow w' w.heap.size a out ∧ One Z W0 W2 w' b left ∧ Kept (· = b) w w' := by
  obtain ⟨a, c, r', he, ho, hT, hr, _, hk⟩ := h
  refine ⟨a, c, he, outRow_of ho, ⟨⟨r', hT, fun g hg => ⟨Nat.le_trans S.kept.size (hr g hg), fun hz => ?_⟩⟩, S.zb, fun k hk' => Nat.lt_of_lt_of_le (S.zlt k hk') hk.size, S.lt, S.hw, S.kept.trans hk, ?_⟩, hk⟩
  · have := S.zlt g hz
    have := hr g hg
    omega
  · exact S.below.trans (hk.below S.sz (fun k h => by subst h; exact S.hw))
theorem One.touch (S : One Z W0 W2 w b L) (hm : MaxInt W0) (hL : L.length ≤ 16) {P : List Bytes} {ao : Option Addr} {c : Nat} (hbig : P.length ≤ 4000) (hp : ∀ p ∈ P, p.length ≤ 1000) (hE : EffsAt w w.heap.size ao P) :
    Calls Tryd.prog 12 #[.pointer (some ⟨b, 0, none⟩), .slice ao P.length c] w fun en w' => ∃ a c, en = .returned (.slice a (outL P L).length c) ∧ OutRow w' w.heap.size a (outL P L) ∧ One Z W0 W2 w' b (leftL P L) ∧ Kept (· = b) w w' := by
  obtain ⟨r, hT, hr⟩ := S.ex
  exact (touch_end W0.heap.size b r L ao c P w (hm.kept S.below) hbig hp hE hT S.sz hL).mono fun en w' h => S.ofTouch h
theorem One.len (S : One Z W0 W2 w b L) : Calls Tryd.prog 14 #[.pointer (some ⟨b, 0, none⟩)] w fun en w' => en = .returned (.int .i64 L.length) ∧ w' = w := by
  obtain ⟨r, ⟨_, v, hv, hrow, _⟩, _⟩ := S.ex
  obtain ⟨a, c, rfl⟩ := row_form hrow
  exact len_any b L.length c a w hv
/-- A new table. -/
theorem One.new {W0 : World} {w1 : World} (h : w1 = W0.alloc (.cells #[.slice none 0 0] 58)) : One ZNo W0 w1 w1 W0.heap.size [] := by
  have hb : Below W0.heap.size W0 w1 := by rw [h]; exact belowA (Below.refl _ W0) _
  refine ⟨⟨none, ⟨Nat.le_refl _, .slice none 0 0, ?_, World.ownsRow_nil _ _ _ _, rfl⟩, fun g hg => by cases hg⟩, fun e => e, fun _ e => e.elim, by rw [h]; simp, Nat.le_refl _, Kept.refl _ _, hb⟩
  rw [h]
  exact heap_alloc_new W0 _
/-- The same, said from a later world on. -/
theorem One.from (S : One Z W0 W2 w b L) (h : ∃ r, TabAt 58 44 W0.heap.size w b r L ∧ r = none) : One Z W0 w w b L := by
  obtain ⟨r, hT, rfl⟩ := h
  exact ⟨⟨none, hT, fun g hg => by cases hg⟩, S.zb, S.zlt, hT.lt, S.hw, Kept.refl _ _, S.below⟩
end

/-! goes -/
theorem effs_one (W : World) (p : Bytes) (rest : List Value) (hr : rest.length = 10) : EffsAt (W.alloc (.cells (.string (bs p) :: rest).toArray 56)) (W.alloc (.cells (.string (bs p) :: rest).toArray 56)).heap.size (some ⟨W.heap.size, 0, none⟩) [p] := by
  intro k x hk
  cases k with
  | zero =>
    simp at hk
    subst hk
    refine ⟨_, _, rest, rfl, by simp, hr, ?_⟩
    rw [Nat.zero_mul, Nat.add_zero]
    exact range_new (Below.refl _ _) 0 _ (by simp)
  | succ k => simp at hk
def g0 : Ev := ⟨0, 1, [47, 97], false⟩
def g1 : Ev := ⟨0, 1, [47, 97], true⟩
theorem par_ab : parentL [47, 97, 47, 98] = [47, 97] := by unfold parentL; rw [ex_p2]; decide
theorem ok_a : (partsL [47, 97]).isSome = true := by rw [ex_p1]; rfl
theorem ge1 : addE [] g0 = 0 ∧ addL [] g0 = [g0] := by unfold addE addL; rw [show g0.path = [47, 97] from rfl, ok_a]; exact ⟨by decide, by decide⟩
theorem ge2 : addE [g0] g1 = 0 ∧ addL [g0] g1 = [g0, g1] := by unfold addE addL; rw [show g1.path = [47, 97] from rfl, ok_a]; exact ⟨by decide, by decide⟩
theorem ge3 : addE [g0, g1] g0 = 0 ∧ addL [g0, g1] g0 = [g0, g1] := by unfold addE addL; rw [show g0.path = [47, 97] from rfl, ok_a]; exact ⟨by decide, by decide⟩
theorem tb0 : touchB g0 [47, 97, 47, 98] = false := by unfold touchB; decide
theorem tb1 : touchB g1 [47, 97, 47, 98] = true := by
  unfold touchB
  rw [par_ab]
  decide
theorem tb2 : touchB g0 [47, 97] = true := by unfold touchB; decide
theorem gt1 : outL [[47, 97, 47, 98]] [g0, g1] = [g1] ∧ leftL [[47, 97, 47, 98]] [g0, g1] = [g0] := by
  unfold outL leftL hitB
  simp [List.filter, tb0, tb1]
theorem gt2 : outL [[47, 97, 47, 98]] [g0] = [] ∧ leftL [[47, 97, 47, 98]] [g0] = [g0] := by
  unfold outL leftL hitB
  simp [List.filter, tb0]
theorem gt3 : outL [[47, 97]] [g0] = [g0] ∧ leftL [[47, 97]] [g0] = [] := by
  unfold outL leftL hitB
  simp [List.filter, tb2]
end Go.Proofs.YtfbimhbdifmeoaaDoor
