/-
  Both tables side by side, as SessionPlays runs them: each method in one contract, whatever it comes to; and the plain law: from like tables they come to like answers and like tables.
-/
import Derived.Test.YtinkoackknmjlaaRef2
import Derived.Test.YtinkoackknmjlaaNil
namespace Go.Proofs.Ytinkoackknmjlaa
open Go.RowKit Go.MapKept Go.ChangeMaps Go.Shelf
open Go.Maps (Keyed)

/-! ### plain -/
def hasB (g : List (Int × Int)) (x y : Int) : Bool := g.contains (x, y)
def closeE (s n : Int) (g : List (Int × Int)) (m : Int) : Int := if liveB s n g m then 0 else 63
def closeG (s n : Int) (g : List (Int × Int)) (m : Int) : List (Int × Int) := if liveB s n g m then addS (s, m) g else g
def closeL (s n : Int) (l : List (Int × Int)) (m : Int) : List (Int × Int) := if liveB s n l m then l ++ [(s, m)] else l
def learnG (s : Int) (g : List (Int × Int)) (x y : Int) : List (Int × Int) := if x = s ∨ y ≤ 0 then g else addS (x, y) g
def learnL (s : Int) (l : List (Int × Int)) (x y : Int) : List (Int × Int) := if x = s ∨ y ≤ 0 then l else l ++ [(x, y)]
def openN (n : Int) : Int := if n < 32 then n + 1 else n
def openR (n : Int) : Int := if n < 32 then n + 1 else 0
def openE (n : Int) : Int := if n < 32 then 0 else 4

theorem mem_addS {a p : Int × Int} {g : List (Int × Int)} : p ∈ addS a g ↔ p = a ∨ p ∈ g := by
  unfold addS
  split
  · rename_i h
    have h : a ∈ g := by simpa using h
    constructor
    · exact .inr
    · rintro (rfl | h1)
      · exact h
      · exact h1
  · simp [or_comm]

/-- Like tables: the same members. -/
def Like (g l : List (Int × Int)) : Prop := ∀ p, p ∈ g ↔ p ∈ l
theorem Like.has {g l : List (Int × Int)} (h : Like g l) (x y : Int) : hasB g x y = hasB l x y := by
  have := h (x, y)
  unfold hasB
  rw [Bool.eq_iff_iff]
  simpa using this
theorem Like.live {g l : List (Int × Int)} (h : Like g l) (s n m : Int) : liveB s n g m = liveB s n l m := by
  have := h.has s m
  unfold hasB at this
  unfold liveB
  rw [this]
theorem Like.close {g l : List (Int × Int)} (h : Like g l) (s n m : Int) : Like (closeG s n g m) (closeL s n l m) := by
  unfold closeG closeL
  rw [h.live]
  split
  · intro p
    rw [mem_addS, List.mem_append, List.mem_singleton, h p, or_comm]
  · exact h
theorem Like.closeE {g l : List (Int × Int)} (h : Like g l) (s n m : Int) : Ytinkoackknmjlaa.closeE s n g m = Ytinkoackknmjlaa.closeE s n l m := by
  unfold Ytinkoackknmjlaa.closeE
  rw [h.live]
theorem Like.learn {g l : List (Int × Int)} (h : Like g l) (s x y : Int) : Like (learnG s g x y) (learnL s l x y) := by
  unfold learnG learnL
  split
  · exact h
  · intro p
    rw [mem_addS, List.mem_append, List.mem_singleton, h p, or_comm]
theorem closeL_len (s n : Int) (l : List (Int × Int)) (m : Int) : (closeL s n l m).length ≤ l.length + 1 := by
  unfold closeL; split <;> simp
theorem learnL_len (s : Int) (l : List (Int × Int)) (x y : Int) : (learnL s l x y).length ≤ l.length + 1 := by
  unfold learnL; split <;> simp
theorem openN_bd {n : Int} (h0 : 0 ≤ n) (h : n ≤ 32) : 0 ≤ openN n ∧ openN n ≤ 32 := by
  unfold openN; split <;> omega

/-! ### both -/
/-- Both tables, and blocks Z that none of their steps turns. -/
structure Both (Z : Nat → Prop) (B : Nat) (W0 w : World) (b mb rb : Nat) (s n : Int) (g : List (Int × Int)) (m : Int) (l : List (Int × Int)) : Prop where
  run : Run B W0 w b mb s n g
  ref : ∃ v, RTab w rb B s m v l ∧ ∀ k, v.ownBlock = some k → ¬ Z k
  hrb : B ≤ rb
  len : l.length ≤ 199
  zb : ¬ Z b
  zm : ¬ Z mb
  zr : ¬ Z rb
  zlt : ∀ k, Z k → k < w.heap.size

section
variable {Z : Nat → Prop} {B b mb rb : Nat} {W0 w : World} {s n m : Int} {g l : List (Int × Int)}
theorem apart (h : STab w b mb s n g) {v : Value} (r : RTab w rb B s m v l) : b ≠ rb ∧ mb ≠ rb ∧ v.ownBlock ≠ some b ∧ v.ownBlock ≠ some mb := by
  obtain ⟨es, c, hm, _⟩ := h.mp
  refine ⟨?_, ?_, ?_, ?_⟩
  · intro e; subst e
    have := h.blk.symm.trans r.blk
    simp at this
  · intro e; subst e
    have := hm.symm.trans r.blk
    simp at this
  · intro e
    rcases r.row.2 with ⟨rfl, _⟩ | ⟨k, cap, cur, rfl, _, hk, _⟩
    · simp [Value.ownBlock] at e
    · obtain rfl : k = b := by simpa [Value.ownBlock] using e
      have := h.blk.symm.trans hk
      simp at this
  · intro e
    rcases r.row.2 with ⟨rfl, _⟩ | ⟨k, cap, cur, rfl, _, hk, _⟩
    · simp [Value.ownBlock] at e
    · obtain rfl : k = mb := by simpa [Value.ownBlock] using e
      have := hm.symm.trans hk
      simp at this
/-- What turns neither table. -/
theorem Both.other (R : Both Z B W0 w b mb rb s n g m l) {w' : World} (hk : Kept Nothing w w') : Both Z B W0 w' b mb rb s n g m l ∧ Kept (fun k => ¬ Z k) w w' := by
  obtain ⟨R1, ⟨v, hr, hz⟩, h3, h4, h5, h6, h7, h8⟩ := R
  exact ⟨⟨R1.quiet hk, ⟨v, hr.kept hk (fun e => e) (fun _ _ e => e), hz⟩, h3, h4, h5, h6, h7, fun k hk' => Nat.lt_of_lt_of_le (h8 k hk') hk.size⟩, hk.mono fun _ _ e => e.elim⟩
/-- A step of the table. -/
theorem Both.ofT (R : Both Z B W0 w b mb rb s n g m l) {S : Nat → Prop} {w' : World} {n' : Int} {g' : List (Int × Int)} (hT : STab w' b mb s n' g') (hk : Kept S w w') (hS : ∀ k, S k → k = b ∨ k = mb) :
    Both Z B W0 w' b mb rb s n' g' m l ∧ Kept (fun k => ¬ Z k) w w' := by
  obtain ⟨R1, ⟨v, hr, hz⟩, h3, h4, h5, h6, h7, h8⟩ := R
  obtain ⟨a1, a2, a3, a4⟩ := apart R1.tab hr
  refine ⟨⟨R1.of_kept hT hk (fun k h => ?_), ⟨v, hr.kept hk (fun h => ?_) (fun k e h => ?_), hz⟩, h3, h4, h5, h6, h7, fun k hk' => Nat.lt_of_lt_of_le (h8 k hk') hk.size⟩, hk.mono fun k _ h hz' => ?_⟩
  · rcases hS k h with rfl | rfl
    · exact R1.hb
    · exact R1.hmb
  · rcases hS _ h with e | e
    · exact a1 e.symm
    · exact a2 e.symm
  · rcases hS _ h with rfl | rfl
    · exact a3 e
    · exact a4 e
  · rcases hS k h with rfl | rfl
    · exact h5 hz'
    · exact h6 hz'
/-- A step of the reference. -/
theorem Both.ofR (R : Both Z B W0 w b mb rb s n g m l) {v v' : Value} (hv : RTab w rb B s m v l) (hvz : ∀ k, v.ownBlock = some k → ¬ Z k) {w' : World} {m' : Int} {l' : List (Int × Int)} (hT : RTab w' rb B s m' v' l')
    (hk : Kept (fun k => k = rb ∨ v.ownBlock = some k) w w') (hw : ∀ k, v'.ownBlock = some k → v.ownBlock = some k ∨ w.heap.size ≤ k) (hl : l'.length ≤ 199) : Both Z B W0 w' b mb rb s n g m' l' ∧ Kept (fun k => ¬ Z k) w w' := by
  obtain ⟨R1, _, h3, h4, h5, h6, h7, h8⟩ := R
  obtain ⟨a1, a2, a3, a4⟩ := apart R1.tab hv
  refine ⟨⟨R1.other hk (fun k h => ?_) (fun h => ?_) (fun h => ?_), ⟨v', hT, fun k e hz => ?_⟩, h3, hl, h5, h6, h7, fun k hk' => Nat.lt_of_lt_of_le (h8 k hk') hk.size⟩, hk.mono fun k _ h hz' => ?_⟩
  · rcases h with rfl | h
    · exact h3
    · exact (hv.row.lt k h).1
  · rcases h with h | h
    · exact a1 h
    · exact a3 h
  · rcases h with h | h
    · exact a2 h
    · exact a4 h
  · rcases hw k e with h | h
    · exact hvz k h hz
    · have := h8 k hz
      omega
  · rcases h with rfl | h
    · exact h7 hz'
    · exact hvz k h hz'

theorem Both.tClose (R : Both Z B W0 w b mb rb s n g m l) {y c : Int} (hy : U32 y) (hc : closeE s n g y = c) :
    Calls Try.prog 9 #[.pointer (some ⟨b, 0, none⟩), .int .u32 y] w fun e w' => e = .returned (.int .i64 c) ∧ Both Z B W0 w' b mb rb s n (closeG s n g y) m l ∧ Kept (fun k => ¬ Z k) w w' := by
  subst hc
  cases hl : liveB s n g y with
  | true =>
    refine (close_yes b mb s n y g w R.run.tab R.run.site hy hl).mono fun e w' ⟨he, hT, hk⟩ => ?_
    exact ⟨by simp [closeE, hl, he], by simpa [closeG, hl] using R.ofT hT hk (fun k h => .inr h)⟩
  | false =>
    refine (close_no b mb s n y g w R.run.tab R.run.site hy hl).mono fun e w' ⟨he, k, hw⟩ => ?_
    exact ⟨by simp [closeE, hl, he], by simpa [closeG, hl] using R.other (hw ▸ (Kept.refl _ w).drewN k)⟩
theorem Both.rClose (R : Both Z B W0 w b mb rb s n g m l) {y c : Int} (hl' : l.length + 1 ≤ 199) (hc : closeE s m l y = c) :
    Calls Try.prog 10 #[.pointer (some ⟨rb, 0, none⟩), .int .u32 y] w fun e w' => e = .returned (.int .i64 c) ∧ Both Z B W0 w' b mb rb s n g m (closeL s m l y) ∧ Kept (fun k => ¬ Z k) w w' := by
  subst hc
  obtain ⟨v, hr, hz⟩ := R.ref
  have hlen := R.len
  cases hl : liveB s m l y with
  | true =>
    have HL := rlive_any rb s m y B v l w hr (by omega)
    rw [hl] at HL
    refine (rclose_yes rb s m y B v l w hr (by omega) (Nat.le_trans R.run.hB R.run.below.size) HL).mono fun e w' ⟨he, v', hT, hk, hw⟩ => ?_
    exact ⟨by simp [closeE, hl, he], by simpa [closeL, hl] using R.ofR hr hz hT hk hw (by simpa using hl')⟩
  | false =>
    refine (rclose_no rb s m y B v l w hr (by omega) hl).mono fun e w' ⟨he, hk⟩ => ?_
    exact ⟨by simp [closeE, hl, he], by simpa [closeL, hl] using R.other hk⟩
theorem Both.tLearn (R : Both Z B W0 w b mb rb s n g m l) {x y : Int} (hx : I64 x) (hy : U32 y) :
    Calls Try.prog 11 #[.pointer (some ⟨b, 0, none⟩), .agg #[.int .i64 x, .int .u32 y]] w fun e w' => e = .returned (.tuple #[]) ∧ Both Z B W0 w' b mb rb s n (learnG s g x y) m l ∧ Kept (fun k => ¬ Z k) w w' := by
  by_cases h : x = s ∨ y ≤ 0
  · refine (learn_no b mb s n g x y w R.run.tab (h.imp id (by omega))).mono fun e w' ⟨he, hk⟩ => ?_
    exact ⟨he, by simpa [learnG, h] using R.other hk⟩
  · refine (learn_yes b mb s n g x y w R.run.tab hx hy (fun e => h (.inl e)) (by omega)).mono fun e w' ⟨he, hT, hk⟩ => ?_
    exact ⟨he, by simpa [learnG, h] using R.ofT hT hk (fun k h => .inr h)⟩
theorem Both.rLearn (R : Both Z B W0 w b mb rb s n g m l) {x y : Int} (hy : U32 y) (hl' : l.length + 1 ≤ 199) :
    Calls Try.prog 12 #[.pointer (some ⟨rb, 0, none⟩), .agg #[.int .i64 x, .int .u32 y]] w fun e w' => e = .returned (.tuple #[]) ∧ Both Z B W0 w' b mb rb s n g m (learnL s l x y) ∧ Kept (fun k => ¬ Z k) w w' := by
  obtain ⟨v, hr, hz⟩ := R.ref
  have hlen := R.len
  have h0 := hy.1
  by_cases h : x = s ∨ y ≤ 0
  · refine (rlearn_no rb s m x y B v l w hr (h.imp id (by omega))).mono fun e w' ⟨he, hk⟩ => ?_
    exact ⟨he, by simpa [learnL, h] using R.other hk⟩
  · refine (rlearn_yes rb s m x y B v l w hr (by omega) (Nat.le_trans R.run.hB R.run.below.size) (fun e => h (.inl e)) (by omega)).mono fun e w' ⟨he, v', hT, hk, hw⟩ => ?_
    exact ⟨he, by simpa [learnL, h] using R.ofR hr hz hT hk hw (by simpa using hl')⟩
theorem Both.tOpen (R : Both Z B W0 w b mb rb s n g m l) (h0 : 0 ≤ n) (_h1 : n ≤ 32) :
    Calls Try.prog 13 #[.pointer (some ⟨b, 0, none⟩)] w fun e w' => e = .returned (.tuple #[.int .u32 (openR n), .int .i64 (openE n)]) ∧ Both Z B W0 w' b mb rb s (openN n) g m l ∧ Kept (fun k => ¬ Z k) w w' := by
  by_cases h : n < 32
  · refine (open_ok b mb s n g w R.run.tab h h0).mono fun e w' ⟨he, hT, hk⟩ => ?_
    exact ⟨by simp [openR, openE, h, he], by simpa [openN, h] using R.ofT hT hk (fun k h => .inl h)⟩
  · refine (open_full b mb s n g w R.run.tab (by omega)).mono fun e w' ⟨he, hw⟩ => ?_
    exact ⟨by simp [openR, openE, h, he], by simpa [openN, h] using R.other (hw ▸ Kept.refl _ _)⟩
theorem Both.rOpen (R : Both Z B W0 w b mb rb s n g m l) (h0 : 0 ≤ m) (h1 : m ≤ 32) :
    Calls Try.prog 14 #[.pointer (some ⟨rb, 0, none⟩)] w fun e w' => e = .returned (.tuple #[.int .u32 (openR m), .int .i64 (openE m)]) ∧ Both Z B W0 w' b mb rb s n g (openN m) l ∧ Kept (fun k => ¬ Z k) w w' := by
  obtain ⟨v, hr, hz⟩ := R.ref
  by_cases h : m < 32
  · refine (ropen_ok rb s m B v l w hr h h0).mono fun e w' ⟨he, hT, hk⟩ => ?_
    exact ⟨by simp [openR, openE, h, he], by simpa [openN, h] using R.ofR hr hz hT (hk.mono fun _ _ e => .inl e) (fun _ e => .inl e) R.len⟩
  · obtain rfl : m = 32 := by omega
    refine (ropen_full rb s B v l w hr).mono fun e w' ⟨he, hw⟩ => ?_
    exact ⟨by simp [openR, openE, he], by simpa [openN] using R.other (hw ▸ Kept.refl _ _)⟩
theorem Both.tGone (R : Both Z B W0 w b mb rb s n g m l) {x y : Int} {c : Bool} (hx : I64 x) (hy : U32 y) (hc : hasB g x y = c) :
    Calls Try.prog 15 #[.pointer (some ⟨b, 0, none⟩), .agg #[.int .i64 x, .int .u32 y]] w fun e w' => e = .returned (.bool c) ∧ Both Z B W0 w' b mb rb s n g m l ∧ Kept (fun k => ¬ Z k) w w' :=
  hc ▸ (gone_any b mb s n g x y w R.run.tab hx hy).mono fun _ _ ⟨he, hk⟩ => ⟨he, R.other hk⟩
theorem Both.rGone (R : Both Z B W0 w b mb rb s n g m l) {x y : Int} {c : Bool} (hc : hasB l x y = c) :
    Calls Try.prog 16 #[.pointer (some ⟨rb, 0, none⟩), .agg #[.int .i64 x, .int .u32 y]] w fun e w' => e = .returned (.bool c) ∧ Both Z B W0 w' b mb rb s n g m l ∧ Kept (fun k => ¬ Z k) w w' := by
  obtain ⟨v, hr, hz⟩ := R.ref
  have hlen := R.len
  exact hc ▸ (rgone_any rb s m B v l x y w hr (by omega)).mono fun _ _ ⟨he, hk⟩ => ⟨he, R.other hk⟩
theorem Both.tLive (R : Both Z B W0 w b mb rb s n g m l) {y : Int} {c : Bool} (hy : U32 y) (hc : liveB s n g y = c) :
    Calls Try.prog 17 #[.pointer (some ⟨b, 0, none⟩), .int .u32 y] w fun e w' => e = .returned (.bool c) ∧ Both Z B W0 w' b mb rb s n g m l ∧ Kept (fun k => ¬ Z k) w w' :=
  hc ▸ (live_any b mb s n y g w R.run.tab R.run.site hy).mono fun _ _ ⟨he, k, hw⟩ => ⟨he, R.other (hw ▸ (Kept.refl _ w).drewN k)⟩
theorem Both.rLive (R : Both Z B W0 w b mb rb s n g m l) {y : Int} {c : Bool} (hc : liveB s m l y = c) :
    Calls Try.prog 18 #[.pointer (some ⟨rb, 0, none⟩), .int .u32 y] w fun e w' => e = .returned (.bool c) ∧ Both Z B W0 w' b mb rb s n g m l ∧ Kept (fun k => ¬ Z k) w w' := by
  obtain ⟨v, hr, hz⟩ := R.ref
  have hlen := R.len
  exact hc ▸ (rlive_any rb s m y B v l w hr (by omega)).mono fun _ _ ⟨he, hk⟩ => ⟨he, R.other hk⟩
end
end Go.Proofs.Ytinkoackknmjlaa
