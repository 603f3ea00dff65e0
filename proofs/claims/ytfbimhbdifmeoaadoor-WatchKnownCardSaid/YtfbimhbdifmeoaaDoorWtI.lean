/-
  Two tables side by side: each method in one contract.
-/
import Derived.Test.YtfbimhbdifmeoaaDoorWtH
namespace Go.Proofs.YtfbimhbdifmeoaaDoor
set_option linter.unusedVariables false
set_option linter.unusedSimpArgs false
open Go Go.RowKit Go.Shelf

structure Two (Z : Nat → Prop) (t1 e1 t2 e2 : TypeId) (W0 W2 w : World) (b1 b2 : Nat) (L1 L2 : List Ev) : Prop where
  ex : ∃ r1 r2, TabAt t1 e1 W0.heap.size w b1 r1 L1 ∧ TabAt t2 e2 W0.heap.size w b2 r2 L2 ∧ (∀ g, r1 = some g → W2.heap.size ≤ g ∧ ¬ Z g) ∧ (∀ g, r2 = some g → W2.heap.size ≤ g ∧ ¬ Z g) ∧ (∀ g, r1 = some g → r2 ≠ some g)
  ne : b1 ≠ b2
  z1 : ¬ Z b1
  z2 : ¬ Z b2
  zlt : ∀ k, Z k → k < w.heap.size
  lt1 : b1 < W2.heap.size
  lt2 : b2 < W2.heap.size
  hw1 : W0.heap.size ≤ b1
  hw2 : W0.heap.size ≤ b2
  kept : Kept (fun k => k = b1 ∨ k = b2) W2 w
  below : Below W0.heap.size W0 w
section
variable {Z : Nat → Prop} {t1 e1 t2 e2 : TypeId} {W0 W2 w : World} {b1 b2 : Nat} {L1 L2 : List Ev}
theorem Two.sz (S : Two Z t1 e1 t2 e2 W0 W2 w b1 b2 L1 L2) : W0.heap.size ≤ w.heap.size := S.below.size
theorem Two.swap (S : Two Z t1 e1 t2 e2 W0 W2 w b1 b2 L1 L2) : Two Z t2 e2 t1 e1 W0 W2 w b2 b1 L2 L1 := by
  obtain ⟨r1, r2, h1, h2, h3, h4, h5⟩ := S.ex
  exact ⟨⟨r2, r1, h2, h1, h4, h3, fun g hg h => h5 g h hg⟩, fun e => S.ne e.symm, S.z2, S.z1, S.zlt, S.lt2, S.lt1, S.hw2, S.hw1, S.kept.mono (fun _ _ h => h.symm), S.below⟩
theorem Two.other (S : Two Z t1 e1 t2 e2 W0 W2 w b1 b2 L1 L2) {w' : World} (hb : Below w.heap.size w w') : Two Z t1 e1 t2 e2 W0 W2 w' b1 b2 L1 L2 := by
  obtain ⟨r1, r2, h1, h2, h3, h4, h5⟩ := S.ex
  exact ⟨⟨r1, r2, h1.below hb, h2.below hb, h3, h4, h5⟩, S.ne, S.z1, S.z2, fun k hk => Nat.lt_of_lt_of_le (S.zlt k hk) hb.size, S.lt1, S.lt2, S.hw1, S.hw2, S.kept.trans (Kept.of_below hb _), S.below.trans (hb.mono S.sz)⟩
theorem Two.drew (S : Two Z t1 e1 t2 e2 W0 W2 w b1 b2 L1 L2) : Two Z t1 e1 t2 e2 W0 W2 w.drew b1 b2 L1 L2 := S.other (Below.refl _ w).drew
theorem Two.protect (S : Two ZNo t1 e1 t2 e2 W0 W2 w b1 b2 L1 L2) {w' : World} (hb : Below w.heap.size w w') (Z : Nat → Prop) (hZ : ∀ k, Z k → w.heap.size ≤ k ∧ k < w'.heap.size) : Two Z t1 e1 t2 e2 W0 W2 w' b1 b2 L1 L2 := by
  obtain ⟨r1, r2, h1, h2, h3, h4, h5⟩ := S.ex
  have S' := S.other hb
  refine ⟨⟨r1, r2, h1.below hb, h2.below hb, fun g hg => ⟨(h3 g hg).1, fun hz => ?_⟩, fun g hg => ⟨(h4 g hg).1, fun hz => ?_⟩, h5⟩, S.ne, fun hz => ?_, fun hz => ?_, fun k hk => (hZ k hk).2, S.lt1, S.lt2, S.hw1, S.hw2, S'.kept, S'.below⟩
  · have := (h1.rowlt g hg).2
    have := (hZ g hz).1
    omega
  · have := (h2.rowlt g hg).2
    have := (hZ g hz).1
    omega
  · have := h1.lt
    have := (hZ _ hz).1
    omega
  · have := h2.lt
    have := (hZ _ hz).1
    omega
theorem Two.unprotect (S : Two Z t1 e1 t2 e2 W0 W2 w b1 b2 L1 L2) : Two ZNo t1 e1 t2 e2 W0 W2 w b1 b2 L1 L2 := by
  obtain ⟨r1, r2, h1, h2, h3, h4, h5⟩ := S.ex
  exact ⟨⟨r1, r2, h1, h2, fun g hg => ⟨(h3 g hg).1, fun e => e⟩, fun g hg => ⟨(h4 g hg).1, fun e => e⟩, h5⟩, S.ne, fun e => e, fun e => e, fun _ e => e.elim, S.lt1, S.lt2, S.hw1, S.hw2, S.kept, S.below⟩
theorem Two.ofPost (S : Two Z t1 e1 t2 e2 W0 W2 w b1 b2 L1 L2) {r1 r2 : Option Nat} (h1 : TabAt t1 e1 W0.heap.size w b1 r1 L1) (h2 : TabAt t2 e2 W0.heap.size w b2 r2 L2) (h3 : ∀ g, r1 = some g → W2.heap.size ≤ g ∧ ¬ Z g) (h4 : ∀ g, r2 = some g → W2.heap.size ≤ g ∧ ¬ Z g) (h5 : ∀ g, r1 = some g → r2 ≠ some g)
    {v : Value} {L' : List Ev} {en : Ending} {w' : World} (hp : TabPost t1 e1 W0.heap.size w b1 r1 v L' en w') : en = .returned v ∧ Two Z t1 e1 t2 e2 W0 W2 w' b1 b2 L' L2 ∧ Kept (fun k => ¬ Z k) w w' := by
  obtain ⟨he, r', hT', hr', hk⟩ := hp
  have hnz : Kept (fun k => ¬ Z k) w w' := hk.mono fun k _ h => by
    rcases h with rfl | h
    · exact S.z1
    · exact (h3 k h).2
  refine ⟨he, ⟨⟨r', r2, hT', h2.kept hk (fun h => ?_) (fun g hg h => ?_), fun g hg => ?_, h4, fun g hg hg2 => ?_⟩, S.ne, S.z1, S.z2, fun k hk' => Nat.lt_of_lt_of_le (S.zlt k hk') hk.size, S.lt1, S.lt2, S.hw1, S.hw2, ?_, ?_⟩, hnz⟩
  · rcases h with h | h
    · exact S.ne h.symm
    · have := (h3 _ h).1
      have := S.lt2
      omega
  · rcases h with rfl | h
    · have := (h4 _ hg).1
      have := S.lt1
      omega
    · exact h5 g h hg
  · rcases hr' g hg with h | h
    · exact h3 g h
    · exact ⟨Nat.le_trans S.kept.size h, fun hz => by have := S.zlt g hz; omega⟩
  · rcases hr' g hg with h | h
    · exact h5 g h hg2
    · have := (h2.rowlt g hg2).2
      omega
  · refine ⟨hk.os.trans S.kept.os, hk.tape.trans S.kept.tape, hk.output.trans S.kept.output, Nat.le_trans S.kept.size hk.size, fun k a1 a2 => ?_⟩
    refine (hk.block k (Nat.lt_of_lt_of_le a1 S.kept.size) (fun e => ?_)).trans (S.kept.block k a1 a2)
    rcases e with e | e
    · exact a2 (.inl e)
    · have := (h3 k e).1; omega
  · refine S.below.trans (hk.below S.sz (fun k h => ?_))
    rcases h with rfl | h
    · exact S.hw1
    · exact (h1.rowlt k h).1
theorem Two.ofTouch (S : Two Z t1 e1 t2 e2 W0 W2 w b1 b2 L1 L2) {out left : List Ev} {en : Ending} {w' : World} (h : TouchEnd t1 e1 W0.heap.size b1 w out left en w') :
    ∃ a c, en = .returned (.slice a out.length c) ∧ OutRow w' w.heap.size a out ∧ Two Z t1 e1 t2 e2 W0 W2 w' b1 b2 left L2 ∧ Kept (· = b1) w w' := by
  obtain ⟨r1, r2, h1, h2, h3, h4, h5⟩ := S.ex
  obtain ⟨a, c, r', he, ho, hT, hr, _, hk⟩ := h
  refine ⟨a, c, he, outRow_of ho, ⟨⟨r', r2, hT, h2.kept hk (fun h => S.ne h.symm) (fun g hg h => ?_), fun g hg => ⟨Nat.le_trans S.kept.size (hr g hg), fun hz => ?_⟩, h4, fun g hg hg2 => ?_⟩, S.ne, S.z1, S.z2, fun k hk' => Nat.lt_of_lt_of_le (S.zlt k hk') hk.size, S.lt1, S.lt2, S.hw1, S.hw2, S.kept.trans (hk.mono fun _ _ h => .inl h), ?_⟩, hk⟩
  · have := (h4 _ hg).1
    have := S.lt1
    change g = b1 at h
    omega
  · have := S.zlt g hz
    have := hr g hg
    omega
  · have := (h2.rowlt g hg2).2
    have := hr g hg
    omega
  · exact S.below.trans (hk.below S.sz (fun k h => by subst h; exact S.hw1))
theorem Two.cell2 (S : Two Z t1 e1 t2 e2 W0 W2 w b1 b2 L1 L2) : ∃ a c, w.cell? ⟨b2, 0, none⟩ = some (.slice a L2.length c) := by
  obtain ⟨r1, r2, h1, ⟨_, v, hv, hrow, _⟩, _⟩ := S.ex
  obtain ⟨a, c, rfl⟩ := row_form hrow
  exact ⟨a, c, hv.cell⟩
end
section
variable {Z : Nat → Prop} {t2 e2 : TypeId} {W0 W2 w : World} {b1 b2 : Nat} {L1 L2 : List Ev}
theorem Two.add (S : Two Z 58 44 t2 e2 W0 W2 w b1 b2 L1 L2) (hm : MaxInt W0) (hL : L1.length ≤ 16) {x : Ev} (hp : x.path.length ≤ 1000) {c : Int} (hc : addE L1 x = c) :
    Calls Tryd.prog 10 #[.pointer (some ⟨b1, 0, none⟩), .agg #[.int .i64 x.site, .int .u32 x.num], .string (bs x.path), .bool x.kids] w fun en w' => en = .returned (.int .i64 c) ∧ Two Z 58 44 t2 e2 W0 W2 w' b1 b2 (addL L1 x) L2 ∧ Kept (fun k => ¬ Z k) w w' := by
  subst hc
  obtain ⟨r1, r2, h1, h2, h3, h4, h5⟩ := S.ex
  exact (add_any W0.heap.size b1 r1 L1 x w (hm.kept S.below) h1 S.sz hL hp).mono fun en w' hp' => S.ofPost h1 h2 h3 h4 h5 hp'
theorem Two.touch (S : Two Z 58 44 t2 e2 W0 W2 w b1 b2 L1 L2) (hm : MaxInt W0) (hL : L1.length ≤ 16) {P : List Bytes} {ao : Option Addr} {c : Nat} (hbig : P.length ≤ 4000) (hp : ∀ p ∈ P, p.length ≤ 1000) (hE : EffsAt w w.heap.size ao P) :
    Calls Tryd.prog 12 #[.pointer (some ⟨b1, 0, none⟩), .slice ao P.length c] w fun en w' => ∃ a c, en = .returned (.slice a (outL P L1).length c) ∧ OutRow w' w.heap.size a (outL P L1) ∧ Two Z 58 44 t2 e2 W0 W2 w' b1 b2 (leftL P L1) L2 ∧ Kept (· = b1) w w' := by
  obtain ⟨r1, r2, h1, h2, h3, h4, h5⟩ := S.ex
  exact (touch_end W0.heap.size b1 r1 L1 ao c P w (hm.kept S.below) hbig hp hE h1 S.sz hL).mono fun en w' h => S.ofTouch h
theorem Two.len (S : Two Z 58 44 t2 e2 W0 W2 w b1 b2 L1 L2) : Calls Tryd.prog 14 #[.pointer (some ⟨b1, 0, none⟩)] w fun en w' => en = .returned (.int .i64 L1.length) ∧ w' = w := by
  obtain ⟨r1, r2, ⟨_, v, hv, hrow, _⟩, _⟩ := S.ex
  obtain ⟨a, c, rfl⟩ := row_form hrow
  exact len_any b1 L1.length c a w hv
end
section
variable {Z : Nat → Prop} {t1 e1 : TypeId} {W0 W2 w : World} {b1 b2 : Nat} {L1 L2 : List Ev}
theorem Two.radd (S : Two Z t1 e1 29 34 W0 W2 w b1 b2 L1 L2) (hL : L2.length ≤ 16) {x : Ev} (hp : x.path.length ≤ 1000) {c : Int} (hc : addE L2 x = c) :
    Calls Tryd.prog 11 #[.pointer (some ⟨b2, 0, none⟩), .agg #[.int .i64 x.site, .int .u32 x.num, .string (bs x.path), .bool x.kids]] w fun en w' => en = .returned (.int .i64 c) ∧ Two Z t1 e1 29 34 W0 W2 w' b1 b2 L1 (addL L2 x) ∧ Kept (fun k => ¬ Z k) w w' := by
  subst hc
  obtain ⟨r1, r2, h1, h2, h3, h4, h5⟩ := S.ex
  exact (refAdd_any W0.heap.size b2 r2 L2 x w h2 S.sz hL hp).mono fun en w' hp' => by
    obtain ⟨he, hS, hk⟩ := S.swap.ofPost h2 h1 h4 h3 (fun g hg h => h5 g h hg) hp'
    exact ⟨he, hS.swap, hk⟩
theorem Two.rtouch (S : Two Z t1 e1 29 34 W0 W2 w b1 b2 L1 L2) (hF : Fine L2) {P : List Bytes} {ao : Option Addr} {c : Nat} (hbig : P.length ≤ 4000) (hp : ∀ p ∈ P, p.length ≤ 1000) (hE : EffsAt w w.heap.size ao P) :
    Calls Tryd.prog 13 #[.pointer (some ⟨b2, 0, none⟩), .slice ao P.length c] w fun en w' => ∃ a c, en = .returned (.slice a (outL P L2).length c) ∧ OutRow w' w.heap.size a (outL P L2) ∧ Two Z t1 e1 29 34 W0 W2 w' b1 b2 L1 (leftL P L2) ∧ Kept (· = b2) w w' := by
  obtain ⟨r1, r2, h1, h2, h3, h4, h5⟩ := S.ex
  obtain ⟨f1, f2⟩ := filterR (P := P) hF.ok
  have h := refTouch_any W0.heap.size b2 r2 L2 ao c P w hbig hp hE h2 S.sz hF.len
  rw [f1, f2] at h
  exact h.mono fun en w' h => by
    obtain ⟨a, c, he, ho, hS, hk⟩ := S.swap.ofTouch h
    exact ⟨a, c, he, ho, hS.swap, hk⟩
end
end Go.Proofs.YtfbimhbdifmeoaaDoor
