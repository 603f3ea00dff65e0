/-
  The table's contracts as a law meets them: one word 'Run' says what the table is and that what lay below B when the law began lies as it lay.
-/
import Derived.Test.YtinkoackknmjlaaGoes
namespace Go.Proofs.Ytinkoackknmjlaa
open Go.RowKit Go.MapKept Go.ChangeMaps Go.Shelf
open Go.Maps (Keyed)

structure Run (B : Nat) (W0 w : World) (b mb : Nat) (s n : Int) (g : List (Int × Int)) : Prop where
  tab : STab w b mb s n g
  below : Below B W0 w
  hb : B ≤ b
  hmb : B ≤ mb
  hB : B ≤ W0.heap.size
  site : I64 s

section
variable {B b mb : Nat} {W0 w : World} {s n : Int} {g : List (Int × Int)}
theorem Run.of_kept (R : Run B W0 w b mb s n g) {S : Nat → Prop} {w' : World} {n' : Int} {g' : List (Int × Int)} (hT : STab w' b mb s n' g') (hk : Kept S w w') (hS : ∀ k, S k → B ≤ k) : Run B W0 w' b mb s n' g' :=
  ⟨hT, R.below.trans (hk.below (Nat.le_trans R.hB R.below.size) hS), R.hb, R.hmb, R.hB, R.site⟩
theorem Run.quiet (R : Run B W0 w b mb s n g) {w' : World} (hk : Kept Nothing w w') : Run B W0 w' b mb s n g :=
  R.of_kept (R.tab.kept hk (fun e => e) (fun e => e)) hk (fun _ h => h.elim)
theorem Run.other (R : Run B W0 w b mb s n g) {S : Nat → Prop} {w' : World} (hk : Kept S w w') (hS : ∀ k, S k → B ≤ k) (h1 : ¬ S b) (h2 : ¬ S mb) : Run B W0 w' b mb s n g :=
  R.of_kept (R.tab.kept hk h1 h2) hk hS
theorem Run.new {w' : World} (hb : Below B W0 w) (hB : B ≤ W0.heap.size) (hs : I64 s) (hw : w' = (w.alloc (.map #[] 0)).alloc (.cells #[.int .i64 s, .int .u32 0, .map (some w.heap.size)] 50)) :
    Run B W0 w' (w.heap.size + 1) w.heap.size s 0 [] := by
  subst hw
  have h1 := hb.size
  exact ⟨STab.made w s, (hb.alloc (by omega) _).alloc (by simp; omega) _, by omega, by omega, hB, hs⟩
theorem Run.Live (R : Run B W0 w b mb s n g) {m : Int} (hm : U32 m) :
    Calls Try.prog 17 #[.pointer (some ⟨b, 0, none⟩), .int .u32 m] w fun e w' => e = .returned (.bool (liveB s n g m)) ∧ Run B W0 w' b mb s n g :=
  (live_any b mb s n m g w R.tab R.site hm).mono fun _ _ ⟨he, k, hw⟩ => ⟨he, R.quiet (hw ▸ (Kept.refl _ w).drewN k)⟩
theorem Run.Gone (R : Run B W0 w b mb s n g) {x y : Int} (h1 : I64 x) (h2 : U32 y) :
    Calls Try.prog 15 #[.pointer (some ⟨b, 0, none⟩), .agg #[.int .i64 x, .int .u32 y]] w fun e w' => e = .returned (.bool (g.contains (x, y))) ∧ Run B W0 w' b mb s n g :=
  (gone_any b mb s n g x y w R.tab h1 h2).mono fun _ _ ⟨he, hk⟩ => ⟨he, R.quiet hk⟩
theorem Run.close_no (R : Run B W0 w b mb s n g) {m : Int} (hm : U32 m) (hl : liveB s n g m = false) :
    Calls Try.prog 9 #[.pointer (some ⟨b, 0, none⟩), .int .u32 m] w fun e w' => e = .returned (.int .i64 63) ∧ Run B W0 w' b mb s n g :=
  (Ytinkoackknmjlaa.close_no b mb s n m g w R.tab R.site hm hl).mono fun _ _ ⟨he, k, hw⟩ => ⟨he, R.quiet (hw ▸ (Kept.refl _ w).drewN k)⟩
theorem Run.close_yes (R : Run B W0 w b mb s n g) {m : Int} (hm : U32 m) (hl : liveB s n g m = true) :
    Calls Try.prog 9 #[.pointer (some ⟨b, 0, none⟩), .int .u32 m] w fun e w' => e = .returned (.int .i64 0) ∧ Run B W0 w' b mb s n (addS (s, m) g) :=
  (Ytinkoackknmjlaa.close_yes b mb s n m g w R.tab R.site hm hl).mono fun _ _ ⟨he, hT, hk⟩ => ⟨he, R.of_kept hT hk (fun k h => h ▸ R.hmb)⟩
theorem Run.learn_no (R : Run B W0 w b mb s n g) {x y : Int} (hy : x = s ∨ ¬ 0 < y) :
    Calls Try.prog 11 #[.pointer (some ⟨b, 0, none⟩), .agg #[.int .i64 x, .int .u32 y]] w fun e w' => e = .returned (.tuple #[]) ∧ Run B W0 w' b mb s n g :=
  (Ytinkoackknmjlaa.learn_no b mb s n g x y w R.tab hy).mono fun _ _ ⟨he, hk⟩ => ⟨he, R.quiet hk⟩
theorem Run.learn_yes (R : Run B W0 w b mb s n g) {x y : Int} (h1 : I64 x) (h2 : U32 y) (hx : x ≠ s) (hy : 0 < y) :
    Calls Try.prog 11 #[.pointer (some ⟨b, 0, none⟩), .agg #[.int .i64 x, .int .u32 y]] w fun e w' => e = .returned (.tuple #[]) ∧ Run B W0 w' b mb s n (addS (x, y) g) :=
  (Ytinkoackknmjlaa.learn_yes b mb s n g x y w R.tab h1 h2 hx hy).mono fun _ _ ⟨he, hT, hk⟩ => ⟨he, R.of_kept hT hk (fun k h => h ▸ R.hmb)⟩
theorem Run.open_full (R : Run B W0 w b mb s n g) (hn : 32 ≤ n) :
    Calls Try.prog 13 #[.pointer (some ⟨b, 0, none⟩)] w fun e w' => e = .returned (.tuple #[.int .u32 0, .int .i64 4]) ∧ Run B W0 w' b mb s n g :=
  (Ytinkoackknmjlaa.open_full b mb s n g w R.tab hn).mono fun _ _ ⟨he, hw⟩ => ⟨he, hw ▸ R⟩
theorem Run.open_ok (R : Run B W0 w b mb s n g) (hn : n < 32) (h0 : 0 ≤ n) :
    Calls Try.prog 13 #[.pointer (some ⟨b, 0, none⟩)] w fun e w' => e = .returned (.tuple #[.int .u32 (n+1), .int .i64 0]) ∧ Run B W0 w' b mb s (n + 1) g :=
  (Ytinkoackknmjlaa.open_ok b mb s n g w R.tab hn h0).mono fun _ _ ⟨he, hT, hk⟩ => ⟨he, R.of_kept hT hk (fun k h => h ▸ R.hb)⟩
/-- Lives: a new slice of the live ones. -/
theorem Run.lives {k : Nat} (R : Run B W0 w b mb s k g) (hk : k ≤ 32) :
    Calls Try.prog 19 #[.pointer (some ⟨b, 0, none⟩)] w fun e w' => ∃ v, e = .returned v ∧ w'.ownsRow w.heap.size 26 1 v (liveUp s k g k).length ((liveUp s k g k).map (Value.int .u32)) ∧ Kept Nothing w w' ∧ Run B W0 w' b mb s k g :=
  (lives_any b mb s k g w R.tab R.site hk).mono fun _ _ ⟨v, he, hrow, hB⟩ =>
    have hK : Kept Nothing w _ := ⟨hB.os, hB.tape, hB.output, hB.size, fun i hi _ => hB.block i hi⟩
    ⟨v, he, hrow, hK, R.quiet hK⟩
theorem Run.goes (R : Run B W0 w b mb s n g) :
    Calls Try.prog 20 #[] w fun e w' => e = .returned (.bool true) ∧ Run B W0 w' b mb s n g :=
  (goes_true w).mono fun _ _ ⟨he, hB⟩ => ⟨he, R.quiet ⟨hB.os, hB.tape, hB.output, hB.size, fun i hi _ => hB.block i hi⟩⟩
end
end Go.Proofs.Ytinkoackknmjlaa
