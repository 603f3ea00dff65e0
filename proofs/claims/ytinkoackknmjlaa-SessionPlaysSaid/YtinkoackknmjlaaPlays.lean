/-
  SessionPlays, walked.
-/
import Derived.Test.YtinkoackknmjlaaActs
import Derived.Deep.RegionHeld3
import Derived.LoopTactic
namespace Go.Proofs.Ytinkoackknmjlaa
open Go.RowKit Go.MapKept Go.ChangeMaps Go.Shelf

def NoZ : Nat → Prop := fun _ => False
theorem Both.protect {B b mb rb : Nat} {W0 w : World} {s n m : Int} {g l : List (Int × Int)} (R : Both NoZ B W0 w b mb rb s n g m l) (o : Obj) : Both (· = w.heap.size) B W0 (w.alloc o) b mb rb s n g m l := by
  have hK : Kept Nothing w (w.alloc o) := (Kept.refl _ w).alloc o
  obtain ⟨R1, _⟩ := R.other hK
  obtain ⟨v, hr, _⟩ := R.ref
  have h1 := R.run.tab.lt
  have h2 := R.run.tab.mp.lt
  have h3 := hr.lt
  refine ⟨R1.run, ⟨v, hr.kept hK (fun e => e) (fun _ _ e => e), fun k e hz => ?_⟩, R1.hrb, R1.len, by show ¬ (b = w.heap.size); omega, by show ¬ (mb = w.heap.size); omega, by show ¬ (rb = w.heap.size); omega, fun k hk => by subst hk; simp⟩
  have := (hr.row.lt k e).2
  omega
theorem Both.unprotect {Z : Nat → Prop} {B b mb rb : Nat} {W0 w : World} {s n m : Int} {g l : List (Int × Int)} (R : Both Z B W0 w b mb rb s n g m l) : Both NoZ B W0 w b mb rb s n g m l := by
  obtain ⟨v, hr, _⟩ := R.ref
  exact ⟨R.run, ⟨v, hr, fun _ _ e => e⟩, R.hrb, R.len, fun e => e, fun e => e, fun e => e, fun _ e => e.elim⟩

theorem Both.drew {Z : Nat → Prop} {B b mb rb : Nat} {W0 w : World} {s n m : Int} {g l : List (Int × Int)} (R : Both Z B W0 w b mb rb s n g m l) : Both Z B W0 w.drew b mb rb s n g m l := (R.other ((Kept.refl _ w).drew)).1

theorem Both.protect2 {B b mb rb : Nat} {W0 w w' : World} {s n m : Int} {g l : List (Int × Int)} (R : Both NoZ B W0 w b mb rb s n g m l) (hK : Kept Nothing w w') (Z : Nat → Prop) (hZ : ∀ k, Z k → w.heap.size ≤ k ∧ k < w'.heap.size) : Both Z B W0 w' b mb rb s n g m l := by
  obtain ⟨R1, _⟩ := R.other hK
  obtain ⟨v, hr, _⟩ := R.ref
  have h1 := R.run.tab.lt
  have h2 := R.run.tab.mp.lt
  have h3 := hr.lt
  refine ⟨R1.run, ⟨v, hr.kept hK (fun e => e) (fun _ _ e => e), fun k e hz => ?_⟩, R1.hrb, R1.len, fun h => ?_, fun h => ?_, fun h => ?_, fun k hk => (hZ k hk).2⟩
  · have := (hr.row.lt k e).2
    have := (hZ k hz).1
    omega
  · have := (hZ _ h).1; omega
  · have := (hZ _ h).1; omega
  · have := (hZ _ h).1; omega

/-- A slice of numbers that a call hands back: where its cells lie. -/
theorem row_any {w : World} {base : Nat} {e : TypeId} {v : Value} {n : Nat} {xs : List Value} (h : w.ownsRow base e 1 v n xs) :
    ∃ ao cap, v = .slice ao n cap ∧ (∀ k, ao = some ⟨k, 0, none⟩ → base ≤ k ∧ k < w.heap.size) ∧ ∀ i u, xs[i]? = some u → ∃ k, ao = some ⟨k, 0, none⟩ ∧ w.cell? ⟨k, i, none⟩ = some u := by
  rcases h.2 with ⟨rfl, rfl⟩ | ⟨g, cap, cur, rfl, hg, hgb, r⟩
  · refine ⟨none, 0, rfl, (fun k e => (by cases e)), fun i u hu => ?_⟩
    have := h.1
    simp at this
    subst this
    simp at hu
  · refine ⟨some ⟨g, 0, none⟩, cap, rfl, (fun k e => (by cases e; exact ⟨hg, lt_of_block hgb⟩)), fun i u hu => ⟨g, rfl, ?_⟩⟩
    have := h.cells (g := g) rfl i u hu
    unfold Addr.add at this
    split at this
    · rename_i e; subst e; exact this
    · simpa using this
/-- The k-th live one, where k have come before. -/
theorem liveUp_at {s n : Int} {g : List (Int × Int)} {N K : Nat} (h : N + 1 ≤ K) (hl : liveB s n g ((N : Int) + 1) = true) : (liveUp s n g K)[(liveUp s n g N).length]? = some ((N : Int) + 1) := by
  obtain ⟨r, hr⟩ := liveUp_pre s n g (N + 1) (K - (N + 1))
  rw [show N + 1 + (K - (N + 1)) = K by omega, liveUp_hit hl] at hr
  rw [hr, List.append_assoc, List.getElem?_append_right (Nat.le_refl _)]
  simp
/-- Past the last one none is live. -/
theorem liveUp_past {s n : Int} {g : List (Int × Int)} {K : Nat} (h : n ≤ (K : Int)) : ∀ d, liveUp s n g (K + d) = liveUp s n g K
  | 0 => rfl
  | d + 1 => by
    rw [← Nat.add_assoc, liveUp_miss, liveUp_past h d]
    simp [liveB]
    omega

set_option maxRecDepth 100000 in
set_option maxHeartbeats 2000000 in
theorem plays_long (s : Int) (ao : Option Addr) (len cap : Nat) (w : World) (h : 100 < len) (hm : len ≤ maxLen) : Calls Try.prog 3 #[.int .i64 s, .slice ao len cap] w fun e w' => e = .returned (.bool true) ∧ Below w.heap.size w w' := by
  unfold maxLen at hm
  go_enter Try.func3, Try.ntmps3
  go_wp2
  go_ret
  exact ⟨rfl, Below.refl _ _⟩

set_option maxRecDepth 100000 in
set_option maxHeartbeats 4000000 in
theorem plays_some (s : Int) (hs : I64 s) (ai : Option Addr) (len cap : Nat) (w : World) (h : len ≤ 100) (hact : ∀ i, i < len → ∃ b off, ai = some ⟨b, off, none⟩ ∧ b < w.heap.size ∧ ∃ d a c, ActAt w b off i d a c) :
    Calls Try.prog 3 #[.int .i64 s, .slice ai len cap] w fun e w' => e = .returned (.bool true) ∧ Below w.heap.size w w' := by
  go_enter Try.func3, Try.ntmps3
  go_wp2_with fail
  refine (new_any s w).mono ?_
  rintro e w1 ⟨rfl, hw1⟩
  have R := Run.new (B := w.heap.size) (W0 := w) (w := w) (Below.refl _ w) (Nat.le_refl _) hs hw1
  have hsz : w.heap.size + 2 ≤ w1.heap.size := by rw [hw1]; simp
  clear hw1
  go_wp2
  have R0 : Both NoZ w.heap.size w (w1.alloc (.cells #[.int .i64 s, .int .u32 0, .slice none 0 0] 29)) (w.heap.size + 1) w.heap.size w1.heap.size s 0 [] 0 [] := by
    have hK : Kept Nothing w1 (w1.alloc (.cells #[.int .i64 s, .int .u32 0, .slice none 0 0] 29)) := (Kept.refl _ w1).alloc _
    refine ⟨R.quiet hK, ⟨_, ⟨World.alloc_heap_new _ _, World.ownsRow_nil _ _ _ _⟩, fun _ _ e => e⟩, by omega, by simp, fun e => e, fun e => e, fun e => e, fun _ e => e.elim⟩
  go_loopw [7] (fun i wr => ∃ k : Nat, k ≤ len ∧ i = .int .i64 k ∧ ∃ n g l, Both NoZ w.heap.size w wr (w.heap.size + 1) w.heap.size w1.heap.size s n g n l ∧ Like g l ∧ 0 ≤ n ∧ n ≤ 32 ∧ l.length ≤ k)
    (fun i _ => len - (intOf i).toNat)
  case atStart => exact ⟨0, by omega, rfl, 0, [], [], R0, fun _ => Iff.rfl, by omega, by omega, by simp⟩
  case round =>
    clear R R0
    obtain ⟨k, hk, rfl, n, g, l, R, hlike, hn0, hn1, hl⟩ := hrel
    by_cases hlt : k < len
    --L1
    · obtain ⟨b, off, hai, hb, d, x, y, a0, a1, a2, ud, ux, uy⟩ := hact k hlt
      clear hact
      subst hai
      have a0 := (R.run.below.cell (p := ⟨b, off + k * 3, none⟩) hb).trans a0
      have a1 := (R.run.below.cell (p := ⟨b, off + k * 3 + 1, none⟩) hb).trans a1
      have a2 := (R.run.below.cell (p := ⟨b, off + k * 3 + 1 + 1, none⟩) hb).trans a2
      have hbw : b < wr.heap.size := Nat.lt_of_lt_of_le hb R.run.below.size
      have hbox : ∀ (W W' : World), W.cell? ⟨wr.heap.size, 1, none⟩ = some (.int .u32 y) → Kept (fun k => ¬ k = wr.heap.size) W W' → W'.cell? ⟨wr.heap.size, 1, none⟩ = some (.int .u32 y) := fun W W' h hk => (hk.cell (p := ⟨wr.heap.size, 1, none⟩) (World.block_lt_of_cell? _ _ h) (fun e => e rfl)).trans h
      have HB := Lib.hid hbox
      have hbox0 : ∀ (W W' : World), W.cell? ⟨wr.heap.size, 0, none⟩ = some (.int .i64 x) → Kept (fun k => ¬ k = wr.heap.size) W W' → W'.cell? ⟨wr.heap.size, 0, none⟩ = some (.int .i64 x) := fun W W' h hk => (hk.cell (p := ⟨wr.heap.size, 0, none⟩) (World.block_lt_of_cell? _ _ h) (fun e => e rfl)).trans h
      have HB0 := Lib.hid hbox0
      have b0 : (wr.alloc (.cells #[.int .i64 x, .int .u32 y] 31)).drew.cell? ⟨wr.heap.size, 0, none⟩ = some (.int .i64 x) := (cells_new wr _ 31 0).trans rfl
      have b1 : (wr.alloc (.cells #[.int .i64 x, .int .u32 y] 31)).drew.cell? ⟨wr.heap.size, 1, none⟩ = some (.int .u32 y) := (cells_new wr _ 31 1).trans rfl
      have Hb0 := Lib.hid b0
      have Hb1 := Lib.hid b1
      clear hbox hbox0 b0 b1
      have RR := R.protect (.cells #[.int .i64 x, .int .u32 y] 31)
      have hl1 : l.length + 1 ≤ 199 := by omega
      have hcE : closeE s n l y = closeE s n g y := (hlike.closeE s n y).symm
      have HcE := Lib.hid hcE
      have HLIKE := Lib.hid hlike
      clear hcE hlike
      by_cases hd2 : (d.tmod 4 == 2) = true
      · go_wp2
        go_region_held3 (fun w' => w'.cell? ⟨wr.heap.size, 1, none⟩ = some (.int .u32 y)) (first | assumption | go_keep) (first | (go_at_call 9; refine (RR.drew.tClose uy rfl).mono ?_; rintro e w2 ⟨rfl, RT, KT⟩; have ct := HB.out _ _ Hb1.out KT) | (go_at_call 10; refine (RT.rClose (y := y) hl1 HcE.out).mono ?_; rintro e w3 ⟨rfl, R2, KS⟩; have cs := HB.out _ _ ct KS))
        have d0' : w3.cell? ⟨wr.heap.size, 0, none⟩ = some (.int .i64 x) := HB0.out _ _ (HB0.out _ _ Hb0.out KT) KS
        have d1' : w3.cell? ⟨wr.heap.size, 1, none⟩ = some (.int .u32 y) := cs
        have d0 : w3.drew.cell? ⟨wr.heap.size, 0, none⟩ = some (.int .i64 x) := d0'
        have d1 : w3.drew.cell? ⟨wr.heap.size, 1, none⟩ = some (.int .u32 y) := d1'
        have hlike2 := HLIKE.out.close s n y
        have hlen2 : (closeL s n l y).length ≤ k + 1 := by have := closeL_len s n l y; omega
        obtain ⟨n2, hn2⟩ : ∃ n2, n = n2 := ⟨_, rfl⟩
        generalize closeG s n g y = g2 at R2 hlike2
        generalize closeL s n l y = l2 at R2 hlike2 hlen2
        have hn20 := hn0
        have hn21 := hn1
        clear RT ct KT KS cs
        subst hn2
        have hgg : hasB l2 x y = hasB g2 x y := (hlike2.has x y).symm
        have hll : liveB s n l2 y = liveB s n g2 y := (hlike2.live s n y).symm
        obtain ⟨cg, hcg⟩ : ∃ c, hasB g2 x y = c := ⟨_, rfl⟩
        obtain ⟨cl, hcl⟩ : ∃ c, liveB s n g2 y = c := ⟨_, rfl⟩
        rw [hcg] at hgg
        rw [hcl] at hll
        have Hgg := Lib.hid hgg
        have Hll := Lib.hid hll
        have Hcg := Lib.hid hcg
        have Hcl := Lib.hid hcl
        have HLK := Lib.hid hlike2
        clear hgg hll hcg hcl hlike2
        go_wp2
        go_region_held3 (fun w' => w'.cell? ⟨wr.heap.size, 0, none⟩ = some (.int .i64 x) ∧ w'.cell? ⟨wr.heap.size, 1, none⟩ = some (.int .u32 y)) (first | assumption | go_keep) (first | (go_at_call 15; refine (R2.drew.tGone ux uy Hcg.out).mono ?_; rintro e v1 ⟨rfl, R3, K3⟩; have q0 := HB0.out _ _ d0 K3; have q1 := HB.out _ _ d1 K3; have q := And.intro q0 q1) | (go_at_call 16; refine (R3.rGone Hgg.out).mono ?_; rintro e v2 ⟨rfl, R4, K4⟩; have q0 := HB0.out _ _ q0 K4; have q1 := HB.out _ _ q1 K4; have q := And.intro q0 q1) | (go_at_call 17; refine (R4.tLive uy Hcl.out).mono ?_; rintro e v3 ⟨rfl, R5, K5⟩; have q0 := HB0.out _ _ q0 K5; have q1 := HB.out _ _ q1 K5; have q := And.intro q0 q1) | (go_at_call 18; refine (R5.rLive Hll.out).mono ?_; rintro e v4 ⟨rfl, R6, K6⟩; have q0 := HB0.out _ _ q0 K6; have q1 := HB.out _ _ q1 K6; have q := And.intro q0 q1))
        go_wp2
        go_roundw
        case rel => exact ⟨k + 1, by omega, by go_num, n, g2, l2, R6.unprotect, HLK.out, hn20, hn21, hlen2⟩
        case measure => simp [intOf]; omega
      · have hd2' : (d.tmod 4 == 2) = false := by simpa using hd2
        clear hd2
        by_cases hd3 : (d.tmod 4 == 3) = true
        · have hlike2 := HLIKE.out.learn s x y
          have hlen2 : (learnL s l x y).length ≤ k + 1 := by have := learnL_len s l x y; omega
          go_wp2_with fail
          refine (RR.tLearn ux uy).mono ?_
          rintro e w2 ⟨rfl, RT, KT⟩
          have ct0 : w2.cell? ⟨wr.heap.size, 0, none⟩ = some (.int .i64 x) := HB0.out (wr.alloc (.cells #[.int .i64 x, .int .u32 y] 31)) _ Hb0.out KT
          have ct1 : w2.cell? ⟨wr.heap.size, 1, none⟩ = some (.int .u32 y) := HB.out (wr.alloc (.cells #[.int .i64 x, .int .u32 y] 31)) _ Hb1.out KT
          go_wp2_with fail
          refine (RT.rLearn (x := x) uy hl1).mono ?_
          rintro e w3 ⟨rfl, R2, KS⟩
          have d0' : w3.cell? ⟨wr.heap.size, 0, none⟩ = some (.int .i64 x) := HB0.out _ _ ct0 KS
          have d1' : w3.cell? ⟨wr.heap.size, 1, none⟩ = some (.int .u32 y) := HB.out _ _ ct1 KS
          have d0 : w3.drew.cell? ⟨wr.heap.size, 0, none⟩ = some (.int .i64 x) := d0'
          have d1 : w3.drew.cell? ⟨wr.heap.size, 1, none⟩ = some (.int .u32 y) := d1'
          generalize learnG s g x y = g2 at R2 hlike2
          generalize learnL s l x y = l2 at R2 hlike2 hlen2
          have hn20 := hn0
          have hn21 := hn1
          clear RT ct0 ct1 KT KS
          have hgg : hasB l2 x y = hasB g2 x y := (hlike2.has x y).symm
          have hll : liveB s n l2 y = liveB s n g2 y := (hlike2.live s n y).symm
          obtain ⟨cg, hcg⟩ : ∃ c, hasB g2 x y = c := ⟨_, rfl⟩
          obtain ⟨cl, hcl⟩ : ∃ c, liveB s n g2 y = c := ⟨_, rfl⟩
          rw [hcg] at hgg
          rw [hcl] at hll
          have Hgg := Lib.hid hgg
          have Hll := Lib.hid hll
          have Hcg := Lib.hid hcg
          have Hcl := Lib.hid hcl
          have HLK := Lib.hid hlike2
          clear hgg hll hcg hcl hlike2
          go_wp2
          go_region_held3 (fun w' => w'.cell? ⟨wr.heap.size, 0, none⟩ = some (.int .i64 x) ∧ w'.cell? ⟨wr.heap.size, 1, none⟩ = some (.int .u32 y)) (first | assumption | go_keep) (first | (go_at_call 15; refine (R2.drew.tGone ux uy Hcg.out).mono ?_; rintro e v1 ⟨rfl, R3, K3⟩; have q0 := HB0.out _ _ d0 K3; have q1 := HB.out _ _ d1 K3; have q := And.intro q0 q1) | (go_at_call 16; refine (R3.rGone Hgg.out).mono ?_; rintro e v2 ⟨rfl, R4, K4⟩; have q0 := HB0.out _ _ q0 K4; have q1 := HB.out _ _ q1 K4; have q := And.intro q0 q1) | (go_at_call 17; refine (R4.tLive uy Hcl.out).mono ?_; rintro e v3 ⟨rfl, R5, K5⟩; have q0 := HB0.out _ _ q0 K5; have q1 := HB.out _ _ q1 K5; have q := And.intro q0 q1) | (go_at_call 18; refine (R5.rLive Hll.out).mono ?_; rintro e v4 ⟨rfl, R6, K6⟩; have q0 := HB0.out _ _ q0 K6; have q1 := HB.out _ _ q1 K6; have q := And.intro q0 q1))
          go_wp2
          go_roundw
          case rel => exact ⟨k + 1, by omega, by go_num, n, g2, l2, R6.unprotect, HLK.out, hn20, hn21, hlen2⟩
          case measure => simp [intOf]; omega

        · have hd3' : (d.tmod 4 == 3) = false := by simpa using hd3
          clear hd3
          have hlike2 := HLIKE.out
          have hlen2 : l.length ≤ k + 1 := by omega
          have hn2 := openN_bd hn0 hn1
          go_wp2_with fail
          refine (RR.tOpen hn0 hn1).mono ?_
          rintro e w2 ⟨rfl, RT, KT⟩
          have ct0 : w2.cell? ⟨wr.heap.size, 0, none⟩ = some (.int .i64 x) := HB0.out (wr.alloc (.cells #[.int .i64 x, .int .u32 y] 31)) _ Hb0.out KT
          have ct1 : w2.cell? ⟨wr.heap.size, 1, none⟩ = some (.int .u32 y) := HB.out (wr.alloc (.cells #[.int .i64 x, .int .u32 y] 31)) _ Hb1.out KT
          go_wp2_with fail
          refine (RT.rOpen hn0 hn1).mono ?_
          rintro e w3 ⟨rfl, R2, KS⟩
          have d0' : w3.cell? ⟨wr.heap.size, 0, none⟩ = some (.int .i64 x) := HB0.out _ _ ct0 KS
          have d1' : w3.cell? ⟨wr.heap.size, 1, none⟩ = some (.int .u32 y) := HB.out _ _ ct1 KS
          have d0 : w3.drew.cell? ⟨wr.heap.size, 0, none⟩ = some (.int .i64 x) := d0'
          have d1 : w3.drew.cell? ⟨wr.heap.size, 1, none⟩ = some (.int .u32 y) := d1'
          obtain ⟨g2, hg2⟩ : ∃ g2, g = g2 := ⟨_, rfl⟩
          subst hg2
          obtain ⟨l2, hl2⟩ : ∃ l2, l = l2 := ⟨_, rfl⟩
          subst hl2
          generalize openN n = n2 at R2 hn2
          obtain ⟨hn20, hn21⟩ := hn2
          clear RT ct0 ct1 KT KS
          have hgg : hasB l x y = hasB g x y := (hlike2.has x y).symm
          have hll : liveB s n2 l y = liveB s n2 g y := (hlike2.live s n2 y).symm
          obtain ⟨cg, hcg⟩ : ∃ c, hasB g x y = c := ⟨_, rfl⟩
          obtain ⟨cl, hcl⟩ : ∃ c, liveB s n2 g y = c := ⟨_, rfl⟩
          rw [hcg] at hgg
          rw [hcl] at hll
          have Hgg := Lib.hid hgg
          have Hll := Lib.hid hll
          have Hcg := Lib.hid hcg
          have Hcl := Lib.hid hcl
          have HLK := Lib.hid hlike2
          clear hgg hll hcg hcl hlike2
          go_wp2
          go_region_held3 (fun w' => w'.cell? ⟨wr.heap.size, 0, none⟩ = some (.int .i64 x) ∧ w'.cell? ⟨wr.heap.size, 1, none⟩ = some (.int .u32 y)) (first | assumption | go_keep) (first | (go_at_call 15; refine (R2.drew.tGone ux uy Hcg.out).mono ?_; rintro e v1 ⟨rfl, R3, K3⟩; have q0 := HB0.out _ _ d0 K3; have q1 := HB.out _ _ d1 K3; have q := And.intro q0 q1) | (go_at_call 16; refine (R3.rGone Hgg.out).mono ?_; rintro e v2 ⟨rfl, R4, K4⟩; have q0 := HB0.out _ _ q0 K4; have q1 := HB.out _ _ q1 K4; have q := And.intro q0 q1) | (go_at_call 17; refine (R4.tLive uy Hcl.out).mono ?_; rintro e v3 ⟨rfl, R5, K5⟩; have q0 := HB0.out _ _ q0 K5; have q1 := HB.out _ _ q1 K5; have q := And.intro q0 q1) | (go_at_call 18; refine (R5.rLive Hll.out).mono ?_; rintro e v4 ⟨rfl, R6, K6⟩; have q0 := HB0.out _ _ q0 K6; have q1 := HB.out _ _ q1 K6; have q := And.intro q0 q1))
          go_wp2
          go_roundw
          case rel => exact ⟨k + 1, by omega, by go_num, n2, g, l, R6.unprotect, HLK.out, hn20, hn21, hlen2⟩
          case measure => simp [intOf]; omega

    --L2
    · have hkl : k = len := by omega
      have hkl' := Lib.hid hkl
      clear hkl hact
      obtain ⟨N, rfl⟩ := Int.eq_ofNat_of_zero_le hn0
      have hN : N ≤ 32 := by omega
      go_wp2_with fail
      refine (R.run.lives hN).mono ?_
      rintro e w5 ⟨v, rfl, hrow, K5, _⟩
      obtain ⟨ao, cap', rfl, hao, hcells⟩ := row_any hrow
      have R5 := R.protect2 K5 (fun k => ao = some ⟨k, 0, none⟩) hao
      have hL := liveUp_len s N g N
      have HC := Lib.hid hcells
      clear hrow hcells hao K5 R
      go_wp2
      go_loopw [14, 15] (fun kv nv wq => ∃ j : Nat, j ≤ 40 ∧ nv = .int .u32 j ∧ kv = .int .i64 ((liveUp s N g (j - 1)).length : Int) ∧ Both (fun k => ao = some ⟨k, 0, none⟩) w.heap.size w wq (w.heap.size + 1) w.heap.size w1.heap.size s N g N l ∧ Kept (fun k => ¬ ao = some ⟨k, 0, none⟩) w5 wq)
        (fun _ nv _ => 40 - (intOf nv).toNat)
      case atStart => exact ⟨0, by omega, rfl, rfl, R5, Kept.refl _ _⟩
      case round =>
        obtain ⟨j, hj, rfl, rfl, R6, K6⟩ := hrel
        clear R5
        by_cases hj40 : j < 40
        · obtain ⟨cg, hcg⟩ : ∃ c, hasB g s j = c := ⟨_, rfl⟩
          obtain ⟨cl, hcl⟩ : ∃ c, liveB s N g j = c := ⟨_, rfl⟩
          have hgg := (hlike.has s j).symm.trans hcg
          have hll := (hlike.live s N j).symm.trans hcl
          have Hcg := Lib.hid hcg
          have Hgg := Lib.hid hgg
          have Hcl := Lib.hid hcl
          have Hll := Lib.hid hll
          clear hcg hgg hcl hll
          go_wp2_with fail
          refine (R6.tLive ⟨by omega, by omega⟩ Hcl.out).mono ?_
          rintro e v1 ⟨rfl, R7, K7⟩
          go_wp2_with fail
          refine (R7.rLive Hll.out).mono ?_
          rintro e v2 ⟨rfl, R8, K8⟩
          go_wp2_with fail
          refine (R8.tGone hs ⟨by omega, by omega⟩ Hcg.out).mono ?_
          rintro e v3 ⟨rfl, R9, K9⟩
          go_wp2_with fail
          refine (R9.rGone Hgg.out).mono ?_
          rintro e v4 ⟨rfl, Ra, Ka⟩
          go_wp2_with fail
          refine (Ra.rLive Hll.out).mono ?_
          rintro e v5 ⟨rfl, Rb, Kb⟩
          have Kt := ((((K6.trans (K7.mono fun k _ h => h)).trans (K8.mono fun k _ h => h)).trans (K9.mono fun k _ h => h)).trans (Ka.mono fun k _ h => h)).trans (Kb.mono fun k _ h => h)
          clear R6 K6 R7 K7 R8 K8 R9 K9 Ra Ka Kb
          cases cl with
          | false =>
            have hlen : liveUp s N g (j + 1 - 1) = liveUp s N g (j - 1) := by
              cases j with
              | zero => rfl
              | succ j => exact liveUp_miss (by simpa using Hcl.out)
            have HLen := Lib.hid hlen
            clear hlen
            go_wp2
            go_roundw
            case rel => exact ⟨j + 1, by omega, by go_num, by rw [HLen.out], Rb, Kt⟩
            case measure => simp [intOf]; omega
          | true =>
            have hfacts : ∃ L : Nat, (liveUp s N g (j - 1)).length = L ∧ (liveUp s N g (j + 1 - 1)).length = L + 1 ∧ L < (liveUp s N g N).length ∧ ((liveUp s N g N).map (Value.int .u32))[L]? = some (.int .u32 (j : Int)) := by
              have hlv := Hcl.out
              obtain ⟨i, rfl⟩ : ∃ i, j = i + 1 := ⟨j - 1, by cases j with | zero => simp [liveB] at hlv | succ j => rfl⟩
              have hlv : liveB s N g ((i : Int) + 1) = true := by simpa using hlv
              have hiN : i + 1 ≤ N := by
                have := hlv
                simp [liveB] at this
                omega
              have hat := liveUp_at hiN hlv
              refine ⟨(liveUp s N g i).length, rfl, ?_, (List.getElem?_eq_some_iff.1 hat).1, ?_⟩
              · show (liveUp s N g (i + 1)).length = _
                rw [liveUp_hit hlv]; simp
              · rw [List.getElem?_map, hat]; simp
            obtain ⟨L, hL1, hL2, hL3, hL4⟩ := hfacts
            obtain ⟨q, hq, hcell⟩ := HC.out L _ hL4
            subst hq
            have hc5 : v5.cell? ⟨q, L, none⟩ = some (.int .u32 (j : Int)) := (Kt.cell (p := ⟨q, L, none⟩) (World.block_lt_of_cell? _ _ hcell) (fun e => e rfl)).trans hcell
            have HN := Lib.hid hL2
            have hd1 : decide (((liveUp s N g N).length : Int) ≤ (L : Int)) = false := by simp; omega
            rw [hL1]
            clear hL1 hL2 hL4 hcell
            go_wp2
            go_roundw
            case rel => exact ⟨j + 1, by omega, by go_num, by rw [HN.out]; go_num, Rb, Kt⟩
            case measure => simp [intOf]; omega
        · have hj' : j = 40 := by omega
          have Hj := Lib.hid hj'
          have hlen : liveUp s N g (j - 1) = liveUp s N g N := by
            rw [hj']
            have := liveUp_past (s := s) (g := g) (K := N) (Int.le_refl _) (39 - N)
            rw [show N + (39 - N) = 40 - 1 by omega] at this
            exact this
          rw [hlen]
          clear hlen hj'
          go_wp2_with fail
          refine (goes_true wr).mono ?_
          rintro e v1 ⟨rfl, Bv⟩
          go_wp2
          go_ret
          exact ⟨rfl, R6.run.below.trans (Bv.mono (Nat.le_trans R6.run.hB R6.run.below.size))⟩
end Go.Proofs.Ytinkoackknmjlaa
