/-
  SessionOnce, walked.
-/
import Derived.Test.YtinkoackknmjlaaCounts
import Derived.Test.YtinkoackknmjlaaActs
import Derived.Test.YtinkoackknmjlaaExt
import Derived.Deep.DeepCutAuto
import Derived.Deep.CutBlock
namespace Go.Proofs.Ytinkoackknmjlaa
open Go.RowKit Go.MapKept Go.ChangeMaps Go.Shelf
open Go.Maps (Keyed)

/-! ### plain -/
theorem contains_inst (L : List (Int × Int)) (p : Int × Int) : @List.contains (Int × Int) instBEqOfDecidableEq L p = L.contains p := by
  rw [Bool.eq_iff_iff]; simp
theorem liveUp_congr {s n : Int} {g : List (Int × Int)} {C : List Int} (h : ∀ k, (s, k) ∈ g ↔ k ∈ C) (N : Nat) : liveUp s n g N = liveUp s n (withS s C) N := by
  have e : liveB s n g = liveB s n (withS s C) := by
    funext k
    have h1 := withS_has s k C
    have h2 : g.contains (s, k) = C.contains k := by
      rw [Bool.eq_iff_iff]
      simpa using h k
    unfold liveB
    rw [h1, h2]
  unfold liveUp
  rw [e]

/-- What the law's own books say of the table. -/
structure Books (s : Int) (n : Nat) (g : List (Int × Int)) (C : List Int) (L : List (Int × Int)) : Prop where
  own : ∀ k, (s, k) ∈ g ↔ k ∈ C
  far : ∀ x k, x ≠ s → ((x, k) ∈ g ↔ (x, k) ∈ L)
  bd : ∀ k ∈ C, 1 ≤ k ∧ k ≤ (n : Int)
  n32 : n ≤ 32

theorem Books.close {s : Int} {n : Nat} {g : List (Int × Int)} {C : List Int} {L : List (Int × Int)} (h : Books s n g C L) {y : Int} (h1 : 1 ≤ y) (h2 : y ≤ (n : Int)) : Books s n (addS (s, y) g) (addK y C) L := by
  refine ⟨fun k => ?_, fun x k hx => ?_, fun k hk => ?_, h.n32⟩
  · rw [mem_addS, mem_addK, h.own k]; simp
  · rw [mem_addS, ← h.far x k hx]; simp [hx]
  · rcases mem_addK.1 hk with rfl | hk
    · exact ⟨h1, h2⟩
    · exact h.bd k hk
theorem Books.learn {s : Int} {n : Nat} {g : List (Int × Int)} {C : List Int} {L : List (Int × Int)} (h : Books s n g C L) {x y : Int} (hx : x ≠ s) : Books s n (addS (x, y) g) C (addK (x, y) L) := by
  refine ⟨fun k => ?_, fun x' k hx' => ?_, h.bd, h.n32⟩
  · rw [mem_addS, ← h.own k]
    have : (s, k) ≠ (x, y) := fun e => hx (by cases e; rfl)
    simp [this]
  · rw [mem_addS, mem_addK, h.far x' k hx']
theorem Books.opened {s : Int} {n : Nat} {g : List (Int × Int)} {C : List Int} {L : List (Int × Int)} (h : Books s n g C L) (hn : n < 32) : Books s (n + 1) g C L :=
  ⟨h.own, h.far, fun k hk => by have := h.bd k hk; omega, by omega⟩
theorem Books.has {s : Int} {n : Nat} {g : List (Int × Int)} {C : List Int} {L : List (Int × Int)} (h : Books s n g C L) (y : Int) : hasB g s y = C.contains y := by
  have := h.own y
  unfold hasB
  rw [Bool.eq_iff_iff]
  simpa using this
theorem Books.hasFar {s : Int} {n : Nat} {g : List (Int × Int)} {C : List Int} {L : List (Int × Int)} (h : Books s n g C L) {x : Int} (hx : x ≠ s) (y : Int) : hasB g x y = L.contains (x, y) := by
  have := h.far x y hx
  unfold hasB
  rw [Bool.eq_iff_iff]
  simpa using this

structure OnceSt (B : Nat) (W0 w : World) (b mb cb lb : Nat) (s : Int) (n : Nat) (g : List (Int × Int)) (C : List Int) (L : List (Int × Int)) : Prop where
  run : Run B W0 w b mb s n g
  cs : SetAt Try.prog 26 uk w cb C
  ls : SetAt Try.prog 31 sk w lb L
  ne1 : cb ≠ b ∧ cb ≠ mb
  ne2 : lb ≠ b ∧ lb ≠ mb
  ne3 : cb ≠ lb
  hc : B ≤ cb
  hl : B ≤ lb
section
variable {B b mb cb lb : Nat} {W0 w : World} {s : Int} {n : Nat} {g : List (Int × Int)} {C : List Int} {L : List (Int × Int)}
theorem OnceSt.ofRun (S : OnceSt B W0 w b mb cb lb s n g C L) {P : Nat → Prop} {w' : World} {n' : Nat} {g' : List (Int × Int)} (R : Run B W0 w' b mb s n' g') (hk : Kept P w w') (hP : ∀ k, P k → k = b ∨ k = mb) : OnceSt B W0 w' b mb cb lb s n' g' C L :=
  ⟨R, S.cs.kept hk (fun h => (hP _ h).elim S.ne1.1 S.ne1.2), S.ls.kept hk (fun h => (hP _ h).elim S.ne2.1 S.ne2.2), S.ne1, S.ne2, S.ne3, S.hc, S.hl⟩
theorem OnceSt.quiet (S : OnceSt B W0 w b mb cb lb s n g C L) {w' : World} (hk : Kept Nothing w w') : OnceSt B W0 w' b mb cb lb s n g C L :=
  S.ofRun (S.run.quiet hk) hk (fun _ h => h.elim)
theorem Run.GoneH (R : Run B W0 w b mb s n g) {x y : Int} (h1 : I64 x) (h2 : U32 y) :
    Calls Try.prog 15 #[.pointer (some ⟨b, 0, none⟩), .agg #[.int .i64 x, .int .u32 y]] w fun e w' => e = .returned (.bool (hasB g x y)) ∧ Run B W0 w' b mb s n g ∧ Kept Nothing w w' :=
  (gone_any b mb s n g x y w R.tab h1 h2).mono fun _ _ ⟨he, hk⟩ => ⟨he, R.quiet hk, hk⟩
theorem Run.learn_no3 (R : Run B W0 w b mb s n g) {x y : Int} (hy : x = s ∨ ¬ 0 < y) :
    Calls Try.prog 11 #[.pointer (some ⟨b, 0, none⟩), .agg #[.int .i64 x, .int .u32 y]] w fun e w' => e = .returned (.tuple #[]) ∧ Run B W0 w' b mb s n g ∧ Kept Nothing w w' :=
  (Ytinkoackknmjlaa.learn_no b mb s n g x y w R.tab hy).mono fun _ _ ⟨he, hk⟩ => ⟨he, R.quiet hk, hk⟩
theorem Run.learn_yes3 (R : Run B W0 w b mb s n g) {x y : Int} (h1 : I64 x) (h2 : U32 y) (hx : x ≠ s) (hy : 0 < y) :
    Calls Try.prog 11 #[.pointer (some ⟨b, 0, none⟩), .agg #[.int .i64 x, .int .u32 y]] w fun e w' => e = .returned (.tuple #[]) ∧ Run B W0 w' b mb s n (addS (x, y) g) ∧ Kept (· = mb) w w' :=
  (Ytinkoackknmjlaa.learn_yes b mb s n g x y w R.tab h1 h2 hx hy).mono fun _ _ ⟨he, hT, hk⟩ => ⟨he, R.of_kept hT hk (fun k h => h ▸ R.hmb), hk⟩
theorem Run.open_full3 (R : Run B W0 w b mb s n g) (hn : 32 ≤ (n : Int)) :
    Calls Try.prog 13 #[.pointer (some ⟨b, 0, none⟩)] w fun e w' => e = .returned (.tuple #[.int .u32 0, .int .i64 4]) ∧ Run B W0 w' b mb s n g ∧ Kept Nothing w w' :=
  (Ytinkoackknmjlaa.open_full b mb s n g w R.tab hn).mono fun _ _ ⟨he, hw⟩ => ⟨he, hw ▸ R, hw ▸ Kept.refl _ _⟩
theorem Run.open_ok3 (R : Run B W0 w b mb s n g) (hn : (n : Int) < 32) (h0 : 0 ≤ (n : Int)) :
    Calls Try.prog 13 #[.pointer (some ⟨b, 0, none⟩)] w fun e w' => e = .returned (.tuple #[.int .u32 ((n : Int)+1), .int .i64 0]) ∧ Run B W0 w' b mb s ((n : Int) + 1) g ∧ Kept (· = b) w w' :=
  (Ytinkoackknmjlaa.open_ok b mb s n g w R.tab hn h0).mono fun _ _ ⟨he, hT, hk⟩ => ⟨he, R.of_kept hT hk (fun k h => h ▸ R.hb), hk⟩
theorem Run.LiveH (R : Run B W0 w b mb s n g) {m : Int} (hm : U32 m) :
    Calls Try.prog 17 #[.pointer (some ⟨b, 0, none⟩), .int .u32 m] w fun e w' => e = .returned (.bool (liveB s n g m)) ∧ Run B W0 w' b mb s n g ∧ Kept Nothing w w' :=
  (live_any b mb s n m g w R.tab R.site hm).mono fun _ _ ⟨he, k, hw⟩ => ⟨he, R.quiet (hw ▸ (Kept.refl _ w).drewN k), hw ▸ (Kept.refl _ w).drewN k⟩
end

set_option maxRecDepth 100000 in
set_option maxHeartbeats 2000000 in
theorem once_long (s : Int) (ao : Option Addr) (len cap : Nat) (w : World) (h : 100 < len) (hm : len ≤ maxLen) : Calls Try.prog 4 #[.int .i64 s, .slice ao len cap] w fun e w' => e = .returned (.bool true) ∧ Below w.heap.size w w' := by
  unfold maxLen at hm
  go_enter Try.func4, Try.ntmps4
  go_wp2
  go_ret
  exact ⟨rfl, Below.refl _ _⟩

set_option maxRecDepth 100000 in
set_option maxHeartbeats 8000000 in
theorem once_some (s : Int) (hs : I64 s) (ai : Option Addr) (len cap : Nat) (w : World) (h : len ≤ 100) (hact : ∀ i, i < len → ∃ b off, ai = some ⟨b, off, none⟩ ∧ b < w.heap.size ∧ ∃ d a c, ActAt w b off i d a c) :
    Calls Try.prog 4 #[.int .i64 s, .slice ai len cap] w fun e w' => e = .returned (.bool true) ∧ Below w.heap.size w w' := by
  have hmm := @run_makeMap Try.prog
  go_enter Try.func4, Try.ntmps4
  go_wp2_with fail
  refine (new_any s w).mono ?_
  rintro e w1 ⟨rfl, hw1⟩
  have R := Run.new (B := w.heap.size) (W0 := w) (w := w) (Below.refl _ w) (Nat.le_refl _) hs hw1
  have hsz : w.heap.size + 2 ≤ w1.heap.size := by rw [hw1]; simp
  clear hw1
  have S0 : OnceSt w.heap.size w ((w1.alloc (.map #[] 0)).alloc (.map #[] 0)) (w.heap.size + 1) w.heap.size w1.heap.size (w1.heap.size + 1) s 0 [] [] [] := by
    have hK : Kept Nothing w1 ((w1.alloc (.map #[] 0)).alloc (.map #[] 0)) := ((Kept.refl _ w1).alloc _).alloc _
    have h2 := SetAt.made Try.prog 31 sk (w1.alloc (.map #[] 0))
    rw [World.size_alloc] at h2
    exact ⟨R.quiet hK, (SetAt.made Try.prog 26 uk w1).kept ((Kept.refl Nothing _).alloc _) (fun e => e), h2, ⟨by omega, by omega⟩, ⟨by omega, by omega⟩, by omega, by omega, by omega⟩
  have B0 : Books s 0 [] [] [] := ⟨by simp, by simp, by simp, by omega⟩
  obtain ⟨cb, hcb⟩ : ∃ cb, cb = w1.heap.size := ⟨_, rfl⟩
  rw [← hcb] at S0
  clear R
  go_wp2
  rw [← hcb]
  clear hcb
  go_loopw [6, 9] (fun nv i wr => ∃ k : Nat, k ≤ len ∧ i = .int .i64 k ∧ ∃ (n : Nat) (g : List (Int × Int)) (C : List Int) (L : List (Int × Int)), nv = .int .u32 n ∧ OnceSt w.heap.size w wr (w.heap.size + 1) w.heap.size cb (cb + 1) s n g C L ∧ Books s n g C L)
    (fun _ i _ => len - (intOf i).toNat)
  case atStart => exact ⟨0, by omega, rfl, 0, [], [], [], rfl, S0, B0⟩
  case round =>
    clear S0 B0
    obtain ⟨k, hk, rfl, n, g, C, L, rfl, S, BK⟩ := hrel
    by_cases hlt : k < len
    · obtain ⟨b, off, hai, hb, d, x, y, a0, a1, a2, ud, ux, uy⟩ := hact k hlt
      clear hact
      subst hai
      have a0 := (S.run.below.cell (p := ⟨b, off + k * 3, none⟩) hb).trans a0
      have a1 := (S.run.below.cell (p := ⟨b, off + k * 3 + 1, none⟩) hb).trans a1
      have a2 := (S.run.below.cell (p := ⟨b, off + k * 3 + 1 + 1, none⟩) hb).trans a2
      have hbw : b < wr.heap.size := Nat.lt_of_lt_of_le hb S.run.below.size
      have e0 : (wr.alloc (.cells #[.int .i64 x, .int .u32 y] 31)).cell? ⟨wr.heap.size, 0, none⟩ = some (.int .i64 x) := (cells_new wr _ 31 0).trans rfl
      have e1 : (wr.alloc (.cells #[.int .i64 x, .int .u32 y] 31)).cell? ⟨wr.heap.size, 1, none⟩ = some (.int .u32 y) := (cells_new wr _ 31 1).trans rfl
      have S1 := S.quiet ((Kept.refl Nothing wr).alloc (.cells #[.int .i64 x, .int .u32 y] 31))
      have hsb1 := S.run.tab.lt
      have hsb2 := S.run.tab.mp.lt
      have hsb3 := S.cs.lt
      have hsb4 := S.ls.lt
      have HS1 := Lib.hid S1
      have HBK := Lib.hid BK
      have He := Lib.hid (And.intro e0 e1)
      clear S1 BK e0 e1
      go_upto_block 2 with (fail)
      obtain ⟨wb, hwb⟩ : ∃ wb, wr.alloc (.cells #[.int .i64 x, .int .u32 y] 31) = wb := ⟨_, rfl⟩
      have hsz2 : wr.heap.size < wb.heap.size := by rw [← hwb]; simp
      obtain ⟨sb, hsb⟩ : ∃ sb, wr.heap.size = sb := ⟨_, rfl⟩
      rw [hwb] at HS1 He ⊢
      rw [hsb] at He hsb1 hsb2 hsb3 hsb4 hsz2 ⊢
      clear hwb hsb S a0 a1 a2
      have S1 := HS1.out
      obtain ⟨e0, e1⟩ := He.out
      have BK0 := HBK.out
      clear HS1 He HBK
      go_cut [6] (fun s6 wc => ∃ (n' : Nat) (g' : List (Int × Int)) (C' : List Int) (L' : List (Int × Int)), s6 = .int .u32 n' ∧ OnceSt w.heap.size w wc (w.heap.size + 1) w.heap.size cb (cb + 1) s n' g' C' L' ∧ Books s n' g' C' L' ∧
        wc.cell? ⟨sb, 0, none⟩ = some (.int .i64 x) ∧ wc.cell? ⟨sb, 1, none⟩ = some (.int .u32 y))
      case first =>
        have hn32 := BK0.n32
        have HBK := Lib.hid BK0
        have lkc : ∀ W, SetAt Try.prog 26 uk W cb C → (Instr.lookup 45 (.map (some cb)) (.int .u32 y) false).run Try.prog W = .ok (.bool (C.contains y)) W := fun W hW => by
          obtain ⟨l, hl⟩ := uk_key uy
          exact hW.look Try.law26 uk_inj Try.underlying45 Try.zero4 hl
        have q0 := lkc _ S1.cs
        have hown := BK0.own y
        have hlB : liveB s n g y = (decide (1 ≤ y) && decide (y ≤ (n : Int)) && !(C.contains y)) := by
          have h1 := BK0.has y
          unfold hasB at h1
          unfold liveB
          rw [h1]
          congr 2
        have hCc : C.contains y = true → 1 ≤ y ∧ y ≤ (n : Int) := fun h => BK0.bd y (by simpa using h)
        generalize hcy : C.contains y = cy at q0 hlB hCc
        have Hcy := Lib.hid hcy
        have HlB := Lib.hid hlB
        have HcC := Lib.hid hCc
        have HS := Lib.hid S1
        clear hcy hlB hCc hown lkc BK0
        have hsbne : sb ≠ w.heap.size + 1 ∧ sb ≠ w.heap.size ∧ sb ≠ cb ∧ sb ≠ cb + 1 := by omega
        have hbox : ∀ (P : Nat → Prop) (W W' : World), Kept P W W' → ¬ P sb → W.cell? ⟨sb, 0, none⟩ = some (.int .i64 x) → W.cell? ⟨sb, 1, none⟩ = some (.int .u32 y) → W'.cell? ⟨sb, 0, none⟩ = some (.int .i64 x) ∧ W'.cell? ⟨sb, 1, none⟩ = some (.int .u32 y) :=
          fun P W W' hk hn h0 h1 => ⟨(hk.cell (p := ⟨sb, 0, none⟩) (World.block_lt_of_cell? _ _ h0) hn).trans h0, (hk.cell (p := ⟨sb, 1, none⟩) (World.block_lt_of_cell? _ _ h1) hn).trans h1⟩
        have HX := Lib.hid hbox
        clear hbox
        by_cases hd2 : (d.tmod 4 == 2) = true
        · cases hl : liveB s n g y with
          | true =>
            have hh := HlB.out
            rw [hl] at hh
            replace hh := hh.symm
            simp only [Bool.and_eq_true, decide_eq_true_eq, Bool.not_eq_true'] at hh
            obtain ⟨⟨y1, y2⟩, rfl⟩ := hh
            have y1' : decide ((1 : Int) ≤ y) = true := by simpa using y1
            have y2' : decide (y ≤ (n : Int)) = true := by simpa using y2
            have Hl := Lib.hid hl
            clear hl y1 y2
            go_wp2_with fail
            refine (S1.run.close_yes2 uy Hl.out).mono ?_
            rintro e w3 ⟨rfl, R3, K3⟩
            obtain ⟨f0, f1⟩ := HX.out _ _ _ K3 (by omega) e0 e1
            have S3 := HS.out.ofRun R3 K3 (fun k h => .inr h)
            have hy1 : 1 ≤ y := by simpa using y1'
            have hy2 : y ≤ (n : Int) := by simpa using y2'
            obtain ⟨ly, hly⟩ := uk_key uy
            obtain ⟨o, ho⟩ := S3.cs.store Try.law26 uk_inj Try.underlying45 hly
            obtain ⟨g1, g2, g3⟩ := ho w3 rfl
            have g1 : (Instr.mapUpdate 45 (.map (some cb)) (.int .u32 y) (.bool true)).run Try.prog w3 = .ok () (setBlock w3 cb o) := g1
            obtain ⟨f2, f3⟩ := HX.out _ _ _ g3 (by omega) f0 f1
            have R5 := R3.other g3 (fun k hk => by subst hk; exact S3.hc) (fun h => S3.ne1.1 h.symm) (fun h => S3.ne1.2 h.symm)
            have S5 : OnceSt w.heap.size w (setBlock w3 cb o) (w.heap.size + 1) w.heap.size cb (cb + 1) s n (addS (s, y) g) (addK y C) L := ⟨R5, g2, S3.ls.kept g3 (fun h => S3.ne3 h.symm), S3.ne1, S3.ne2, S3.ne3, S3.hc, S3.hl⟩
            have B5 := HBK.out.close hy1 hy2
            clear ho hly hy1 hy2 q0 e0 e1 S1
            go_wp2
            go_meet
            case rel => exact ⟨n, _, _, _, rfl, S5, B5, f2, f3⟩
          | false =>
            have hh := HlB.out
            rw [hl] at hh
            have Hl := Lib.hid hl
            clear hl
            by_cases y1 : 1 ≤ y
            · have y1' : decide ((1 : Int) ≤ y) = true := by simpa using y1
              by_cases y2 : y ≤ (n : Int)
              · have y2' : decide (y ≤ (n : Int)) = true := by simpa using y2
                have hcy : cy = true := by
                  rw [y1', y2'] at hh
                  simpa using hh.symm
                subst hcy
                clear hh y1 y2
                go_wp2_with fail
                refine (S1.run.close_no2 uy Hl.out).mono ?_
                rintro e w3 ⟨rfl, R3, K3⟩
                obtain ⟨f0, f1⟩ := HX.out _ _ _ K3 (fun e => e) e0 e1
                have S3 := HS.out.quiet K3
                clear q0 e0 e1 S1
                go_wp2
                go_meet
                case rel => exact ⟨n, _, _, _, rfl, S3, HBK.out, f0, f1⟩
              · have y2' : decide (y ≤ (n : Int)) = false := by simpa using y2
                clear hh y1 y2
                go_wp2_with fail
                refine (S1.run.close_no2 uy Hl.out).mono ?_
                rintro e w3 ⟨rfl, R3, K3⟩
                obtain ⟨f0, f1⟩ := HX.out _ _ _ K3 (fun e => e) e0 e1
                have S3 := HS.out.quiet K3
                clear q0 e0 e1 S1
                go_wp2
                go_meet
                case rel => exact ⟨n, _, _, _, rfl, S3, HBK.out, f0, f1⟩
            · have y1' : decide ((1 : Int) ≤ y) = false := by simpa using y1
              clear hh y1
              go_wp2_with fail
              refine (S1.run.close_no2 uy Hl.out).mono ?_
              rintro e w3 ⟨rfl, R3, K3⟩
              obtain ⟨f0, f1⟩ := HX.out _ _ _ K3 (fun e => e) e0 e1
              have S3 := HS.out.quiet K3
              clear q0 e0 e1 S1
              go_wp2
              go_meet
              case rel => exact ⟨n, _, _, _, rfl, S3, HBK.out, f0, f1⟩
        · have hd2' : (d.tmod 4 == 2) = false := by simpa using hd2
          clear hd2
          by_cases hd3 : (d.tmod 4 == 3) = true
          · by_cases hx : x = s
            · subst hx
              have hxx : (x != x) = false := by simp
              go_wp2_with fail
              refine (S1.run.learn_no3 (.inl rfl)).mono ?_
              rintro e w3 ⟨rfl, R3, K3⟩
              obtain ⟨f0, f1⟩ := HX.out _ _ _ K3 (fun e => e) e0 e1
              have S3 := HS.out.quiet K3
              clear q0 e0 e1 S1
              go_wp2
              go_meet
              case rel => exact ⟨n, _, _, _, rfl, S3, HBK.out, f0, f1⟩
            · have hxx : (x != s) = true := by simpa using hx
              by_cases hy : 0 < y
              · have hyy : decide ((0 : Int) < y) = true := by simpa using hy
                go_wp2_with fail
                refine (S1.run.learn_yes3 ux uy hx hy).mono ?_
                rintro e w3 ⟨rfl, R3, K3⟩
                obtain ⟨f0, f1⟩ := HX.out _ _ _ K3 (by omega) e0 e1
                have S3 := HS.out.ofRun R3 K3 (fun k h => .inr h)
                obtain ⟨ly, hly⟩ := sk_key (p := (x, y)) ux uy
                obtain ⟨o, ho⟩ := S3.ls.store Try.law31 sk_inj Try.underlying46 hly
                obtain ⟨g1, g2, g3⟩ := ho w3 rfl
                have g1 : (Instr.mapUpdate 46 (.map (some (cb + 1))) (.agg #[.int .i64 x, .int .u32 y]) (.bool true)).run Try.prog w3 = .ok () (setBlock w3 (cb + 1) o) := g1
                obtain ⟨f2, f3⟩ := HX.out _ _ _ g3 (by omega) f0 f1
                have R5 := R3.other g3 (fun k hk => by subst hk; exact S3.hl) (fun h => S3.ne2.1 h.symm) (fun h => S3.ne2.2 h.symm)
                have S5 : OnceSt w.heap.size w (setBlock w3 (cb + 1) o) (w.heap.size + 1) w.heap.size cb (cb + 1) s n (addS (x, y) g) C (addK (x, y) L) := ⟨R5, S3.cs.kept g3 (fun h => S3.ne3 h), g2, S3.ne1, S3.ne2, S3.ne3, S3.hc, S3.hl⟩
                have B5 := HBK.out.learn (y := y) hx
                clear ho hly q0 e0 e1 S1 hx hy
                go_wp2
                go_meet
                case rel => exact ⟨n, _, _, _, rfl, S5, B5, f2, f3⟩
              · have hyy : decide ((0 : Int) < y) = false := by simpa using hy
                go_wp2_with fail
                refine (S1.run.learn_no3 (.inr (by omega))).mono ?_
                rintro e w3 ⟨rfl, R3, K3⟩
                obtain ⟨f0, f1⟩ := HX.out _ _ _ K3 (fun e => e) e0 e1
                have S3 := HS.out.quiet K3
                clear q0 e0 e1 S1 hx hy
                go_wp2
                go_meet
                case rel => exact ⟨n, _, _, _, rfl, S3, HBK.out, f0, f1⟩
          · have hd3' : (d.tmod 4 == 3) = false := by simpa using hd3
            clear hd3
            by_cases hn : n < 32
            · go_wp2_with fail
              refine (S1.run.open_ok3 (by omega) (by omega)).mono ?_
              rintro e w3 ⟨rfl, R3, K3⟩
              obtain ⟨f0, f1⟩ := HX.out _ _ _ K3 (by omega) e0 e1
              have S3 : OnceSt w.heap.size w w3 (w.heap.size + 1) w.heap.size cb (cb + 1) s (n + 1) g C L := HS.out.ofRun (n' := n + 1) (by simpa using R3) K3 (fun k h => .inl h)
              have B3 := HBK.out.opened hn
              clear q0 e0 e1 S1
              go_wp2
              go_meet
              case rel => exact ⟨n + 1, _, _, _, by go_num, S3, B3, f0, f1⟩
            · obtain hn' : 32 ≤ n := by omega
              go_wp2_with fail
              refine (S1.run.open_full3 (by omega)).mono ?_
              rintro e w3 ⟨rfl, R3, K3⟩
              obtain ⟨f0, f1⟩ := HX.out _ _ _ K3 (fun e => e) e0 e1
              have S3 := HS.out.quiet K3
              clear q0 e0 e1 S1
              go_wp2
              go_meet
              case rel => exact ⟨n, _, _, _, rfl, S3, HBK.out, f0, f1⟩
      case rest =>
        obtain ⟨n', g', C', L', rfl, S2, B2, e0, e1⟩ := hcut
        have hn32 := B2.n32
        have hw0 := S2.run.tab.lt
        have hsbc := World.block_lt_of_cell? _ _ e0
        have lkc : ∀ W, SetAt Try.prog 26 uk W cb C' → (Instr.lookup 45 (.map (some cb)) (.int .u32 y) false).run Try.prog W = .ok (.bool (C'.contains y)) W := fun W hW => by
          obtain ⟨l, hl⟩ := uk_key uy
          exact hW.look Try.law26 uk_inj Try.underlying45 Try.zero4 hl
        have lkl : ∀ W, SetAt Try.prog 31 sk W (cb + 1) L' → (Instr.lookup 46 (.map (some (cb + 1))) (.agg #[.int .i64 x, .int .u32 y]) false).run Try.prog W = .ok (.bool (L'.contains (x, y))) W := fun W hW => by
          obtain ⟨l, hl⟩ := sk_key (p := (x, y)) ux uy
          have := hW.look Try.law31 sk_inj Try.underlying46 Try.zero4 hl
          rw [contains_inst] at this
          exact this
        obtain ⟨wn, hwn⟩ : ∃ wn, wc.alloc (.cells #[.int .i64 s, .int .u32 y] 31) = wn := ⟨_, rfl⟩
        have KK : Kept Nothing wc wn := hwn ▸ (Kept.refl Nothing wc).alloc _
        have S3 := S2.quiet KK
        have o0 : wn.cell? ⟨wc.heap.size, 0, none⟩ = some (.int .i64 s) := hwn ▸ (cells_new wc _ 31 0).trans rfl
        have o1 : wn.cell? ⟨wc.heap.size, 1, none⟩ = some (.int .u32 y) := hwn ▸ (cells_new wc _ 31 1).trans rfl
        have i0 : wn.cell? ⟨sb, 0, none⟩ = some (.int .i64 x) := (KK.cell (p := ⟨sb, 0, none⟩) hsbc (fun e => e)).trans e0
        have i1 : wn.cell? ⟨sb, 1, none⟩ = some (.int .u32 y) := (KK.cell (p := ⟨sb, 1, none⟩) hsbc (fun e => e)).trans e1
        have l0 := lkc _ S3.cs
        have l1 := lkl _ S3.ls
        have hlB : liveB s n' g' y = (decide (1 ≤ y) && decide (y ≤ (n' : Int)) && !(C'.contains y)) := by
          have h1 := B2.has y
          unfold hasB at h1
          unfold liveB
          rw [h1]
          congr 2
        have hgo := B2.has y
        have hgf := fun h : x ≠ s => B2.hasFar h y
        have HLKC := Lib.hid lkc
        have HLKL := Lib.hid lkl
        generalize hcy : C'.contains y = cy at l0 hlB hgo
        generalize hly : L'.contains (x, y) = lB at l1 hgf
        have Hcy := Lib.hid hcy
        have Hly := Lib.hid hly
        have HBK := Lib.hid B2
        have HS2 := Lib.hid S2
        have HS3 := Lib.hid S3
        have hQ : ∀ W W', OnceSt w.heap.size w W (w.heap.size + 1) w.heap.size cb (cb + 1) s n' g' C' L' → Kept Nothing W W' → W.cell? ⟨sb, 0, none⟩ = some (.int .i64 x) → W.cell? ⟨sb, 1, none⟩ = some (.int .u32 y) → W.cell? ⟨wc.heap.size, 0, none⟩ = some (.int .i64 s) → W.cell? ⟨wc.heap.size, 1, none⟩ = some (.int .u32 y) →
            OnceSt w.heap.size w W' (w.heap.size + 1) w.heap.size cb (cb + 1) s n' g' C' L' ∧ W'.cell? ⟨sb, 0, none⟩ = some (.int .i64 x) ∧ W'.cell? ⟨sb, 1, none⟩ = some (.int .u32 y) ∧ W'.cell? ⟨wc.heap.size, 0, none⟩ = some (.int .i64 s) ∧ W'.cell? ⟨wc.heap.size, 1, none⟩ = some (.int .u32 y) ∧ (Instr.lookup 45 (.map (some cb)) (.int .u32 y) false).run Try.prog W' = .ok (.bool cy) W' ∧ (Instr.lookup 46 (.map (some (cb + 1))) (.agg #[.int .i64 x, .int .u32 y]) false).run Try.prog W' = .ok (.bool lB) W' := by
          intro W W' hS hk h0 h1 h2 h3
          have hS' := hS.quiet hk
          have l0 := HLKC.out _ hS'.cs
          have l1 := HLKL.out _ hS'.ls
          rw [Hcy.out] at l0
          rw [Hly.out] at l1
          exact ⟨hS', (hk.cell (p := ⟨sb, 0, none⟩) (World.block_lt_of_cell? _ _ h0) (fun e => e)).trans h0, (hk.cell (p := ⟨sb, 1, none⟩) (World.block_lt_of_cell? _ _ h1) (fun e => e)).trans h1,
            (hk.cell (p := ⟨wc.heap.size, 0, none⟩) (World.block_lt_of_cell? _ _ h2) (fun e => e)).trans h2, (hk.cell (p := ⟨wc.heap.size, 1, none⟩) (World.block_lt_of_cell? _ _ h3) (fun e => e)).trans h3, l0, l1⟩
        have HQ := Lib.hid hQ
        obtain ⟨ob, hob⟩ : ∃ ob, wc.heap.size = ob := ⟨_, rfl⟩
        rw [hob] at o0 o1 HQ
        have x0 : ∀ o, (Wext wn o).cell? ⟨sb, 0, none⟩ = some (.int .i64 x) := fun o => (HQ.out _ _ S3 (Wext.kept wn o) i0 i1 o0 o1).2.1
        have x1 : ∀ o, (Wext wn o).cell? ⟨sb, 1, none⟩ = some (.int .u32 y) := fun o => (HQ.out _ _ S3 (Wext.kept wn o) i0 i1 o0 o1).2.2.1
        have x2 : ∀ o, (Wext wn o).cell? ⟨ob, 0, none⟩ = some (.int .i64 s) := fun o => (HQ.out _ _ S3 (Wext.kept wn o) i0 i1 o0 o1).2.2.2.1
        have x3 : ∀ o, (Wext wn o).cell? ⟨ob, 1, none⟩ = some (.int .u32 y) := fun o => (HQ.out _ _ S3 (Wext.kept wn o) i0 i1 o0 o1).2.2.2.2.1
        have x4 : ∀ o, (Instr.lookup 45 (.map (some cb)) (.int .u32 y) false).run Try.prog (Wext wn o) = .ok (.bool cy) (Wext wn o) := fun o => (HQ.out _ _ S3 (Wext.kept wn o) i0 i1 o0 o1).2.2.2.2.2.1
        have x5 : ∀ o, (Instr.lookup 46 (.map (some (cb + 1))) (.agg #[.int .i64 x, .int .u32 y]) false).run Try.prog (Wext wn o) = .ok (.bool lB) (Wext wn o) := fun o => (HQ.out _ _ S3 (Wext.kept wn o) i0 i1 o0 o1).2.2.2.2.2.2
        have HKK := Lib.hid KK
        have Hwn := Lib.hid hwn
        have Hob := Lib.hid hob
        have Hlv := Lib.hid hlB
        have Hgo := Lib.hid hgo
        have Hgf := Lib.hid hgf
        clear hcy hly lkc lkl hQ B2 S2 S3 hwn hob hlB KK i0 i1 o0 o1 l0 l1 hgo hgf hw0 hsb1 hsb2 hsb3 hsb4 hsz2 hsbc hn32
        have hways : (decide ((1 : Int) ≤ y) = false ∧ liveB s n' g' y = false) ∨ (decide ((1 : Int) ≤ y) = true ∧ decide (y ≤ (n' : Int)) = false ∧ liveB s n' g' y = false) ∨ (decide ((1 : Int) ≤ y) = true ∧ decide (y ≤ (n' : Int)) = true ∧ liveB s n' g' y = !cy) := by
          have := Hlv.out
          by_cases y1 : 1 ≤ y
          · by_cases y2 : y ≤ (n' : Int)
            · exact .inr (.inr ⟨by simpa using y1, by simpa using y2, by rw [this]; simp [y1, y2]⟩)
            · exact .inr (.inl ⟨by simpa using y1, by simpa using y2, by rw [this]; simp [y2]⟩)
          · exact .inl ⟨by simpa using y1, by rw [this]; simp [y1]⟩
        have hways2 : (x != s) = false ∨ ((x != s) = true ∧ hasB g' x y = lB) := by
          by_cases hx : x = s
          · exact .inl (by simpa using hx)
          · exact .inr ⟨by simpa using hx, Hgf.out hx⟩
        have cL : ∀ lv, liveB s n' g' y = lv → ∀ o, Calls Try.prog 17 #[.pointer (some ⟨w.heap.size + 1, 0, none⟩), .int .u32 y] (Wext wn o) fun e w'' => e = .returned (.bool lv) ∧ ∃ o', w'' = Wext wn o' := by
          intro lv hl o
          refine Calls.ext_of (((HS3.out.quiet (Wext.kept wn o)).run.LiveH uy).mono ?_)
          rintro e v3 ⟨rfl, R3, K3⟩
          exact ⟨by rw [hl], K3⟩
        have cG : ∀ o, Calls Try.prog 15 #[.pointer (some ⟨w.heap.size + 1, 0, none⟩), .agg #[.int .i64 s, .int .u32 y]] (Wext wn o) fun e w'' => e = .returned (.bool cy) ∧ ∃ o', w'' = Wext wn o' := by
          intro o
          refine Calls.ext_of (((HS3.out.quiet (Wext.kept wn o)).run.GoneH hs uy).mono ?_)
          rintro e v3 ⟨rfl, R3, K3⟩
          exact ⟨by rw [Hgo.out], K3⟩
        have cF : ∀ lv, hasB g' x y = lv → ∀ o, Calls Try.prog 15 #[.pointer (some ⟨w.heap.size + 1, 0, none⟩), .agg #[.int .i64 x, .int .u32 y]] (Wext wn o) fun e w'' => e = .returned (.bool lv) ∧ ∃ o', w'' = Wext wn o' := by
          intro lv hl o
          refine Calls.ext_of (((HS3.out.quiet (Wext.kept wn o)).run.GoneH ux uy).mono ?_)
          rintro e v3 ⟨rfl, R3, K3⟩
          exact ⟨by rw [hl], K3⟩
        have Hw2 := Lib.hid hways2
        have HcL := Lib.hid cL
        have HcG := Lib.hid cG
        have HcF := Lib.hid cF
        clear hways2 cL cG cF
        go_wp2
        rw [Hwn.out, Hob.out]
        clear Hwn Hob HLKC HLKL
        rcases hways with ⟨y1, hl⟩ | ⟨y1, y2, hl⟩ | ⟨y1, y2, hl⟩
        all_goals
          have c1 := Lib.hid (HcL.out _ hl)
          clear hl
          rcases Hw2.out with hx | ⟨hx, hgf⟩
        all_goals
          clear HcL
          first
            | (have c2 := Lib.hid (HcF.out _ hgf)
               clear HcF hgf
               refine wp_region_ext (by kernel_rfl) (by kernel_rfl) ?_
               repeat (go_big_quiet_step (first | (go_at_call 17; exact c1.out _) | (go_at_call_of 15 (Value.agg #[.int .i64 s, .int .u32 y]); exact HcG.out _) | (go_at_call 15; exact c2.out _))))
            | (clear HcF
               refine wp_region_ext (by kernel_rfl) (by kernel_rfl) ?_
               repeat (go_big_quiet_step (first | (go_at_call 17; exact c1.out _) | (go_at_call_of 15 (Value.agg #[.int .i64 s, .int .u32 y]); exact HcG.out _))))
          refine wpQuiet_nil ?_
          intro w' hw'
          obtain ⟨oq, hw''⟩ := hw'
          subst hw''
          clear c1 HcG
          have HSn := Lib.hid (HS3.out.quiet (Wext.kept wn oq))
          go_wp2
          go_roundw
          case rel => exact ⟨k + 1, by omega, by go_num, n', g', C', L', rfl, HSn.out, HBK.out⟩
          case measure => simp [intOf]; omega
    · have hkl : len ≤ k := by omega
      have hn32 := BK.n32
      have hnd : C.Nodup := S.cs.nodup
      have hrest := live_rest s n (G := C) hnd BK.bd
      have hlv := liveUp_congr (n := n) BK.own n
      have hML : (((liveUp s n g n).length : Int) == wrap64 ((n : Int) - (C.length : Int))) = true := by
        have : wrap64 ((n : Int) - (C.length : Int)) = (n : Int) - (C.length : Int) := by unfold wrap64; omega
        rw [this, hlv]; simp; omega
      have hL32 := liveUp_len s n g n
      clear hlv hrest hlt hact
      have HS := Lib.hid S
      have HBK := Lib.hid BK
      have HR := Lib.hid S.run
      have Hc := Lib.hid S.cs
      clear S BK hnd
      go_wp2_with fail
      refine (HR.out.lives hn32).mono ?_
      rintro e w5 ⟨v, rfl, hrow, K5, R5⟩
      obtain ⟨ao, cap', rfl, hao, hcells⟩ := row_any hrow
      have hS5 := Hc.out.kept K5 (fun e => e)
      have hml : ((C.map (·, true)).length : Int) = (C.length : Int) := by simp
      generalize hLv : liveUp s n g n = Lv at *
      clear hrow hcells hao K5 hLv
      go_wp2_with (at_len; refine wpList_len_has hS5 (.tmp 162) 45 4 rfl rfl Try.underlying45 rfl ?_)
      refine (goes_true _).mono ?_
      rintro e v1 ⟨rfl, Bv⟩
      go_wp2
      go_ret
      exact ⟨rfl, R5.below.trans (Bv.mono (Nat.le_trans R5.hB R5.below.size))⟩

open Go.ChangeShapes Go.WideShapes Go.ChangeAt in
theorem once_law {H : Type} (enc : TypeId × Value → H) (W : World) (v0 : Value) (d0 : DataW H) (p0 : List MemPlace) (h0 : DataW.Trod enc Try.prog W 0 (fun _ => true) true 3 v0 d0 p0) (o0 : ∃ b, Value.okWide Try.prog W .any b 3 v0)
    (v1 : Value) (d1 : DataW H) (p1 : List MemPlace) (h1 : DataW.Trod enc Try.prog W 0 (fun _ => true) true 22 v1 d1 p1) (o1 : ∃ b, Value.okWide Try.prog W .any b 22 v1) :
    Calls Try.prog 4 #[v0, v1] W fun e W' => e = .returned (.bool true) ∧ Below W.heap.size W W' := by
  obtain ⟨bb, o0⟩ := o0
  obtain ⟨bc, o1⟩ := o1
  obtain ⟨s, rfl, rfl, rfl, ws⟩ := open_int Try.underlying3 o0 h0
  rcases open_acts h1 o1 with ⟨ao, cap, rfl⟩ | ⟨b, off, len, cap, rfl, hpos, hm, hact⟩
  · exact once_some s (wf_i64 ws) ao 0 cap W (by omega) (fun i hi => absurd hi (Nat.not_lt_zero _))
  · by_cases hl : len ≤ 100
    · refine once_some s (wf_i64 ws) _ len cap W hl (fun i hi => ⟨b, off, rfl, ?_, hact i hi⟩)
      obtain ⟨_, _, _, hc, _⟩ := hact 0 hpos
      exact World.block_lt_of_cell? _ _ hc
    · exact once_long s _ len cap W (by omega) hm
end Go.Proofs.Ytinkoackknmjlaa
