/-
  WatchOrder, walked.
-/
import Derived.Test.YtfbimhbdifmeoaaDoorWtOthers
import Derived.Test.YtfbimhbdifmeoaaDoorWtM
import Derived.Test.YtfbimhbdifmeoaaDoorWtE2
import Derived.Test.YtfbimhbdifmeoaaDoorWtOnce
import Derived.Laws.AppendOwnNone
namespace Go.Proofs.YtfbimhbdifmeoaaDoor
set_option linter.unusedVariables false
set_option linter.unusedSimpArgs false
open Go Go.RowKit Go.Shelf Go.MapKept Go.ChangeMaps

section
variable {Z : Nat → Prop} {t1 e1 t2 e2 : TypeId} {W0 W2 w : World} {b1 b2 : Nat} {L1 L2 : List Ev}
theorem Two.more (S : Two Z t1 e1 t2 e2 W0 W2 w b1 b2 L1 L2) {w' : World} (hb : Below w.heap.size w w') (Z' : Nat → Prop) (hZ : ∀ k, Z' k → Z k ∨ (w.heap.size ≤ k ∧ k < w'.heap.size)) : Two Z' t1 e1 t2 e2 W0 W2 w' b1 b2 L1 L2 := by
  obtain ⟨r1, r2, h1, h2, h3, h4, h5⟩ := S.ex
  have S' := S.other hb
  refine ⟨⟨r1, r2, h1.below hb, h2.below hb, fun g hg => ⟨(h3 g hg).1, fun hz => ?_⟩, fun g hg => ⟨(h4 g hg).1, fun hz => ?_⟩, h5⟩, S.ne, fun hz => ?_, fun hz => ?_, fun k hk => ?_, S.lt1, S.lt2, S.hw1, S.hw2, S'.kept, S'.below⟩
  · rcases hZ g hz with h | h
    · exact (h3 g hg).2 h
    · have := (h1.rowlt g hg).2
      omega
  · rcases hZ g hz with h | h
    · exact (h4 g hg).2 h
    · have := (h2.rowlt g hg).2
      omega
  · rcases hZ _ hz with h | h
    · exact S.z1 h
    · have := h1.lt
      omega
  · rcases hZ _ hz with h | h
    · exact S.z2 h
    · have := h2.lt
      omega
  · rcases hZ k hk with h | h
    · exact Nat.lt_of_lt_of_le (S.zlt k h) hb.size
    · exact h.2
theorem Two.turn (S : Two Z t1 e1 t2 e2 W0 W2 w b1 b2 L1 L2) {w' : World} (hz : ∀ k, Z k → W2.heap.size ≤ k) (hk : Kept Z w w') : Two Z t1 e1 t2 e2 W0 W2 w' b1 b2 L1 L2 := by
  obtain ⟨r1, r2, h1, h2, h3, h4, h5⟩ := S.ex
  have hW : W0.heap.size ≤ W2.heap.size := by have := S.lt1; have := S.hw1; omega
  refine ⟨⟨r1, r2, h1.kept hk S.z1 (fun g hg => (h3 g hg).2), h2.kept hk S.z2 (fun g hg => (h4 g hg).2), h3, h4, h5⟩, S.ne, S.z1, S.z2, fun k h => Nat.lt_of_lt_of_le (S.zlt k h) hk.size, S.lt1, S.lt2, S.hw1, S.hw2, ?_, ?_⟩
  · refine ⟨hk.os.trans S.kept.os, hk.tape.trans S.kept.tape, hk.output.trans S.kept.output, Nat.le_trans S.kept.size hk.size, fun k h1 h2 => ?_⟩
    exact (hk.block k (Nat.lt_of_lt_of_le h1 S.kept.size) (fun e => by have := hz k e; omega)).trans (S.kept.block k h1 h2)
  · exact S.below.trans (hk.below S.sz (fun k h => Nat.le_trans hW (hz k h)))
end
theorem not_mem_take {α : Type} {X : List α} (hn : X.Nodup) {j : Nat} {z : α} (hz : X[j]? = some z) : z ∉ X.take j := fun h => by
  obtain ⟨i, hi⟩ := List.getElem?_of_mem h
  rw [List.getElem?_take] at hi
  split at hi
  · rename_i hij
    obtain ⟨h1, h2⟩ := List.getElem?_eq_some_iff.1 hi
    obtain ⟨h3, h4⟩ := List.getElem?_eq_some_iff.1 hz
    have := (List.getElem_inj hn).1 (h2.trans h4.symm)
    omega
  · cases hi
theorem hitB_append (P Q : List Bytes) (e : Ev) : hitB (P ++ Q) e = (hitB P e || hitB Q e) := by simp [hitB]
theorem leftL_append (P Q : List Bytes) (L : List Ev) : leftL (P ++ Q) L = leftL Q (leftL P L) := by
  unfold leftL
  rw [List.filter_filter]
  congr 1
  funext e
  rw [hitB_append]
  simp [Bool.and_comm]
def effZero : Value := .agg #[.string ByteArray.empty, .bool false, .slice none 0 0, .int .u32 0, .int .u32 0, .int .u32 0, .int .i64 0, .int .u32 0, .int .u64 0, .int .u64 0, .int .u64 0]
theorem infoEff : (Tryd.prog.info? 56).map (fun i => (i.zero, i.size, i.bytes)) = some (some effZero, 11, 104) := by kernel_rfl
def iv (n : Int) : Value := .int .i64 n
theorem zero3 (w : World) : (zeroValue 3).run Tryd.prog w = .ok (iv 0) w := by kernel_rfl
theorem Kept.of_grown {w w' : World} {o : Option Nat} (h : w.grownBy w' o) : Kept (fun k => o = some k) w w' := ⟨h.os, h.tape, h.output, h.size, fun k hk hn => h.block k hk (fun e => hn e.symm)⟩
theorem row_keptK {w w' : World} {base : Nat} {e : TypeId} {size n : Nat} {v : Value} {xs : List Value} {S : Nat → Prop} (h : w.ownsRow base e size v n xs) (hk : Kept S w w') (hn : ∀ g, v.ownBlock = some g → ¬ S g) : w'.ownsRow base e size v n xs :=
  row_kept h (Nat.le_refl _) (fun g cs fr hg _ ho => hk.block g (Array.getElem?_eq_some_iff.1 ho).1 (hn g hg))

/-- Two tables, and a row of effects. -/
structure OSt (w w2 W : World) (b1 b2 : Nat) (L1 L2 : List Ev) (ra : Option Addr) (rc : Nat) (E : List (List Value)) (P : List Bytes) : Prop where
  two : Two (fun k => (Value.slice ra E.length rc).ownBlock = some k) 58 44 58 44 w w2 W b1 b2 L1 L2
  row : W.ownsRow w.heap.size 56 11 (.slice ra E.length rc) E.length E.flatten
  eff : EffRow E P
  lo : ∀ g, (Value.slice ra E.length rc).ownBlock = some g → w2.heap.size ≤ g
  small : ∀ p ∈ P, p.length ≤ 1000
theorem OSt.grow {w w2 W w3 : World} {b1 b2 : Nat} {L1 L2 : List Ev} {ra : Option Addr} {rc : Nat} {E F : List (List Value)} {P Q : List Bytes} (S : OSt w w2 W b1 b2 L1 L2 ra rc E P) {v3 : Value}
    (hQ : EffRow F Q) (hs : ∀ p ∈ Q, p.length ≤ 1000) (hown : w3.ownsRow w.heap.size 56 11 v3 (E.length + F.length) (E.flatten ++ F.flatten)) (hgrow : W.grownBy w3 (Value.slice ra E.length rc).ownBlock)
    (hwhere : ∀ k, v3.ownBlock = some k → (Value.slice ra E.length rc).ownBlock = some k ∨ W.heap.size ≤ k) :
    ∃ ra' rc', v3 = .slice ra' (E ++ F).length rc' ∧ OSt w w2 w3 b1 b2 L1 L2 ra' rc' (E ++ F) (P ++ Q) := by
  obtain ⟨a3, c3, rfl⟩ := row_form hown
  have hl : E.length + F.length = (E ++ F).length := by simp
  rw [hl] at hown hwhere ⊢
  rw [← List.flatten_append] at hown
  have hbl : ∀ k, (Value.slice a3 (E ++ F).length c3).ownBlock = some k → k < w3.heap.size := fun k hk => (hown.lt k hk).2
  refine ⟨a3, c3, rfl, ?_, hown, S.eff.append hQ, fun g hg => ?_, fun p hp => ?_⟩
  · have T := S.two.turn S.lo (Kept.of_grown hgrow)
    obtain ⟨r1, r2, h1, h2, h3, h4, h5⟩ := T.ex
    obtain ⟨q1, q2, k1, k2, k3, k4, k5⟩ := S.two.ex
    have hz : ∀ k, (Value.slice a3 (E ++ F).length c3).ownBlock = some k → (Value.slice ra E.length rc).ownBlock = some k ∨ W.heap.size ≤ k := hwhere
    -- the new row's block, if new, is none of the tables'
    have hx1 : ∀ g, q1 = some g → (Value.slice a3 (E ++ F).length c3).ownBlock ≠ some g := fun g hg h => by
      rcases hz g h with h' | h'
      · exact (k3 g hg).2 h'
      · have := (k1.rowlt g hg).2
        omega
    have hx2 : ∀ g, q2 = some g → (Value.slice a3 (E ++ F).length c3).ownBlock ≠ some g := fun g hg h => by
      rcases hz g h with h' | h'
      · exact (k4 g hg).2 h'
      · have := (k2.rowlt g hg).2
        omega
    have kk := Kept.of_grown hgrow
    refine ⟨⟨q1, q2, k1.kept kk S.two.z1 (fun g hg => (k3 g hg).2), k2.kept kk S.two.z2 (fun g hg => (k4 g hg).2), fun g hg => ⟨(k3 g hg).1, hx1 g hg⟩, fun g hg => ⟨(k4 g hg).1, hx2 g hg⟩, k5⟩, S.two.ne, fun h => ?_, fun h => ?_, hbl, S.two.lt1, S.two.lt2, S.two.hw1, S.two.hw2, T.kept, T.below⟩
    · rcases hz _ h with h' | h'
      · exact S.two.z1 h'
      · have := k1.lt
        omega
    · rcases hz _ h with h' | h'
      · exact S.two.z2 h'
      · have := k2.lt
        omega
  · rcases hwhere g hg with h | h
    · exact S.lo g h
    · exact Nat.le_trans S.two.kept.size h
  · rcases List.mem_append.1 hp with h | h
    · exact S.small p h
    · exact hs p h
theorem OSt.again {w w2 W W' : World} {b1 b2 : Nat} {L1 L2 L1' L2' : List Ev} {ra : Option Addr} {rc : Nat} {E : List (List Value)} {P : List Bytes} (S : OSt w w2 W b1 b2 L1 L2 ra rc E P)
    (hT : Two (fun k => (Value.slice ra E.length rc).ownBlock = some k) 58 44 58 44 w w2 W' b1 b2 L1' L2') (hk : Kept (fun k => ¬ (Value.slice ra E.length rc).ownBlock = some k) W W') : OSt w w2 W' b1 b2 L1' L2' ra rc E P :=
  ⟨hT, row_keptK S.row hk (fun g hg h => h hg), S.eff, S.lo, S.small⟩

set_option maxRecDepth 100000 in
set_option maxHeartbeats 2000000 in
theorem order_great (ao : Option Addr) (c : Nat) (A : List ActD) (w : World) (hbig : A.length ≤ maxLen) (hA : ActsAt w w.heap.size ao A) (hg : greatB A = true) :
    Calls Tryd.prog 5 #[.slice ao A.length c] w (LawEnd w) := by
  have hc := great_any ao c A w hbig hA
  rw [hg] at hc
  clear hg hA hbig
  generalize A.length = N at *
  go_enter Tryd.func5, Tryd.ntmps5
  go_wp2_with fail
  refine hc.mono ?_
  rintro e w1 ⟨rfl, rfl⟩
  go_wp2
  go_ret
  exact ⟨rfl, Below.refl _ _⟩

set_option maxRecDepth 100000 in
set_option maxHeartbeats 8000000 in
theorem order_small (ao : Option Addr) (c : Nat) (A : List ActD) (w : World) (hm : MaxInt w) (hbig : A.length ≤ maxLen) (hA : ActsAt w w.heap.size ao A) (hO : ∀ a ∈ A, ActOne w a) (hg : greatB A = false) :
    Calls Tryd.prog 5 #[.slice ao A.length c] w (LawEnd w) := by
  have hc := great_any ao c A w hbig hA
  rw [hg] at hc
  obtain ⟨h60, hsm⟩ := greatB_no hg
  obtain ⟨i0, hi, hz0, hz1, hz2⟩ := info_parts infoEff
  have HI := Lib.hid (And.intro hi (And.intro hz0 (And.intro hz1 hz2)))
  have HC := Lib.hid hc
  have HM := Lib.hid hm
  have HA := Lib.hid hA
  have HSM := Lib.hid hsm
  have HON := Lib.hid hO
  obtain ⟨N, hN⟩ : ∃ N, N = A.length := ⟨_, rfl⟩
  have HN := Lib.hid hN
  rw [← hN] at h60 HC ⊢
  clear hg hA hbig hc hm hsm hN hO hi hz0 hz1 hz2
  have hmm := @run_makeMap Tryd.prog
  have HMM := Lib.hid hmm
  clear hmm
  go_enter Tryd.func5, Tryd.ntmps5
  go_wp2_with fail
  refine HC.out.mono ?_
  rintro e w0 ⟨rfl, rfl⟩
  go_wp2_with fail
  refine (new_any w).mono ?_
  rintro e wa ⟨rfl, hwa⟩
  have HWA := Lib.hid hwa
  clear hwa
  go_wp2_with fail
  refine (new_any wa).mono ?_
  rintro e w2 ⟨rfl, hw2⟩
  have HW2 := Lib.hid hw2
  clear hw2
  have S0 : Two (fun k => (Value.slice none (List.length ([] : List (List Value))) 0).ownBlock = some k) 58 44 58 44 w w2 w2 w.heap.size wa.heap.size [] [] := by
    have hsa : wa.heap.size = w.heap.size + 1 := by rw [HWA.out]; simp
    have hs2 : w2.heap.size = wa.heap.size + 1 := by rw [HW2.out]; simp
    have hba : Below w.heap.size w wa := by rw [HWA.out]; exact belowA (Below.refl _ w) _
    have hb2 : Below wa.heap.size wa w2 := by rw [HW2.out]; exact belowA (Below.refl _ wa) _
    have hTa : TabAt 58 44 w.heap.size wa w.heap.size none [] := ⟨by omega, .slice none 0 0, by rw [HWA.out]; exact heap_alloc_new w _, World.ownsRow_nil _ _ _ _, rfl⟩
    have hTb : TabAt 58 44 w.heap.size w2 wa.heap.size none [] := ⟨by omega, .slice none 0 0, by rw [HW2.out]; exact heap_alloc_new wa _, World.ownsRow_nil _ _ _ _, rfl⟩
    exact ⟨⟨none, none, hTa.below hb2, hTb, fun g hg => (by cases hg), fun g hg => (by cases hg), fun g hg => (by cases hg)⟩, by omega, (fun e => by simp [Value.ownBlock] at e), (fun e => by simp [Value.ownBlock] at e), (fun _ e => by simp [Value.ownBlock] at e), by omega, by omega, by omega, by omega, Kept.refl _ _, hba.trans (hb2.mono (by omega))⟩
  have O0 : OSt w w2 w2 w.heap.size wa.heap.size [] [] none 0 [] [] := ⟨S0, World.ownsRow_nil _ _ _ _, EffRow.nil, (fun g e => by simp [Value.ownBlock] at e), by simp⟩
  have HS0 := Lib.hid O0
  clear HWA HW2 S0 O0
  obtain ⟨ba, hba⟩ : ∃ ba, ba = w.heap.size := ⟨_, rfl⟩
  obtain ⟨bb, hbb⟩ : ∃ bb, bb = wa.heap.size := ⟨_, rfl⟩
  have HS1 : Hid (OSt w w2 w2 ba bb [] [] none 0 [] []) := Lib.hid (by rw [hba, hbb]; exact HS0.out)
  rw [← hbb, ← hba]
  clear hbb hba HS0
  go_wp2_with fail
  go_loopw [5, 6] (fun av iv wr => ∃ k NE : Nat, k ≤ N ∧ NE ≤ 20 * k ∧ iv = .int .i64 k ∧ ∃ ra rc, av = .slice ra NE rc ∧ ∃ L E P, Hid (OSt w w2 wr ba bb L L ra rc E P ∧ Fine L ∧ NE = E.length ∧ ∀ e ∈ L, EvOk e ∧ e.path.length ≤ 1000)) (fun _ iv _ => N - (intOf iv).toNat)
  case atStart => exact ⟨0, 0, by omega, by omega, rfl, none, 0, rfl, [], [], [], Lib.hid ⟨HS1.out, Fine.nil, rfl, by simp⟩⟩
  case round =>
    obtain ⟨k, NE, hk, hNE, rfl, ra, rc, rfl, L, E, PA, HS⟩ := hrel
    by_cases hlt : k < N
    · obtain ⟨a, ha⟩ : ∃ a, A[k]? = some a := ⟨_, List.getElem?_eq_getElem (by rw [← HN.out]; exact hlt)⟩
      obtain ⟨hok, b, off, rfl, hb, hrg0⟩ := HA.out k a ha
      have hsm := HSM.out a (List.mem_of_getElem? ha)
      have hon := HON.out a (List.mem_of_getElem? ha)
      obtain ⟨d, x, pa, P, pc⟩ := a
      have hrg := range_kept hrg0 HS.out.1.two.below hb
      have c0 : wr.cell? ⟨b, off + k * 6, none⟩ = some (.int .u8 d) := hrg 0 _ rfl
      have c1 : wr.cell? ⟨b, off + k * 6 + 1, none⟩ = some (.int .i64 x.site) := hrg 1 _ rfl
      have c2 : wr.cell? ⟨b, off + k * 6 + 1 + 1, none⟩ = some (.int .u32 x.num) := hrg 2 _ rfl
      have c3 : wr.cell? ⟨b, off + k * 6 + 1 + 2, none⟩ = some (.string (bs x.path)) := hrg 3 _ rfl
      have c4 : wr.cell? ⟨b, off + k * 6 + 1 + 3, none⟩ = some (.bool x.kids) := hrg 4 _ rfl
      have HRG := Lib.hid hrg0
      have hxp : x.path.length ≤ 1000 := by have := hsm.path; dsimp only at this; omega
      have HXO := Lib.hid hok.x
      have HPL := Lib.hid hsm.len
      have HPS := Lib.hid hsm.paths
      have HON1 := Lib.hid hon
      dsimp only at HPL HPS HXO
      have hbox : ∀ (W W' : World), (W.cell? ⟨wr.heap.size, 0, none⟩ = some (.int .i64 x.site) ∧ W.cell? ⟨wr.heap.size, 1, none⟩ = some (.int .u32 x.num) ∧ W.cell? ⟨wr.heap.size, 2, none⟩ = some (.string (bs x.path)) ∧ W.cell? ⟨wr.heap.size, 3, none⟩ = some (.bool x.kids)) → Kept (fun k => ¬ ((Value.slice ra E.length rc).ownBlock = some k ∨ k = wr.heap.size)) W W' → (W'.cell? ⟨wr.heap.size, 0, none⟩ = some (.int .i64 x.site) ∧ W'.cell? ⟨wr.heap.size, 1, none⟩ = some (.int .u32 x.num) ∧ W'.cell? ⟨wr.heap.size, 2, none⟩ = some (.string (bs x.path)) ∧ W'.cell? ⟨wr.heap.size, 3, none⟩ = some (.bool x.kids)) := fun W W' ⟨h0, h1, h2, h3⟩ hk => by
        have hlt := World.block_lt_of_cell? _ _ h0
        exact ⟨(hk.cell (p := ⟨wr.heap.size, 0, none⟩) hlt (fun e => e (.inr rfl))).trans h0, (hk.cell (p := ⟨wr.heap.size, 1, none⟩) hlt (fun e => e (.inr rfl))).trans h1, (hk.cell (p := ⟨wr.heap.size, 2, none⟩) hlt (fun e => e (.inr rfl))).trans h2, (hk.cell (p := ⟨wr.heap.size, 3, none⟩) hlt (fun e => e (.inr rfl))).trans h3⟩
      have HB := Lib.hid hbox
      have b0 : (wr.alloc (.cells #[.int .i64 x.site, .int .u32 x.num, .string (bs x.path), .bool x.kids] 34)).drew.cell? ⟨wr.heap.size, 0, none⟩ = some (.int .i64 x.site) ∧ (wr.alloc (.cells #[.int .i64 x.site, .int .u32 x.num, .string (bs x.path), .bool x.kids] 34)).drew.cell? ⟨wr.heap.size, 1, none⟩ = some (.int .u32 x.num) ∧ (wr.alloc (.cells #[.int .i64 x.site, .int .u32 x.num, .string (bs x.path), .bool x.kids] 34)).drew.cell? ⟨wr.heap.size, 2, none⟩ = some (.string (bs x.path)) ∧ (wr.alloc (.cells #[.int .i64 x.site, .int .u32 x.num, .string (bs x.path), .bool x.kids] 34)).drew.cell? ⟨wr.heap.size, 3, none⟩ = some (.bool x.kids) :=
        ⟨(new_cell (Below.refl _ (wr.alloc (.cells #[.int .i64 x.site, .int .u32 x.num, .string (bs x.path), .bool x.kids] 34))) 0 _ rfl).1, (new_cell (Below.refl _ (wr.alloc (.cells #[.int .i64 x.site, .int .u32 x.num, .string (bs x.path), .bool x.kids] 34))) 1 _ rfl).1, (new_cell (Below.refl _ (wr.alloc (.cells #[.int .i64 x.site, .int .u32 x.num, .string (bs x.path), .bool x.kids] 34))) 2 _ rfl).1, (new_cell (Below.refl _ (wr.alloc (.cells #[.int .i64 x.site, .int .u32 x.num, .string (bs x.path), .bool x.kids] 34))) 3 _ rfl).1⟩
      have Hb := Lib.hid b0
      have RR := Lib.hid (HS.out.1.two.more (belowA (Below.refl _ wr) (.cells #[.int .i64 x.site, .int .u32 x.num, .string (bs x.path), .bool x.kids] 34)).drew (fun k => (Value.slice ra E.length rc).ownBlock = some k ∨ k = wr.heap.size) (fun k hk => by
        rcases hk with h | rfl
        · exact .inl h
        · exact .inr ⟨Nat.le_refl _, by simp [World.drew]⟩))
      have HROW := Lib.hid (row_keptK HS.out.1.row (Kept.of_below (belowA (Below.refl _ wr) (.cells #[.int .i64 x.site, .int .u32 x.num, .string (bs x.path), .bool x.kids] 34)).drew Nothing) (fun g _ e => e))
      obtain ⟨ce, hce⟩ : ∃ ce, addE L x = ce := ⟨_, rfl⟩
      have HCE := Lib.hid hce
      have HL := Lib.hid HS.out.2.1.len
      have e1 : (ce != ce) = false := by simp
      clear hbox b0 hce hrg hrg0 ha hok hsm hon
      go_wp2
      go_region_held3 (fun w' => w'.cell? ⟨wr.heap.size, 0, none⟩ = some (.int .i64 x.site) ∧ w'.cell? ⟨wr.heap.size, 1, none⟩ = some (.int .u32 x.num) ∧ w'.cell? ⟨wr.heap.size, 2, none⟩ = some (.string (bs x.path)) ∧ w'.cell? ⟨wr.heap.size, 3, none⟩ = some (.bool x.kids)) (first | assumption | go_keep) (first | (go_at_call 10; refine (RT.swap.add HM.out HL.out hxp HCE.out).mono ?_; rintro e w6 ⟨rfl, R2, KS⟩; have cs := HB.out _ _ ct KS) | (go_at_call 10; refine (RR.out.add HM.out HL.out hxp HCE.out).mono ?_; rintro e w5 ⟨rfl, RT, KT⟩; have ct := HB.out _ _ Hb.out KT))
      have HT6 : Hid (OSt w w2 w6 ba bb (addL L x) (addL L x) ra rc E PA) := Lib.hid ⟨R2.swap.more (Below.refl _ _) (fun k => (Value.slice ra E.length rc).ownBlock = some k) (fun k h => .inl (.inl h)), row_keptK (row_keptK HROW.out KT (fun g hg h => h (.inl hg))) KS (fun g hg h => h (.inl hg)), HS.out.1.eff, HS.out.1.lo, HS.out.1.small⟩
      have HFA := Lib.hid (HS.out.2.1.add x)
      have HMA : Hid (∀ e ∈ addL L x, EvOk e ∧ e.path.length ≤ 1000) := Lib.hid (fun e he => by
        rcases addL_mem he with h | rfl
        · exact HS.out.2.2.2 e h
        · exact ⟨HXO.out, hxp⟩)
      have HNE := Lib.hid HS.out.2.2.1
      have c5 : w6.cell? ⟨b, off + k * 6 + 5, none⟩ = some (.slice pa P.length pc) := range_kept HRG.out HT6.out.two.below hb 5 _ rfl
      clear RT ct KT R2 KS cs RR Hb HB c0 c1 c2 c3 c4 HROW HS
      have hpl20 := HPL.out
      obtain ⟨M, hM⟩ : ∃ M, M = P.length := ⟨_, rfl⟩
      have HM2 := Lib.hid hM
      rw [← hM] at c5 hpl20
      clear hM
      have HPP : Hid (∀ p ∈ P, p.length ≤ 1000) := Lib.hid (fun p hp => Nat.le_trans (HPS.out p hp) (by omega))
      have HROW := Lib.hid HT6.out.row
      rw [← HNE.out] at HROW
      cases pa with
      | none =>
        obtain ⟨hP0, hpc⟩ := HON1.out.none rfl
        dsimp only at hP0 hpc
        have hM0 : M = 0 := by rw [HM2.out, hP0]; rfl
        subst hM0 hpc
        clear hP0
        go_wp2_with (at_builtin; refine wpList_append_own_none rfl (.tmp 47) (.tmp 52) 35 rfl w.heap.size 56 i0 11 Tryd.underlying35 HI.out.1 _ _ _ rfl HROW.out rfl ?_)
        go_roundw
        case rel => exact ⟨k + 1, NE, by omega, by omega, by go_num, ra, rc, rfl, addL L x, E, PA, Lib.hid ⟨HT6.out, HFA.out, HNE.out, HMA.out⟩⟩
        case measure => simp [intOf]; omega
      | some ad =>
        obtain ⟨F, hF, hFc⟩ := HON1.out.effs.row
        dsimp only at hF hFc
        have hFl : F.flatten.length = M * 11 := by rw [flatten_len hF.len, hF.1, HM2.out]
        have hcells : ∀ j u, F.flatten[j]? = some u → w6.cell? (ad.add j) = some u := fun j u hj => by
          by_cases hP0 : P = []
          · rw [List.length_eq_zero_iff.1 (show F.length = 0 by rw [hF.1, hP0]; rfl)] at hj
            simp at hj
          · obtain ⟨b2, off2, rfl⟩ : ∃ b2 off2, ad = ⟨b2, off2, none⟩ := by
              obtain ⟨E', hl', hE'⟩ := HON1.out.effs
              dsimp only at hl' hE'
              obtain ⟨p', b', off', _, _, h', _⟩ := hE' 0 _ (List.getElem?_eq_getElem (by rw [hl']; exact List.length_pos_iff.2 hP0))
              simp at h'
              exact ⟨_, _, h'⟩
            obtain ⟨h1, h2⟩ := hFc b2 off2 rfl
            rw [Addr.add_mid]
            exact (HT6.out.two.below.cell (p := ⟨b2, off2 + j, none⟩) (h1 hP0)).trans (h2 j u hj)
        have hbs : w.heap.size ≤ w6.heap.size := HT6.out.two.below.size
        have HF := Lib.hid hF
        have hone := hF.one
        have HCL := Lib.hid (And.intro hFl (And.intro hcells (And.intro hone hbs)))
        clear hF hFc hFl hcells hbs hone
        go_wp2_with (at_builtin; refine wpList_append_new rfl (.tmp 47) (.tmp 52) 35 rfl w.heap.size 56 i0 effZero 11 104 Tryd.underlying35 HI.out.1 HI.out.2.1 HI.out.2.2.1 HI.out.2.2.2 rfl (by decide) _ _ _ rfl HROW.out ad M pc F.flatten rfl HCL.out.1 HCL.out.2.1 HCL.out.2.2.1 (by unfold maxLen; omega) (by omega) HCL.out.2.2.2 ?_; intro v3 w3 hown hgrow hwhere)
        rw [HNE.out, HM2.out, ← HF.out.1] at hown
        rw [HNE.out] at hgrow hwhere
        obtain ⟨ra', rc', rfl, hO3⟩ := HT6.out.grow HF.out HPP.out hown hgrow hwhere
        have HO3 := Lib.hid hO3
        have hlen : (E ++ F).length = NE + M := by rw [List.length_append, HNE.out, HF.out.1, HM2.out]
        rw [hlen]
        have HLEN := Lib.hid hlen
        clear hO3 hown hgrow hwhere hlen
        go_wp2
        go_roundw
        case rel => exact ⟨k + 1, NE + M, by omega, by omega, by go_num, ra', rc', rfl, addL L x, E ++ F, PA ++ P, Lib.hid ⟨HO3.out, HFA.out, HLEN.out.symm, HMA.out⟩⟩
        case measure => simp [intOf]; omega
    · obtain rfl : k = N := by omega
      have HNE := Lib.hid HS.out.2.2.1
      have L1 := HS.out.1.two.len
      obtain ⟨NL, hNL⟩ : ∃ NL, NL = L.length := ⟨_, rfl⟩
      have HNL := Lib.hid hNL
      rw [← hNL] at L1
      have HL1 := Lib.hid L1
      clear hNL L1
      go_wp2_with fail
      refine HL1.out.mono ?_
      rintro e w4 ⟨rfl, rfl⟩
      clear HL1
      have hmm := HMM.out
      have S2 := HS.out.1.two.more (belowA (Below.refl _ w4) (.map #[] 0)) (fun k => (Value.slice ra E.length rc).ownBlock = some k ∨ k = w4.heap.size) (fun k hk => by
        rcases hk with h | rfl
        · exact .inl h
        · exact .inr ⟨Nat.le_refl _, by simp⟩)
      have hrow2 := row_keptK HS.out.1.row (Kept.of_below (belowA (Below.refl _ w4) (.map #[] 0)) Nothing) (fun g _ e => e)
      have hPE : PA.length = NE := by rw [← HS.out.1.eff.1, HNE.out]
      have T := S2.touch HM.out HS.out.2.1.len (P := PA) (ao := ra) (c := rc) (by omega) HS.out.1.small (effs_row HS.out.1.eff hrow2)
      rw [hPE] at T
      have HT := Lib.hid T
      have HROW2 := Lib.hid hrow2
      have HPE := Lib.hid hPE
      have HMAP := Lib.hid (HasMap.made Tryd.prog 44 Ev.val iv w4)
      clear T hrow2 hPE S2
      go_wp2_with fail
      refine HT.out.mono ?_
      rintro e w7 ⟨a1, k1, rfl, O1, S3, K1⟩
      have hgb2 : w2.heap.size ≤ w4.heap.size := HS.out.1.two.kept.size
      have hba4 : ba < w4.heap.size := Nat.lt_of_lt_of_le HS.out.1.two.lt1 hgb2
      have hrg4 : ∀ g, (Value.slice ra E.length rc).ownBlock = some g → g < w4.heap.size ∧ w2.heap.size ≤ g := fun g hg => ⟨(HS.out.1.row.lt g hg).2, HS.out.1.lo g hg⟩
      have hba2 : ba < w2.heap.size := HS.out.1.two.lt1
      have hbb2 : bb < w2.heap.size := HS.out.1.two.lt2
      have hrow7 := row_keptK HROW2.out K1 (fun g hg e => by have := (hrg4 g hg).2; omega)
      have hmap7 := HMAP.out.kept K1 (by omega)
      obtain ⟨gb, hgb⟩ : ∃ gb, gb = w4.heap.size := ⟨_, rfl⟩
      have hO1 : OutRow w7 (gb + 1) a1 (outL PA L) := by rw [hgb]; have := O1; simp only [World.size_alloc] at this; exact this
      rw [← hgb] at S3 hmap7 hgb2 hba4 hrg4 ⊢
      have H7 := Lib.hid (And.intro S3 (And.intro hrow7 hmap7))
      have HO1 := Lib.hid hO1
      have HG := Lib.hid (And.intro hgb2 (And.intro hrg4 (And.intro hba2 hbb2)))
      have HL3 := Lib.hid HS.out
      clear HS S3 O1 K1 HT HROW2 HMAP hgb hgb2 hba4 hrg4 hrow7 hmap7 hO1 hba2 hbb2 hmm
      obtain ⟨NX, hNX⟩ : ∃ NX, NX = (outL PA L).length := ⟨_, rfl⟩
      have HNX := Lib.hid hNX
      have hNX16 : NX ≤ 16 := by rw [hNX]; exact Nat.le_trans (List.length_filter_le _ _) HL3.out.2.1.len
      rw [← hNX]
      clear hNX
      go_wp2_with fail
      obtain ⟨w8, hw8⟩ : ∃ w8, w8 = w7 := ⟨_, rfl⟩
      subst hw8
      have HZ2 : Hid (∀ k, ((Value.slice ra E.length rc).ownBlock = some k ∨ k = gb) → w2.heap.size ≤ k) := Lib.hid (fun k hk => by
        rcases hk with h | rfl
        · exact (HG.out.2.1 k h).2
        · exact HG.out.1)
      have HXN : Hid ((outL PA L).Nodup ∧ ∀ z ∈ outL PA L, EvOk z) := Lib.hid ⟨HL3.out.2.1.nodup.filter _, fun z hz => (HL3.out.2.2.2 z (List.mem_filter.1 hz).1).1⟩
      go_loopw [11] (fun i wq => ∃ j : Nat, j ≤ NX ∧ i = .int .i64 j ∧ Hid (HasMap Tryd.prog 44 Ev.val iv wq gb (tmap ((outL PA L).take j) (fun _ => (1 : Int))) ∧ Kept (· = gb) w8 wq)) (fun i _ => NX - (intOf i).toNat)
      case atStart => exact ⟨0, by omega, rfl, Lib.hid ⟨by rw [List.take_zero]; exact H7.out.2.2, Kept.refl _ _⟩⟩
      case round =>
        obtain ⟨j, hj, rfl, HQ⟩ := hrel
        by_cases hlt3 : j < NX
        · obtain ⟨z, hz⟩ : ∃ z, (outL PA L)[j]? = some z := ⟨_, List.getElem?_eq_getElem (by rw [← HNX.out]; exact hlt3)⟩
          have HZJ := Lib.hid hz
          obtain ⟨ga, rfl, hga0, hga, hra⟩ := HO1.out j z hz
          have hne : ¬ ga = gb := by omega
          have hx : ∀ i v, z.cells[i]? = some v → wr.cell? ⟨ga, j * 4 + i, none⟩ = some v := fun i v hv => (HQ.out.2.cell (p := ⟨ga, j * 4 + i, none⟩) hga hne).trans (hra i v hv)
          have x0 : wr.cell? ⟨ga, j * 4, none⟩ = some (.int .i64 z.site) := hx 0 _ rfl
          have x1 : wr.cell? ⟨ga, j * 4 + 1, none⟩ = some (.int .u32 z.num) := hx 1 _ rfl
          have x2 : wr.cell? ⟨ga, j * 4 + 2, none⟩ = some (.string (bs z.path)) := hx 2 _ rfl
          have x3 : wr.cell? ⟨ga, j * 4 + 3, none⟩ = some (.bool z.kids) := hx 3 _ rfl
          have hnt : z ∉ (outL PA L).take j := fun h => by
            obtain ⟨i, hi⟩ := List.getElem?_of_mem h
            rw [List.getElem?_take] at hi
            split at hi
            · rename_i hij
              obtain ⟨h1, h2⟩ := List.getElem?_eq_some_iff.1 hi
              obtain ⟨h3, h4⟩ := List.getElem?_eq_some_iff.1 hz
              have := (List.getElem_inj HXN.out.1).1 (h2.trans h4.symm)
              omega
            · cases hi
          have hgn := getA_tmap_none (fun _ : Ev => (1 : Int)) z hnt
          obtain ⟨lz, hlz⟩ := ev_key (HXN.out.2 z (List.mem_of_getElem? hz))
          have hM0 : HasMap Tryd.prog 44 Ev.val iv wr.drew gb (tmap ((outL PA L).take j) (fun _ => (1 : Int))) := HQ.out.1.of_block rfl
          have q0 := hM0.lookup key44 Ev.val_inj Tryd.underlying50 (zero3 _) hlz
          obtain ⟨st, o1, o2, g1, g2, g3, g4⟩ := hM0.entry key44 Ev.val_inj Tryd.underlying50 zero3 hlz 1
          rw [hgn] at q0 g1 g2
          have q0 : (Instr.lookup 50 (.map (some gb)) (.agg #[.int .i64 z.site, .int .u32 z.num, .string (bs z.path), .bool z.kids]) false).run Tryd.prog wr.drew = .ok (.int .i64 0) wr.drew := q0
          have g1 : (Instr.mapEntry 50 (.map (some gb)) (.agg #[.int .i64 z.site, .int .u32 z.num, .string (bs z.path), .bool z.kids])).run Tryd.prog wr.drew = .ok (.tuple #[.int .i64 0, .int .i64 st]) (setBlock wr.drew gb o1) := g1
          have g2 : (Instr.lookup 50 (.map (some gb)) (.agg #[.int .i64 z.site, .int .u32 z.num, .string (bs z.path), .bool z.kids]) false).run Tryd.prog (setBlock wr.drew gb o1) = .ok (.int .i64 0) (setBlock wr.drew gb o1) := g2
          have g3 : (Instr.entryStore 50 (.map (some gb)) (.int .i64 st) (.int .i64 1)).run Tryd.prog (setBlock wr.drew gb o1) = .ok () (setBlock (setBlock wr.drew gb o1) gb o2) := g3
          have hlt1 : gb < wr.drew.heap.size := hM0.lt
          have hlt2 : gb < (setBlock wr.drew gb o1).heap.size := by simpa [setBlock] using hlt1
          have HF4 := Lib.hid (And.intro g4 ((((Kept.refl (· = gb) wr).drew).trans (kept_setBlock hlt1 o1)).trans (kept_setBlock hlt2 o2)))
          have HNT := Lib.hid hnt
          clear hx hra hz hnt hgn hlz hM0 g4 hlt1 hlt2
          go_wp2
          go_region
          all_goals
            go_wp2
            go_roundw
            case rel =>
              refine ⟨j + 1, by omega, by go_num, Lib.hid ⟨?_, HQ.out.2.trans HF4.out.2⟩⟩
              have h := HF4.out.1
              rw [putA_new (fun p hp => by obtain ⟨y, hy, rfl⟩ := List.mem_map.1 hp; exact fun e => HNT.out (e ▸ hy))] at h
              rw [List.take_add_one, HZJ.out, Option.toList_some, tmap, List.map_append]
              exact h
            case measure => simp [intOf]; omega
        · obtain rfl : j = NX := by omega
          have hX : (outL PA L).take j = outL PA L := by rw [HNX.out, List.take_length]
          have S9 := H7.out.1.turn HZ2.out (HQ.out.2.mono (fun k _ h => .inr h))
          have hrow9 := row_keptK H7.out.2.1 HQ.out.2 (fun g hg e => by have := (HG.out.2.1 g hg).1; omega)
          have hm9 := HQ.out.1
          rw [hX] at hm9
          have H9 := Lib.hid (And.intro S9 (And.intro hrow9 hm9))
          clear hX S9 hrow9 hm9
          go_wp2_with fail
          go_loopw [12] (fun i wq => ∃ q : Nat, q ≤ NE ∧ i = .int .i64 q ∧ Hid (Two (fun k => (Value.slice ra E.length rc).ownBlock = some k ∨ k = gb) 58 44 58 44 w w2 wq ba bb (leftL PA L) (leftL (PA.take q) L) ∧ wq.ownsRow w.heap.size 56 11 (.slice ra E.length rc) E.length E.flatten ∧ HasMap Tryd.prog 44 Ev.val iv wq gb (tmap (outL PA L) (fun e => if hitB (PA.take q) e then (0 : Int) else 1)))) (fun i _ => NE - (intOf i).toNat)
          case atStart => exact ⟨0, by omega, rfl, Lib.hid ⟨by rw [List.take_zero, show leftL [] L = L by simp [leftL, hitB]]; exact H9.out.1, H9.out.2.1, by rw [List.take_zero]; simpa [hitB] using H9.out.2.2⟩⟩
          case round =>
            obtain ⟨q, hq, rfl, HR⟩ := hrel
            by_cases hlt4 : q < NE
            · obtain ⟨p, hp⟩ : ∃ p, PA[q]? = some p := ⟨_, List.getElem?_eq_getElem (by rw [HPE.out]; exact hlt4)⟩
              have HPQ := Lib.hid hp
              obtain ⟨g, hrg, hgc⟩ : ∃ g, ra = some ⟨g, 0, none⟩ ∧ NE ≤ rc := by
                rcases HR.out.2.1.2 with ⟨h1, h0⟩ | ⟨g, cap, cur, h1, _, _, hnc, _⟩
                · have := HNE.out; omega
                · cases h1
                  exact ⟨g, rfl, by rw [HNE.out]; exact hnc⟩
              subst hrg
              have hpl := HL3.out.1.small p (List.mem_of_getElem? hp)
              have hef : EffsAt wr wr.heap.size (some ⟨g, q * 11, none⟩) [p] := by
                obtain ⟨b1, off1, rest, h1, h2, h3, h4⟩ := effs_row HL3.out.1.eff HR.out.2.1 q p hp
                cases h1
                intro k y hk
                cases k with
                | zero =>
                  simp at hk
                  subst hk
                  refine ⟨g, q * 11, rest, rfl, h2, h3, ?_⟩
                  rw [Nat.zero_mul, Nat.add_zero]
                  rw [Nat.zero_add] at h4
                  exact h4
                | succ k => simp at hk
              have hl16 : (leftL (PA.take q) L).length ≤ 16 := Nat.le_trans (List.length_filter_le _ _) HL3.out.2.1.len
              have T := HR.out.1.swap.touch HM.out hl16 (P := [p]) (ao := some ⟨g, q * 11, none⟩) (c := rc - q) (by simp) (by simpa using hpl) hef
              have T : Calls Tryd.prog 12 #[.pointer (some ⟨bb, 0, none⟩), .slice (some ⟨g, q * 11, none⟩) 1 (rc - q)] wr _ := T
              have HT := Lib.hid T
              have s1 : ¬ rc = q := by omega
              clear T hef hp hl16 hpl
              go_wp2_with fail
              refine HT.out.mono ?_
              rintro e w10 ⟨a2, k2, rfl, O2, S10, K10⟩
              have hbbg : bb < gb := by have := HG.out.2.2.2; have := HG.out.1; omega
              have hrow10 := row_keptK HR.out.2.1 K10 (fun x hx e => by have := (HG.out.2.1 x hx).2; have := HG.out.2.2.2; omega)
              have hmap10 := HR.out.2.2.kept K10 (by omega)
              have hgr : gb < wr.heap.size := HR.out.2.2.lt
              have H10 := Lib.hid (And.intro S10 (And.intro hrow10 (And.intro hmap10 hgr)))
              have HO2 := Lib.hid O2
              obtain ⟨NY, hNY⟩ : ∃ NY, NY = (outL [p] (leftL (PA.take q) L)).length := ⟨_, rfl⟩
              have HNY := Lib.hid hNY
              have hNY16 : NY ≤ 16 := by rw [hNY]; exact Nat.le_trans (List.length_filter_le _ _) (Nat.le_trans (List.length_filter_le _ _) HL3.out.2.1.len)
              rw [← hNY]
              clear hNY O2 S10 K10 hrow10 hmap10 hgr HT s1 hbbg
              go_wp2_with fail
              obtain ⟨w11, hw11⟩ : ∃ w11, w11 = w10 := ⟨_, rfl⟩
              subst hw11
              go_loopw [14] (fun i wq => ∃ m : Nat, m ≤ NY ∧ i = .int .i64 m ∧ Hid (HasMap Tryd.prog 44 Ev.val iv wq gb (tmap (outL PA L) (fun e => if (hitB (PA.take q) e || ((outL [p] (leftL (PA.take q) L)).take m).contains e) then (0 : Int) else 1)) ∧ Kept (· = gb) w11 wq)) (fun i _ => NY - (intOf i).toNat)
              case atStart => exact ⟨0, by omega, rfl, Lib.hid ⟨by rw [List.take_zero]; simpa using H10.out.2.2.1, Kept.refl _ _⟩⟩
              case round =>
                obtain ⟨m, hm', rfl, HQ3⟩ := hrel
                by_cases hlt5 : m < NY
                · obtain ⟨z, hz⟩ : ∃ z, (outL [p] (leftL (PA.take q) L))[m]? = some z := ⟨_, List.getElem?_eq_getElem (by rw [← HNY.out]; exact hlt5)⟩
                  have HZJ := Lib.hid hz
                  obtain ⟨ga, rfl, hga0, hga, hra⟩ := HO2.out m z hz
                  have hne : ¬ ga = gb := by have := H10.out.2.2.2; omega
                  have hx : ∀ i v, z.cells[i]? = some v → wr.cell? ⟨ga, m * 4 + i, none⟩ = some v := fun i v hv => (HQ3.out.2.cell (p := ⟨ga, m * 4 + i, none⟩) hga hne).trans (hra i v hv)
                  have x0 : wr.cell? ⟨ga, m * 4, none⟩ = some (.int .i64 z.site) := hx 0 _ rfl
                  have x1 : wr.cell? ⟨ga, m * 4 + 1, none⟩ = some (.int .u32 z.num) := hx 1 _ rfl
                  have x2 : wr.cell? ⟨ga, m * 4 + 2, none⟩ = some (.string (bs z.path)) := hx 2 _ rfl
                  have x3 : wr.cell? ⟨ga, m * 4 + 3, none⟩ = some (.bool z.kids) := hx 3 _ rfl
                  have hzY := List.mem_of_getElem? hz
                  have hzq := (List.mem_filter.1 hzY).1
                  have hzp : hitB [p] z = true := (List.mem_filter.1 hzY).2
                  have hzL : z ∈ L := (List.mem_filter.1 hzq).1
                  have hzn : hitB (PA.take q) z = false := by simpa using (List.mem_filter.1 hzq).2
                  have hzX : z ∈ outL PA L := List.mem_filter.2 ⟨hzL, by
                    unfold hitB at hzp ⊢
                    simp at hzp
                    exact List.any_eq_true.2 ⟨p, List.mem_of_getElem? HPQ.out, hzp⟩⟩
                  have hnt : z ∉ (outL [p] (leftL (PA.take q) L)).take m := not_mem_take ((HL3.out.2.1.nodup.filter _).filter _) hz
                  have hgn := getA_tmap (fun e => if (hitB (PA.take q) e || ((outL [p] (leftL (PA.take q) L)).take m).contains e) then (0 : Int) else 1) z hzX
                  have hfz : (if (hitB (PA.take q) z || ((outL [p] (leftL (PA.take q) L)).take m).contains z) then (0 : Int) else 1) = 1 := by
                    rw [hzn]
                    simp [hnt]
                  rw [hfz] at hgn
                  obtain ⟨lz, hlz⟩ := ev_key (HXN.out.2 z hzX)
                  have hM0 : HasMap Tryd.prog 44 Ev.val iv wr.drew gb (tmap (outL PA L) (fun e => if (hitB (PA.take q) e || ((outL [p] (leftL (PA.take q) L)).take m).contains e) then (0 : Int) else 1)) := HQ3.out.1.of_block rfl
                  have q0 := hM0.lookup key44 Ev.val_inj Tryd.underlying50 (zero3 _) hlz
                  obtain ⟨st, o1, o2, g1, g2, g3, g4⟩ := hM0.entry key44 Ev.val_inj Tryd.underlying50 zero3 hlz 0
                  rw [hgn] at q0 g1 g2
                  have q0 : (Instr.lookup 50 (.map (some gb)) (.agg #[.int .i64 z.site, .int .u32 z.num, .string (bs z.path), .bool z.kids]) false).run Tryd.prog wr.drew = .ok (.int .i64 1) wr.drew := q0
                  have g1 : (Instr.mapEntry 50 (.map (some gb)) (.agg #[.int .i64 z.site, .int .u32 z.num, .string (bs z.path), .bool z.kids])).run Tryd.prog wr.drew = .ok (.tuple #[.int .i64 1, .int .i64 st]) (setBlock wr.drew gb o1) := g1
                  have g2 : (Instr.lookup 50 (.map (some gb)) (.agg #[.int .i64 z.site, .int .u32 z.num, .string (bs z.path), .bool z.kids]) false).run Tryd.prog (setBlock wr.drew gb o1) = .ok (.int .i64 1) (setBlock wr.drew gb o1) := g2
                  have g3 : (Instr.entryStore 50 (.map (some gb)) (.int .i64 st) (.int .i64 0)).run Tryd.prog (setBlock wr.drew gb o1) = .ok () (setBlock (setBlock wr.drew gb o1) gb o2) := g3
                  have g5 := g4.lookup key44 Ev.val_inj Tryd.underlying50 (zero3 _) hlz
                  rw [getA_putA_same] at g5
                  have g5 : (Instr.lookup 50 (.map (some gb)) (.agg #[.int .i64 z.site, .int .u32 z.num, .string (bs z.path), .bool z.kids]) false).run Tryd.prog (setBlock (setBlock wr.drew gb o1) gb o2) = .ok (.int .i64 0) (setBlock (setBlock wr.drew gb o1) gb o2) := g5
                  have hlt1 : gb < wr.drew.heap.size := hM0.lt
                  have hlt2 : gb < (setBlock wr.drew gb o1).heap.size := by simpa [setBlock] using hlt1
                  have hkk := (((Kept.refl (· = gb) wr).drew).trans (kept_setBlock hlt1 o1)).trans (kept_setBlock hlt2 o2)
                  have hgaw : ga < wr.heap.size := Nat.lt_of_lt_of_le hga HQ3.out.2.size
                  have y0 := (hkk.cell (p := ⟨ga, m * 4, none⟩) hgaw hne).trans x0
                  have y1 := (hkk.cell (p := ⟨ga, m * 4 + 1, none⟩) hgaw hne).trans x1
                  have y2 := (hkk.cell (p := ⟨ga, m * 4 + 2, none⟩) hgaw hne).trans x2
                  have y3 := (hkk.cell (p := ⟨ga, m * 4 + 3, none⟩) hgaw hne).trans x3
                  rw [putA_tmap _ _ _ HXN.out.1 hzX] at g4
                  have HF4 := Lib.hid (And.intro g4 hkk)
                  clear hx hra hz hnt hgn hlz hM0 g4 hlt1 hlt2 hkk hgaw hzY hzq hzp hzL hzn hzX hfz
                  go_wp2
                  go_region
                  all_goals
                    go_wp2
                    go_roundw
                    case rel =>
                      refine ⟨m + 1, by omega, by go_num, Lib.hid ⟨?_, HQ3.out.2.trans HF4.out.2⟩⟩
                      have h := HF4.out.1
                      rw [List.take_add_one, HZJ.out, Option.toList_some]
                      have hfun : (fun e : Ev => if e = z then (0 : Int) else if (hitB (PA.take q) e || ((outL [p] (leftL (PA.take q) L)).take m).contains e) then 0 else 1) = (fun e => if (hitB (PA.take q) e || ((outL [p] (leftL (PA.take q) L)).take m ++ [z]).contains e) then 0 else 1) := by
                        funext e
                        by_cases h1 : e = z
                        · simp [h1]
                        · simp [h1]
                      rw [hfun] at h
                      exact h
                    case measure => simp [intOf]; omega
                · obtain rfl : m = NY := by omega
                  have hY : (outL [p] (leftL (PA.take q) L)).take m = outL [p] (leftL (PA.take q) L) := by rw [HNY.out, List.take_length]
                  have hm9 := HQ3.out.1
                  rw [hY] at hm9
                  have hp1 : PA.take (q + 1) = PA.take q ++ [p] := by rw [List.take_add_one, HPQ.out, Option.toList_some]
                  have hcong : tmap (outL PA L) (fun e => if (hitB (PA.take q) e || (outL [p] (leftL (PA.take q) L)).contains e) then (0 : Int) else 1) = tmap (outL PA L) (fun e => if hitB (PA.take (q + 1)) e then (0 : Int) else 1) := by
                    unfold tmap
                    refine List.map_congr_left fun e he => ?_
                    have heL : e ∈ L := (List.mem_filter.1 he).1
                    rw [hp1]
                    have : (hitB (PA.take q) e || (outL [p] (leftL (PA.take q) L)).contains e) = hitB (PA.take q ++ [p]) e := by
                      rw [hitB_append]
                      cases h1 : hitB (PA.take q) e with
                      | true => simp
                      | false =>
                        rw [Bool.false_or, Bool.false_or, Bool.eq_iff_iff]
                        simp [outL, leftL, h1, heL]
                    dsimp only
                    rw [this]
                  rw [hcong] at hm9
                  have S11 := H10.out.1.swap.turn HZ2.out (HQ3.out.2.mono (fun k _ h => .inr h))
                  rw [show leftL [p] (leftL (PA.take q) L) = leftL (PA.take (q + 1)) L by rw [hp1, leftL_append]] at S11
                  have hrow11 := row_keptK H10.out.2.1 HQ3.out.2 (fun x hx e => by have := (HG.out.2.1 x hx).1; omega)
                  have HE := Lib.hid (And.intro S11 (And.intro hrow11 hm9))
                  clear hY hm9 hp1 hcong S11 hrow11
                  go_wp2
                  go_roundw
                  case rel => exact ⟨q + 1, by omega, by go_num, HE⟩
                  case measure => simp [intOf]; omega
            · obtain rfl : q = NE := by omega
              have hPA : PA.take q = PA := by rw [← HPE.out, List.take_length]
              have S12 := HR.out.1
              rw [hPA] at S12
              have LA := S12.len
              have LB := S12.swap.len
              obtain ⟨NR, hNR⟩ : ∃ NR, NR = (leftL PA L).length := ⟨_, rfl⟩
              rw [← hNR] at LA LB
              have hsum : NL = j + NR := by rw [HNL.out, HNX.out, hNR]; exact out_left_len PA L
              have hl16 : NL ≤ 16 := by rw [HNL.out]; exact HL3.out.2.1.len
              have s1 : IntKind.i64.wrap ((NL : Int) - (j : Int)) = (NR : Int) := by
                rw [show (NL : Int) - (j : Int) = (NR : Int) by omega]
                exact IntWalk.i64_in _ (by omega)
              have s2 : wrap64 ((NL : Int) - (j : Int)) = (NR : Int) := by unfold wrap64; omega
              have HLA := Lib.hid LA
              have HLB := Lib.hid LB
              have HBE := Lib.hid S12.below
              have HGO := Lib.hid (goes_true wr (HM.out.kept S12.below))
              clear hPA S12 LA LB hNR hsum
              go_wp2_with fail
              refine HLA.out.mono ?_
              rintro e v1 ⟨rfl, rfl⟩
              go_wp2_with fail
              refine HLB.out.mono ?_
              rintro e v2 ⟨rfl, rfl⟩
              go_wp2_with fail
              refine HLA.out.mono ?_
              rintro e v3 ⟨rfl, rfl⟩
              go_wp2_with fail
              refine HGO.out.mono ?_
              rintro e v4 ⟨rfl, Bz⟩
              go_wp2
              go_ret
              exact ⟨rfl, HBE.out.trans (Bz.mono HBE.out.size)⟩
end Go.Proofs.YtfbimhbdifmeoaaDoor
