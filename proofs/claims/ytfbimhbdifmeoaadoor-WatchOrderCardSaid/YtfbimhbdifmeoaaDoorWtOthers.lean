/-
  WatchOthers, walked.
-/
import Derived.Test.YtfbimhbdifmeoaaDoorWtPlays
namespace Go.Proofs.YtfbimhbdifmeoaaDoor
set_option linter.unusedVariables false
set_option linter.unusedSimpArgs false
open Go Go.RowKit Go.Shelf

def oneB (e : Ev) : Bool := decide (e.site = 1 ∧ e.num = 1)
theorem addL_one (L : List Ev) (x : Ev) (hL : L.length < 16) : (addL L x).filter oneB = if oneB x then addL (L.filter oneB) x else L.filter oneB := by
  unfold addL
  have h2 : ¬ 16 ≤ L.length := by omega
  have h3 : ¬ 16 ≤ (L.filter oneB).length := by have := List.length_filter_le oneB L; omega
  cases hx : oneB x with
  | false =>
    split
    · split
      · simp
      · simp [h2, hx]
    · simp
  | true =>
    have hc : (L.filter oneB).contains x = L.contains x := by
      simp [Bool.eq_iff_iff, hx]
    simp only [if_true]
    rw [hc]
    split
    · split
      · rfl
      · simp only [h2, h3, if_false, List.filter_append]
        simp [hx]
    · rfl
theorem out_one (P : List Bytes) (L : List Ev) : outL P (L.filter oneB) = (outL P L).filter oneB := by
  unfold outL
  rw [List.filter_filter, List.filter_filter]
  congr 1
  funext a
  exact Bool.and_comm _ _
theorem left_one (P : List Bytes) (L : List Ev) : leftL P (L.filter oneB) = (leftL P L).filter oneB := by
  unfold leftL
  rw [List.filter_filter, List.filter_filter]
  congr 1
  funext a
  exact Bool.and_comm _ _
theorem addL_len (L : List Ev) (x : Ev) : (addL L x).length ≤ L.length + 1 := by
  unfold addL
  repeat' split
  all_goals simp
theorem filter_at {α} (p : α → Bool) (X : List α) (j : Nat) (z : α) (h : X[j]? = some z) (hp : p z = true) : (X.filter p)[((X.take j).filter p).length]? = some z := by
  have h0 : X.filter p = (X.take j).filter p ++ (X.drop j).filter p := by rw [← List.filter_append, List.take_append_drop]
  rw [h0, List.getElem?_append_right (Nat.le_refl _), Nat.sub_self]
  rw [List.drop_eq_getElem_cons (List.getElem?_eq_some_iff.1 h).1, (List.getElem?_eq_some_iff.1 h).2]
  simp [hp]
theorem filter_take_succ {α} (p : α → Bool) (X : List α) (j : Nat) (z : α) (h : X[j]? = some z) : (X.take (j + 1)).filter p = (X.take j).filter p ++ (if p z then [z] else []) := by
  rw [List.take_add_one, h, List.filter_append]
  cases hp : p z <;> simp [hp]
theorem eqSess (s n s' n' : Int) (w : World) : (_root_.Go.binOp BinOp.eql 32 (.agg #[.int .i64 s, .int .u32 n]) (.agg #[.int .i64 s', .int .u32 n']) : Sem Value).run Tryd.prog w = Result.ok (Value.bool (decide (s = s' ∧ n = n'))) w := by
  rw [run_eql_struct, run_equalIn_agg _ _ _ _ _ (by kernel_rfl) (by kernel_rfl), fields32]
  have e3 := fun w : World => run_equalIn_int (P := Tryd.prog) w 9998 3 .i64 .i64 s s' Tryd.underlying3
  have e4 := fun w : World => run_equalIn_int (P := Tryd.prog) w 9998 30 .u32 .u32 n n' Tryd.underlying30
  simp [Op.eqFields, Sem.run_bind, part, e3, e4]
  by_cases h1 : s = s' <;> by_cases h2 : n = n' <;> simp [h1, h2]
theorem neqEv (x e : Ev) (w : World) : (_root_.Go.binOp BinOp.neq 44 x.val e.val : Sem Value).run Tryd.prog w = Result.ok (Value.bool (!decide (x = e))) w := by
  obtain ⟨s, n, q, k⟩ := x
  obtain ⟨s', n', q', k'⟩ := e
  unfold Ev.val Ev.cells
  rw [run_neq_struct, run_equalIn_agg _ _ _ _ _ (by kernel_rfl) (by kernel_rfl), fields44]
  have e1 := fun w : World => run_equalIn_string (P := Tryd.prog) w 9998 9 (bs q) (bs q') Tryd.underlying9
  have e2 := fun w : World => run_equalIn_bool' (P := Tryd.prog) w 9998 4 k k' Tryd.underlying4
  have e3 := fun w : World => run_equalIn_int (P := Tryd.prog) w 9997 3 .i64 .i64 s s' Tryd.underlying3
  have e4 := fun w : World => run_equalIn_int (P := Tryd.prog) w 9997 30 .u32 .u32 n n' Tryd.underlying30
  have e5 := fun w : World => run_equalIn_agg (P := Tryd.prog) w 9998 32 #[.int .i64 s, .int .u32 n] #[.int .i64 s', .int .u32 n'] (by kernel_rfl) (by kernel_rfl)
  simp only [fields32] at e5
  simp [Op.eqFields, Sem.run_bind, part, e5, e1, e2, e3, e4, eq_bs]
  by_cases h1 : s = s' <;> by_cases h2 : n = n' <;> by_cases h3 : q = q' <;> by_cases h4 : k = k' <;> simp [h1, h2, h3, h4]

set_option maxRecDepth 100000 in
set_option maxHeartbeats 2000000 in
theorem others_great (ao : Option Addr) (c : Nat) (A : List ActD) (w : World) (hbig : A.length ≤ maxLen) (hA : ActsAt w w.heap.size ao A) (hg : greatB A = true) :
    Calls Tryd.prog 7 #[.slice ao A.length c] w (LawEnd w) := by
  have hc := great_any ao c A w hbig hA
  rw [hg] at hc
  clear hg hA hbig
  generalize A.length = N at *
  go_enter Tryd.func7, Tryd.ntmps7
  go_wp2_with fail
  refine hc.mono ?_
  rintro e w1 ⟨rfl, rfl⟩
  go_wp2
  go_ret
  exact ⟨rfl, Below.refl _ _⟩

set_option maxRecDepth 100000 in
set_option maxHeartbeats 8000000 in
theorem others_small (ao : Option Addr) (c : Nat) (A : List ActD) (w : World) (hm : MaxInt w) (hbig : A.length ≤ maxLen) (hA : ActsAt w w.heap.size ao A) (hg : greatB A = false) :
    Calls Tryd.prog 7 #[.slice ao A.length c] w (LawEnd w) := by
  have hc := great_any ao c A w hbig hA
  rw [hg] at hc
  obtain ⟨h60, hsm⟩ := greatB_no hg
  have HC := Lib.hid hc
  have HM := Lib.hid hm
  have HA := Lib.hid hA
  have HSM := Lib.hid hsm
  obtain ⟨N, hN⟩ : ∃ N, N = A.length := ⟨_, rfl⟩
  have HN := Lib.hid hN
  rw [← hN] at h60 HC ⊢
  clear hg hA hbig hc hm hsm hN
  go_enter Tryd.func7, Tryd.ntmps7
  go_wp2_with fail
  refine HC.out.mono ?_
  rintro e w0 ⟨rfl, rfl⟩
  go_wp2_with fail
  obtain ⟨w1, hw1⟩ : ∃ w1, w1 = w.alloc (.cells #[.int .i64 1, .int .u32 1] 32) := ⟨_, rfl⟩
  rw [← hw1]
  have hs1 : w1.heap.size = w.heap.size + 1 := by rw [hw1]; simp
  have hb1 : Below w.heap.size w w1 := by rw [hw1]; exact belowA (Below.refl _ w) _
  have hq0 : w1.cell? ⟨w.heap.size, 0, none⟩ = some (.int .i64 1) := by rw [hw1]; exact (new_cell (Below.refl _ _) 0 _ rfl).1
  have hq1 : w1.cell? ⟨w.heap.size, 1, none⟩ = some (.int .u32 1) := by rw [hw1]; exact (new_cell (Below.refl _ _) 1 _ rfl).1
  have HW1 := Lib.hid (And.intro hs1 (And.intro hb1 (And.intro hq0 hq1)))
  clear hw1 hs1 hb1 hq0 hq1
  refine (new_any w1).mono ?_
  rintro e wa ⟨rfl, hwa⟩
  have HWA := Lib.hid hwa
  clear hwa
  go_wp2_with fail
  refine (new_any wa).mono ?_
  rintro e w2 ⟨rfl, hw2⟩
  have HW2 := Lib.hid hw2
  clear hw2
  have S0 : Two ZNo 58 44 58 44 w w2 w2 w1.heap.size wa.heap.size [] [] := by
    obtain ⟨hs1, hb1, _, _⟩ := HW1.out
    have hsa : wa.heap.size = w1.heap.size + 1 := by rw [HWA.out]; simp
    have hs2 : w2.heap.size = wa.heap.size + 1 := by rw [HW2.out]; simp
    have hba : Below w1.heap.size w1 wa := by rw [HWA.out]; exact belowA (Below.refl _ w1) _
    have hb2 : Below wa.heap.size wa w2 := by rw [HW2.out]; exact belowA (Below.refl _ wa) _
    have hTa : TabAt 58 44 w.heap.size wa w1.heap.size none [] := ⟨by omega, .slice none 0 0, by rw [HWA.out]; exact heap_alloc_new w1 _, World.ownsRow_nil _ _ _ _, rfl⟩
    have hTb : TabAt 58 44 w.heap.size w2 wa.heap.size none [] := ⟨by omega, .slice none 0 0, by rw [HW2.out]; exact heap_alloc_new wa _, World.ownsRow_nil _ _ _ _, rfl⟩
    exact ⟨⟨none, none, hTa.below hb2, hTb, fun g hg => (by cases hg), fun g hg => (by cases hg), fun g hg => (by cases hg)⟩, by omega, fun e => e, fun e => e, fun _ e => e.elim, by omega, by omega, by omega, by omega, Kept.refl _ _, (hb1.trans (hba.mono (by omega))).trans (hb2.mono (by omega))⟩
  have hbox : ∀ W L1 L2, Two ZNo 58 44 58 44 w w2 W w1.heap.size wa.heap.size L1 L2 → W.cell? ⟨w.heap.size, 0, none⟩ = some (.int .i64 1) ∧ W.cell? ⟨w.heap.size, 1, none⟩ = some (.int .u32 1) := fun W L1 L2 hW => by
    obtain ⟨hs1, hb1, hq0, hq1⟩ := HW1.out
    have hsa : wa.heap.size = w1.heap.size + 1 := by rw [HWA.out]; simp
    have hs2 : w2.heap.size = wa.heap.size + 1 := by rw [HW2.out]; simp
    have hba : Below w1.heap.size w1 wa := by rw [HWA.out]; exact belowA (Below.refl _ w1) _
    have hb2 : Below w1.heap.size w1 w2 := by rw [HW2.out]; exact belowA hba _
    have hne : ¬ (w.heap.size = w1.heap.size ∨ w.heap.size = wa.heap.size) := by omega
    exact ⟨(hW.kept.cell (p := ⟨w.heap.size, 0, none⟩) (by omega : w.heap.size < _) hne).trans ((hb2.cell (p := ⟨w.heap.size, 0, none⟩) (by omega : w.heap.size < _)).trans hq0), (hW.kept.cell (p := ⟨w.heap.size, 1, none⟩) (by omega : w.heap.size < _) hne).trans ((hb2.cell (p := ⟨w.heap.size, 1, none⟩) (by omega : w.heap.size < _)).trans hq1)⟩
  have HBOX := Lib.hid hbox
  have HS0 := Lib.hid S0
  clear hbox S0
  have hlt01 : w.heap.size < w2.heap.size := by
    obtain ⟨hs1, _⟩ := HW1.out
    have := HS0.out.lt1
    omega
  have HLT := Lib.hid hlt01
  clear HW1 HWA HW2 hlt01
  obtain ⟨ra, hra⟩ : ∃ ra, ra = w1.heap.size := ⟨_, rfl⟩
  obtain ⟨rb, hrb⟩ : ∃ rb, rb = wa.heap.size := ⟨_, rfl⟩
  rw [← hrb, ← hra] at HS0 HBOX
  rw [← hrb, ← hra]
  clear hrb hra
  go_wp2_with fail
  go_loopw [6, 7] (fun n i wr => ∃ k nn : Nat, k ≤ N ∧ nn ≤ k ∧ n = .int .i64 nn ∧ i = .int .i64 k ∧ ∃ L, Hid (Two ZNo 58 44 58 44 w w2 wr ra rb L (L.filter oneB) ∧ L.length ≤ nn ∧ L.length ≤ 14)) (fun n i _ => N - (intOf i).toNat)
  case atStart => exact ⟨0, 0, by omega, by omega, rfl, rfl, [], Lib.hid ⟨HS0.out, by simp, by simp⟩⟩
  case round =>
    obtain ⟨k, nn, hk, hnk, rfl, rfl, L, HS⟩ := hrel
    by_cases hlt : k < N
    · obtain ⟨a, ha⟩ : ∃ a, A[k]? = some a := ⟨_, List.getElem?_eq_getElem (by rw [← HN.out]; exact hlt)⟩
      obtain ⟨hok, b, off, rfl, hb, hrg0⟩ := HA.out k a ha
      have hsm := HSM.out a (List.mem_of_getElem? ha)
      obtain ⟨d, x, pa, P, pc⟩ := a
      have hrg := range_kept hrg0 HS.out.1.below hb
      have c0 : wr.cell? ⟨b, off + k * 6, none⟩ = some (.int .u8 d) := hrg 0 _ rfl
      have c1 : wr.cell? ⟨b, off + k * 6 + 1, none⟩ = some (.int .i64 x.site) := hrg 1 _ rfl
      have c2 : wr.cell? ⟨b, off + k * 6 + 1 + 1, none⟩ = some (.int .u32 x.num) := hrg 2 _ rfl
      have c3 : wr.cell? ⟨b, off + k * 6 + 1 + 2, none⟩ = some (.string (bs x.path)) := hrg 3 _ rfl
      have c4 : wr.cell? ⟨b, off + k * 6 + 1 + 3, none⟩ = some (.bool x.kids) := hrg 4 _ rfl
      have c5 : wr.cell? ⟨b, off + k * 6 + 5, none⟩ = some (.slice pa P.length pc) := hrg 5 _ rfl
      have hbw : b < wr.heap.size := Nat.lt_of_lt_of_le hb HS.out.1.below.size
      have HRG := Lib.hid hrg0
      have HEF := Lib.hid (hok.effs.kept HS.out.1.below)
      have HEW := Lib.hid hok.effs
      have hd0 : 0 ≤ d := hok.d.1
      have hxp : x.path.length ≤ 1000 := by have := hsm.path; dsimp only at this; omega
      have HPL := Lib.hid hsm.len
      have HPS := Lib.hid hsm.paths
      dsimp only at HPL HPS HEF HEW
      clear hrg hrg0 ha hok hsm
      have hbx := Lib.hid (belowA (Below.refl _ wr) (.cells #[.int .i64 x.site, .int .u32 x.num, .string (bs x.path), .bool x.kids] 34))
      by_cases hd : d % 3 < 2
      · have hd' : decide (d % 3 < 2) = true := by simpa using hd
        clear hd
        by_cases h14 : 14 < nn + 1
        · have d14 : decide (14 < (nn : Int) + 1) = true := by simp; omega
          clear h14
          go_wp2
          go_roundw
          case rel => exact ⟨k + 1, nn + 1, by omega, by omega, by go_num, by go_num, L, Lib.hid ⟨HS.out.1.other hbx.out, by have := HS.out.2.1; omega, HS.out.2.2⟩⟩
          case measure => simp [intOf]; omega
        · have d14 : decide (14 < (nn : Int) + 1) = false := by simp; omega
          have hbox : ∀ (W W' : World), (W.cell? ⟨wr.heap.size, 0, none⟩ = some (.int .i64 x.site) ∧ W.cell? ⟨wr.heap.size, 1, none⟩ = some (.int .u32 x.num) ∧ W.cell? ⟨wr.heap.size, 2, none⟩ = some (.string (bs x.path)) ∧ W.cell? ⟨wr.heap.size, 3, none⟩ = some (.bool x.kids)) → Kept (fun k => ¬ k = wr.heap.size) W W' →
              (W'.cell? ⟨wr.heap.size, 0, none⟩ = some (.int .i64 x.site) ∧ W'.cell? ⟨wr.heap.size, 1, none⟩ = some (.int .u32 x.num) ∧ W'.cell? ⟨wr.heap.size, 2, none⟩ = some (.string (bs x.path)) ∧ W'.cell? ⟨wr.heap.size, 3, none⟩ = some (.bool x.kids)) := fun W W' ⟨h0, h1, h2, h3⟩ hk => by
            have hlt := World.block_lt_of_cell? _ _ h0
            exact ⟨(hk.cell (p := ⟨wr.heap.size, 0, none⟩) hlt (fun e => e rfl)).trans h0, (hk.cell (p := ⟨wr.heap.size, 1, none⟩) hlt (fun e => e rfl)).trans h1, (hk.cell (p := ⟨wr.heap.size, 2, none⟩) hlt (fun e => e rfl)).trans h2, (hk.cell (p := ⟨wr.heap.size, 3, none⟩) hlt (fun e => e rfl)).trans h3⟩
          have HB := Lib.hid hbox
          have b0 : ∀ WB, WB = (wr.alloc (.cells #[.int .i64 x.site, .int .u32 x.num, .string (bs x.path), .bool x.kids] 34)) → WB.cell? ⟨wr.heap.size, 0, none⟩ = some (.int .i64 x.site) ∧ WB.cell? ⟨wr.heap.size, 1, none⟩ = some (.int .u32 x.num) ∧ WB.cell? ⟨wr.heap.size, 2, none⟩ = some (.string (bs x.path)) ∧ WB.cell? ⟨wr.heap.size, 3, none⟩ = some (.bool x.kids) := fun WB h => by
            subst h
            exact ⟨(new_cell (Below.refl _ _) 0 _ rfl).1, (new_cell (Below.refl _ _) 1 _ rfl).1, (new_cell (Below.refl _ _) 2 _ rfl).1, (new_cell (Below.refl _ _) 3 _ rfl).1⟩
          have Hb := Lib.hid b0
          have RR := Lib.hid (HS.out.1.protect hbx.out (· = wr.heap.size) (fun k hk => by subst hk; simp))
          have HLL := Lib.hid HS.out.2
          have h14' : nn + 1 ≤ 14 := by omega
          have hl13 : L.length ≤ 13 := by have := HS.out.2.1; omega
          have HL13 := Lib.hid hl13
          clear hbox b0 h14 hl13
          go_wp2_with fail
          refine (RR.out.add HM.out (by have := HL13.out; omega) hxp rfl).mono ?_
          rintro e w5 ⟨rfl, RT, KT⟩
          obtain ⟨t0, t1, t2, t3⟩ := HB.out _ _ (Hb.out _ rfl) KT
          obtain ⟨o0, o1⟩ := HBOX.out _ _ _ RT.unprotect
          have hn := fun (W : World) => eqSess x.site x.num 1 1 W
          rw [show decide (x.site = 1 ∧ x.num = 1) = oneB x from rfl] at hn
          have HRT := Lib.hid RT
          clear RT KT RR c0 c1 c2 c3 c4 c5
          cases hone : oneB x with
          | true =>
            rw [hone] at hn
            have HONE := Lib.hid hone
            clear hone
            go_wp2_with fail
            refine (HRT.out.swap.add HM.out (by have := HL13.out; have := List.length_filter_le oneB L; omega) hxp rfl).mono ?_
            rintro e w6 ⟨rfl, R2, K2⟩
            have HR2 := Lib.hid R2
            clear R2 K2 t0 t1 t2 t3 o0 o1 hn
            go_wp2
            go_roundw
            case rel =>
              refine ⟨k + 1, nn + 1, by omega, by omega, by go_num, by go_num, addL L x, Lib.hid ⟨?_, ?_, ?_⟩⟩
              · rw [addL_one L x (by have := HL13.out; omega), HONE.out, if_pos rfl]
                exact HR2.out.swap.unprotect
              · have := addL_len L x; have := HLL.out.1; omega
              · have := addL_len L x; have := HL13.out; omega
            case measure => simp [intOf]; omega
          | false =>
            rw [hone] at hn
            have HONE := Lib.hid hone
            clear hone
            go_wp2
            go_roundw
            case rel =>
              refine ⟨k + 1, nn + 1, by omega, by omega, by go_num, by go_num, addL L x, Lib.hid ⟨?_, ?_, ?_⟩⟩
              · rw [addL_one L x (by have := HL13.out; omega), HONE.out]
                exact HRT.out.unprotect
              · have := addL_len L x; have := HLL.out.1; omega
              · have := addL_len L x; have := HL13.out; omega
            case measure => simp [intOf]; omega
      · have hd' : decide (d % 3 < 2) = false := by simpa using hd
        clear hd
        have h16 : L.length ≤ 16 := by have := HS.out.2.2; omega
        have hf16 : (L.filter oneB).length ≤ 16 := by have := List.length_filter_le oneB L; omega
        have HLL := Lib.hid HS.out.2
        obtain ⟨M, hM⟩ : ∃ M, M = P.length := ⟨_, rfl⟩
        have hbd := Lib.hid hbx.out.drew
        have hT1 := (HS.out.1.other hbd.out).touch HM.out h16 (P := P) (ao := pa) (c := pc) (by have := HPL.out; omega) (fun p hp => Nat.le_trans (HPS.out p hp) (by omega)) ((HEF.out.kept (hbd.out.mono HS.out.1.below.size)).mono (Nat.le_trans HS.out.1.below.size hbd.out.size))
        have hT2 := fun (W : World) (SW : Two ZNo 58 44 58 44 w w2 W ra rb (leftL P L) (L.filter oneB)) => SW.swap.touch HM.out hf16 (P := P) (ao := pa) (c := pc) (by have := HPL.out; omega) (fun p hp => Nat.le_trans (HPS.out p hp) (by omega)) ((HEW.out.kept SW.below).mono SW.below.size)
        have hC5 : ∀ W W', W.cell? ⟨b, off + k * 6 + 5, none⟩ = some (.slice pa P.length pc) → (Kept (· = ra) W W' ∨ Kept (· = rb) W W') → W'.cell? ⟨b, off + k * 6 + 5, none⟩ = some (.slice pa P.length pc) := fun W W' h hk => by
          have hlt := World.block_lt_of_cell? _ _ h
          have h1 := HS.out.1.hw1
          have h2 := HS.out.1.hw2
          rcases hk with hk | hk
          · exact (hk.cell (p := ⟨b, off + k * 6 + 5, none⟩) hlt (by intro e; change b = ra at e; omega)).trans h
          · exact (hk.cell (p := ⟨b, off + k * 6 + 5, none⟩) hlt (by intro e; change b = rb at e; omega)).trans h
        have hc5 : (wr.alloc (.cells #[.int .i64 x.site, .int .u32 x.num, .string (bs x.path), .bool x.kids] 34)).drew.cell? ⟨b, off + k * 6 + 5, none⟩ = some (.slice pa P.length pc) := (hbd.out.cell (p := ⟨b, off + k * 6 + 5, none⟩) hbw).trans c5
        rw [← hM] at hT1 hC5 hc5 c5
        simp only [← hM] at hT2
        have HT1 := Lib.hid hT1
        have HT2 := Lib.hid hT2
        have HC5 := Lib.hid hC5
        have Hc5 := Lib.hid hc5
        have hrbn : rb < (wr.alloc (.cells #[.int .i64 x.site, .int .u32 x.num, .string (bs x.path), .bool x.kids] 34)).drew.heap.size := by
          have h1 := HS.out.1.lt2
          have h2 := HS.out.1.kept.size
          have h3 := hbd.out.size
          omega
        have HRBN := Lib.hid hrbn
        clear hT1 hT2 hC5 hc5 hM hrbn
        go_wp2
        go_region_held3 (fun w' => w'.cell? ⟨b, off + k * 6 + 5, none⟩ = some (.slice pa M pc)) (first | assumption | exact Hc5.out | go_keep) (first | (go_at_call 12; refine (HT2.out _ S1).mono ?_; rintro e w6 ⟨a2, k2, rfl, O2, S2, K2⟩; have cs := HC5.out _ _ ct (.inr K2)) | (go_at_call 12; refine HT1.out.mono ?_; rintro e w5 ⟨a1, k1, rfl, O1, S1, K1⟩; have ct := HC5.out _ _ Hc5.out (.inl K1)))
        have HO1 := Lib.hid (O1.kept K2 HRBN.out)
        rw [out_one] at O2
        rw [left_one] at S2
        have HO2 := Lib.hid O2
        have HS2 := Lib.hid S2.swap
        rw [out_one]
        clear O1 O2 S1 S2 K1 K2 ct cs HT1 HT2 HC5 Hc5 hbd hbx c0 c1 c2 c3 c4 c5
        obtain ⟨q0, q1⟩ := HBOX.out _ _ _ HS2.out
        have hXl : (outL P L).length ≤ 16 := Nat.le_trans (List.length_filter_le _ _) h16
        have hYl : ((outL P L).filter oneB).length ≤ 16 := Nat.le_trans (List.length_filter_le _ _) hXl
        obtain ⟨NX, hNX⟩ : ∃ NX, NX = (outL P L).length := ⟨_, rfl⟩
        obtain ⟨NY, hNY⟩ : ∃ NY, NY = ((outL P L).filter oneB).length := ⟨_, rfl⟩
        have HNX := Lib.hid hNX
        have HNY := Lib.hid hNY
        have hltw : w.heap.size < w6.heap.size := Nat.lt_of_lt_of_le HLT.out HS2.out.kept.size
        rw [← hNX] at hXl ⊢
        rw [← hNY] at hYl ⊢
        clear hNX hNY h16 hf16
        go_wp2_with fail
        obtain ⟨w7, rfl⟩ : ∃ w7, w7 = w6 := ⟨_, rfl⟩
        go_loopw [11, 12] (fun kv jv wq => ∃ jn kn : Nat, jn ≤ NX ∧ kn ≤ jn ∧ jv = .int .i64 jn ∧ kv = .int .i64 kn ∧ Hid (kn = (((outL P L).take jn).filter oneB).length ∧ Below w7.heap.size w7 wq)) (fun _ jv _ => NX - (intOf jv).toNat)
        case atStart => exact ⟨0, 0, by omega, by omega, rfl, rfl, Lib.hid ⟨by simp, Below.refl _ _⟩⟩
        case round =>
          obtain ⟨j, kn, hj, hkj, rfl, rfl, HQ⟩ := hrel
          have p0 : ∀ o, (Wext wr o).cell? ⟨w.heap.size, 0, none⟩ = some (.int .i64 1) := fun o => ((HQ.out.2.trans ((Wext.below wr o).mono HQ.out.2.size)).cell (p := ⟨w.heap.size, 0, none⟩) hltw).trans q0
          have p1 : ∀ o, (Wext wr o).cell? ⟨w.heap.size, 1, none⟩ = some (.int .u32 1) := fun o => ((HQ.out.2.trans ((Wext.below wr o).mono HQ.out.2.size)).cell (p := ⟨w.heap.size, 1, none⟩) hltw).trans q1
          have HP := Lib.hid (And.intro p0 p1)
          clear p0 p1
          by_cases hlt3 : j < NX
          · obtain ⟨z, hz⟩ : ∃ z, (outL P L)[j]? = some z := ⟨_, List.getElem?_eq_getElem (by rw [← HNX.out]; exact hlt3)⟩
            obtain ⟨ga, rfl, _, hga, hra⟩ := HO1.out j z hz
            have hra0 := range_kept (by rw [Nat.zero_add]; exact hra : w7.rangeAt ga (0 + j * 4) z.cells) HQ.out.2 hga
            rw [Nat.zero_add] at hra0
            have x0 : wr.cell? ⟨ga, j * 4, none⟩ = some (.int .i64 z.site) := hra0 0 _ rfl
            have x1 : wr.cell? ⟨ga, j * 4 + 1, none⟩ = some (.int .u32 z.num) := hra0 1 _ rfl
            have x2 : wr.cell? ⟨ga, j * 4 + 2, none⟩ = some (.string (bs z.path)) := hra0 2 _ rfl
            have x3 : wr.cell? ⟨ga, j * 4 + 3, none⟩ = some (.bool z.kids) := hra0 3 _ rfl
            have p0 : wr.cell? ⟨w.heap.size, 0, none⟩ = some (.int .i64 1) := (HQ.out.2.cell (p := ⟨w.heap.size, 0, none⟩) hltw).trans q0
            have p1 : wr.cell? ⟨w.heap.size, 1, none⟩ = some (.int .u32 1) := (HQ.out.2.cell (p := ⟨w.heap.size, 1, none⟩) hltw).trans q1
            have hn := fun (W : World) => neqSess z.site z.num 1 1 W
            rw [show decide (z.site = 1 ∧ z.num = 1) = oneB z from rfl] at hn
            have HZ := Lib.hid hz
            clear hra0 hz
            cases hone : oneB z with
            | false =>
              rw [hone] at hn
              have HONE := Lib.hid hone
              clear hone
              go_wp2_with fail
              go_quiet (fail)
              go_wp2
              go_roundw
              case rel =>
                refine ⟨j + 1, kn, by omega, by omega, by go_num, by go_num, Lib.hid ⟨?_, below_drewN HQ.out.2 _⟩⟩
                rw [filter_take_succ oneB _ j z HZ.out, HONE.out, HQ.out.1]
                simp
              case measure => simp [intOf]; omega
            | true =>
              rw [hone] at hn
              have HONE := Lib.hid hone
              have hy := filter_at oneB _ j z HZ.out hone
              rw [← HQ.out.1] at hy
              have hky : kn < NY := by rw [HNY.out]; exact (List.getElem?_eq_some_iff.1 hy).1
              obtain ⟨gb, rfl, _, hgb, hrb⟩ := HO2.out kn z hy
              have hrb0 := range_kept (by rw [Nat.zero_add]; exact hrb : w7.rangeAt gb (0 + kn * 4) z.cells) HQ.out.2 hgb
              rw [Nat.zero_add] at hrb0
              have y0 : wr.cell? ⟨gb, kn * 4, none⟩ = some (.int .i64 z.site) := hrb0 0 _ rfl
              have y1 : wr.cell? ⟨gb, kn * 4 + 1, none⟩ = some (.int .u32 z.num) := hrb0 1 _ rfl
              have y2 : wr.cell? ⟨gb, kn * 4 + 2, none⟩ = some (.string (bs z.path)) := hrb0 2 _ rfl
              have y3 : wr.cell? ⟨gb, kn * 4 + 3, none⟩ = some (.bool z.kids) := hrb0 3 _ rfl
              have dk : decide ((NY : Int) ≤ (kn : Int)) = false := by simp; omega
              have hne := fun (W : World) => neqEv z z W
              rw [show (!decide (z = z)) = false from by simp] at hne
              unfold Ev.val Ev.cells at hne
              clear hone hy hrb0
              go_wp2_with fail
              go_quiet (fail)
              go_wp2_with fail
              go_quiet (fail)
              go_wp2
              go_roundw
              case rel =>
                refine ⟨j + 1, kn + 1, by omega, by omega, by go_num, by go_num, Lib.hid ⟨?_, ?_⟩⟩
                · rw [filter_take_succ oneB _ j z HZ.out, HONE.out, HQ.out.1]
                  simp
                · exact below_drewN HQ.out.2 _
              case measure => simp [intOf]; omega
          · obtain rfl : j = NX := by omega
            have hkn : kn = NY := by
              rw [HQ.out.1, HNY.out, HNX.out, List.take_length]
            subst hkn
            go_wp2
            go_roundw
            case rel => exact ⟨k + 1, nn, by omega, by omega, by go_num, by go_num, leftL P L, Lib.hid ⟨HS2.out.other HQ.out.2, Nat.le_trans (List.length_filter_le _ _) HLL.out.1, Nat.le_trans (List.length_filter_le _ _) HLL.out.2⟩⟩
            case measure => simp [intOf]; omega
    · obtain rfl : k = N := by omega
      go_wp2_with fail
      refine (goes_true wr (HM.out.kept HS.out.1.below)).mono ?_
      rintro e wz ⟨rfl, Bz⟩
      go_wp2
      go_ret
      exact ⟨rfl, HS.out.1.below.trans (Bz.mono HS.out.1.below.size)⟩
end Go.Proofs.YtfbimhbdifmeoaaDoor
