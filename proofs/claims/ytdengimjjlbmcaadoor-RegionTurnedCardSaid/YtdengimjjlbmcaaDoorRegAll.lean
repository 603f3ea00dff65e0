/-
  The program's All, walked.
-/
import Derived.Test.YtdengimjjlbmcaaDoorRegCheck
import Derived.Test.YtdengimjjlbmcaaDoorRegCheck2
import Derived.RegionTactic
import Derived.BigRegion
import Derived.Deep.DeepCutAuto
namespace Go.Proofs.YtdengimjjlbmcaaDoor
set_option linter.unusedVariables false
set_option linter.unusedSimpArgs false
open Go.RowKit

theorem belowA {w W : World} (h : Below w.heap.size w W) (o : Obj) : Below w.heap.size w (W.alloc o) := h.alloc h.size o
theorem new_cell {w w2 : World} {cs : Array Value} {t : TypeId} (B2 : Below (w.alloc (.cells cs t)).heap.size (w.alloc (.cells cs t)) w2) (j : Nat) (v : Value) (h : cs[j]? = some v) : w2.cell? ⟨w.heap.size, j, none⟩ = some v ∧ w2.frozen? ⟨w.heap.size, j, none⟩ = false := by
  have hb : w2.heap[w.heap.size]? = some (.cells cs t (0, 0)) := (B2.block _ (by simp)).trans (heap_alloc_new w _)
  exact ⟨(cell_of_row _ _ j _ t (0, 0) hb).trans h, by simp [World.frozen?, hb]⟩
theorem new_cell_drew {w w2 : World} {cs : Array Value} {t : TypeId} (B2 : Below (w.alloc (.cells cs t)).drew.heap.size (w.alloc (.cells cs t)).drew w2) (j : Nat) (v : Value) (h : cs[j]? = some v) : w2.cell? ⟨w.heap.size, j, none⟩ = some v ∧ w2.frozen? ⟨w.heap.size, j, none⟩ = false :=
  new_cell (w := w) ⟨B2.os, B2.tape, B2.output, B2.size, B2.block⟩ j v h
/-- The box of the answer, and what was there. -/
def AtBox (W1 wc : World) (s : Int) (t9 : Value) : Prop := ∃ nb, t9 = .pointer (some ⟨nb, 0, none⟩) ∧ W1.heap.size ≤ nb ∧ Below W1.heap.size W1 wc ∧ wc.cell? ⟨nb, 0, none⟩ = some (.int .i64 s)
theorem atbox_new {W1 w2 : World} {s : Int} {t : TypeId} (hb : Below W1.heap.size W1 w2) : AtBox W1 (w2.alloc (.cells #[.int .i64 s] t)) s (.pointer (some ⟨w2.heap.size, 0, none⟩)) :=
  ⟨_, rfl, hb.size, hb.alloc hb.size _, cell_of_row _ _ 0 _ t (0, 0) (heap_alloc_new w2 _)⟩
theorem atbox_set {W1 w2 : World} {s : Int} {o : Obj} {v : Value} (hb : Below (W1.alloc o).heap.size (W1.alloc o) w2) (q0 : w2.cell? ⟨W1.heap.size, 0, none⟩ = some v) :
    AtBox W1 (w2.setCell ⟨W1.heap.size, 0, none⟩ (.int .i64 s)) s (.pointer (some ⟨W1.heap.size, 0, none⟩)) :=
  ⟨_, rfl, Nat.le_refl _, (((Below.refl _ W1).alloc (Nat.le_refl _) o).trans (hb.mono (by simp))).setCell (p := ⟨W1.heap.size, 0, none⟩) (Nat.le_refl _) _, World.cell?_setCell_same' w2 _ _ (by rw [q0]; rfl)⟩
theorem below_undrew {B : Nat} {w w2 : World} (h : Below B w.drew w2) : Below B w w2 := ⟨h.os, h.tape, h.output, h.size, h.block⟩
/-! plain -/
def allAt (L : List Bytes) : List Bytes → Int × Int
  | [] => (0, 60)
  | x :: P => if ofB L x < 0 ∨ (x :: P).any (fun y => ofB L y != ofB L x) = true then (0, 60) else (ofB L x, 0)
/-- What All answers: of an operation's path, or of its parts' paths. -/
def allV (L : List Bytes) (p : Bytes) (Q : List Bytes) : Int × Int := allAt L (if Q = [] then [p] else Q)

/-- What an operation has beside its path. -/
structure OpRaw where
  kind : Int
  da : Option Addr
  dn : Nat
  dc : Nat
  ver : Int
  seq : Bool
  eph : Bool
  pa : Option Addr
  pn : Nat
  pc : Nat
def OpRaw.cells (r : OpRaw) (p : Bytes) : List Value := [.int .u8 r.kind, .string (bs p), .slice r.da r.dn r.dc, .int .i64 r.ver, .bool r.seq, .bool r.eph, .slice r.pa r.pn r.pc]
/-- Parts: their paths; the other cells are whatever. -/
def OpsAt (w : World) (B : Nat) (ao : Option Addr) (Q : List Bytes) : Prop :=
  ∀ k p, Q[k]? = some p → ∃ b off r, ao = some ⟨b, off, none⟩ ∧ b < B ∧ w.rangeAt b (off + k * 7) (OpRaw.cells r p)
theorem OpsAt.kept {w w' : World} {B : Nat} {ao : Option Addr} {Q : List Bytes} (h : OpsAt w B ao Q) (hb : Below B w w') : OpsAt w' B ao Q := fun k p hk => by
  obtain ⟨b, off, r, h1, h2, h3⟩ := h k p hk
  exact ⟨b, off, r, h1, h2, range_kept h3 hb h2⟩
theorem OpsAt.mono {w : World} {B B' : Nat} {ao : Option Addr} {Q : List Bytes} (h : OpsAt w B ao Q) (hB : B ≤ B') : OpsAt w B' ao Q := fun k p hk => by
  obtain ⟨b, off, r, h1, h2, h3⟩ := h k p hk
  exact ⟨b, off, r, h1, by omega, h3⟩
theorem OpsAt.later {w w' : World} {ao : Option Addr} {Q : List Bytes} (h : OpsAt w w.heap.size ao Q) (hb : Below w.heap.size w w') : OpsAt w' w'.heap.size ao Q := (h.kept hb).mono hb.size

set_option maxRecDepth 100000 in
set_option maxHeartbeats 1000000 in
theorem all1_any (pl pa : Nat) (s : Int) (ao : Option Addr) (c : Nat) (L : List Bytes) (x : Bytes) (w : World) (hm : MaxInt w) (hbig : L.length ≤ 1000) (hx : x.length ≤ 1000) (hL : ∀ r ∈ L, r.length ≤ 1000) (hc : StrSl w w.heap.size ao L)
    (h1 : w.cell? ⟨pl, 0, none⟩ = some (.slice ao L.length c)) (h2 : w.cell? ⟨pa, 0, none⟩ = some (.int .i64 s)) :
    Calls Tryd.prog 28 #[.string (bs x), .pointer (some ⟨pl, 0, none⟩), .pointer (some ⟨pa, 0, none⟩)] w fun e w' => e = .returned (.bool (ofB L x != s)) ∧ Below w.heap.size w w' := by
  have l1 := World.block_lt_of_cell? w _ h1
  have l2 := World.block_lt_of_cell? w _ h2
  have f1 : ∀ o, (Wext w o).cell? ⟨pl, 0, none⟩ = some (.slice ao L.length c) := fun o => ((Wext.below w o).cell (p := ⟨pl, 0, none⟩) l1).trans h1
  have f2 : ∀ o, (Wext w o).cell? ⟨pa, 0, none⟩ = some (.int .i64 s) := fun o => ((Wext.below w o).cell (p := ⟨pa, 0, none⟩) l2).trans h2
  have c1 : Later w 12 #[.slice ao L.length c, .string (bs x)] (.int .i64 (ofB L x)) := fun W hW => (of_region ao c L x W (hm.kept hW) hbig hx hL ((hc.kept hW).mono hW.size)).mono fun e w' ⟨he, hb⟩ => ⟨he, hW.trans (hb.mono hW.size)⟩
  have C1 := Lib.hid (later_ext c1)
  clear hm hL hc h1 h2 c1
  obtain ⟨N, hN⟩ : ∃ N, N = L.length := ⟨_, rfl⟩
  rw [← hN] at hbig f1 C1
  clear hN
  generalize ofB L x = r at *
  go_enter Tryd.func28, Tryd.ntmps28
  go_wp2_with fail
  refine wp_region_ext (by kernel_rfl) (by kernel_rfl) ?_
  repeat (go_big_quiet_step (first | (go_at_call 12; exact C1.out _)))
  refine wpQuiet_nil ?_
  intro w' hw'
  obtain ⟨oq, hw''⟩ := hw'
  subst hw''
  go_wp2
  go_ret
  exact ⟨rfl, Wext.below w oq⟩

/-- What All leaves. -/
def AllEnd (r : Int × Int) (w : World) (e : Ending) (w' : World) : Prop := e = .returned (.tuple #[.int .i64 r.1, .int .i64 r.2]) ∧ Below w.heap.size w w'

set_option maxRecDepth 100000 in
set_option maxHeartbeats 4000000 in
/-- No parts. -/
theorem all_one (k0 k2 k3 k4 k5 : Value) (ao po : Option Addr) (c pc : Nat) (L : List Bytes) (p : Bytes) (w : World) (hm : MaxInt w) (hbig : L.length ≤ 1000) (hp : p.length ≤ 1000) (hL : ∀ r ∈ L, r.length ≤ 1000) (hc : StrSl w w.heap.size ao L) :
    Calls Tryd.prog 15 #[.slice ao L.length c, .agg #[k0, .string (bs p), k2, k3, k4, k5, .slice po 0 pc]] w (AllEnd (allV L p []) w) := by
  obtain ⟨N, hN⟩ : ∃ N, N = L.length := ⟨_, rfl⟩
  have HN := Lib.hid hN
  have HC := Lib.hid hc
  have HM := Lib.hid hm
  have HL := Lib.hid hL
  rw [← hN] at hbig ⊢
  clear hN hc hm hL
  obtain ⟨W1, hW1⟩ : ∃ W1, W1 = ((w.alloc (.cells #[.slice ao N c] 22)).alloc (.cells #[k0, .string (bs p), k2, k3, k4, k5, .slice po 0 pc] 32)).alloc (.cells #[.string (bs p)] 9) := ⟨_, rfl⟩
  have hB1 : Below w.heap.size w W1 := by rw [hW1]; exact belowA (belowA (belowA (Below.refl _ w) _) _) _
  have hl : W1.cell? ⟨w.heap.size, 0, none⟩ = some (.slice ao N c) := by
    rw [hW1]
    rw [((Below.refl (w.heap.size + 1) _).alloc (by simp) _ |>.alloc (by simp) _ : Below (w.heap.size + 1) (w.alloc (.cells #[.slice ao N c] 22)) _).cell (p := ⟨w.heap.size, 0, none⟩) (by simp)]
    exact cell_of_row _ _ 0 _ 22 (0, 0) (heap_alloc_new w _)
  have hP : W1.cell? ⟨w.heap.size + 1 + 1, 0, none⟩ = some (.string (bs p)) := by
    rw [hW1]
    have := heap_alloc_new ((w.alloc (.cells #[.slice ao N c] 22)).alloc (.cells #[k0, .string (bs p), k2, k3, k4, k5, .slice po 0 pc] 32)) (.cells #[.string (bs p)] 9)
    simp only [World.size_alloc] at this
    exact cell_of_row _ _ 0 _ 9 (0, 0) this
  have hs1 : W1.heap.size = w.heap.size + 3 := by rw [hW1]; simp
  go_enter Tryd.func15, Tryd.ntmps15
  go_wp2_with fail
  rw [← hW1]
  clear hW1
  have HB1 := Lib.hid hB1
  have hlt0 : w.heap.size < W1.heap.size := by omega
  have hlt : w.heap.size + 1 + 1 < W1.heap.size := by omega
  have HPS : Hid (StrSl W1 W1.heap.size (some ⟨w.heap.size + 1 + 1, 0, none⟩) [p]) := Lib.hid (fun k q hk => by
    cases k with
    | zero => simp at hk; subst hk; exact ⟨_, _, rfl, hlt, by simpa using hP⟩
    | succ k => simp at hk)
  have HPL : Hid ([p].length ≤ 1000 ∧ ∀ y ∈ [p], y.length ≤ 1000) := Lib.hid ⟨by simp, by simpa using hp⟩
  have HHD : Hid (∃ x0 P0, [p] = x0 :: P0 ∧ x0 = p) := Lib.hid ⟨p, [], rfl, rfl⟩
  have HALL : Hid (allV L p [] = allAt L [p]) := Lib.hid rfl
  have hx : p.length ≤ 1000 := hp
  clear hB1 hs1 hp
  have hof := fun (W : World) (hW : Below w.heap.size w W) => of_region ao c L p W (HM.out.kept hW) (by rw [← HN.out]; exact hbig) hx HL.out ((HC.out.kept hW).mono hW.size)
  rw [← HN.out] at hof
  have HOF := Lib.hid hof
  have HX := Lib.hid hx
  have HBIG := Lib.hid hbig
  clear hof
  generalize hs0 : ofB L p = s at *
  have HS0 := Lib.hid hs0
  clear hs0
  go_cut [9] (fun t9 wc => AtBox W1 wc s t9)
  case first =>
    go_region_with (go_at_call 12; refine (HOF.out _ (by repeat (first | exact HB1.out | refine Below.drew ?_ | refine belowA ?_ _))).mono ?_; rintro e w2 ⟨rfl, B2⟩; (first | (obtain ⟨q0, q1⟩ := new_cell_drew B2 0 _ rfl) | skip))
    all_goals
      go_wp2
      go_meet
      case rel => first | exact atbox_new (below_undrew B2) | exact atbox_set (below_undrew B2) q0
  case rest =>
    obtain ⟨nb, rfl, hnb, hbc, hat⟩ := hcut
    have hl2 : wc.cell? ⟨w.heap.size, 0, none⟩ = some (.slice ao N c) := (hbc.cell (p := ⟨w.heap.size, 0, none⟩) hlt0).trans hl
    have HBC := Lib.hid (HB1.out.trans (hbc.mono HB1.out.size))
    have hps := HPS.out.kept hbc
    have hcf := containsAll (fun y => ofB L y != s) w.heap.size nb (some ⟨w.heap.size + 1 + 1, 0, none⟩) 1 [p] wc HPL.out.1 (hps.mono hbc.size) (fun W hW y hy => all1_any w.heap.size nb s ao c L y W (HM.out.kept (HBC.out.trans (hW.mono HBC.out.size))) (by rw [← HN.out]; exact HBIG.out) (HPL.out.2 y hy) HL.out ((HC.out.kept (HBC.out.trans (hW.mono HBC.out.size))).mono (Nat.le_trans HBC.out.size hW.size))
      (by rw [← HN.out]; exact (hW.cell (p := ⟨w.heap.size, 0, none⟩) (Nat.lt_of_lt_of_le hlt0 hbc.size)).trans hl2) ((hW.cell (p := ⟨nb, 0, none⟩) (World.block_lt_of_cell? _ _ hat)).trans hat))
    rw [show ([p] : List Bytes).length = 1 from rfl] at hcf
    have HV : Hid (allAt L [p] = if s < 0 ∨ ([p] : List Bytes).any (fun y => ofB L y != s) = true then (0, 60) else (s, 0)) := Lib.hid (by
      obtain ⟨x0, P0, hP0, hx0⟩ := HHD.out
      rw [hP0]
      simp only [allAt]
      rw [hx0, HS0.out])
    have HCF := Lib.hid hcf
    clear hcf hps hbc hl2
    by_cases hs : s < 0
    · have d0 : decide (s < 0) = true := by simpa using hs
      have HW : Hid (allAt L [p] = (0, 60)) := Lib.hid (by rw [HV.out, if_pos (.inl hs)])
      clear HV HCF
      go_wp2
      go_ret2
      exact ⟨by rw [HALL.out, HW.out]; rfl, HBC.out⟩
    · have d0 : decide (s < 0) = false := by simpa using hs
      cases ha : ([p] : List Bytes).any (fun y => ofB L y != s) with
      | true =>
        rw [ha] at HCF
        have HW : Hid (allAt L [p] = (0, 60)) := Lib.hid (by rw [HV.out, if_pos (.inr ha)])
        clear HV ha
        go_wp2_with fail
        refine HCF.out.mono ?_
        rintro e w3 ⟨rfl, B3⟩
        have HB3 := Lib.hid (HBC.out.trans (B3.mono HBC.out.size))
        clear B3
        go_wp2
        go_ret2
        exact ⟨by rw [HALL.out, HW.out]; rfl, HB3.out⟩
      | false =>
        rw [ha] at HCF
        have HW : Hid (allAt L [p] = (s, 0)) := Lib.hid (by rw [HV.out, if_neg (by rw [ha]; rintro (h | h); exact hs h; cases h)])
        clear HV ha
        go_wp2_with fail
        refine HCF.out.mono ?_
        rintro e w3 ⟨rfl, B3⟩
        have hat3 : w3.cell? ⟨nb, 0, none⟩ = some (.int .i64 s) := (B3.cell (p := ⟨nb, 0, none⟩) (World.block_lt_of_cell? _ _ hat)).trans hat
        have HB3 := Lib.hid (HBC.out.trans (B3.mono HBC.out.size))
        clear B3 hat
        go_wp2
        go_ret2
        exact ⟨by rw [HALL.out, HW.out]; rfl, HB3.out⟩

set_option maxRecDepth 100000 in
set_option maxHeartbeats 8000000 in
/-- Some parts. -/
theorem all_many (k0 k2 k3 k4 k5 : Value) (ao po : Option Addr) (c pc : Nat) (L Q : List Bytes) (p : Bytes) (w : World) (hm : MaxInt w) (hbig : L.length ≤ 1000) (hL : ∀ r ∈ L, r.length ≤ 1000) (hc : StrSl w w.heap.size ao L)
    (hQ0 : Q ≠ []) (hQn : Q.length ≤ 1000) (hQl : ∀ r ∈ Q, r.length ≤ 1000) (hq : OpsAt w w.heap.size po Q) :
    Calls Tryd.prog 15 #[.slice ao L.length c, .agg #[k0, .string (bs p), k2, k3, k4, k5, .slice po Q.length pc]] w (AllEnd (allV L p Q) w) := by
  obtain ⟨i0, hi, hz0, hz1, hz2⟩ := info_parts infoStr
  obtain ⟨x0, Q0, hQx⟩ : ∃ x0 Q0, Q = x0 :: Q0 := by
    cases Q with
    | nil => exact absurd rfl hQ0
    | cons x Q => exact ⟨x, Q, rfl⟩
  have hx : x0.length ≤ 1000 := hQl x0 (by rw [hQx]; simp)
  have HALL : Hid (allV L p Q = allAt L Q) := Lib.hid (by unfold allV; rw [if_neg hQ0])
  have HHD : Hid (∃ x1 P0, Q = x1 :: P0 ∧ x1 = x0) := Lib.hid ⟨x0, Q0, hQx, rfl⟩
  have HPL : Hid (Q.length ≤ 1000 ∧ ∀ y ∈ Q, y.length ≤ 1000) := Lib.hid ⟨hQn, hQl⟩
  have hMpos : 0 < Q.length := List.length_pos_iff.2 hQ0
  clear hQx hQ0 hQl
  obtain ⟨N, hN⟩ : ∃ N, N = L.length := ⟨_, rfl⟩
  have HN := Lib.hid hN
  obtain ⟨M, hM⟩ : ∃ M, M = Q.length := ⟨_, rfl⟩
  have HMQ := Lib.hid hM
  have HC := Lib.hid hc
  have HM := Lib.hid hm
  have HL := Lib.hid hL
  have HQ := Lib.hid hq
  rw [← hN] at hbig ⊢
  rw [← hM] at hQn hMpos ⊢
  clear hN hc hm hL hM hq
  obtain ⟨W1, hW1⟩ : ∃ W1, W1 = ((w.alloc (.cells #[.slice ao N c] 22)).alloc (.cells #[k0, .string (bs p), k2, k3, k4, k5, .slice po M pc] 32)).alloc (.cells #[.string (bs p)] 9) := ⟨_, rfl⟩
  have hB1 : Below w.heap.size w W1 := by rw [hW1]; exact belowA (belowA (belowA (Below.refl _ w) _) _) _
  have hl : W1.cell? ⟨w.heap.size, 0, none⟩ = some (.slice ao N c) := by
    rw [hW1]
    rw [((Below.refl (w.heap.size + 1) _).alloc (by simp) _ |>.alloc (by simp) _ : Below (w.heap.size + 1) (w.alloc (.cells #[.slice ao N c] 22)) _).cell (p := ⟨w.heap.size, 0, none⟩) (by simp)]
    exact cell_of_row _ _ 0 _ 22 (0, 0) (heap_alloc_new w _)
  have hs1 : W1.heap.size = w.heap.size + 3 := by rw [hW1]; simp
  have hlt1 : w.heap.size < W1.heap.size := by omega
  go_enter Tryd.func15, Tryd.ntmps15
  go_wp2_with fail
  rw [← hW1]
  clear hW1
  have HB0 := Lib.hid hB1
  have HLB := Lib.hid hl
  clear hB1 hs1 hl
  go_loopw [6, 20] (fun v i wr => ∃ k : Nat, k ≤ M ∧ i = .int .i64 k ∧ Hid (wr.ownsRow W1.heap.size 9 1 v k ((Q.take k).map sv)) ∧ Hid (Below W1.heap.size W1 wr)) (fun _ i _ => M - (intOf i).toNat)
  case atStart => exact ⟨0, by omega, rfl, Lib.hid (World.ownsRow_nil _ _ _ _), Lib.hid (Below.refl _ _)⟩
  case round =>
    obtain ⟨k, hk, rfl, HR, HB⟩ := hrel
    by_cases hlt : k < M
    · obtain ⟨q, hqk⟩ : ∃ q, Q[k]? = some q := ⟨_, List.getElem?_eq_getElem (by rw [← HMQ.out]; exact hlt)⟩
      obtain ⟨b, off, ⟨kd, da, dn, dc, vr, sq, ep, pa, pn, pc'⟩, rfl, hb, hrg⟩ := HQ.out k q hqk
      have hrw := range_kept hrg (HB0.out.trans (HB.out.mono HB0.out.size)) hb
      have h0 : wr.cell? ⟨b, off + k * 7, none⟩ = some (.int .u8 kd) := hrw 0 _ rfl
      have h1 : wr.cell? ⟨b, off + k * 7 + 1, none⟩ = some (.string (bs q)) := hrw 1 _ rfl
      have h2 : wr.cell? ⟨b, off + k * 7 + 2, none⟩ = some (.slice da dn dc) := hrw 2 _ rfl
      have h3 : wr.cell? ⟨b, off + k * 7 + 3, none⟩ = some (.int .i64 vr) := hrw 3 _ rfl
      have h4 : wr.cell? ⟨b, off + k * 7 + 4, none⟩ = some (.bool sq) := hrw 4 _ rfl
      have h5 : wr.cell? ⟨b, off + k * 7 + 5, none⟩ = some (.bool ep) := hrw 5 _ rfl
      have h6 : wr.cell? ⟨b, off + k * 7 + 6, none⟩ = some (.slice pa pn pc') := hrw 6 _ rfl
      have HT : Hid (Q.take (k + 1) = Q.take k ++ [q]) := Lib.hid (by rw [List.take_add_one, hqk]; rfl)
      clear hrg hrw hqk
      have hcn := cell_one_new (wr.alloc (.cells #[.int .u8 kd, .string (bs q), .slice da dn dc, .int .i64 vr, .bool sq, .bool ep, .slice pa pn pc'] 32)) (sv q) 9
      rw [show (wr.alloc (.cells #[.int .u8 kd, .string (bs q), .slice da dn dc, .int .i64 vr, .bool sq, .bool ep, .slice pa pn pc'] 32)).heap.size = wr.heap.size + 1 from by simp] at hcn
      have HCN := Lib.hid hcn
      clear hcn
      go_wp2_with (at_builtin; refine wpList_append_own _ rfl (.tmp 24) (.tmp 27) 22 rfl W1.heap.size 9 i0 (.string ByteArray.empty) 1 16 Tryd.underlying22 hi hz0 hz1 hz2 rfl (by decide) _ _ _ rfl ((HR.out.alloc _).alloc _) ⟨wr.heap.size + 1, 0, none⟩ 1 1 [sv q] rfl rfl HCN.out (sv_one [q]) (by unfold maxLen; omega) (by omega) (by have := HB.out.size; simp; omega) ?_; intro v3 w3 hown hgrow _)
      have HR3 : Hid (w3.ownsRow W1.heap.size 9 1 v3 (k + 1) ((Q.take (k + 1)).map sv)) := Lib.hid (by rw [HT.out, List.map_append]; exact hown)
      have HB3 := Lib.hid (((HB.out.alloc HB.out.size _).alloc (by have := HB.out.size; simp; omega) _).grown hgrow (by have := HB.out.size; simp; omega) (fun j hj => (HR.out.lt j hj).1))
      clear hown hgrow
      go_roundw
      case rel => exact ⟨k + 1, by omega, by go_num, HR3, HB3⟩
      case measure => simp [intOf]; omega
    · obtain rfl : k = M := by omega
      obtain ⟨a, cap, rfl, hsl⟩ := ownS_sl (L := Q) (by have := HR.out; rw [HMQ.out, List.take_length, ← HMQ.out] at this; exact this)
      obtain ⟨g, rfl, hltg, hP⟩ : ∃ g, a = some ⟨g, 0, none⟩ ∧ g < wr.heap.size ∧ wr.cell? ⟨g, 0, none⟩ = some (.string (bs x0)) := by
        obtain ⟨x1, P0, hP0, rfl⟩ := HHD.out
        exact hsl 0 x1 (by rw [hP0]; rfl)
      have HPS : Hid (StrSl wr wr.heap.size (some ⟨g, 0, none⟩) Q) := Lib.hid (fun j y hy => by
        obtain ⟨g', e, h1, h2⟩ := hsl j y hy
        cases e
        exact ⟨_, 0, rfl, h1, by rw [Nat.zero_add]; exact h2⟩)
      have HB1 := Lib.hid (HB0.out.trans (HB.out.mono HB0.out.size))
      have hl : wr.cell? ⟨w.heap.size, 0, none⟩ = some (.slice ao N c) := (HB.out.cell (p := ⟨w.heap.size, 0, none⟩) hlt1).trans HLB.out
      have hlt0 : w.heap.size < wr.heap.size := Nat.lt_of_lt_of_le hlt1 HB.out.size
      rw [show Q.length = k from HMQ.out.symm]
      clear hsl HR
      go_wp2_with fail
      have hof := fun (W : World) (hW : Below w.heap.size w W) => of_region ao c L x0 W (HM.out.kept hW) (by rw [← HN.out]; exact hbig) hx HL.out ((HC.out.kept hW).mono hW.size)
      rw [← HN.out] at hof
      have HOF := Lib.hid hof
      have HX := Lib.hid hx
      have HBIG := Lib.hid hbig
      clear hof
      generalize hs0 : ofB L x0 = s at *
      have HS0 := Lib.hid hs0
      clear hs0
      go_cut [9] (fun t9 wc => AtBox wr wc s t9)
      case first =>
        go_region_with (go_at_call 12; refine (HOF.out _ (by repeat (first | exact HB1.out | refine Below.drew ?_ | refine belowA ?_ _))).mono ?_; rintro e w2 ⟨rfl, B2⟩; (first | (obtain ⟨q0, q1⟩ := new_cell_drew B2 0 _ rfl) | skip))
        all_goals
          go_wp2
          go_meet
          case rel => first | exact atbox_new (below_undrew B2) | exact atbox_set (below_undrew B2) q0
      case rest =>
        obtain ⟨nb, rfl, hnb, hbc, hat⟩ := hcut
        have hl2 : wc.cell? ⟨w.heap.size, 0, none⟩ = some (.slice ao N c) := (hbc.cell (p := ⟨w.heap.size, 0, none⟩) hlt0).trans hl
        have HBC := Lib.hid (HB1.out.trans (hbc.mono HB1.out.size))
        have hps := HPS.out.kept hbc
        have hcf := containsAll (fun y => ofB L y != s) w.heap.size nb (some ⟨g, 0, none⟩) cap Q wc HPL.out.1 (hps.mono hbc.size) (fun W hW y hy => all1_any w.heap.size nb s ao c L y W (HM.out.kept (HBC.out.trans (hW.mono HBC.out.size))) (by rw [← HN.out]; exact HBIG.out) (HPL.out.2 y hy) HL.out ((HC.out.kept (HBC.out.trans (hW.mono HBC.out.size))).mono (Nat.le_trans HBC.out.size hW.size))
          (by rw [← HN.out]; exact (hW.cell (p := ⟨w.heap.size, 0, none⟩) (Nat.lt_of_lt_of_le hlt0 hbc.size)).trans hl2) ((hW.cell (p := ⟨nb, 0, none⟩) (World.block_lt_of_cell? _ _ hat)).trans hat))
        rw [show (Q : List Bytes).length = k from HMQ.out.symm] at hcf
        have HV : Hid (allAt L Q = if s < 0 ∨ (Q : List Bytes).any (fun y => ofB L y != s) = true then (0, 60) else (s, 0)) := Lib.hid (by
          obtain ⟨x0, P0, hP0, hx0⟩ := HHD.out
          rw [hP0]
          simp only [allAt]
          rw [hx0, HS0.out])
        have HCF := Lib.hid hcf
        clear hcf hps hbc hl2
        by_cases hs : s < 0
        · have d0 : decide (s < 0) = true := by simpa using hs
          have HW : Hid (allAt L Q = (0, 60)) := Lib.hid (by rw [HV.out, if_pos (.inl hs)])
          clear HV HCF
          go_wp2
          go_ret2
          exact ⟨by rw [HALL.out, HW.out]; rfl, HBC.out⟩
        · have d0 : decide (s < 0) = false := by simpa using hs
          cases ha : (Q : List Bytes).any (fun y => ofB L y != s) with
          | true =>
            rw [ha] at HCF
            have HW : Hid (allAt L Q = (0, 60)) := Lib.hid (by rw [HV.out, if_pos (.inr ha)])
            clear HV ha
            go_wp2_with fail
            refine HCF.out.mono ?_
            rintro e w3 ⟨rfl, B3⟩
            have HB3 := Lib.hid (HBC.out.trans (B3.mono HBC.out.size))
            clear B3
            go_wp2
            go_ret2
            exact ⟨by rw [HALL.out, HW.out]; rfl, HB3.out⟩
          | false =>
            rw [ha] at HCF
            have HW : Hid (allAt L Q = (s, 0)) := Lib.hid (by rw [HV.out, if_neg (by rw [ha]; rintro (h | h); exact hs h; cases h)])
            clear HV ha
            go_wp2_with fail
            refine HCF.out.mono ?_
            rintro e w3 ⟨rfl, B3⟩
            have hat3 : w3.cell? ⟨nb, 0, none⟩ = some (.int .i64 s) := (B3.cell (p := ⟨nb, 0, none⟩) (World.block_lt_of_cell? _ _ hat)).trans hat
            have HB3 := Lib.hid (HBC.out.trans (B3.mono HBC.out.size))
            clear B3 hat
            go_wp2
            go_ret2
            exact ⟨by rw [HALL.out, HW.out]; rfl, HB3.out⟩
end Go.Proofs.YtdengimjjlbmcaaDoor
