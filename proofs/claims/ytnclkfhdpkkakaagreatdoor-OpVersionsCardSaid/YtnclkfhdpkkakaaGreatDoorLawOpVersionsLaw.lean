/-
  OpVersions, walked.
  OpVersions: over whatever arguments can be read.
-/
import Derived.Test.YtnclkfhdpkkakaaGreatDoorOpWorks
import Derived.Test.YtnclkfhdpkkakaaGreatDoorOpWf
import Derived.Test.YtnclkfhdpkkakaaGreatDoorShaped
import Derived.ProofKit
namespace Go.Proofs.YtnclkfhdpkkakaaGreatDoor
set_option linter.unusedVariables false
set_option linter.unusedSimpArgs false
open Go Go.RowKit Go.Shelf Go.MapKept Go.ChangeMaps Go.Maps Go.Sort
def nodeV (k : Nat) : Nd := ⟨if k = 0 then [] else [UInt8.ofNat (k - 1)], ⟨k, 0, 0, 0, 0, 1, (k : Int) + 1, 1⟩⟩
def MV (k : Nat) : List (Bytes × Nd) := [(pR, ⟨[], ⟨0, 1, 0, 0, 0, 0, 0, 1⟩⟩), (pRA, nodeV k)]
def newV : Opl := ⟨1, pRA, [], 0, false, false⟩
def setK (k : Nat) : Opl := ⟨3, pRA, [UInt8.ofNat k], k, false, false⟩
def askO (kind ask : Int) : Opl := ⟨kind, pRA, [], ask, false, false⟩
theorem vers_new : opEC pR M0 who0 newV = 0 ∧ opMC pR M0 (0 + 1) who0 newV = MV 0 ∧ opAC M0 (0 + 1) who0 newV = ⟨pRA, nodeV 0, []⟩ := by decide +kernel
theorem vers_all : ((List.range 40).all fun k => decide (opEC pR (MV k) who0 (setK k) = 0 ∧ opMC pR (MV k) ((k : Int) + 1 + 1) who0 (setK k) = MV (k + 1) ∧ opAC (MV k) ((k : Int) + 1 + 1) who0 (setK k) = ⟨pRA, nodeV (k + 1), []⟩)) = true := by decide +kernel
theorem vers_step {k : Nat} (h : k < 40) : opEC pR (MV k) who0 (setK k) = 0 ∧ opMC pR (MV k) ((k : Int) + 1 + 1) who0 (setK k) = MV (k + 1) ∧ opAC (MV k) ((k : Int) + 1 + 1) who0 (setK k) = ⟨pRA, nodeV (k + 1), []⟩ :=
  of_decide_eq_true (List.all_eq_true.1 vers_all k (List.mem_range.2 h))
theorem vers_ver (T : Nat) (hT : T < 40) (kind ask : Int) : verE (MV T) (askO kind ask) = if ask < 0 ∨ ask = T then 0 else 35 := by
  have hg : getA pRA (MV T) = some (nodeV T) := by simp [MV, getA, pR, pRA]
  have hw : IntKind.i64.wrap ((nodeV T).num.ver) = (T : Int) := by show IntKind.i64.wrap (T : Int) = T; exact IntWalk.i64_in _ (by omega)
  unfold verE askO
  dsimp only
  rw [hg]
  dsimp only
  rw [hw]
  by_cases h : ask < 0 ∨ ask = T
  · rw [if_pos h, if_neg (by omega)]
  · rw [if_neg h, if_pos (by omega)]
theorem vers_any (T : Nat) (hT : T < 40) (kind ask : Int) (hk : kind = 2 ∨ kind = 3 ∨ kind = 4) : opEC pR (MV T) who0 (askO kind ask) = if ask < 0 ∨ ask = T then 0 else 35 := by
  have hv := vers_ver T hT kind ask
  have hu : underC pRA pR = true := by decide +kernel
  have hk2 : ((MV T).any fun x => kidC pR pRA x.1) = false := by
    simp only [MV, List.any_cons, List.any_nil]
    decide +kernel
  have hne : ¬ pRA = pR := by decide
  unfold opEC
  rw [if_neg (by show ¬ underC pRA pR = false; rw [hu]; simp), if_neg (by show ¬ kind = 1; omega)]
  by_cases h2 : kind = 2
  · rw [if_pos (show (askO kind ask).kind = 2 from h2)]
    unfold removeEC
    rw [hv, if_neg (show ¬ (askO kind ask).path = pR from hne), if_neg (show ¬ ((MV T).any fun x => kidC pR (askO kind ask).path x.1) = true by show ¬ ((MV T).any fun x => kidC pR pRA x.1) = true; rw [hk2]; simp)]
    split <;> simp_all
  · rw [if_neg (show ¬ (askO kind ask).kind = 2 from h2), if_pos (show (askO kind ask).kind = 3 ∨ (askO kind ask).kind = 4 by show kind = 3 ∨ kind = 4; omega), hv]
theorem leafy_set (k : Nat) : Leafy (setK k) := ⟨show (1 : Int) ≤ 3 by decide, show (3 : Int) ≤ 6 by decide, show pRA.length ≤ 900 by decide, show (1 : Nat) ≤ 1000000 by decide⟩
theorem leafy_ask {kind ask : Int} (hk : kind = 2 ∨ kind = 3 ∨ kind = 4) : Leafy (askO kind ask) := ⟨show 1 ≤ kind by omega, show kind ≤ 6 by omega, show pRA.length ≤ 900 by decide, show (0 : Nat) ≤ 1000000 by decide⟩
theorem bytes_row (w : World) (k : Nat) (hk : k < 256) : ByteSl (w.alloc (.cells #[.int .u8 (k : Int)] 5)) (fun j => j < (w.alloc (.cells #[.int .u8 (k : Int)] 5)).heap.size) (w.alloc (.cells #[.int .u8 (k : Int)] 5)).heap.size (some ⟨w.heap.size, 0, none⟩) [UInt8.ofNat k] := fun j x hj => by
  have hj0 : j = 0 := by have := (List.getElem?_eq_some_iff.1 hj).1; simp at this; exact this
  subst hj0
  simp at hj
  subst hj
  refine ⟨w.heap.size, 0, rfl, by simp, by simp, ?_⟩
  rw [UInt8.toNat_ofNat', Nat.mod_eq_of_lt (by omega)]
  exact cell_of_row _ _ 0 _ 5 (0, 0) (heap_alloc_new w _)
/-- What a Do answers of one operation: its error, in a box of 13 cells. -/
theorem St.doE {w0 w : World} {b : Nat} {root : Bytes} {at_ : Int} {M : List (Bytes × Nd)} (S : St w0 w b root at_ M) (h1 : at_ ≤ 90000) (r : RawO) (o : Opl) (who : Sess) (hr : LeafO w (fun k => k < w.heap.size) r o) (hl : Leafy o) (hpn : r.pn = 0) (hdn : r.dn ≤ 64) {x : Int} (hE : opEC root M who o = x) :
    Calls Tryz.prog 14 #[.pointer (some ⟨b, 0, none⟩), r.val, whoV who] w fun e w' => (∃ (u : Value) (p : Bytes) (r : Raw) (ka : Option Addr) (kn kc : Nat) (pa : Option Addr) (pn pc : Nat), e = .returned (.tuple #[u, .agg (repCells x p r ka kn kc pa pn pc).toArray])) ∧ St w0 w' b root at_ M ∧ Below w.heap.size w w' := by
  refine (S.do_leaf h1 r o who hr hl hpn hdn).mono ?_
  rintro e w' ⟨u1, u2, rfl, _, ⟨rr, ka, kc, pa, pc, rfl, _⟩, hb⟩
  obtain ⟨e1, _⟩ := do_one (root := root) (M := M) (at_ := at_) (who := who) (o := ⟨o, []⟩) (by have := hl.2.1; show o.kind ≠ 7; omega)
  rw [e1, opE_eq S.nice, hE]
  exact ⟨⟨_, _, _, _, _, _, _, _, _, rfl⟩, S.below hb, hb⟩
set_option maxRecDepth 100000 in
set_option maxHeartbeats 32000000 in
theorem opVersions_core (n ask : Int) (hn0 : 0 ≤ n) (hn1 : n ≤ 255) (w : World) (hm : MaxInt w) (PT : PowTab w) : Calls Tryz.prog 6 #[.int .u8 n, .int .i64 ask] w fun e w' => e = .returned (.bool true) ∧ Below w.heap.size w w' := by
  obtain ⟨T, hT⟩ : ∃ T : Nat, n.tmod 40 = (T : Int) := ⟨(n.tmod 40).toNat, by rw [Int.tmod_eq_emod_of_nonneg hn0]; omega⟩
  have hT40 : T < 40 := by rw [Int.tmod_eq_emod_of_nonneg hn0] at hT; omega
  have twT : ∀ _ : True, IntKind.i64.wrap (T : Int) = (T : Int) := fun _ => IntWalk.i64_in _ (by omega)
  have HM := Lib.hid (And.intro hm PT)
  clear hm PT hn0 hn1
  have hrf := rep_field
  go_enter Tryz.func6, Tryz.ntmps6
  go_wp2_with fail
  refine (TR.new (root := pR) (Below.refl _ w) HM.out.1 (by decide) rootsR).mono ?_
  rintro e v0 ⟨b, rfl, R1, hb1, B1⟩
  have HS0 : Hid (St w v0 b pR 0 M0) := Lib.hid (St.made R1 rootsR HM.out.2)
  have HB1 := Lib.hid (And.intro hb1 B1)
  clear R1 B1 hb1
  go_wp2_with fail
  refine (HS0.out.good (by decide) ⟨1, pRA, none, 0, 0, 0, false, false, none, 0, 0⟩ newV who0 ⟨rfl, rfl, rfl, rfl, rfl, rfl, bytes_none _ _ _ _, fun _ => ⟨rfl, rfl⟩⟩ (by unfold Leafy; decide) rfl (Nat.le_of_ble_eq_true rfl) (by decide) (M' := MV 0) (A := ⟨pRA, nodeV 0, []⟩) vers_new.1 vers_new.2.1 vers_new.2.2).mono ?_
  rintro e s1 ⟨⟨⟨ra1, rn1, rc1, ⟨r11, r12, r13, r14, r15, r16, r17, r18⟩⟩, ka1, kc1, pa1, pc1, rfl, _⟩, S1, K1⟩
  unfold repCells Raw.cells Nums.cells
  dsimp only [List.cons_append, List.nil_append, List.length_nil]
  have HS1 : Hid (St w s1 b pR (((0 : Nat) : Int) + 1) (MV 0)) := Lib.hid S1
  have HK1 : Hid (Below w.heap.size w s1) := Lib.hid (HB1.out.2.trans (K1.below HB1.out.2.size (fun k e => by have e : k = b := e; have := HB1.out.1; omega)))
  clear S1 K1
  go_wp2_with fail
  go_loopw [8] (fun iv wr => ∃ k : Nat, k ≤ T ∧ iv = .int .i64 k ∧ Hid (St w wr b pR ((k : Int) + 1) (MV k)) ∧ Hid (Below w.heap.size w wr)) (fun iv _ => T - (intOf iv).toNat)
  case atStart => exact ⟨0, by omega, rfl, HS1, HK1⟩
  case round =>
    obtain ⟨k, hk, rfl, HS, HB⟩ := hrel
    by_cases hlt : k < T
    · have tk8 : ∀ _ : True, IntKind.u8.wrap (k : Int) = (k : Int) := fun _ => by rw [IntKind.wrap_u8]; omega
      have tw1 : ∀ _ : True, IntKind.i64.wrap ((k : Int) + 1) = (k : Int) + 1 := fun _ => IntWalk.i64_in _ (by omega)
      have tw2 : ∀ _ : True, IntKind.i64.wrap ((k : Int) + 2) = (k : Int) + 2 := fun _ => IntWalk.i64_in _ (by omega)
      have tw3 : ∀ _ : True, IntKind.u64.wrap ((k : Int) + 2) = (k : Int) + 2 := fun _ => by rw [IntKind.wrap_u64]; omega
      have tlt : decide ((k : Int) < (T : Int)) = true := by simp; omega
      obtain ⟨u, hu⟩ : ∃ u, u = wr.alloc (.cells #[.int .u8 (k : Int)] 5) := ⟨_, rfl⟩
      have hl : LeafO u (fun j => j < u.heap.size) ⟨3, pRA, some ⟨wr.heap.size, 0, none⟩, 1, 1, k, false, false, none, 0, 0⟩ (setK k) := ⟨rfl, rfl, rfl, rfl, rfl, rfl, by rw [hu]; exact bytes_row wr k (by omega), fun h => by cases h⟩
      have hbu : Below wr.heap.size wr u := by rw [hu]; exact belowA (Below.refl _ wr) _
      have HU := Lib.hid (And.intro hl (And.intro (HS.out.below hbu) (And.intro hbu hu)))
      have HV := Lib.hid (vers_step (k := k) (by omega))
      have HLT := Lib.hid hlt
      clear hl hbu hu hlt
      go_wp2_with fail
      rw [← HU.out.2.2.2]
      refine (HU.out.2.1.good (by omega) ⟨3, pRA, some ⟨wr.heap.size, 0, none⟩, 1, 1, k, false, false, none, 0, 0⟩ (setK k) who0 HU.out.1 (leafy_set k) rfl (Nat.le_of_ble_eq_true rfl) ⟨show (1 : Int) ≤ 3 by decide, show (3 : Int) ≤ 3 by decide⟩ (M' := MV (k + 1)) (A := ⟨pRA, nodeV (k + 1), []⟩) HV.out.1 HV.out.2.1 HV.out.2.2).mono ?_
      rintro e s2 ⟨⟨⟨ra, rn, rc, nums⟩, ka, kc, pa, pc, rfl, hrd⟩, S2, K2⟩
      obtain rfl : nums = ⟨(k : Int) + 1, 0, 0, 0, 0, 1, (k : Int) + 2, 1⟩ := by
        have h : nums = (nodeV (k + 1)).num := hrd.num
        rw [h]
        unfold nodeV
        simp
        omega
      unfold repCells Raw.cells Nums.cells
      dsimp only [List.cons_append, List.nil_append, List.length_nil]
      obtain ⟨v2, hv2, T2, k2, q2, sz2, bl2⟩ := rep_box S2 #[.int .i64 0, .string (bs pRA), .slice ra rn rc, .int .u32 ((k : Int) + 1), .int .u32 0, .int .u32 0, .int .i64 0, .int .u32 0, .int .u64 1, .int .u64 ((k : Int) + 2), .int .u64 1, .slice ka 0 kc, .slice pa 0 pc] 43
      have z0 : v2.cell? ⟨s2.heap.size, 0, none⟩ = some (.int .i64 0) := cell_of_row _ _ 0 _ 43 (0, 0) k2
      have z3 : v2.cell? ⟨s2.heap.size, 3, none⟩ = some (.int .u32 ((k : Int) + 1)) := cell_of_row _ _ 3 _ 43 (0, 0) k2
      have z8 : v2.cell? ⟨s2.heap.size, 8, none⟩ = some (.int .u64 1) := cell_of_row _ _ 8 _ 43 (0, 0) k2
      have z9 : v2.cell? ⟨s2.heap.size, 9, none⟩ = some (.int .u64 ((k : Int) + 2)) := cell_of_row _ _ 9 _ 43 (0, 0) k2
      have HS2 : Hid (St w v2 b pR (((k + 1 : Nat) : Int) + 1) (MV (k + 1))) := Lib.hid (by rw [show (((k + 1 : Nat) : Int) + 1) = (k : Int) + 1 + 1 by omega]; exact T2)
      have hbu : Below w.heap.size w u := HB.out.trans (HU.out.2.2.1.mono HB.out.size)
      have HB2 : Hid (Below w.heap.size w v2) := Lib.hid (hbu.trans ((K2.trans q2).below hbu.size (fun j e => by have e : j = b := e; have := HB1.out.1; omega)))
      have HW2 := Lib.hid hv2
      clear hrd S2 K2 hv2 T2 k2 q2 sz2 bl2 hbu
      go_upto_region 9 with fail
      rw [← HW2.out]
      go_wp2_with fail
      go_roundw
      case rel => exact ⟨k + 1, by have := HLT.out; omega, by simp, HS2, HB2⟩
      case measure => have := HLT.out; simp [intOf]; omega
    · obtain rfl : T = k := by omega
      have tlt : decide ((T : Int) < (T : Int)) = false := by simp
      clear hlt twT hT hk
      by_cases ha : ask < 0
      · have ta : decide (ask < 0) = true := by simpa using ha
        have HX : Hid ((if ask < 0 ∨ ask = T then (0 : Int) else 35) = 0) := Lib.hid (if_pos (.inl ha))
        clear ha
        go_wp2_with fail
        refine (HS.out.doE (by omega) ⟨4, pRA, none, 0, 0, ask, false, false, none, 0, 0⟩ (askO 4 ask) who0 ⟨rfl, rfl, rfl, rfl, rfl, rfl, bytes_none _ _ _ _, fun _ => ⟨rfl, rfl⟩⟩ (leafy_ask (by decide)) rfl (Nat.le_of_ble_eq_true rfl) (x := 0) (by rw [vers_any T hT40 4 ask (by decide)]; exact HX.out)).mono ?_
        rintro e s1 ⟨⟨xu1, px1, ⟨ra1, rn1, rc1, ⟨r11, r12, r13, r14, r15, r16, r17, r18⟩⟩, ka1, kn1, kc1, pa1, pn1, pc1, rfl⟩, S1, B1⟩
        unfold repCells Raw.cells Nums.cells
        dsimp only [List.cons_append, List.nil_append]
        obtain ⟨v1, hv1, T1, k1, q1, sz1, bl1⟩ := rep_box S1 #[.int .i64 0, .string (bs px1), .slice ra1 rn1 rc1, .int .u32 r11, .int .u32 r12, .int .u32 r13, .int .i64 r14, .int .u32 r15, .int .u64 r16, .int .u64 r17, .int .u64 r18, .slice ka1 kn1 kc1, .slice pa1 pn1 pc1] 43
        have HS1 := Lib.hid T1
        have HW1 := Lib.hid hv1
        have HK1 : Hid (v1.heap[s1.heap.size]? = some (.cells #[.int .i64 0, .string (bs px1), .slice ra1 rn1 rc1, .int .u32 r11, .int .u32 r12, .int .u32 r13, .int .i64 r14, .int .u32 r15, .int .u64 r16, .int .u64 r17, .int .u64 r18, .slice ka1 kn1 kc1, .slice pa1 pn1 pc1] 43 (0, 0)) ∧ Below wr.heap.size wr v1 ∧ s1.heap.size < v1.heap.size) := Lib.hid ⟨k1, by rw [hv1]; exact belowA B1 _, by omega⟩
        clear S1 hv1 T1 k1 q1 sz1 bl1 B1
        go_upto_region 15 with fail
        rw [← HW1.out]
        go_wp2_with fail
        refine (HS1.out.doE (by omega) ⟨3, pRA, none, 0, 0, ask, false, false, none, 0, 0⟩ (askO 3 ask) who0 ⟨rfl, rfl, rfl, rfl, rfl, rfl, bytes_none _ _ _ _, fun _ => ⟨rfl, rfl⟩⟩ (leafy_ask (by decide)) rfl (Nat.le_of_ble_eq_true rfl) (x := 0) (by rw [vers_any T hT40 3 ask (by decide)]; exact HX.out)).mono ?_
        rintro e s2 ⟨⟨xu2, px2, ⟨ra2, rn2, rc2, ⟨r21, r22, r23, r24, r25, r26, r27, r28⟩⟩, ka2, kn2, kc2, pa2, pn2, pc2, rfl⟩, S2, B2⟩
        unfold repCells Raw.cells Nums.cells
        dsimp only [List.cons_append, List.nil_append]
        obtain ⟨v2, hv2, T2, k2, q2, sz2, bl2⟩ := rep_box S2 #[.int .i64 0, .string (bs px2), .slice ra2 rn2 rc2, .int .u32 r21, .int .u32 r22, .int .u32 r23, .int .i64 r24, .int .u32 r25, .int .u64 r26, .int .u64 r27, .int .u64 r28, .slice ka2 kn2 kc2, .slice pa2 pn2 pc2] 43
        have HS2 := Lib.hid T2
        have HW2 := Lib.hid hv2
        have HK2 : Hid (v2.heap[s2.heap.size]? = some (.cells #[.int .i64 0, .string (bs px2), .slice ra2 rn2 rc2, .int .u32 r21, .int .u32 r22, .int .u32 r23, .int .i64 r24, .int .u32 r25, .int .u64 r26, .int .u64 r27, .int .u64 r28, .slice ka2 kn2 kc2, .slice pa2 pn2 pc2] 43 (0, 0)) ∧ Below v1.heap.size v1 v2 ∧ s2.heap.size < v2.heap.size) := Lib.hid ⟨k2, by rw [hv2]; exact belowA B2 _, by omega⟩
        clear S2 hv2 T2 k2 q2 sz2 bl2 B2
        go_upto_region 16 with fail
        rw [← HW2.out]
        go_wp2_with fail
        refine (HS2.out.doE (by omega) ⟨2, pRA, none, 0, 0, ask, false, false, none, 0, 0⟩ (askO 2 ask) who0 ⟨rfl, rfl, rfl, rfl, rfl, rfl, bytes_none _ _ _ _, fun _ => ⟨rfl, rfl⟩⟩ (leafy_ask (by decide)) rfl (Nat.le_of_ble_eq_true rfl) (x := 0) (by rw [vers_any T hT40 2 ask (by decide)]; exact HX.out)).mono ?_
        rintro e s3 ⟨⟨xu3, px3, ⟨ra3, rn3, rc3, ⟨r31, r32, r33, r34, r35, r36, r37, r38⟩⟩, ka3, kn3, kc3, pa3, pn3, pc3, rfl⟩, S3, B3⟩
        unfold repCells Raw.cells Nums.cells
        dsimp only [List.cons_append, List.nil_append]
        obtain ⟨v3, hv3, T3, k3, q3, sz3, bl3⟩ := rep_box S3 #[.int .i64 0, .string (bs px3), .slice ra3 rn3 rc3, .int .u32 r31, .int .u32 r32, .int .u32 r33, .int .i64 r34, .int .u32 r35, .int .u64 r36, .int .u64 r37, .int .u64 r38, .slice ka3 kn3 kc3, .slice pa3 pn3 pc3] 43
        have HS3 := Lib.hid T3
        have HW3 := Lib.hid hv3
        have HK3 : Hid (v3.heap[s3.heap.size]? = some (.cells #[.int .i64 0, .string (bs px3), .slice ra3 rn3 rc3, .int .u32 r31, .int .u32 r32, .int .u32 r33, .int .i64 r34, .int .u32 r35, .int .u64 r36, .int .u64 r37, .int .u64 r38, .slice ka3 kn3 kc3, .slice pa3 pn3 pc3] 43 (0, 0)) ∧ Below v2.heap.size v2 v3 ∧ s3.heap.size < v3.heap.size) := Lib.hid ⟨k3, by rw [hv3]; exact belowA B3 _, by omega⟩
        clear S3 hv3 T3 k3 q3 sz3 bl3 B3
        go_upto_region 17 with fail
        rw [← HW3.out]
        have b23 : Below v2.heap.size v2 v3 := HK3.out.2.1
        have b13 : Below v1.heap.size v1 v3 := HK2.out.2.1.trans (b23.mono HK2.out.2.1.size)
        have z1 : v3.cell? ⟨s1.heap.size, 0, none⟩ = some (.int .i64 0) := (b13.cell (p := ⟨s1.heap.size, 0, none⟩) HK1.out.2.2).trans (cell_of_row _ _ 0 _ 43 (0, 0) HK1.out.1)
        have z2 : v3.cell? ⟨s2.heap.size, 0, none⟩ = some (.int .i64 0) := (b23.cell (p := ⟨s2.heap.size, 0, none⟩) HK2.out.2.2).trans (cell_of_row _ _ 0 _ 43 (0, 0) HK2.out.1)
        have z3 : v3.cell? ⟨s3.heap.size, 0, none⟩ = some (.int .i64 0) := cell_of_row _ _ 0 _ 43 (0, 0) HK3.out.1
        have HBF : Hid (Below w.heap.size w v3) := Lib.hid (HB.out.trans ((HK1.out.2.1.trans (b13.mono HK1.out.2.1.size)).mono HB.out.size))
        clear b23 b13
        go_wp2_with fail
        refine (works_any v3 HS3.out.tr.max HS3.out.pow).mono ?_
        rintro e v4 ⟨rfl, B4⟩
        have HB4 := Lib.hid (HBF.out.trans (B4.mono HBF.out.size))
        clear B4
        go_wp2
        go_ret
        exact ⟨rfl, HB4.out⟩
      · by_cases hb : ask = T
        · have ta : decide (ask < 0) = false := by simpa using ha
          have tb : (ask == (T : Int)) = true := by simpa using hb
          have HX : Hid ((if ask < 0 ∨ ask = T then (0 : Int) else 35) = 0) := Lib.hid (if_pos (.inr hb))
          clear ha hb
          go_wp2_with fail
          refine (HS.out.doE (by omega) ⟨4, pRA, none, 0, 0, ask, false, false, none, 0, 0⟩ (askO 4 ask) who0 ⟨rfl, rfl, rfl, rfl, rfl, rfl, bytes_none _ _ _ _, fun _ => ⟨rfl, rfl⟩⟩ (leafy_ask (by decide)) rfl (Nat.le_of_ble_eq_true rfl) (x := 0) (by rw [vers_any T hT40 4 ask (by decide)]; exact HX.out)).mono ?_
          rintro e s1 ⟨⟨xu1, px1, ⟨ra1, rn1, rc1, ⟨r11, r12, r13, r14, r15, r16, r17, r18⟩⟩, ka1, kn1, kc1, pa1, pn1, pc1, rfl⟩, S1, B1⟩
          unfold repCells Raw.cells Nums.cells
          dsimp only [List.cons_append, List.nil_append]
          obtain ⟨v1, hv1, T1, k1, q1, sz1, bl1⟩ := rep_box S1 #[.int .i64 0, .string (bs px1), .slice ra1 rn1 rc1, .int .u32 r11, .int .u32 r12, .int .u32 r13, .int .i64 r14, .int .u32 r15, .int .u64 r16, .int .u64 r17, .int .u64 r18, .slice ka1 kn1 kc1, .slice pa1 pn1 pc1] 43
          have HS1 := Lib.hid T1
          have HW1 := Lib.hid hv1
          have HK1 : Hid (v1.heap[s1.heap.size]? = some (.cells #[.int .i64 0, .string (bs px1), .slice ra1 rn1 rc1, .int .u32 r11, .int .u32 r12, .int .u32 r13, .int .i64 r14, .int .u32 r15, .int .u64 r16, .int .u64 r17, .int .u64 r18, .slice ka1 kn1 kc1, .slice pa1 pn1 pc1] 43 (0, 0)) ∧ Below wr.heap.size wr v1 ∧ s1.heap.size < v1.heap.size) := Lib.hid ⟨k1, by rw [hv1]; exact belowA B1 _, by omega⟩
          clear S1 hv1 T1 k1 q1 sz1 bl1 B1
          go_upto_region 15 with fail
          rw [← HW1.out]
          go_wp2_with fail
          refine (HS1.out.doE (by omega) ⟨3, pRA, none, 0, 0, ask, false, false, none, 0, 0⟩ (askO 3 ask) who0 ⟨rfl, rfl, rfl, rfl, rfl, rfl, bytes_none _ _ _ _, fun _ => ⟨rfl, rfl⟩⟩ (leafy_ask (by decide)) rfl (Nat.le_of_ble_eq_true rfl) (x := 0) (by rw [vers_any T hT40 3 ask (by decide)]; exact HX.out)).mono ?_
          rintro e s2 ⟨⟨xu2, px2, ⟨ra2, rn2, rc2, ⟨r21, r22, r23, r24, r25, r26, r27, r28⟩⟩, ka2, kn2, kc2, pa2, pn2, pc2, rfl⟩, S2, B2⟩
          unfold repCells Raw.cells Nums.cells
          dsimp only [List.cons_append, List.nil_append]
          obtain ⟨v2, hv2, T2, k2, q2, sz2, bl2⟩ := rep_box S2 #[.int .i64 0, .string (bs px2), .slice ra2 rn2 rc2, .int .u32 r21, .int .u32 r22, .int .u32 r23, .int .i64 r24, .int .u32 r25, .int .u64 r26, .int .u64 r27, .int .u64 r28, .slice ka2 kn2 kc2, .slice pa2 pn2 pc2] 43
          have HS2 := Lib.hid T2
          have HW2 := Lib.hid hv2
          have HK2 : Hid (v2.heap[s2.heap.size]? = some (.cells #[.int .i64 0, .string (bs px2), .slice ra2 rn2 rc2, .int .u32 r21, .int .u32 r22, .int .u32 r23, .int .i64 r24, .int .u32 r25, .int .u64 r26, .int .u64 r27, .int .u64 r28, .slice ka2 kn2 kc2, .slice pa2 pn2 pc2] 43 (0, 0)) ∧ Below v1.heap.size v1 v2 ∧ s2.heap.size < v2.heap.size) := Lib.hid ⟨k2, by rw [hv2]; exact belowA B2 _, by omega⟩
          clear S2 hv2 T2 k2 q2 sz2 bl2 B2
          go_upto_region 16 with fail
          rw [← HW2.out]
          go_wp2_with fail
          refine (HS2.out.doE (by omega) ⟨2, pRA, none, 0, 0, ask, false, false, none, 0, 0⟩ (askO 2 ask) who0 ⟨rfl, rfl, rfl, rfl, rfl, rfl, bytes_none _ _ _ _, fun _ => ⟨rfl, rfl⟩⟩ (leafy_ask (by decide)) rfl (Nat.le_of_ble_eq_true rfl) (x := 0) (by rw [vers_any T hT40 2 ask (by decide)]; exact HX.out)).mono ?_
          rintro e s3 ⟨⟨xu3, px3, ⟨ra3, rn3, rc3, ⟨r31, r32, r33, r34, r35, r36, r37, r38⟩⟩, ka3, kn3, kc3, pa3, pn3, pc3, rfl⟩, S3, B3⟩
          unfold repCells Raw.cells Nums.cells
          dsimp only [List.cons_append, List.nil_append]
          obtain ⟨v3, hv3, T3, k3, q3, sz3, bl3⟩ := rep_box S3 #[.int .i64 0, .string (bs px3), .slice ra3 rn3 rc3, .int .u32 r31, .int .u32 r32, .int .u32 r33, .int .i64 r34, .int .u32 r35, .int .u64 r36, .int .u64 r37, .int .u64 r38, .slice ka3 kn3 kc3, .slice pa3 pn3 pc3] 43
          have HS3 := Lib.hid T3
          have HW3 := Lib.hid hv3
          have HK3 : Hid (v3.heap[s3.heap.size]? = some (.cells #[.int .i64 0, .string (bs px3), .slice ra3 rn3 rc3, .int .u32 r31, .int .u32 r32, .int .u32 r33, .int .i64 r34, .int .u32 r35, .int .u64 r36, .int .u64 r37, .int .u64 r38, .slice ka3 kn3 kc3, .slice pa3 pn3 pc3] 43 (0, 0)) ∧ Below v2.heap.size v2 v3 ∧ s3.heap.size < v3.heap.size) := Lib.hid ⟨k3, by rw [hv3]; exact belowA B3 _, by omega⟩
          clear S3 hv3 T3 k3 q3 sz3 bl3 B3
          go_upto_region 17 with fail
          rw [← HW3.out]
          have b23 : Below v2.heap.size v2 v3 := HK3.out.2.1
          have b13 : Below v1.heap.size v1 v3 := HK2.out.2.1.trans (b23.mono HK2.out.2.1.size)
          have z1 : v3.cell? ⟨s1.heap.size, 0, none⟩ = some (.int .i64 0) := (b13.cell (p := ⟨s1.heap.size, 0, none⟩) HK1.out.2.2).trans (cell_of_row _ _ 0 _ 43 (0, 0) HK1.out.1)
          have z2 : v3.cell? ⟨s2.heap.size, 0, none⟩ = some (.int .i64 0) := (b23.cell (p := ⟨s2.heap.size, 0, none⟩) HK2.out.2.2).trans (cell_of_row _ _ 0 _ 43 (0, 0) HK2.out.1)
          have z3 : v3.cell? ⟨s3.heap.size, 0, none⟩ = some (.int .i64 0) := cell_of_row _ _ 0 _ 43 (0, 0) HK3.out.1
          have HBF : Hid (Below w.heap.size w v3) := Lib.hid (HB.out.trans ((HK1.out.2.1.trans (b13.mono HK1.out.2.1.size)).mono HB.out.size))
          clear b23 b13
          go_wp2_with fail
          refine (works_any v3 HS3.out.tr.max HS3.out.pow).mono ?_
          rintro e v4 ⟨rfl, B4⟩
          have HB4 := Lib.hid (HBF.out.trans (B4.mono HBF.out.size))
          clear B4
          go_wp2
          go_ret
          exact ⟨rfl, HB4.out⟩
        · have ta : decide (ask < 0) = false := by simpa using ha
          have tb : (ask == (T : Int)) = false := by simpa using hb
          have HX : Hid ((if ask < 0 ∨ ask = T then (0 : Int) else 35) = 35) := Lib.hid (if_neg (by rintro (h | h); exact ha h; exact hb h))
          clear ha hb
          go_wp2_with fail
          refine (HS.out.doE (by omega) ⟨4, pRA, none, 0, 0, ask, false, false, none, 0, 0⟩ (askO 4 ask) who0 ⟨rfl, rfl, rfl, rfl, rfl, rfl, bytes_none _ _ _ _, fun _ => ⟨rfl, rfl⟩⟩ (leafy_ask (by decide)) rfl (Nat.le_of_ble_eq_true rfl) (x := 35) (by rw [vers_any T hT40 4 ask (by decide)]; exact HX.out)).mono ?_
          rintro e s1 ⟨⟨xu1, px1, ⟨ra1, rn1, rc1, ⟨r11, r12, r13, r14, r15, r16, r17, r18⟩⟩, ka1, kn1, kc1, pa1, pn1, pc1, rfl⟩, S1, B1⟩
          unfold repCells Raw.cells Nums.cells
          dsimp only [List.cons_append, List.nil_append]
          obtain ⟨v1, hv1, T1, k1, q1, sz1, bl1⟩ := rep_box S1 #[.int .i64 35, .string (bs px1), .slice ra1 rn1 rc1, .int .u32 r11, .int .u32 r12, .int .u32 r13, .int .i64 r14, .int .u32 r15, .int .u64 r16, .int .u64 r17, .int .u64 r18, .slice ka1 kn1 kc1, .slice pa1 pn1 pc1] 43
          have HS1 := Lib.hid T1
          have HW1 := Lib.hid hv1
          have HK1 : Hid (v1.heap[s1.heap.size]? = some (.cells #[.int .i64 35, .string (bs px1), .slice ra1 rn1 rc1, .int .u32 r11, .int .u32 r12, .int .u32 r13, .int .i64 r14, .int .u32 r15, .int .u64 r16, .int .u64 r17, .int .u64 r18, .slice ka1 kn1 kc1, .slice pa1 pn1 pc1] 43 (0, 0)) ∧ Below wr.heap.size wr v1 ∧ s1.heap.size < v1.heap.size) := Lib.hid ⟨k1, by rw [hv1]; exact belowA B1 _, by omega⟩
          clear S1 hv1 T1 k1 q1 sz1 bl1 B1
          go_upto_region 15 with fail
          rw [← HW1.out]
          go_wp2_with fail
          refine (HS1.out.doE (by omega) ⟨3, pRA, none, 0, 0, ask, false, false, none, 0, 0⟩ (askO 3 ask) who0 ⟨rfl, rfl, rfl, rfl, rfl, rfl, bytes_none _ _ _ _, fun _ => ⟨rfl, rfl⟩⟩ (leafy_ask (by decide)) rfl (Nat.le_of_ble_eq_true rfl) (x := 35) (by rw [vers_any T hT40 3 ask (by decide)]; exact HX.out)).mono ?_
          rintro e s2 ⟨⟨xu2, px2, ⟨ra2, rn2, rc2, ⟨r21, r22, r23, r24, r25, r26, r27, r28⟩⟩, ka2, kn2, kc2, pa2, pn2, pc2, rfl⟩, S2, B2⟩
          unfold repCells Raw.cells Nums.cells
          dsimp only [List.cons_append, List.nil_append]
          obtain ⟨v2, hv2, T2, k2, q2, sz2, bl2⟩ := rep_box S2 #[.int .i64 35, .string (bs px2), .slice ra2 rn2 rc2, .int .u32 r21, .int .u32 r22, .int .u32 r23, .int .i64 r24, .int .u32 r25, .int .u64 r26, .int .u64 r27, .int .u64 r28, .slice ka2 kn2 kc2, .slice pa2 pn2 pc2] 43
          have HS2 := Lib.hid T2
          have HW2 := Lib.hid hv2
          have HK2 : Hid (v2.heap[s2.heap.size]? = some (.cells #[.int .i64 35, .string (bs px2), .slice ra2 rn2 rc2, .int .u32 r21, .int .u32 r22, .int .u32 r23, .int .i64 r24, .int .u32 r25, .int .u64 r26, .int .u64 r27, .int .u64 r28, .slice ka2 kn2 kc2, .slice pa2 pn2 pc2] 43 (0, 0)) ∧ Below v1.heap.size v1 v2 ∧ s2.heap.size < v2.heap.size) := Lib.hid ⟨k2, by rw [hv2]; exact belowA B2 _, by omega⟩
          clear S2 hv2 T2 k2 q2 sz2 bl2 B2
          go_upto_region 16 with fail
          rw [← HW2.out]
          go_wp2_with fail
          refine (HS2.out.doE (by omega) ⟨2, pRA, none, 0, 0, ask, false, false, none, 0, 0⟩ (askO 2 ask) who0 ⟨rfl, rfl, rfl, rfl, rfl, rfl, bytes_none _ _ _ _, fun _ => ⟨rfl, rfl⟩⟩ (leafy_ask (by decide)) rfl (Nat.le_of_ble_eq_true rfl) (x := 35) (by rw [vers_any T hT40 2 ask (by decide)]; exact HX.out)).mono ?_
          rintro e s3 ⟨⟨xu3, px3, ⟨ra3, rn3, rc3, ⟨r31, r32, r33, r34, r35, r36, r37, r38⟩⟩, ka3, kn3, kc3, pa3, pn3, pc3, rfl⟩, S3, B3⟩
          unfold repCells Raw.cells Nums.cells
          dsimp only [List.cons_append, List.nil_append]
          obtain ⟨v3, hv3, T3, k3, q3, sz3, bl3⟩ := rep_box S3 #[.int .i64 35, .string (bs px3), .slice ra3 rn3 rc3, .int .u32 r31, .int .u32 r32, .int .u32 r33, .int .i64 r34, .int .u32 r35, .int .u64 r36, .int .u64 r37, .int .u64 r38, .slice ka3 kn3 kc3, .slice pa3 pn3 pc3] 43
          have HS3 := Lib.hid T3
          have HW3 := Lib.hid hv3
          have HK3 : Hid (v3.heap[s3.heap.size]? = some (.cells #[.int .i64 35, .string (bs px3), .slice ra3 rn3 rc3, .int .u32 r31, .int .u32 r32, .int .u32 r33, .int .i64 r34, .int .u32 r35, .int .u64 r36, .int .u64 r37, .int .u64 r38, .slice ka3 kn3 kc3, .slice pa3 pn3 pc3] 43 (0, 0)) ∧ Below v2.heap.size v2 v3 ∧ s3.heap.size < v3.heap.size) := Lib.hid ⟨k3, by rw [hv3]; exact belowA B3 _, by omega⟩
          clear S3 hv3 T3 k3 q3 sz3 bl3 B3
          go_upto_region 17 with fail
          rw [← HW3.out]
          have b23 : Below v2.heap.size v2 v3 := HK3.out.2.1
          have b13 : Below v1.heap.size v1 v3 := HK2.out.2.1.trans (b23.mono HK2.out.2.1.size)
          have z1 : v3.cell? ⟨s1.heap.size, 0, none⟩ = some (.int .i64 35) := (b13.cell (p := ⟨s1.heap.size, 0, none⟩) HK1.out.2.2).trans (cell_of_row _ _ 0 _ 43 (0, 0) HK1.out.1)
          have z2 : v3.cell? ⟨s2.heap.size, 0, none⟩ = some (.int .i64 35) := (b23.cell (p := ⟨s2.heap.size, 0, none⟩) HK2.out.2.2).trans (cell_of_row _ _ 0 _ 43 (0, 0) HK2.out.1)
          have z3 : v3.cell? ⟨s3.heap.size, 0, none⟩ = some (.int .i64 35) := cell_of_row _ _ 0 _ 43 (0, 0) HK3.out.1
          have HBF : Hid (Below w.heap.size w v3) := Lib.hid (HB.out.trans ((HK1.out.2.1.trans (b13.mono HK1.out.2.1.size)).mono HB.out.size))
          clear b23 b13
          go_wp2_with fail
          refine (works_any v3 HS3.out.tr.max HS3.out.pow).mono ?_
          rintro e v4 ⟨rfl, B4⟩
          have HB4 := Lib.hid (HBF.out.trans (B4.mono HBF.out.size))
          clear B4
          go_wp2
          go_ret
          exact ⟨rfl, HB4.out⟩
end Go.Proofs.YtnclkfhdpkkakaaGreatDoor

namespace Go.Proofs.YtnclkfhdpkkakaaGreatDoor
set_option linter.unusedVariables false
set_option linter.unusedSimpArgs false
open Go.RowKit Go.ChangeShapes Go.WideShapes
set_option maxRecDepth 100000 in
theorem opVersions_law {H : Type} (enc : TypeId × Value → H) (W : World)
    (v0 : Value) (d0 : DataW H) (p0 : List MemPlace) (h0 : DataW.Trod enc Tryz.prog W 0 (fun _ => true) true 5 v0 d0 p0) (o0 : ∃ b, Value.okWide Tryz.prog W .any b 5 v0)
    (v1 : Value) (d1 : DataW H) (p1 : List MemPlace) (h1 : DataW.Trod enc Tryz.prog W 0 (fun _ => true) true 2 v1 d1 p1) (o1 : ∃ b, Value.okWide Tryz.prog W .any b 2 v1) (hm : MaxInt W) (PT : PowTab W) :
    Calls Tryz.prog 6 #[v0, v1] W fun e W' => e = .returned (.bool true) ∧ Below W.heap.size W W' := by
  obtain ⟨b0, o0⟩ := o0
  obtain ⟨b1, o1⟩ := o1
  obtain ⟨x0, rfl, rfl, rfl, w0⟩ := open_int Tryz.underlying5 o0 h0
  obtain ⟨x1, rfl, rfl, rfl, w1⟩ := open_int Tryz.underlying2 o1 h1
  have b0 := bd_u8 w0
  exact opVersions_core x0 x1 b0.1 b0.2 W hm PT
end Go.Proofs.YtnclkfhdpkkakaaGreatDoor
