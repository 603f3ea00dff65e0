/-
  The laws' works, walked.
-/
import Derived.Test.YtnclkfhdpkkakaaGreatDoorJOpSt
import Derived.Lib.SlBytesConst
namespace Go.Proofs.YtnclkfhdpkkakaaGreatDoor
set_option linter.unusedVariables false
set_option linter.unusedSimpArgs false
open Go Go.RowKit Go.Shelf Go.MapKept Go.ChangeMaps Go.Maps Go.Sort
def who0 : Sess := ⟨0, 0⟩
def pRN : Bytes := [47, 114, 47, 110]
def pN0 : Bytes := [47, 114, 47, 110, 48, 48, 48, 48, 48, 48, 48, 48, 48, 48]
def pN1 : Bytes := [47, 114, 47, 110, 48, 48, 48, 48, 48, 48, 48, 48, 48, 49]
def wo1 : Opl := ⟨1, pRA, [120], 0, false, false⟩
def wo2 : Opl := ⟨1, pRN, [], 0, true, false⟩
def wo3 : Opl := ⟨1, pRN, [], 0, true, false⟩
def wo4 : Opl := ⟨3, pRA, [121], 0, false, false⟩
def wo5 : Opl := ⟨3, pRA, [], 0, false, false⟩
def W1 : List (Bytes × Nd) := opMC pR M0 1 who0 wo1
def W2 : List (Bytes × Nd) := opMC pR W1 2 who0 wo2
def W3 : List (Bytes × Nd) := opMC pR W2 3 who0 wo3
def W4 : List (Bytes × Nd) := opMC pR W3 4 who0 wo4
theorem nice0 (root : Bytes) : Nice [(root, zNd)] := fun x hx => by
  simp at hx
  subst hx
  exact ⟨by show (0 : Int) ≤ 0; omega, by show (0 : Int) < 4294967296; omega⟩
/-- An operation that goes well, reckoned. -/
theorem good_op {root : Bytes} {M M' : List (Bytes × Nd)} {at_ : Int} {who : Sess} {o : Opl} {A : Ans} (hn : Nice M) (hk : 1 ≤ o.kind ∧ o.kind ≤ 3) (hE : opEC root M who o = 0) (hM : opMC root M at_ who o = M') (hA : opAC M at_ who o = A) :
    opE root M who o = 0 ∧ (opR root M at_ who o).a = A ∧ opM root M at_ who o = M' ∧ opXs root M at_ who o ≠ [] := by
  have h0 := opE_eq (root := root) (who := who) (o := o) hn
  rw [hE] at h0
  refine ⟨h0, ?_, (opM_eq hn).trans hM, ?_⟩
  · unfold opR
    rw [if_neg (by simpa using h0)]
    exact (opA_eq hn (by omega)).trans hA
  · unfold opXs opX
    rw [if_neg (by simpa using h0)]
    by_cases h1 : o.kind = 1
    · rw [if_pos h1]; simp [createX]
    · rw [if_neg h1]
      by_cases h2 : o.kind = 2
      · rw [if_pos h2]; simp [removeX]
      · rw [if_neg h2, if_pos (by omega)]; simp [setX]
/-- One that goes wrong. -/
theorem bad_op {root : Bytes} {M : List (Bytes × Nd)} {at_ : Int} {who : Sess} {o : Opl} {x : Int} (hn : Nice M) (hE : opEC root M who o = x) (hx : x ≠ 0) :
    opE root M who o = x ∧ (opR root M at_ who o).a = noAns ∧ opM root M at_ who o = M ∧ opXs root M at_ who o = [] := by
  have h0 := opE_eq (root := root) (who := who) (o := o) hn
  rw [hE] at h0
  refine ⟨h0, ?_, ?_, ?_⟩
  · unfold opR; rw [if_pos (by rw [h0]; exact hx)]
  · unfold opM; rw [if_pos (by rw [h0]; exact hx)]
  · unfold opXs; rw [if_pos (by rw [h0]; exact hx)]
section
variable {w0 w : World} {b : Nat} {root : Bytes} {at_ : Int} {M : List (Bytes × Nd)}
/-- did, of an operation that goes well. -/
theorem St.good (S : St w0 w b root at_ M) (h1 : at_ ≤ 90000) (r : RawO) (o : Opl) (who : Sess) (hr : LeafO w (fun k => k < w.heap.size) r o) (hl : Leafy o) (hpn : r.pn = 0) (hdn : r.dn ≤ 64) {M' : List (Bytes × Nd)} {A : Ans} (hk : 1 ≤ o.kind ∧ o.kind ≤ 3) (hE : opEC root M who o = 0) (hM : opMC root M (at_ + 1) who o = M') (hA : opAC M (at_ + 1) who o = A) :
    Calls Tryz.prog 25 #[.pointer (some ⟨b, 0, none⟩), r.val, whoV who] w fun e w' => (∃ (r : Raw) (ka : Option Addr) (kc : Nat) (pa : Option Addr) (pc : Nat), e = .returned (.agg (repCells 0 A.path r ka A.kids.length kc pa 0 pc).toArray) ∧ Reads w' (From w.heap.size) r A.node) ∧ St w0 w' b root (at_ + 1) M' ∧ Kept (· = b) w w' := by
  obtain ⟨e1, e2, e3, e4⟩ := good_op S.nice hk hE hM hA
  refine (S.did h1 r o who hr hl hpn hdn).mono fun e w' D => ?_
  obtain ⟨⟨r', ka, kc, pa, pc, h1, h2, _⟩, D2, D3⟩ := D
  rw [e1, e2] at h1
  rw [e2] at h2
  rw [if_neg e4, e3] at D2
  exact ⟨⟨r', ka, kc, pa, pc, h1, h2⟩, D2, D3⟩
theorem St.bad (S : St w0 w b root at_ M) (h1 : at_ ≤ 90000) (r : RawO) (o : Opl) (who : Sess) (hr : LeafO w (fun k => k < w.heap.size) r o) (hl : Leafy o) (hpn : r.pn = 0) (hdn : r.dn ≤ 64) {x : Int} (hE : opEC root M who o = x) (hx : x ≠ 0) :
    Calls Tryz.prog 25 #[.pointer (some ⟨b, 0, none⟩), r.val, whoV who] w fun e w' => (∃ (r : Raw) (ka : Option Addr) (kc : Nat) (pa : Option Addr) (pc : Nat), e = .returned (.agg (repCells x [] r ka 0 kc pa 0 pc).toArray) ∧ Reads w' (From w.heap.size) r zNd) ∧ St w0 w' b root at_ M ∧ Kept (· = b) w w' := by
  obtain ⟨e1, e2, e3, e4⟩ := bad_op (at_ := at_ + 1) S.nice hE hx
  refine (S.did h1 r o who hr hl hpn hdn).mono fun e w' D => ?_
  obtain ⟨⟨r', ka, kc, pa, pc, h1, h2, _⟩, D2, D3⟩ := D
  rw [e1, e2] at h1
  rw [e2] at h2
  rw [if_pos e4, e3] at D2
  exact ⟨⟨r', ka, kc, pa, pc, h1, h2⟩, D2, D3⟩
end
theorem bytes_one (w : World) (c : UInt8) : ByteSl (w.alloc (.cells #[.int .u8 c.toNat] 5 (1, 2))) (fun k => k < (w.alloc (.cells #[.int .u8 c.toNat] 5 (1, 2))).heap.size) (w.alloc (.cells #[.int .u8 c.toNat] 5 (1, 2))).heap.size (some ⟨w.heap.size, 0, none⟩) [c] := fun j x hj => by
  have hj0 : j = 0 := by have := (List.getElem?_eq_some_iff.1 hj).1; simp at this; exact this
  subst hj0
  simp at hj
  subst hj
  exact ⟨w.heap.size, 0, rfl, by simp, by simp, cell_of_row _ _ 0 _ 5 (1, 2) (heap_alloc_new w _)⟩
theorem bytes_none (w : World) (lo : Nat → Prop) (hi : Nat) (a : Option Addr) : ByteSl w lo hi a [] := fun j x hj => by simp at hj
theorem St.made {w0 w : World} {b : Nat} {root : Bytes} (R : TR w0 w b root 0 [(root, zNd)]) (hr : (partsL root).isSome = true) (PT : PowTab w0) : St w0 w b root 0 [(root, zNd)] := ⟨R, Inv.made hr zNd, nice0 root, PT, Int.le_refl 0⟩
/-- The error of a reply that is no variable. -/
theorem rep_field (x : Int) (c1 c2 c3 c4 c5 c6 c7 c8 c9 c10 c11 c12 : Value) (w : World) : (Instr.field 43 (.agg #[.int .i64 x, c1, c2, c3, c4, c5, c6, c7, c8, c9, c10, c11, c12]) 0).run Tryz.prog w = .ok (.int .i64 x) w := by kernel_rfl
/-- A reply's box. -/
theorem rep_box {w0 w : World} {b : Nat} {root : Bytes} {at_ : Int} {M : List (Bytes × Nd)} (S : St w0 w b root at_ M) (cs : Array Value) (t : TypeId) :
    ∃ w', w' = w.alloc (.cells cs t) ∧ St w0 w' b root at_ M ∧ w'.heap[w.heap.size]? = some (.cells cs t (0, 0)) ∧ Kept (· = b) w w' ∧ w'.heap.size = w.heap.size + 1 ∧ b < w.heap.size :=
  ⟨_, rfl, S.below (belowA (Below.refl _ w) _), heap_alloc_new w _, Kept.ofBelow (belowA (Below.refl _ w) _), by simp, S.tr.lt⟩
set_option maxRecDepth 100000 in
set_option maxHeartbeats 16000000 in
theorem works_any (w : World) (hm : MaxInt w) (PT : PowTab w) : Calls Tryz.prog 16 #[] w fun e w' => e = .returned (.bool true) ∧ Below w.heap.size w w' := by
  have HM := Lib.hid (And.intro hm PT)
  clear hm PT
  have hcv := fun (w : World) (C : Array Value) (n c : Nat) => Lib.run_convert_bytes_const (P := Tryz.prog) w 23 5 C n c Tryz.underlying23 Tryz.underlying5
  go_enter Tryz.func16, Tryz.ntmps16
  go_wp2_with fail
  refine (TR.new (root := pR) (Below.refl _ w) HM.out.1 (by decide) rootsR).mono ?_
  rintro e v0 ⟨b, rfl, R1, hb1, B1⟩
  have HS0 : Hid (St w v0 b pR 0 M0) := Lib.hid (St.made R1 rootsR HM.out.2)
  have HK0 : Hid (Kept (· = b) v0 v0) := Lib.hid (Kept.refl _ _)
  have HB1 := Lib.hid (And.intro hb1 B1)
  clear R1 B1 hb1
  go_wp2_with fail
  obtain ⟨u1, hu1⟩ : ∃ u, u = v0.alloc (.cells #[.int .u8 120] 5 (1, 2)) := ⟨_, rfl⟩
  have hl1 : LeafO u1 (fun k => k < u1.heap.size) ⟨1, pRA, some ⟨v0.heap.size, 0, none⟩, 1, 1, 0, false, false, none, 0, 0⟩ wo1 := ⟨rfl, rfl, rfl, rfl, rfl, rfl, by rw [hu1]; exact bytes_one v0 120, fun h => by cases h⟩
  have HU1 := Lib.hid (And.intro hl1 (And.intro (HS0.out.below (w' := u1) (by rw [hu1]; exact belowA (Below.refl _ v0) _)) (show Kept (· = b) v0 u1 by rw [hu1]; exact Kept.ofBelow (belowA (Below.refl _ v0) _))))
  rw [← hu1]
  clear hl1 hu1
  refine (HU1.out.2.1.good (by decide) ⟨1, pRA, some ⟨v0.heap.size, 0, none⟩, 1, 1, 0, false, false, none, 0, 0⟩ wo1 who0 HU1.out.1 (by unfold Leafy; decide) rfl (Nat.le_of_ble_eq_true rfl) (M' := W1) (A := ⟨pRA, newN [120] 1 who0 false, []⟩) (by decide) (by decide +kernel) rfl (by decide +kernel)).mono ?_
  rintro e s1 ⟨⟨⟨ra1, rn1, rc1, ⟨r11, r12, r13, r14, r15, r16, r17, r18⟩⟩, ka1, kc1, pa1, pc1, rfl, hrd1⟩, S1, K1⟩
  unfold repCells Raw.cells Nums.cells
  dsimp only [List.cons_append, List.nil_append, List.length_nil]
  obtain ⟨v1, hv1, T1, k1, q1, sz1, bl1⟩ := rep_box S1 #[.int .i64 0, .string (bs pRA), .slice ra1 rn1 rc1, .int .u32 r11, .int .u32 r12, .int .u32 r13, .int .i64 r14, .int .u32 r15, .int .u64 r16, .int .u64 r17, .int .u64 r18, .slice ka1 0 kc1, .slice pa1 0 pc1] 43
  have HS1 := Lib.hid T1
  have HW1 := Lib.hid hv1
  have HN1 := Lib.hid hrd1
  have HK1 : Hid (v1.heap[s1.heap.size]? = some (.cells #[.int .i64 0, .string (bs pRA), .slice ra1 rn1 rc1, .int .u32 r11, .int .u32 r12, .int .u32 r13, .int .i64 r14, .int .u32 r15, .int .u64 r16, .int .u64 r17, .int .u64 r18, .slice ka1 0 kc1, .slice pa1 0 pc1] 43 (0, 0)) ∧ Kept (· = b) v0 v1 ∧ b < s1.heap.size ∧ s1.heap.size < v1.heap.size ∧ Kept (· = b) s1 v1 ∧ Kept (· = b) u1 s1) := Lib.hid ⟨k1, (HU1.out.2.2.trans K1).trans q1, bl1, by omega, q1, K1⟩
  clear S1 K1 hv1 T1 k1 q1 sz1 bl1 hrd1
  go_upto_region 5 with fail
  rw [← HW1.out]
  go_wp2_with fail
  refine (HS1.out.good (by decide) ⟨1, pRN, none, 0, 0, 0, true, false, none, 0, 0⟩ wo2 who0 ⟨rfl, rfl, rfl, rfl, rfl, rfl, bytes_none _ _ _ _, fun _ => ⟨rfl, rfl⟩⟩ (by unfold Leafy; decide) rfl (Nat.le_of_ble_eq_true rfl) (M' := W2) (A := ⟨pN0, newN [] 2 who0 false, []⟩) (by decide) (by decide +kernel) rfl (by decide +kernel)).mono ?_
  rintro e s2 ⟨⟨⟨ra2, rn2, rc2, ⟨r21, r22, r23, r24, r25, r26, r27, r28⟩⟩, ka2, kc2, pa2, pc2, rfl, hrd2⟩, S2, K2⟩
  unfold repCells Raw.cells Nums.cells
  dsimp only [List.cons_append, List.nil_append, List.length_nil]
  obtain ⟨v2, hv2, T2, k2, q2, sz2, bl2⟩ := rep_box S2 #[.int .i64 0, .string (bs pN0), .slice ra2 rn2 rc2, .int .u32 r21, .int .u32 r22, .int .u32 r23, .int .i64 r24, .int .u32 r25, .int .u64 r26, .int .u64 r27, .int .u64 r28, .slice ka2 0 kc2, .slice pa2 0 pc2] 43
  have HS2 := Lib.hid T2
  have HW2 := Lib.hid hv2
  have HN2 := Lib.hid hrd2
  have HK2 : Hid (v2.heap[s2.heap.size]? = some (.cells #[.int .i64 0, .string (bs pN0), .slice ra2 rn2 rc2, .int .u32 r21, .int .u32 r22, .int .u32 r23, .int .i64 r24, .int .u32 r25, .int .u64 r26, .int .u64 r27, .int .u64 r28, .slice ka2 0 kc2, .slice pa2 0 pc2] 43 (0, 0)) ∧ Kept (· = b) v1 v2 ∧ b < s2.heap.size ∧ s2.heap.size < v2.heap.size ∧ Kept (· = b) s2 v2 ∧ Kept (· = b) v1 s2) := Lib.hid ⟨k2, ((Kept.refl _ _).trans K2).trans q2, bl2, by omega, q2, K2⟩
  clear S2 K2 hv2 T2 k2 q2 sz2 bl2 hrd2
  go_upto_region 6 with fail
  rw [← HW2.out]
  go_wp2_with fail
  refine (HS2.out.good (by decide) ⟨1, pRN, none, 0, 0, 0, true, false, none, 0, 0⟩ wo3 who0 ⟨rfl, rfl, rfl, rfl, rfl, rfl, bytes_none _ _ _ _, fun _ => ⟨rfl, rfl⟩⟩ (by unfold Leafy; decide) rfl (Nat.le_of_ble_eq_true rfl) (M' := W3) (A := ⟨pN1, newN [] 3 who0 false, []⟩) (by decide) (by decide +kernel) rfl (by decide +kernel)).mono ?_
  rintro e s3 ⟨⟨⟨ra3, rn3, rc3, ⟨r31, r32, r33, r34, r35, r36, r37, r38⟩⟩, ka3, kc3, pa3, pc3, rfl, hrd3⟩, S3, K3⟩
  unfold repCells Raw.cells Nums.cells
  dsimp only [List.cons_append, List.nil_append, List.length_nil]
  obtain ⟨v3, hv3, T3, k3, q3, sz3, bl3⟩ := rep_box S3 #[.int .i64 0, .string (bs pN1), .slice ra3 rn3 rc3, .int .u32 r31, .int .u32 r32, .int .u32 r33, .int .i64 r34, .int .u32 r35, .int .u64 r36, .int .u64 r37, .int .u64 r38, .slice ka3 0 kc3, .slice pa3 0 pc3] 43
  have HS3 := Lib.hid T3
  have HW3 := Lib.hid hv3
  have HN3 := Lib.hid hrd3
  have HK3 : Hid (v3.heap[s3.heap.size]? = some (.cells #[.int .i64 0, .string (bs pN1), .slice ra3 rn3 rc3, .int .u32 r31, .int .u32 r32, .int .u32 r33, .int .i64 r34, .int .u32 r35, .int .u64 r36, .int .u64 r37, .int .u64 r38, .slice ka3 0 kc3, .slice pa3 0 pc3] 43 (0, 0)) ∧ Kept (· = b) v2 v3 ∧ b < s3.heap.size ∧ s3.heap.size < v3.heap.size ∧ Kept (· = b) s3 v3 ∧ Kept (· = b) v2 s3) := Lib.hid ⟨k3, ((Kept.refl _ _).trans K3).trans q3, bl3, by omega, q3, K3⟩
  clear S3 K3 hv3 T3 k3 q3 sz3 bl3 hrd3
  go_upto_region 7 with fail
  rw [← HW3.out]
  go_wp2_with fail
  obtain ⟨u4, hu4⟩ : ∃ u, u = v3.alloc (.cells #[.int .u8 121] 5 (1, 2)) := ⟨_, rfl⟩
  have hl4 : LeafO u4 (fun k => k < u4.heap.size) ⟨3, pRA, some ⟨v3.heap.size, 0, none⟩, 1, 1, 0, false, false, none, 0, 0⟩ wo4 := ⟨rfl, rfl, rfl, rfl, rfl, rfl, by rw [hu4]; exact bytes_one v3 121, fun h => by cases h⟩
  have HU4 := Lib.hid (And.intro hl4 (And.intro (HS3.out.below (w' := u4) (by rw [hu4]; exact belowA (Below.refl _ v3) _)) (show Kept (· = b) v3 u4 by rw [hu4]; exact Kept.ofBelow (belowA (Below.refl _ v3) _))))
  rw [← hu4]
  clear hl4 hu4
  refine (HU4.out.2.1.good (by decide) ⟨3, pRA, some ⟨v3.heap.size, 0, none⟩, 1, 1, 0, false, false, none, 0, 0⟩ wo4 who0 HU4.out.1 (by unfold Leafy; decide) rfl (Nat.le_of_ble_eq_true rfl) (M' := W4) (A := ⟨pRA, setN (nodeAt W3 pRA) [121] 4, []⟩) (by decide) (by decide +kernel) rfl (by decide +kernel)).mono ?_
  rintro e s4 ⟨⟨⟨ra4, rn4, rc4, ⟨r41, r42, r43, r44, r45, r46, r47, r48⟩⟩, ka4, kc4, pa4, pc4, rfl, hrd4⟩, S4, K4⟩
  unfold repCells Raw.cells Nums.cells
  dsimp only [List.cons_append, List.nil_append, List.length_nil]
  obtain ⟨v4, hv4, T4, k4, q4, sz4, bl4⟩ := rep_box S4 #[.int .i64 0, .string (bs pRA), .slice ra4 rn4 rc4, .int .u32 r41, .int .u32 r42, .int .u32 r43, .int .i64 r44, .int .u32 r45, .int .u64 r46, .int .u64 r47, .int .u64 r48, .slice ka4 0 kc4, .slice pa4 0 pc4] 43
  have HS4 := Lib.hid T4
  have HW4 := Lib.hid hv4
  have HN4 := Lib.hid hrd4
  have HK4 : Hid (v4.heap[s4.heap.size]? = some (.cells #[.int .i64 0, .string (bs pRA), .slice ra4 rn4 rc4, .int .u32 r41, .int .u32 r42, .int .u32 r43, .int .i64 r44, .int .u32 r45, .int .u64 r46, .int .u64 r47, .int .u64 r48, .slice ka4 0 kc4, .slice pa4 0 pc4] 43 (0, 0)) ∧ Kept (· = b) v3 v4 ∧ b < s4.heap.size ∧ s4.heap.size < v4.heap.size ∧ Kept (· = b) s4 v4 ∧ Kept (· = b) u4 s4) := Lib.hid ⟨k4, (HU4.out.2.2.trans K4).trans q4, bl4, by omega, q4, K4⟩
  clear S4 K4 hv4 T4 k4 q4 sz4 bl4 hrd4
  go_upto_region 8 with fail
  rw [← HW4.out]
  go_wp2_with fail
  refine (HS4.out.bad (by decide) ⟨3, pRA, none, 0, 0, 0, false, false, none, 0, 0⟩ wo5 who0 ⟨rfl, rfl, rfl, rfl, rfl, rfl, bytes_none _ _ _ _, fun _ => ⟨rfl, rfl⟩⟩ (by unfold Leafy; decide) rfl (Nat.le_of_ble_eq_true rfl) (x := 35) (by decide +kernel) (by decide)).mono ?_
  rintro e s5 ⟨⟨⟨ra5, rn5, rc5, ⟨r51, r52, r53, r54, r55, r56, r57, r58⟩⟩, ka5, kc5, pa5, pc5, rfl, hrd5⟩, S5, K5⟩
  unfold repCells Raw.cells Nums.cells
  dsimp only [List.cons_append, List.nil_append, List.length_nil]
  obtain ⟨v5, hv5, T5, k5, q5, sz5, bl5⟩ := rep_box S5 #[.int .i64 35, .string (bs []), .slice ra5 rn5 rc5, .int .u32 r51, .int .u32 r52, .int .u32 r53, .int .i64 r54, .int .u32 r55, .int .u64 r56, .int .u64 r57, .int .u64 r58, .slice ka5 0 kc5, .slice pa5 0 pc5] 43
  have HS5 := Lib.hid T5
  have HW5 := Lib.hid hv5
  have HN5 := Lib.hid hrd5
  have HK5 : Hid (v5.heap[s5.heap.size]? = some (.cells #[.int .i64 35, .string (bs []), .slice ra5 rn5 rc5, .int .u32 r51, .int .u32 r52, .int .u32 r53, .int .i64 r54, .int .u32 r55, .int .u64 r56, .int .u64 r57, .int .u64 r58, .slice ka5 0 kc5, .slice pa5 0 pc5] 43 (0, 0)) ∧ Kept (· = b) v4 v5 ∧ b < s5.heap.size ∧ s5.heap.size < v5.heap.size ∧ Kept (· = b) s5 v5 ∧ Kept (· = b) v4 s5) := Lib.hid ⟨k5, ((Kept.refl _ _).trans K5).trans q5, bl5, by omega, q5, K5⟩
  clear S5 K5 hv5 T5 k5 q5 sz5 bl5 hrd5
  go_upto_region 9 with fail
  rw [← HW5.out]
  have g45 : Kept (· = b) v4 v5 := HK5.out.2.1
  have g35 : Kept (· = b) v3 v5 := HK4.out.2.1.trans g45
  have g25 : Kept (· = b) v2 v5 := HK3.out.2.1.trans g35
  have g15 : Kept (· = b) v1 v5 := HK2.out.2.1.trans g25
  have c1 := (g15.block s1.heap.size HK1.out.2.2.2.1 (fun e => by have e : s1.heap.size = b := e; have := HK1.out.2.2.1; omega)).trans HK1.out.1
  have c2 := (g25.block s2.heap.size HK2.out.2.2.2.1 (fun e => by have e : s2.heap.size = b := e; have := HK2.out.2.2.1; omega)).trans HK2.out.1
  have c3 := (g35.block s3.heap.size HK3.out.2.2.2.1 (fun e => by have e : s3.heap.size = b := e; have := HK3.out.2.2.1; omega)).trans HK3.out.1
  have c4 := (g45.block s4.heap.size HK4.out.2.2.2.1 (fun e => by have e : s4.heap.size = b := e; have := HK4.out.2.2.1; omega)).trans HK4.out.1
  have c5 := HK5.out.1
  have z10 : v5.cell? ⟨s1.heap.size, 0, none⟩ = some (.int .i64 0) := cell_of_row _ _ 0 _ 43 (0, 0) c1
  have z11 : v5.cell? ⟨s1.heap.size, 1, none⟩ = some (.string (bs pRA)) := cell_of_row _ _ 1 _ 43 (0, 0) c1
  have z21 : v5.cell? ⟨s2.heap.size, 1, none⟩ = some (.string (bs pN0)) := cell_of_row _ _ 1 _ 43 (0, 0) c2
  have z31 : v5.cell? ⟨s3.heap.size, 1, none⟩ = some (.string (bs pN1)) := cell_of_row _ _ 1 _ 43 (0, 0) c3
  have z40 : v5.cell? ⟨s4.heap.size, 0, none⟩ = some (.int .i64 0) := cell_of_row _ _ 0 _ 43 (0, 0) c4
  have z42 : v5.cell? ⟨s4.heap.size, 2, none⟩ = some (.slice ra4 rn4 rc4) := cell_of_row _ _ 2 _ 43 (0, 0) c4
  have hv41 : r41 = 1 := (congrArg Nums.ver HN4.out.num).trans (by decide +kernel)
  have z43 : v5.cell? ⟨s4.heap.size, 3, none⟩ = some (.int .u32 1) := by rw [← hv41]; exact cell_of_row _ _ 3 _ 43 (0, 0) c4
  have z50 : v5.cell? ⟨s5.heap.size, 0, none⟩ = some (.int .i64 35) := cell_of_row _ _ 0 _ 43 (0, 0) c5
  have hrd5 := HN4.out.keptS (HK4.out.2.2.2.2.1.trans g45) (fun k h1 _ e => by have e : k = b := e; have h1 : u4.heap.size ≤ k := h1; have := HU4.out.2.1.tr.lt; omega)
  have q4 := conv_len (D := [121]) hrd5.len hrd5.data hrd5.nil
  have t1 : (bs pRA).toList = [47, 114, 47, 97] := toList_bs _
  have t2 : (bs pN0).toList = [47, 114, 47, 110, 48, 48, 48, 48, 48, 48, 48, 48, 48, 48] := toList_bs _
  have t3 : (bs pN1).toList = [47, 114, 47, 110, 48, 48, 48, 48, 48, 48, 48, 48, 48, 49] := toList_bs _
  have t4 : (bs [121]).toList = [121] := toList_bs _
  have HG := Lib.hid (HK1.out.2.1.trans g15)
  clear g45 g35 g25 g15 c1 c2 c3 c4 c5 hv41 hrd5 hcv
  go_wp2_with fail
  refine HS5.out.tr.at_any.mono ?_
  rintro e v6 ⟨rfl, rfl⟩
  go_wp2
  go_ret
  exact ⟨rfl, HB1.out.2.trans (HG.out.below HB1.out.2.size (fun k e => by have e : k = b := e; have := HB1.out.1; omega))⟩
end Go.Proofs.YtnclkfhdpkkakaaGreatDoor
