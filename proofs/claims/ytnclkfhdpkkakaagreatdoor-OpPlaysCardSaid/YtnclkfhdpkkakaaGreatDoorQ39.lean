/-
  The laws' works, walked. Operations that came in: opened, however deep. Any operation that came in: Do and did. Operations and who asks, opened; great, walked. great, walked. grown, walked: a tree behind operations. Slices of a row of operations. What an operation leaves, as plain nodes.
-/
import Derived.Test.YtnclkfhdpkkakaaGreatDoorQ32
import Derived.Lib.SlBytesConst
import Derived.Test.YtnclkfhdpkkakaaGreatDoorQ16
import Derived.Test.YtnclkfhdpkkakaaGreatDoorQ33
import Derived.Laws.AppendOwnNone
import Derived.Test.YtnclkfhdpkkakaaGreatDoorQ30
namespace Go.Proofs.YtnclkfhdpkkakaaGreatDoor
set_option linter.unusedVariables false
set_option linter.unusedSimpArgs false
open Go Go.RowKit Go.Shelf Go.MapKept Go.ChangeMaps Go.Maps Go.Sort
def who0 : Sess := ⟨0, 0⟩
def pRN : Bytes := [47, 114, 47, 110]
def pN0 : Bytes := [47, 114, 47, 110, 48, 48, 48, 48, 48, 48, 48, 48, 48, 48]
def pN1 : Bytes := [47, 114, 47, 110, 48, 48, 48, 48, 48, 48, 48, 48, 48, 49]
def wo1 : Opl := ⟨1, pRA, [120], 0, false, false⟩
def wo2 : Opl := ⟨1, pRN, [], 0, true, false⟩
def wo3 : Opl := ⟨1, pRN, [], 0, true, false⟩
def wo4 : Opl := ⟨3, pRA, [121], 0, false, false⟩
def wo5 : Opl := ⟨3, pRA, [], 0, false, false⟩
def W1 : List (Bytes × Nd) := opMC pR M0 1 who0 wo1
def W2 : List (Bytes × Nd) := opMC pR W1 2 who0 wo2
def W3 : List (Bytes × Nd) := opMC pR W2 3 who0 wo3
def W4 : List (Bytes × Nd) := opMC pR W3 4 who0 wo4
theorem nice0 (root : Bytes) : Nice [(root, zNd)] := fun x hx => by
 simp at hx
 subst hx
 exact ⟨by show (0 : Int) ≤ 0; omega, by show (0 : Int) < 4294967296; omega⟩
theorem good_op {root : Bytes} {M M' : List (Bytes × Nd)} {at_ : Int} {who : Sess} {o : Opl} {A : Ans} (hn : Nice M) (hk : 1 ≤ o.kind ∧ o.kind ≤ 3) (hE : opEC root M who o = 0) (hM : opMC root M at_ who o = M') (hA : opAC M at_ who o = A) :
  opE root M who o = 0 ∧ (opR root M at_ who o).a = A ∧ opM root M at_ who o = M' ∧ opXs root M at_ who o ≠ [] := by
 have h0 := opE_eq (root := root) (who := who) (o := o) hn
 rw [hE] at h0
 refine ⟨h0, ?_, (opM_eq hn).trans hM, ?_⟩
 ·unfold opR
  rw [if_neg (by simpa using h0)]
  exact (opA_eq hn (by omega)).trans hA
 ·unfold opXs opX
  rw [if_neg (by simpa using h0)]
  by_cases h1 : o.kind = 1
  ·rw [if_pos h1]; simp [createX]
  ·rw [if_neg h1]
   by_cases h2 : o.kind = 2
   ·rw [if_pos h2]; simp [removeX]
   ·rw [if_neg h2, if_pos (by omega)]; simp [setX]
theorem bad_op {root : Bytes} {M : List (Bytes × Nd)} {at_ : Int} {who : Sess} {o : Opl} {x : Int} (hn : Nice M) (hE : opEC root M who o = x) (hx : x ≠ 0) :
  opE root M who o = x ∧ (opR root M at_ who o).a = noAns ∧ opM root M at_ who o = M ∧ opXs root M at_ who o = [] := by
 have h0 := opE_eq (root := root) (who := who) (o := o) hn
 rw [hE] at h0
 refine ⟨h0, ?_, ?_, ?_⟩
 ·unfold opR; rw [if_pos (by rw [h0]; exact hx)]
 ·unfold opM; rw [if_pos (by rw [h0]; exact hx)]
 ·unfold opXs; rw [if_pos (by rw [h0]; exact hx)]
section
variable {w0 w : World} {b : Nat} {root : Bytes} {at_ : Int} {M : List (Bytes × Nd)}
theorem St.good (S : St w0 w b root at_ M) (h1 : at_ ≤ 90000) (r : RawO) (o : Opl) (who : Sess) (hr : LeafO w (fun k => k < w.heap.size) r o) (hl : Leafy o) (hpn : r.pn = 0) (hdn : r.dn ≤ 64) {M' : List (Bytes × Nd)} {A : Ans} (hk : 1 ≤ o.kind ∧ o.kind ≤ 3) (hE : opEC root M who o = 0) (hM : opMC root M (at_ + 1) who o = M') (hA : opAC M (at_ + 1) who o = A) :
  Calls Tryz.prog 25 #[.pointer (some ⟨b, 0, none⟩), r.val, whoV who] w fun e w' => (∃ (r : Raw) (ka : Option Addr) (kc : Nat) (pa : Option Addr) (pc : Nat), e = .returned (.agg (repCells 0 A.path r ka A.kids.length kc pa 0 pc).toArray) ∧ Reads w' (From w.heap.size) r A.node) ∧ St w0 w' b root (at_ + 1) M' ∧ Kept (· = b) w w' := by
 obtain ⟨e1, e2, e3, e4⟩ := good_op S.nice hk hE hM hA
 refine (S.did h1 r o who hr hl hpn hdn).mono fun e w' D => ?_
 obtain ⟨⟨r', ka, kc, pa, pc, h1, h2, _⟩, D2, D3⟩ := D
 rw [e1, e2] at h1
 rw [e2] at h2
 rw [if_neg e4, e3] at D2
 exact ⟨⟨r', ka, kc, pa, pc, h1, h2⟩, D2, D3⟩
theorem St.bad (S : St w0 w b root at_ M) (h1 : at_ ≤ 90000) (r : RawO) (o : Opl) (who : Sess) (hr : LeafO w (fun k => k < w.heap.size) r o) (hl : Leafy o) (hpn : r.pn = 0) (hdn : r.dn ≤ 64) {x : Int} (hE : opEC root M who o = x) (hx : x ≠ 0) :
  Calls Tryz.prog 25 #[.pointer (some ⟨b, 0, none⟩), r.val, whoV who] w fun e w' => (∃ (r : Raw) (ka : Option Addr) (kc : Nat) (pa : Option Addr) (pc : Nat), e = .returned (.agg (repCells x [] r ka 0 kc pa 0 pc).toArray) ∧ Reads w' (From w.heap.size) r zNd) ∧ St w0 w' b root at_ M ∧ Kept (· = b) w w' := by
 obtain ⟨e1, e2, e3, e4⟩ := bad_op (at_ := at_ + 1) S.nice hE hx
 refine (S.did h1 r o who hr hl hpn hdn).mono fun e w' D => ?_
 obtain ⟨⟨r', ka, kc, pa, pc, h1, h2, _⟩, D2, D3⟩ := D
 rw [e1, e2] at h1
 rw [e2] at h2
 rw [if_pos e4, e3] at D2
 exact ⟨⟨r', ka, kc, pa, pc, h1, h2⟩, D2, D3⟩
end
theorem bytes_one (w : World) (c : UInt8) : ByteSl (w.alloc (.cells #[.int .u8 c.toNat] 5 (1, 2))) (fun k => k < (w.alloc (.cells #[.int .u8 c.toNat] 5 (1, 2))).heap.size) (w.alloc (.cells #[.int .u8 c.toNat] 5 (1, 2))).heap.size (some ⟨w.heap.size, 0, none⟩) [c] := fun j x hj => by
 have hj0 : j = 0 := by have := (List.getElem?_eq_some_iff.1 hj).1; simp at this; exact this
 subst hj0
 simp at hj
 subst hj
 exact ⟨w.heap.size, 0, rfl, by simp, by simp, cell_of_row _ _ 0 _ 5 (1, 2) (heap_alloc_new w _)⟩
theorem bytes_none (w : World) (lo : Nat → Prop) (hi : Nat) (a : Option Addr) : ByteSl w lo hi a [] := fun j x hj => by simp at hj
theorem St.made {w0 w : World} {b : Nat} {root : Bytes} (R : TR w0 w b root 0 [(root, zNd)]) (hr : (partsL root).isSome = true) (PT : PowTab w0) : St w0 w b root 0 [(root, zNd)] := ⟨R, Inv.made hr zNd, nice0 root, PT, Int.le_refl 0⟩
theorem rep_box {w0 w : World} {b : Nat} {root : Bytes} {at_ : Int} {M : List (Bytes × Nd)} (S : St w0 w b root at_ M) (cs : Array Value) (t : TypeId) :
  ∃ w', w' = w.alloc (.cells cs t) ∧ St w0 w' b root at_ M ∧ w'.heap[w.heap.size]? = some (.cells cs t (0, 0)) ∧ Kept (· = b) w w' ∧ w'.heap.size = w.heap.size + 1 ∧ b < w.heap.size :=
 ⟨_, rfl, S.below (belowA (Below.refl _ w) _), heap_alloc_new w _, Kept.ofBelow (belowA (Below.refl _ w) _), by simp, S.tr.lt⟩
set_option maxRecDepth 100000 in
set_option maxHeartbeats 16000000 in
theorem works_any (w : World) (hm : MaxInt w) (PT : PowTab w) : Calls Tryz.prog 16 #[] w fun e w' => e = .returned (.bool true) ∧ Below w.heap.size w w' := by
 have HM := Lib.hid (And.intro hm PT)
 clear hm PT
 have hcv := fun (w : World) (C : Array Value) (n c : Nat) => Lib.run_convert_bytes_const (P := Tryz.prog) w 23 5 C n c Tryz.underlying23 Tryz.underlying5
 go_enter Tryz.func16, Tryz.ntmps16
 go_wp2_with fail
 refine (TR.new (root := pR) (Below.refl _ w) HM.out.1 (by decide) rootsR).mono ?_
 rintro e v0 ⟨b, rfl, R1, hb1, B1⟩
 have HS0 : Hid (St w v0 b pR 0 M0) := Lib.hid (St.made R1 rootsR HM.out.2)
 have HK0 : Hid (Kept (· = b) v0 v0) := Lib.hid (Kept.refl _ _)
 have HB1 := Lib.hid (And.intro hb1 B1)
 clear R1 B1 hb1
 go_wp2_with fail
 obtain ⟨u1, hu1⟩ : ∃ u, u = v0.alloc (.cells #[.int .u8 120] 5 (1, 2)) := ⟨_, rfl⟩
 have hl1 : LeafO u1 (fun k => k < u1.heap.size) ⟨1, pRA, some ⟨v0.heap.size, 0, none⟩, 1, 1, 0, false, false, none, 0, 0⟩ wo1 := ⟨rfl, rfl, rfl, rfl, rfl, rfl, by rw [hu1]; exact bytes_one v0 120, fun h => by cases h⟩
 have HU1 := Lib.hid (And.intro hl1 (And.intro (HS0.out.below (w' := u1) (by rw [hu1]; exact belowA (Below.refl _ v0) _)) (show Kept (· = b) v0 u1 by rw [hu1]; exact Kept.ofBelow (belowA (Below.refl _ v0) _))))
 rw [← hu1]
 clear hl1 hu1
 refine (HU1.out.2.1.good (by decide) ⟨1, pRA, some ⟨v0.heap.size, 0, none⟩, 1, 1, 0, false, false, none, 0, 0⟩ wo1 who0 HU1.out.1 (by unfold Leafy; decide) rfl (Nat.le_of_ble_eq_true rfl) (M' := W1) (A := ⟨pRA, newN [120] 1 who0 false, []⟩) (by decide) (by decide +kernel) rfl (by decide +kernel)).mono ?_
 rintro e s1 ⟨⟨⟨ra1, rn1, rc1, ⟨r11, r12, r13, r14, r15, r16, r17, r18⟩⟩, ka1, kc1, pa1, pc1, rfl, hrd1⟩, S1, K1⟩
 unfold repCells Raw.cells Nums.cells
 dsimp only [List.cons_append, List.nil_append, List.length_nil]
 obtain ⟨v1, hv1, T1, k1, q1, sz1, bl1⟩ := rep_box S1 #[.int .i64 0, .string (bs pRA), .slice ra1 rn1 rc1, .int .u32 r11, .int .u32 r12, .int .u32 r13, .int .i64 r14, .int .u32 r15, .int .u64 r16, .int .u64 r17, .int .u64 r18, .slice ka1 0 kc1, .slice pa1 0 pc1] 43
 have HS1 := Lib.hid T1
 have HW1 := Lib.hid hv1
 have HN1 := Lib.hid hrd1
 have HK1 : Hid (v1.heap[s1.heap.size]? = some (.cells #[.int .i64 0, .string (bs pRA), .slice ra1 rn1 rc1, .int .u32 r11, .int .u32 r12, .int .u32 r13, .int .i64 r14, .int .u32 r15, .int .u64 r16, .int .u64 r17, .int .u64 r18, .slice ka1 0 kc1, .slice pa1 0 pc1] 43 (0, 0)) ∧ Kept (· = b) v0 v1 ∧ b < s1.heap.size ∧ s1.heap.size < v1.heap.size ∧ Kept (· = b) s1 v1 ∧ Kept (· = b) u1 s1) := Lib.hid ⟨k1, (HU1.out.2.2.trans K1).trans q1, bl1, by omega, q1, K1⟩
 clear S1 K1 hv1 T1 k1 q1 sz1 bl1 hrd1
 go_upto_region 5 with fail
 rw [← HW1.out]
 go_wp2_with fail
 refine (HS1.out.good (by decide) ⟨1, pRN, none, 0, 0, 0, true, false, none, 0, 0⟩ wo2 who0 ⟨rfl, rfl, rfl, rfl, rfl, rfl, bytes_none _ _ _ _, fun _ => ⟨rfl, rfl⟩⟩ (by unfold Leafy; decide) rfl (Nat.le_of_ble_eq_true rfl) (M' := W2) (A := ⟨pN0, newN [] 2 who0 false, []⟩) (by decide) (by decide +kernel) rfl (by decide +kernel)).mono ?_
 rintro e s2 ⟨⟨⟨ra2, rn2, rc2, ⟨r21, r22, r23, r24, r25, r26, r27, r28⟩⟩, ka2, kc2, pa2, pc2, rfl, hrd2⟩, S2, K2⟩
 unfold repCells Raw.cells Nums.cells
 dsimp only [List.cons_append, List.nil_append, List.length_nil]
 obtain ⟨v2, hv2, T2, k2, q2, sz2, bl2⟩ := rep_box S2 #[.int .i64 0, .string (bs pN0), .slice ra2 rn2 rc2, .int .u32 r21, .int .u32 r22, .int .u32 r23, .int .i64 r24, .int .u32 r25, .int .u64 r26, .int .u64 r27, .int .u64 r28, .slice ka2 0 kc2, .slice pa2 0 pc2] 43
 have HS2 := Lib.hid T2
 have HW2 := Lib.hid hv2
 have HN2 := Lib.hid hrd2
 have HK2 : Hid (v2.heap[s2.heap.size]? = some (.cells #[.int .i64 0, .string (bs pN0), .slice ra2 rn2 rc2, .int .u32 r21, .int .u32 r22, .int .u32 r23, .int .i64 r24, .int .u32 r25, .int .u64 r26, .int .u64 r27, .int .u64 r28, .slice ka2 0 kc2, .slice pa2 0 pc2] 43 (0, 0)) ∧ Kept (· = b) v1 v2 ∧ b < s2.heap.size ∧ s2.heap.size < v2.heap.size ∧ Kept (· = b) s2 v2 ∧ Kept (· = b) v1 s2) := Lib.hid ⟨k2, ((Kept.refl _ _).trans K2).trans q2, bl2, by omega, q2, K2⟩
 clear S2 K2 hv2 T2 k2 q2 sz2 bl2 hrd2
 go_upto_region 6 with fail
 rw [← HW2.out]
 go_wp2_with fail
 refine (HS2.out.good (by decide) ⟨1, pRN, none, 0, 0, 0, true, false, none, 0, 0⟩ wo3 who0 ⟨rfl, rfl, rfl, rfl, rfl, rfl, bytes_none _ _ _ _, fun _ => ⟨rfl, rfl⟩⟩ (by unfold Leafy; decide) rfl (Nat.le_of_ble_eq_true rfl) (M' := W3) (A := ⟨pN1, newN [] 3 who0 false, []⟩) (by decide) (by decide +kernel) rfl (by decide +kernel)).mono ?_
 rintro e s3 ⟨⟨⟨ra3, rn3, rc3, ⟨r31, r32, r33, r34, r35, r36, r37, r38⟩⟩, ka3, kc3, pa3, pc3, rfl, hrd3⟩, S3, K3⟩
 unfold repCells Raw.cells Nums.cells
 dsimp only [List.cons_append, List.nil_append, List.length_nil]
 obtain ⟨v3, hv3, T3, k3, q3, sz3, bl3⟩ := rep_box S3 #[.int .i64 0, .string (bs pN1), .slice ra3 rn3 rc3, .int .u32 r31, .int .u32 r32, .int .u32 r33, .int .i64 r34, .int .u32 r35, .int .u64 r36, .int .u64 r37, .int .u64 r38, .slice ka3 0 kc3, .slice pa3 0 pc3] 43
 have HS3 := Lib.hid T3
 have HW3 := Lib.hid hv3
 have HN3 := Lib.hid hrd3
 have HK3 : Hid (v3.heap[s3.heap.size]? = some (.cells #[.int .i64 0, .string (bs pN1), .slice ra3 rn3 rc3, .int .u32 r31, .int .u32 r32, .int .u32 r33, .int .i64 r34, .int .u32 r35, .int .u64 r36, .int .u64 r37, .int .u64 r38, .slice ka3 0 kc3, .slice pa3 0 pc3] 43 (0, 0)) ∧ Kept (· = b) v2 v3 ∧ b < s3.heap.size ∧ s3.heap.size < v3.heap.size ∧ Kept (· = b) s3 v3 ∧ Kept (· = b) v2 s3) := Lib.hid ⟨k3, ((Kept.refl _ _).trans K3).trans q3, bl3, by omega, q3, K3⟩
 clear S3 K3 hv3 T3 k3 q3 sz3 bl3 hrd3
 go_upto_region 7 with fail
 rw [← HW3.out]
 go_wp2_with fail
 obtain ⟨u4, hu4⟩ : ∃ u, u = v3.alloc (.cells #[.int .u8 121] 5 (1, 2)) := ⟨_, rfl⟩
 have hl4 : LeafO u4 (fun k => k < u4.heap.size) ⟨3, pRA, some ⟨v3.heap.size, 0, none⟩, 1, 1, 0, false, false, none, 0, 0⟩ wo4 := ⟨rfl, rfl, rfl, rfl, rfl, rfl, by rw [hu4]; exact bytes_one v3 121, fun h => by cases h⟩
 have HU4 := Lib.hid (And.intro hl4 (And.intro (HS3.out.below (w' := u4) (by rw [hu4]; exact belowA (Below.refl _ v3) _)) (show Kept (· = b) v3 u4 by rw [hu4]; exact Kept.ofBelow (belowA (Below.refl _ v3) _))))
 rw [← hu4]
 clear hl4 hu4
 refine (HU4.out.2.1.good (by decide) ⟨3, pRA, some ⟨v3.heap.size, 0, none⟩, 1, 1, 0, false, false, none, 0, 0⟩ wo4 who0 HU4.out.1 (by unfold Leafy; decide) rfl (Nat.le_of_ble_eq_true rfl) (M' := W4) (A := ⟨pRA, setN (nodeAt W3 pRA) [121] 4, []⟩) (by decide) (by decide +kernel) rfl (by decide +kernel)).mono ?_
 rintro e s4 ⟨⟨⟨ra4, rn4, rc4, ⟨r41, r42, r43, r44, r45, r46, r47, r48⟩⟩, ka4, kc4, pa4, pc4, rfl, hrd4⟩, S4, K4⟩
 unfold repCells Raw.cells Nums.cells
 dsimp only [List.cons_append, List.nil_append, List.length_nil]
 obtain ⟨v4, hv4, T4, k4, q4, sz4, bl4⟩ := rep_box S4 #[.int .i64 0, .string (bs pRA), .slice ra4 rn4 rc4, .int .u32 r41, .int .u32 r42, .int .u32 r43, .int .i64 r44, .int .u32 r45, .int .u64 r46, .int .u64 r47, .int .u64 r48, .slice ka4 0 kc4, .slice pa4 0 pc4] 43
 have HS4 := Lib.hid T4
 have HW4 := Lib.hid hv4
 have HN4 := Lib.hid hrd4
 have HK4 : Hid (v4.heap[s4.heap.size]? = some (.cells #[.int .i64 0, .string (bs pRA), .slice ra4 rn4 rc4, .int .u32 r41, .int .u32 r42, .int .u32 r43, .int .i64 r44, .int .u32 r45, .int .u64 r46, .int .u64 r47, .int .u64 r48, .slice ka4 0 kc4, .slice pa4 0 pc4] 43 (0, 0)) ∧ Kept (· = b) v3 v4 ∧ b < s4.heap.size ∧ s4.heap.size < v4.heap.size ∧ Kept (· = b) s4 v4 ∧ Kept (· = b) u4 s4) := Lib.hid ⟨k4, (HU4.out.2.2.trans K4).trans q4, bl4, by omega, q4, K4⟩
 clear S4 K4 hv4 T4 k4 q4 sz4 bl4 hrd4
 go_upto_region 8 with fail
 rw [← HW4.out]
 go_wp2_with fail
 refine (HS4.out.bad (by decide) ⟨3, pRA, none, 0, 0, 0, false, false, none, 0, 0⟩ wo5 who0 ⟨rfl, rfl, rfl, rfl, rfl, rfl, bytes_none _ _ _ _, fun _ => ⟨rfl, rfl⟩⟩ (by unfold Leafy; decide) rfl (Nat.le_of_ble_eq_true rfl) (x := 35) (by decide +kernel) (by decide)).mono ?_
 rintro e s5 ⟨⟨⟨ra5, rn5, rc5, ⟨r51, r52, r53, r54, r55, r56, r57, r58⟩⟩, ka5, kc5, pa5, pc5, rfl, hrd5⟩, S5, K5⟩
 unfold repCells Raw.cells Nums.cells
 dsimp only [List.cons_append, List.nil_append, List.length_nil]
 obtain ⟨v5, hv5, T5, k5, q5, sz5, bl5⟩ := rep_box S5 #[.int .i64 35, .string (bs []), .slice ra5 rn5 rc5, .int .u32 r51, .int .u32 r52, .int .u32 r53, .int .i64 r54, .int .u32 r55, .int .u64 r56, .int .u64 r57, .int .u64 r58, .slice ka5 0 kc5, .slice pa5 0 pc5] 43
 have HS5 := Lib.hid T5
 have HW5 := Lib.hid hv5
 have HN5 := Lib.hid hrd5
 have HK5 : Hid (v5.heap[s5.heap.size]? = some (.cells #[.int .i64 35, .string (bs []), .slice ra5 rn5 rc5, .int .u32 r51, .int .u32 r52, .int .u32 r53, .int .i64 r54, .int .u32 r55, .int .u64 r56, .int .u64 r57, .int .u64 r58, .slice ka5 0 kc5, .slice pa5 0 pc5] 43 (0, 0)) ∧ Kept (· = b) v4 v5 ∧ b < s5.heap.size ∧ s5.heap.size < v5.heap.size ∧ Kept (· = b) s5 v5 ∧ Kept (· = b) v4 s5) := Lib.hid ⟨k5, ((Kept.refl _ _).trans K5).trans q5, bl5, by omega, q5, K5⟩
 clear S5 K5 hv5 T5 k5 q5 sz5 bl5 hrd5
 go_upto_region 9 with fail
 rw [← HW5.out]
 have g45 : Kept (· = b) v4 v5 := HK5.out.2.1
 have g35 : Kept (· = b) v3 v5 := HK4.out.2.1.trans g45
 have g25 : Kept (· = b) v2 v5 := HK3.out.2.1.trans g35
 have g15 : Kept (· = b) v1 v5 := HK2.out.2.1.trans g25
 have c1 := (g15.block s1.heap.size HK1.out.2.2.2.1 (fun e => by have e : s1.heap.size = b := e; have := HK1.out.2.2.1; omega)).trans HK1.out.1
 have c2 := (g25.block s2.heap.size HK2.out.2.2.2.1 (fun e => by have e : s2.heap.size = b := e; have := HK2.out.2.2.1; omega)).trans HK2.out.1
 have c3 := (g35.block s3.heap.size HK3.out.2.2.2.1 (fun e => by have e : s3.heap.size = b := e; have := HK3.out.2.2.1; omega)).trans HK3.out.1
 have c4 := (g45.block s4.heap.size HK4.out.2.2.2.1 (fun e => by have e : s4.heap.size = b := e; have := HK4.out.2.2.1; omega)).trans HK4.out.1
 have c5 := HK5.out.1
 have z10 : v5.cell? ⟨s1.heap.size, 0, none⟩ = some (.int .i64 0) := cell_of_row _ _ 0 _ 43 (0, 0) c1
 have z11 : v5.cell? ⟨s1.heap.size, 1, none⟩ = some (.string (bs pRA)) := cell_of_row _ _ 1 _ 43 (0, 0) c1
 have z21 : v5.cell? ⟨s2.heap.size, 1, none⟩ = some (.string (bs pN0)) := cell_of_row _ _ 1 _ 43 (0, 0) c2
 have z31 : v5.cell? ⟨s3.heap.size, 1, none⟩ = some (.string (bs pN1)) := cell_of_row _ _ 1 _ 43 (0, 0) c3
 have z40 : v5.cell? ⟨s4.heap.size, 0, none⟩ = some (.int .i64 0) := cell_of_row _ _ 0 _ 43 (0, 0) c4
 have z42 : v5.cell? ⟨s4.heap.size, 2, none⟩ = some (.slice ra4 rn4 rc4) := cell_of_row _ _ 2 _ 43 (0, 0) c4
 have hv41 : r41 = 1 := (congrArg Nums.ver HN4.out.num).trans (by decide +kernel)
 have z43 : v5.cell? ⟨s4.heap.size, 3, none⟩ = some (.int .u32 1) := by rw [← hv41]; exact cell_of_row _ _ 3 _ 43 (0, 0) c4
 have z50 : v5.cell? ⟨s5.heap.size, 0, none⟩ = some (.int .i64 35) := cell_of_row _ _ 0 _ 43 (0, 0) c5
 have hrd5 := HN4.out.keptS (HK4.out.2.2.2.2.1.trans g45) (fun k h1 _ e => by have e : k = b := e; have h1 : u4.heap.size ≤ k := h1; have := HU4.out.2.1.tr.lt; omega)
 have q4 := conv_len (D := [121]) hrd5.len hrd5.data hrd5.nil
 have t1 : (bs pRA).toList = [47, 114, 47, 97] := toList_bs _
 have t2 : (bs pN0).toList = [47, 114, 47, 110, 48, 48, 48, 48, 48, 48, 48, 48, 48, 48] := toList_bs _
 have t3 : (bs pN1).toList = [47, 114, 47, 110, 48, 48, 48, 48, 48, 48, 48, 48, 48, 49] := toList_bs _
 have t4 : (bs [121]).toList = [121] := toList_bs _
 have HG := Lib.hid (HK1.out.2.1.trans g15)
 clear g45 g35 g25 g15 c1 c2 c3 c4 c5 hv41 hrd5 hcv
 go_wp2_with fail
 refine HS5.out.tr.at_any.mono ?_
 rintro e v6 ⟨rfl, rfl⟩
 go_wp2
 go_ret
 exact ⟨rfl, HB1.out.2.trans (HG.out.below HB1.out.2.size (fun k e => by have e : k = b := e; have := HB1.out.1; omega))⟩
end Go.Proofs.YtnclkfhdpkkakaaGreatDoor
namespace Go.Proofs.YtnclkfhdpkkakaaGreatDoor
set_option linter.unusedVariables false
set_option linter.unusedSimpArgs false
open Go Go.RowKit Go.ChangeShapes Go.WideShapes Go.Deep
section
variable {H : Type} {enc : TypeId × Value → H} {P : Program} {w : World} {base : Nat} {spare : Nat → Bool} {held : Bool}
theorem rows_openF {t e : TypeId} (ht : P.underlying t = some (.slice e)) {K : Nat} (hK : P.cellsOf e = K) (hpos : 0 < K) {fuel : Nat} {cs : List Value} {x : DataW H × List MemPlace}
  (h : DataW.trod enc P w base spare held fuel t cs = some x) :
  ∃ ao len cap m, cs = [.slice ao len cap] ∧ len ≤ cap ∧ cap ≤ maxLen ∧ (len = 0 ∨ fuel = m + 1) ∧ ∀ i, i < len → ∃ b off cs' y, ao = some ⟨b, off, none⟩ ∧ b < w.heap.size ∧ cs'.length = K ∧ w.rangeAt b (off + i * K) cs' ∧ DataW.trod enc P w base spare held m e cs' = some y := by
 rcases DataW.trod_slice ht h with ⟨rfl, _⟩ | ⟨a, len, cap, elems, rest, n, hfu, rfl, _, _, hl, hm, hlen, hel, _, _⟩
 ·exact ⟨none, 0, 0, 0, rfl, Nat.le_refl _, Nat.zero_le _, .inl rfl, fun i hi => absurd hi (Nat.not_lt_zero _)⟩
 ·have hget : ∀ i, i < len → ∃ cs' y, w.cells? base (a.add (i * P.cellsOf e)) (P.cellsOf e) = some cs' ∧ DataW.trod enc P w base spare held n e cs' = some y := fun i hi => by
   have h1 := hel i hi
   rw [List.getElem?_eq_getElem (by omega)] at h1
   obtain ⟨cs', h2, h3⟩ := Option.bind_eq_some_iff.1 h1
   exact ⟨cs', _, h2, h3⟩
  refine ⟨some a, len, cap, n, rfl, hl, hm, .inr hfu, fun i hil => ?_⟩
  have hsp : a.spot = none := by
   obtain ⟨cs0, _, hc0, _⟩ := hget 0 (by omega)
   obtain ⟨_, hl0, hat0⟩ := World.cells?_some hc0
   rw [hK] at hl0 hat0
   have g := hat0 0 hpos
   rw [List.getElem?_eq_getElem (by omega)] at g
   cases hs : a.spot with
   | none => rfl
   | some q =>
    exfalso
    simp only [Nat.zero_mul, Addr.add, if_true] at g
    simp only [World.cell?, hs, Option.isSome_some, if_true] at g
    split at g <;> cases g
  obtain ⟨b, off, spot⟩ := a
  dsimp only at hsp
  subst hsp
  obtain ⟨cs', y, hc, htr⟩ := hget i hil
  obtain ⟨_, hlen2, hat⟩ := World.cells?_some hc
  rw [hK] at hlen2 hat
  have hcell : w.rangeAt b (off + i * K) cs' := by
   intro j v hv
   have hj : j < K := by rw [← hlen2]; exact (List.getElem?_eq_some_iff.1 hv).1
   have g := hat j hj
   rw [hv, add_add, Addr.add_mid] at g
   rw [Nat.add_assoc]
   exact g
  refine ⟨b, off, cs', y, rfl, ?_, hlen2, hcell, htr⟩
  obtain ⟨v, hv⟩ : ∃ v, cs'[0]? = some v := ⟨_, List.getElem?_eq_getElem (by omega)⟩
  exact World.block_lt_of_cell? w _ (hcell 0 v hv)
end
structure OpOk (w : World) (r : RawO) (o : Opl) : Prop where
 leaf : LeafO w (fun k => k < w.heap.size) r o
 kind : 0 ≤ r.kind ∧ r.kind ≤ 255
 ver : I64 r.ver
 path : o.path.length ≤ maxLen
 dn : r.dn ≤ maxLen
 dc : r.dn ≤ r.dc
 pn : r.pn ≤ maxLen
def OpsAt (w : World) : Nat → Option Addr → List RawO → Prop
 | 0, _, R => R = []
 | n + 1, pa, R => ∀ (k : Nat) r, R[k]? = some r → ∃ (b off : Nat) (o : Opl) (Q : List RawO), pa = some ⟨b, off, none⟩ ∧ b < w.heap.size ∧ w.rangeAt b (off + k * 7) r.cells ∧ OpOk w r o ∧ r.pn = Q.length ∧ OpsAt w n r.pa Q
theorem OpsAt.up {w : World} : ∀ {n : Nat} {pa : Option Addr} {R : List RawO}, OpsAt w n pa R → OpsAt w (n + 1) pa R
 | 0, pa, R, h => by
  have h : R = [] := h
  subst h
  exact fun k r hk => by simp at hk
 | n + 1, pa, R, h => fun k r hk => by
  obtain ⟨b, off, o, Q, h1, h2, h3, h4, h5, h6⟩ := h k r hk
  exact ⟨b, off, o, Q, h1, h2, h3, h4, h5, h6.up⟩
def RawO.info (r : RawO) : PartI := ⟨r.kind, r.dn, r.pn⟩
theorem OpsAt.chk {w : World} : ∀ {n : Nat} {pa : Option Addr} {R : List RawO}, OpsAt w n pa R → OpAtN w n pa (R.map RawO.info)
 | 0, pa, R, h => by
  have h : R = [] := h
  subst h
  rfl
 | n + 1, pa, R, h => fun k i hk => by
  rw [List.getElem?_map] at hk
  obtain ⟨r, hr, rfl⟩ := Option.map_eq_some_iff.1 hk
  obtain ⟨b, off, o, Q, h1, h2, h3, h4, h5, h6⟩ := h k r hr
  exact ⟨b, off, r, Q.map RawO.info, h1, h2, h3, rfl, by rw [List.length_map]; exact h5, h4.dn, h6.chk⟩
theorem OpOk.below {w w' : World} {r : RawO} {o : Opl} (h : OpOk w r o) (hb : Below w.heap.size w w') : OpOk w' r o :=
 ⟨h.leaf.lift hb, h.kind, h.ver, h.path, h.dn, h.dc, h.pn⟩
theorem OpsAt.below {w w' : World} (hb : Below w.heap.size w w') : ∀ {n : Nat} {pa : Option Addr} {R : List RawO}, OpsAt w n pa R → OpsAt w' n pa R
 | 0, _, _, h => h
 | n + 1, pa, R, h => fun k r hk => by
  obtain ⟨b, off, o, Q, h1, h2, h3, h4, h5, h6⟩ := h k r hk
  exact ⟨b, off, o, Q, h1, Nat.lt_of_lt_of_le h2 hb.size, range_kept h3 hb h2, h4.below hb, h5, h6.below hb⟩
theorem cellsOp : Tryz.prog.cellsOf 26 = 7 := by kernel_rfl
theorem cellsOps : Tryz.prog.cellsOf 24 = 1 := by kernel_rfl
theorem cellsI64 : Tryz.prog.cellsOf 2 = 1 := by kernel_rfl
section
variable {H : Type} {enc : TypeId × Value → H} {w : World} {base : Nat} {spare : Nat → Bool} {held : Bool}
set_option maxRecDepth 100000 in
theorem op_open : ∀ (fuel : Nat) {cs : List Value} {y : DataW H × List MemPlace}, DataW.trod enc Tryz.prog w base spare held fuel 26 cs = some y →
  ∃ (r : RawO) (o : Opl) (Q : List RawO), cs = r.cells ∧ OpOk w r o ∧ r.pn = Q.length ∧ OpsAt w fuel r.pa Q := by
 intro fuel
 induction fuel using Nat.strongRecOn with
 | ind fuel ih =>
 intro cs y h
 obtain ⟨xs, n, hfu, _, hl, hx, hf⟩ := DataW.trod_struct Tryz.underlying26 h
 rw [cellsOp] at hl
 match cs, hl with
 | [c0, c1, c2, c3, c4, c5, c6], _ =>
  match xs, hx with
  | [y0, y1, y2, y3, y4, y5, y6], _ =>
   have g0 : DataW.trod enc Tryz.prog w base spare held n 5 (([c0, c1, c2, c3, c4, c5, c6].drop 0).take (Tryz.prog.cellsOf 5)) = some y0 := hf 0 _ rfl
   have g1 : DataW.trod enc Tryz.prog w base spare held n 9 (([c0, c1, c2, c3, c4, c5, c6].drop 1).take (Tryz.prog.cellsOf 9)) = some y1 := hf 1 _ rfl
   have g2 : DataW.trod enc Tryz.prog w base spare held n 23 (([c0, c1, c2, c3, c4, c5, c6].drop 2).take (Tryz.prog.cellsOf 23)) = some y2 := hf 2 _ rfl
   have g3 : DataW.trod enc Tryz.prog w base spare held n 2 (([c0, c1, c2, c3, c4, c5, c6].drop 3).take (Tryz.prog.cellsOf 2)) = some y3 := hf 3 _ rfl
   have g4 : DataW.trod enc Tryz.prog w base spare held n 4 (([c0, c1, c2, c3, c4, c5, c6].drop 4).take (Tryz.prog.cellsOf 4)) = some y4 := hf 4 _ rfl
   have g5 : DataW.trod enc Tryz.prog w base spare held n 4 (([c0, c1, c2, c3, c4, c5, c6].drop 5).take (Tryz.prog.cellsOf 4)) = some y5 := hf 5 _ rfl
   have g6 : DataW.trod enc Tryz.prog w base spare held n 24 (([c0, c1, c2, c3, c4, c5, c6].drop 6).take (Tryz.prog.cellsOf 24)) = some y6 := hf 6 _ rfl
   rw [cellsByte] at g0
   rw [cellsStr] at g1
   rw [cellsBytes] at g2
   rw [cellsI64] at g3
   rw [cellsBoo] at g4 g5
   rw [cellsOps] at g6
   obtain ⟨k, e0, _, w0⟩ := DataW.trod_int Tryz.underlying5 g0
   obtain ⟨sx, e1, _, hs⟩ := DataW.trod_string Tryz.underlying9 g1
   obtain ⟨p, rfl⟩ := str_open sx
   obtain ⟨ao, c, D, e2, b1, b2, b3, b4⟩ := bytes_open g2
   obtain ⟨v, e3, _, w3⟩ := DataW.trod_int Tryz.underlying2 g3
   obtain ⟨sq, e4, _⟩ := DataW.trod_bool Tryz.underlying4 g4
   obtain ⟨ep, e5, _⟩ := DataW.trod_bool Tryz.underlying4 g5
   obtain ⟨pa, len, cap, m, e6, l1, l2, hm, hi⟩ := rows_openF (P := Tryz.prog) Tryz.underlying24 cellsOp (by omega) g6
   obtain ⟨Q, hQ, hat⟩ := list_of (fun i (r : RawO) => ∃ (b off : Nat) (o : Opl) (Q : List RawO), pa = some ⟨b, off, none⟩ ∧ b < w.heap.size ∧ w.rangeAt b (off + i * 7) r.cells ∧ OpOk w r o ∧ r.pn = Q.length ∧ OpsAt w m r.pa Q) len (fun i hil => by
    obtain ⟨b, off, cs', y', h1, h2, h3, h4, h5⟩ := hi i hil
    obtain ⟨r, o, Q, rfl, h6, h7, h8⟩ := ih m (by rcases hm with h | h <;> omega) h5
    exact ⟨r, b, off, o, Q, h1, h2, h4, h6, h7, h8⟩)
   simp at e0 e1 e2 e3 e4 e5 e6
   subst e0 e1 e2 e3 e4 e5 e6
   rw [size_bs] at hs
   refine ⟨⟨k, p, ao, D.length, c, v, sq, ep, pa, len, cap⟩, ⟨k, p, D, v, sq, ep⟩, Q, rfl, ⟨⟨rfl, rfl, rfl, rfl, rfl, rfl, fun j x hj => ?_, b4⟩, wf_u8 w0, i64_of w3, hs, Nat.le_trans b1 b2, b1, Nat.le_trans l1 l2⟩, hQ.symm, ?_⟩
   ·obtain ⟨b, off, h1, _, h3, h4⟩ := b3 j x hj
    exact ⟨b, off, h1, h3, h3, h4⟩
   ·rcases hm with h0 | h0
    ·have : Q = [] := List.eq_nil_of_length_eq_zero (by omega)
     subst this
     rw [hfu]
     exact fun k r hk => by simp at hk
    ·rw [hfu, h0]
     exact OpsAt.up (n := m + 1) hat
end
end Go.Proofs.YtnclkfhdpkkakaaGreatDoor
namespace Go.Proofs.YtnclkfhdpkkakaaGreatDoor
set_option linter.unusedVariables false
set_option linter.unusedSimpArgs false
open Go Go.RowKit Go.Shelf Go.MapKept Go.ChangeMaps Go.Maps Go.Sort
structure OpIn (w : World) (r : RawO) (o : OpV) (ce : Int) : Prop where
 leaf : LeafO w (fun k => k < w.heap.size) r o.leaf
 chk : ∀ w', Below w.heap.size w w' → Calls Tryz.prog 22 #[r.val] w' (CheckIs w' ce)
 good : ce = 0 → (o.leaf.kind ≠ 7 ∧ r.pn = 0 ∧ Leafy o.leaf) ∨ (o.leaf.kind = 7 ∧ r.pn = o.parts.length ∧ o.parts.length ≤ 6 ∧ PartsAt w r.pa o.parts)
theorem PartsAt.below {w w' : World} {pa : Option Addr} {Q : List Opl} (h : PartsAt w pa Q) (hb : Below w.heap.size w w') : PartsAt w' pa Q := fun k p hk => by
 obtain ⟨g, off, r, h1, h2, h3, h4, h5⟩ := h k p hk
 exact ⟨g, off, r, h1, Nat.lt_of_lt_of_le h2 hb.size, range_kept h3 hb h2, h4.lift hb, h5⟩
theorem OpIn.below {w w' : World} {r : RawO} {o : OpV} {ce : Int} (h : OpIn w r o ce) (hb : Below w.heap.size w w') : OpIn w' r o ce :=
 ⟨h.leaf.lift hb, fun w2 hb2 => h.chk w2 (hb.trans (hb2.mono hb.size)), fun h0 => (h.good h0).imp id (fun h => ⟨h.1, h.2.1, h.2.2.1, h.2.2.2.below hb⟩)⟩
theorem OpIn.fine {w : World} {r : RawO} {o : OpV} {ce : Int} (h : OpIn w r o ce) (h0 : ce = 0) : o.fine ∧ o.seq.length ≤ 6 := by
 rcases h.good h0 with ⟨hk, _, hl⟩ | ⟨hk, _, h6, hp⟩
 ·have hs : o.seq = [o.leaf] := by unfold OpV.seq; rw [if_neg hk]
  refine ⟨fun p hp => ?_, by rw [hs]; simp⟩
  rw [hs] at hp
  simp at hp
  rw [hp]
  exact hl
 ·have hs : o.seq = o.parts := by unfold OpV.seq; rw [if_pos hk]
  refine ⟨fun p hq => ?_, by rw [hs]; exact h6⟩
  rw [hs] at hq
  obtain ⟨k, hk⟩ := List.mem_iff_getElem?.1 hq
  obtain ⟨_, _, _, _, _, _, _, h7⟩ := hp k p hk
  exact h7
theorem OpIn.xlen {w : World} {r : RawO} {o : OpV} {ce : Int} (h : OpIn w r o ce) (root : Bytes) (M : List (Bytes × Nd)) (at_ : Int) (who : Sess) : (doX root M at_ who ce o).length ≤ 12 := by
 unfold doX
 by_cases hE : doE root M at_ who ce o = 0
 ·rw [if_neg (by simpa using hE)]
  have h0 : ce = 0 := by
   by_cases h0 : ce = 0
   ·exact h0
   ·unfold doE at hE
    rw [if_pos h0] at hE
    exact absurd hE h0
  have h1 := runX_len (root := root) (at_ := at_ + 1) (who := who) o.seq M
  have h2 := (h.fine h0).2
  omega
 ·rw [if_pos hE]
  simp
section
variable {w0 w : World} {b : Nat} {root : Bytes} {at_ : Int} {M : List (Bytes × Nd)}
theorem Nice.does {ce : Int} {who : Sess} {o : OpV} (h : Nice M) : Nice (doM root M at_ who ce o) := by
 unfold doM
 split
 ·exact h
 ·exact Nice.run _ h
theorem St.do_op (S : St w0 w b root at_ M) (h1 : at_ ≤ 90000) {r : RawO} {o : OpV} {ce : Int} (h : OpIn w r o ce) (who : Sess) :
  Calls Tryz.prog 14 #[.pointer (some ⟨b, 0, none⟩), r.val, whoV who] w (DoEnd w root M at_ who ce o) := by
 by_cases h0 : ce = 0
 ·subst h0
  rcases h.good rfl with hg | hg
  ·exact Go.Proofs.YtnclkfhdpkkakaaGreatDoor.do_leaf S.tr S.inv S.tr.max S.lo h1 S.nice S.pow r o who h.leaf h.chk hg
  ·exact do_multi S.tr S.inv S.tr.max S.lo h1 S.nice S.pow r o who h.leaf h.chk hg
 ·exact do_bad r o who ce h.chk h0
end
theorem OpsAt.plain {w : World} {n : Nat} {pa : Option Addr} {Q : List RawO} (h : OpsAt w n pa Q) : ∃ ps : List Opl, ps.length = Q.length ∧ ∀ (k : Nat) q, Q[k]? = some q → ∃ p, ps[k]? = some p ∧ OpOk w q p ∧ (∃ b off, pa = some ⟨b, off, none⟩ ∧ b < w.heap.size ∧ w.rangeAt b (off + k * 7) q.cells) := by
 obtain ⟨ps, hl, hat⟩ := list_of (fun i (p : Opl) => ∃ q, Q[i]? = some q ∧ OpOk w q p ∧ (∃ b off, pa = some ⟨b, off, none⟩ ∧ b < w.heap.size ∧ w.rangeAt b (off + i * 7) q.cells)) Q.length (fun i hi => by
  obtain ⟨q, hq⟩ : ∃ q, Q[i]? = some q := ⟨_, List.getElem?_eq_getElem hi⟩
  cases n with
  | zero =>
   have h : Q = [] := h
   subst h
   simp at hi
  | succ n =>
   obtain ⟨b, off, o, _, h1, h2, h3, h4, _, _⟩ := h i q hq
   exact ⟨o, q, hq, h4, b, off, h1, h2, h3⟩)
 refine ⟨ps, hl, fun k q hq => ?_⟩
 have hk := (List.getElem?_eq_some_iff.1 hq).1
 obtain ⟨p, hp⟩ : ∃ p, ps[k]? = some p := ⟨_, List.getElem?_eq_getElem (by rw [hl]; exact hk)⟩
 obtain ⟨q', hq', h1, h2⟩ := hat k p hp
 rw [hq] at hq'
 cases hq'
 exact ⟨p, hp, h1, h2⟩
def ceOf (r : RawO) (Q : List RawO) : Int := checkE r.kind r.dn (Q.map RawO.info)
theorem opIn_of {w : World} {n : Nat} {r : RawO} {o : Opl} {Q : List RawO} {ps : List Opl} (h : OpOk w r o) (hpn : r.pn = Q.length) (hat : OpsAt w n r.pa Q) (hl : ps.length = Q.length)
  (hps : ∀ (k : Nat) q, Q[k]? = some q → ∃ p, ps[k]? = some p ∧ OpOk w q p ∧ (∃ b off, r.pa = some ⟨b, off, none⟩ ∧ b < w.heap.size ∧ w.rangeAt b (off + k * 7) q.cells))
  (hp : o.path.length ≤ 900) (hpp : ∀ p ∈ ps, p.path.length ≤ 900) : OpIn w r ⟨o, ps⟩ (ceOf r Q) := by
 refine ⟨h.leaf, fun w' hb => ?_, fun h0 => ?_⟩
 ·exact check_any n w' r (Q.map RawO.info) (by rw [List.length_map]; exact hpn) (hat.chk.below hb) h.dn
 ·unfold ceOf checkE at h0
  split at h0
  ·cases h0
  ·rename_i h1
   split at h0
   ·cases h0
   ·rename_i h2
    split at h0
    ·cases h0
    ·rename_i h3
     rw [List.length_map, ← hpn] at h1
     have hkd : r.kind = o.kind := h.leaf.kind
     have hdn : r.dn = o.data.length := h.leaf.len
     by_cases h7 : r.kind = 7
     ·refine .inr ⟨hkd ▸ h7, by rw [hl]; exact hpn, by show ps.length ≤ 6; omega, fun k p hk => ?_⟩
      have hkl := (List.getElem?_eq_some_iff.1 hk).1
      obtain ⟨q, hq⟩ : ∃ q, Q[k]? = some q := ⟨_, List.getElem?_eq_getElem (by rw [← hl]; exact hkl)⟩
      obtain ⟨p', hp', g1, b, off, g2, g3, g4⟩ := hps k q hq
      have e : p' = p := by
       have := hp'.symm.trans hk
       exact Option.some.inj this
      subst e
      have hmem : q.info ∈ Q.map RawO.info := List.mem_map_of_mem (List.mem_of_getElem? hq)
      have hbad : PartI.bad q.info = false := by
       cases hb : PartI.bad q.info with
       | false => rfl
       | true => exact absurd (List.any_eq_true.2 ⟨_, hmem, hb⟩) h2
      have hlong : PartI.long q.info = false := by
       cases hb : PartI.long q.info with
       | false => rfl
       | true => exact absurd (.inr (List.any_eq_true.2 ⟨_, hmem, hb⟩)) h3
      unfold PartI.bad RawO.info at hbad
      unfold PartI.long RawO.info at hlong
      simp at hbad hlong
      have e1 : q.kind = p'.kind := g1.leaf.kind
      have e2 : q.dn = p'.data.length := g1.leaf.len
      exact ⟨b, off, q, g2, g3, g4, g1.leaf, by omega, by omega, hpp p' (List.mem_of_getElem? hk), by omega⟩
     ·refine .inl ⟨fun e => h7 (hkd.trans e), ?_, ?_, ?_, hp, ?_⟩
      ·have hc : ¬ (decide (r.kind = 7) ≠ decide (0 < r.pn)) := fun e => h1 (.inr (.inr (.inr e)))
       rw [decide_eq_false h7] at hc
       have : ¬ (0 < r.pn) := fun e => hc (by rw [decide_eq_true e]; decide)
       omega
      ·show 1 ≤ o.kind
       omega
      ·show o.kind ≤ 6
       omega
      ·show o.data.length ≤ 1000000
       have : ¬ 64 < r.dn := fun e => h3 (.inl e)
       omega
end Go.Proofs.YtnclkfhdpkkakaaGreatDoor
namespace Go.Proofs.YtnclkfhdpkkakaaGreatDoor
set_option linter.unusedVariables false
set_option linter.unusedSimpArgs false
open Go Go.RowKit Go.Shelf Go.MapKept Go.ChangeMaps Go.Maps Go.Sort Go.ChangeShapes Go.WideShapes Go.Deep
structure AskRaw where
 r : RawO
 o : Opl
 Q : List RawO
 ps : List Opl
 who : Sess
def AskRaw.cells (x : AskRaw) : List Value := [.int .u8 x.r.kind, .string (bs x.r.path), .slice x.r.da x.r.dn x.r.dc, .int .i64 x.r.ver, .bool x.r.seq, .bool x.r.eph, .slice x.r.pa x.r.pn x.r.pc, .int .i64 x.who.site, .int .u32 x.who.n]
def SessOk (s : Sess) : Prop := (Lit.int .i64 s.site).wf = true ∧ (Lit.int .u32 s.n).wf = true
structure AskOk (w : World) (x : AskRaw) : Prop where
 ok : OpOk w x.r x.o
 sess : SessOk x.who
 pn : x.r.pn = x.Q.length
 ops : ∃ n, OpsAt w n x.r.pa x.Q
 pl : x.ps.length = x.Q.length
 parts : ∀ (k : Nat) q, x.Q[k]? = some q → ∃ p, x.ps[k]? = some p ∧ OpOk w q p ∧ (∃ b off, x.r.pa = some ⟨b, off, none⟩ ∧ b < w.heap.size ∧ w.rangeAt b (off + k * 7) q.cells)
def AsksAt (w : World) (a : Option Addr) (L : List AskRaw) : Prop := ∀ (k : Nat) x, L[k]? = some x → ∃ b off, a = some ⟨b, off, none⟩ ∧ b < w.heap.size ∧ w.rangeAt b (off + k * 9) x.cells ∧ AskOk w x
theorem AskOk.below {w w' : World} {x : AskRaw} (h : AskOk w x) (hb : Below w.heap.size w w') : AskOk w' x :=
 ⟨h.ok.below hb, h.sess, h.pn, h.ops.elim fun n hn => ⟨n, OpsAt.below hb hn⟩, h.pl, fun k q hq => by
  obtain ⟨p, h1, h2, b, off, h3, h4, h5⟩ := h.parts k q hq
  exact ⟨p, h1, h2.below hb, b, off, h3, Nat.lt_of_lt_of_le h4 hb.size, range_kept h5 hb h4⟩⟩
theorem AsksAt.below {w w' : World} {a : Option Addr} {L : List AskRaw} (h : AsksAt w a L) (hb : Below w.heap.size w w') : AsksAt w' a L := fun k x hx => by
 obtain ⟨b, off, h1, h2, h3, h4⟩ := h k x hx
 exact ⟨b, off, h1, Nat.lt_of_lt_of_le h2 hb.size, range_kept h3 hb h2, h4.below hb⟩
theorem cellsAsk : Tryz.prog.cellsOf 31 = 9 := by kernel_rfl
section
variable {H : Type} {enc : TypeId × Value → H} {w : World} {base : Nat} {spare : Nat → Bool} {held : Bool}
set_option maxRecDepth 100000 in
theorem who_open {fuel : Nat} {cs : List Value} {y : DataW H × List MemPlace} (h : DataW.trod enc Tryz.prog w base spare held fuel 29 cs = some y) : ∃ who : Sess, cs = [.int .i64 who.site, .int .u32 who.n] ∧ SessOk who := by
 obtain ⟨xs, n, hfu, _, hl, hx, hf⟩ := DataW.trod_struct Tryz.underlying29 h
 rw [cellsSess] at hl
 match cs, hl with
 | [c0, c1], _ =>
  match xs, hx with
  | [y0, y1], _ =>
   have g0 : DataW.trod enc Tryz.prog w base spare held n 3 (([c0, c1].drop 0).take (Tryz.prog.cellsOf 3)) = some y0 := hf 0 _ rfl
   have g1 : DataW.trod enc Tryz.prog w base spare held n 27 (([c0, c1].drop 1).take (Tryz.prog.cellsOf 27)) = some y1 := hf 1 _ rfl
   rw [cellsInt] at g0
   rw [cellsU32] at g1
   obtain ⟨k, e0, _, w0⟩ := DataW.trod_int Tryz.underlying3 g0
   obtain ⟨n, e1, _, w1⟩ := DataW.trod_int Tryz.underlying27 g1
   simp at e0 e1
   subst e0 e1
   exact ⟨⟨k, n⟩, rfl, w0, w1⟩
set_option maxRecDepth 100000 in
theorem ask_open {fuel : Nat} {cs : List Value} {y : DataW H × List MemPlace} (h : DataW.trod enc Tryz.prog w base spare held fuel 31 cs = some y) : ∃ x : AskRaw, cs = x.cells ∧ AskOk w x := by
 obtain ⟨xs, n, hfu, _, hl, hx, hf⟩ := DataW.trod_struct Tryz.underlying31 h
 rw [cellsAsk] at hl
 match cs, hl with
 | [c0, c1, c2, c3, c4, c5, c6, c7, c8], _ =>
  match xs, hx with
  | [y0, y1], _ =>
   have g0 : DataW.trod enc Tryz.prog w base spare held n 26 (([c0, c1, c2, c3, c4, c5, c6, c7, c8].drop 0).take (Tryz.prog.cellsOf 26)) = some y0 := hf 0 _ rfl
   have g1 : DataW.trod enc Tryz.prog w base spare held n 29 (([c0, c1, c2, c3, c4, c5, c6, c7, c8].drop 7).take (Tryz.prog.cellsOf 29)) = some y1 := hf 1 _ rfl
   rw [cellsOp] at g0
   rw [cellsSess] at g1
   obtain ⟨r, o, Q, e0, h1, h2, h3⟩ := op_open n g0
   obtain ⟨who, e1, hw⟩ := who_open g1
   obtain ⟨ps, h4, h5⟩ := h3.plain
   obtain ⟨ok, op, oa, on, oc, ov, os, oe, qa, qn, qc⟩ := r
   unfold RawO.cells at e0
   simp at e0 e1
   obtain ⟨rfl, rfl, rfl, rfl, rfl, rfl, rfl⟩ := e0
   obtain ⟨rfl, rfl⟩ := e1
   exact ⟨⟨_, o, Q, ps, who⟩, rfl, h1, hw, h2, ⟨n, h3⟩, h4, h5⟩
theorem asks_open {fuel : Nat} {cs : List Value} {y : DataW H × List MemPlace} (h : DataW.trod enc Tryz.prog w base spare held fuel 22 cs = some y) : ∃ a c L, cs = [.slice a (L : List AskRaw).length c] ∧ L.length ≤ maxLen ∧ AsksAt w a L := by
 obtain ⟨a, len, cap, m, rfl, l1, l2, _, hi⟩ := rows_openF (P := Tryz.prog) Tryz.underlying22 cellsAsk (by omega) h
 obtain ⟨L, hL, hat⟩ := list_of (fun i (x : AskRaw) => ∃ b off, a = some ⟨b, off, none⟩ ∧ b < w.heap.size ∧ w.rangeAt b (off + i * 9) x.cells ∧ AskOk w x) len (fun i hil => by
  obtain ⟨b, off, cs', y', h1, h2, h3, h4, h5⟩ := hi i hil
  obtain ⟨x, rfl, h6⟩ := ask_open h5
  exact ⟨x, b, off, h1, h2, h4, h6⟩)
 exact ⟨a, cap, L, by rw [hL], by rw [hL]; exact Nat.le_trans l1 l2, hat⟩
end
def partGreat (p : RawO) : Bool := decide (200 < p.path.length) || decide (200 < p.dn) || decide (2 < p.pn)
def askGreat (x : AskRaw) : Bool := decide (200 < x.r.path.length) || decide (200 < x.r.dn) || decide (10 < x.r.pn) || x.Q.any partGreat
def greatL (L : List AskRaw) : Bool := decide (60 < L.length) || L.any askGreat
end Go.Proofs.YtnclkfhdpkkakaaGreatDoor
namespace Go.Proofs.YtnclkfhdpkkakaaGreatDoor
set_option linter.unusedVariables false
set_option linter.unusedSimpArgs false
open Go Go.RowKit Go.Shelf Go.MapKept Go.ChangeMaps Go.Maps Go.Sort
theorem great_of {L : List AskRaw} {k : Nat} {x : AskRaw} (hx : L[k]? = some x) (h : askGreat x = true) : greatL L = true := by
 unfold greatL
 rw [List.any_eq_true.2 ⟨x, List.mem_of_getElem? hx, h⟩]
 simp
theorem any_next {α : Type} {f : α → Bool} {P : List α} {k : Nat} {i : α} (h : P[k]? = some i) : (P.take (k + 1)).any f = ((P.take k).any f || f i) := by
 rw [List.take_add_one, h]
 simp
set_option maxRecDepth 100000 in
set_option maxHeartbeats 16000000 in
theorem asks_great (w : World) (a : Option Addr) (c : Nat) (L : List AskRaw) (hat : AsksAt w a L) (hl : L.length ≤ maxLen) :
  Calls Tryz.prog 12 #[.slice a L.length c] w fun e w' => e = .returned (.bool (greatL L)) ∧ Below w.heap.size w w' := by
 obtain ⟨n, hn⟩ : ∃ n, n = L.length := ⟨_, rfl⟩
 rw [← hn]
 rw [← hn] at hl
 unfold maxLen at hl
 obtain ⟨G, hGd⟩ : ∃ G, G = greatL L := ⟨_, rfl⟩
 rw [← hGd]
 have HG := Lib.hid hGd
 clear hGd
 have HA := Lib.hid (And.intro hat hn)
 have HSO : Hid ((Tryz.prog.info? 26).map (·.size) = some 7) := Lib.hid (by kernel_rfl)
 clear hat hn
 by_cases h60 : 60 < n
 ·have hG : G = true := by rw [HG.out]; unfold greatL; rw [← HA.out.2, decide_eq_true h60]; rfl
  have t1 : decide ((60 : Int) < (n : Int)) = true := by simp; omega
  subst hG
  clear h60
  go_enter Tryz.func12, Tryz.ntmps12
  go_wp2
  go_ret
  exact ⟨rfl, Below.refl _ _⟩
 have t0 : decide ((60 : Int) < (n : Int)) = false := by simp; omega
 have H60 := Lib.hid h60
 have hn60 : n ≤ 60 := by omega
 clear h60 hl
 go_enter Tryz.func12, Tryz.ntmps12
 go_wp2_with fail
 go_loopw [3] (fun iv wr => ∃ k : Nat, k ≤ n ∧ iv = .int .i64 k ∧ Hid (Below w.heap.size w wr ∧ (L.take k).any askGreat = false)) (fun iv _ => n - (intOf iv).toNat)
 case atStart => exact ⟨0, by omega, rfl, Lib.hid ⟨Below.refl _ _, rfl⟩⟩
 case round =>
  obtain ⟨k, hk, rfl, HS⟩ := hrel
  by_cases hlt : k < n
  ·obtain ⟨x, hx⟩ : ∃ x, L[k]? = some x := ⟨_, List.getElem?_eq_getElem (by rw [← HA.out.2]; exact hlt)⟩
   obtain ⟨b, off, ha, hb, hrg, hok⟩ := HA.out.1 k x hx
   subst ha
   obtain ⟨⟨ok, op, oa, on, oc, ov, os, oe, qa, qn, qc⟩, o, Q, ps, ⟨s, sn⟩⟩ := x
   have hrw := range_kept hrg HS.out.1 hb
   unfold AskRaw.cells at hrg hrw
   dsimp only at hrg hrw
   have y1 : wr.cell? ⟨b, off + k * 9 + 1, none⟩ = some (.string (bs op)) := hrw 1 _ rfl
   have y2 : wr.cell? ⟨b, off + k * 9 + 2, none⟩ = some (.slice oa on oc) := hrw 2 _ rfl
   have y6 : wr.cell? ⟨b, off + k * 9 + 6, none⟩ = some (.slice qa qn qc) := hrw 6 _ rfl
   have HX := Lib.hid (And.intro hx (And.intro hb (And.intro hrg hok)))
   have HBF := Lib.hid HS.out.1
   have HLT := Lib.hid hlt
   have tlt : decide ((k : Int) < (n : Int)) = true := by simp; omega
   have tltn : decide (k < n) = true := by simp; omega
   clear hx hb hrg hok hrw
   by_cases e1 : 200 < op.length
   ·have t1 : decide ((200 : Int) < ((bs op).size : Int)) = true := by rw [size_bs]; simp; omega
    have hG : G = true := HG.out.trans (great_of HX.out.1 (by unfold askGreat; simp; omega))
    subst hG
    clear e1
    go_wp2_with fail
    go_ret
    exact ⟨rfl, HBF.out⟩
   have t1 : decide ((200 : Int) < ((bs op).size : Int)) = false := by rw [size_bs]; simp; omega
   by_cases e2 : 200 < on
   ·have t2 : decide ((200 : Int) < (on : Int)) = true := by simp; omega
    have hG : G = true := HG.out.trans (great_of HX.out.1 (by unfold askGreat; simp; omega))
    subst hG
    clear e1
    go_wp2_with fail
    go_ret
    exact ⟨rfl, HBF.out⟩
   have t2 : decide ((200 : Int) < (on : Int)) = false := by simp; omega
   by_cases e3 : 10 < qn
   ·have t3 : decide ((10 : Int) < (qn : Int)) = true := by simp; omega
    have hG : G = true := HG.out.trans (great_of HX.out.1 (by unfold askGreat; simp; omega))
    subst hG
    clear e1
    go_wp2_with fail
    go_ret
    exact ⟨rfl, HBF.out⟩
   have t3 : decide ((10 : Int) < (qn : Int)) = false := by simp; omega
   have hq10 : qn ≤ 10 := by omega
   have HE := Lib.hid (show (decide (200 < op.length) || decide (200 < on) || decide (10 < qn)) = false by simp; omega)
   clear e1 e2 e3 hlt
   have HS0 : Hid (Below w.heap.size w wr ∧ (Q.take 0).any partGreat = false) := Lib.hid ⟨HS.out.1, rfl⟩
   obtain ⟨w1, hw1⟩ : ∃ w1, w1 = wr := ⟨_, rfl⟩
   subst hw1
   go_wp2_with fail
   go_loopw [4] (fun jv wr => ∃ j : Nat, j ≤ qn ∧ jv = .int .i64 j ∧ Hid (Below w.heap.size w wr ∧ (Q.take j).any partGreat = false)) (fun jv _ => qn - (intOf jv).toNat)
   case atStart => exact ⟨0, by omega, rfl, HS0⟩
   case round =>
    obtain ⟨j, hj, rfl, HS2⟩ := hrel
    have y6' : wr.cell? ⟨b, off + k * 9 + 6, none⟩ = some (.slice qa qn qc) := (range_kept HX.out.2.2.1 HS2.out.1 HX.out.2.1) 6 _ rfl
    by_cases hjt : j < qn
    ·have tj : decide ((j : Int) < (qn : Int)) = true := by simp; omega
     have tjn : decide (j < qn) = true := by simp; omega
     obtain ⟨q, hq⟩ : ∃ q, Q[j]? = some q := ⟨_, List.getElem?_eq_getElem (by have := HX.out.2.2.2.pn; dsimp only at this; omega)⟩
     obtain ⟨p, hp, hok, gb, go_, hqa, hgb, hrg⟩ := HX.out.2.2.2.parts j q hq
     dsimp only at hqa
     subst hqa
     obtain ⟨pk, pp, da, dn, dc, pv, psq, pse, fa, fn, fc⟩ := q
     unfold RawO.cells at hrg
     dsimp only at hrg
     have HRG := Lib.hid (range_kept hrg HS2.out.1 hgb)
     obtain ⟨w6, hw6⟩ : ∃ w6, w6 = wr.alloc (.cells #[.int .u8 pk, .string (bs pp), .slice da dn dc, .int .i64 pv, .bool psq, .bool pse, .slice fa fn fc] 26) := ⟨_, rfl⟩
     have B6 : Below w.heap.size w w6 := by rw [hw6]; exact HS2.out.1.trans ((belowA (Below.refl _ wr) _).mono HS2.out.1.size)
     have k6 : w6.heap[wr.heap.size]? = some (.cells #[.int .u8 pk, .string (bs pp), .slice da dn dc, .int .i64 pv, .bool psq, .bool pse, .slice fa fn fc] 26 (0, 0)) := by rw [hw6]; exact heap_alloc_new wr _
     have z1 : w6.cell? ⟨wr.heap.size, 1, none⟩ = some (.string (bs pp)) := cell_of_row _ _ 1 _ 26 (0, 0) k6
     have z2 : w6.cell? ⟨wr.heap.size, 2, none⟩ = some (.slice da dn dc) := cell_of_row _ _ 2 _ 26 (0, 0) k6
     have z6 : w6.cell? ⟨wr.heap.size, 6, none⟩ = some (.slice fa fn fc) := cell_of_row _ _ 6 _ 26 (0, 0) k6
     have HQ := Lib.hid hq
     have HW6 := Lib.hid hw6
     have HBF := Lib.hid B6
     clear hq hp hok hgb hrg hw6 B6 k6
     go_upto_region 12 with (refine wpList_load_mid rfl 26 (.tmp 61) rfl gb (go_ + j * 7) rfl [.int .u8 pk, .string (bs pp), .slice da dn dc, .int .i64 pv, .bool psq, .bool pse, .slice fa fn fc] _ HRG.out Tryz.underlying26 rfl HSO.out ?_)
     rw [← HW6.out]
     by_cases g1 : 200 < pp.length
     ·have t4 : decide ((200 : Int) < ((bs pp).size : Int)) = true := by rw [size_bs]; simp; omega
      have hG : G = true := by
       rw [HG.out]
       have hpg : partGreat ⟨pk, pp, da, dn, dc, pv, psq, pse, fa, fn, fc⟩ = true := by unfold partGreat; simp; omega
       exact great_of HX.out.1 (by unfold askGreat; rw [List.any_eq_true.2 ⟨_, List.mem_of_getElem? HQ.out, hpg⟩]; simp)
      subst hG
      clear g1
      go_wp2_with fail
      go_ret
      exact ⟨rfl, HBF.out⟩
     have t4 : decide ((200 : Int) < ((bs pp).size : Int)) = false := by rw [size_bs]; simp; omega
     by_cases g2 : 200 < dn
     ·have t5 : decide ((200 : Int) < (dn : Int)) = true := by simp; omega
      have hG : G = true := by
       rw [HG.out]
       have hpg : partGreat ⟨pk, pp, da, dn, dc, pv, psq, pse, fa, fn, fc⟩ = true := by unfold partGreat; simp; omega
       exact great_of HX.out.1 (by unfold askGreat; rw [List.any_eq_true.2 ⟨_, List.mem_of_getElem? HQ.out, hpg⟩]; simp)
      subst hG
      clear g1
      go_wp2_with fail
      go_ret
      exact ⟨rfl, HBF.out⟩
     have t5 : decide ((200 : Int) < (dn : Int)) = false := by simp; omega
     by_cases g3 : 2 < fn
     ·have t6 : decide ((2 : Int) < (fn : Int)) = true := by simp; omega
      have hG : G = true := by
       rw [HG.out]
       have hpg : partGreat ⟨pk, pp, da, dn, dc, pv, psq, pse, fa, fn, fc⟩ = true := by unfold partGreat; simp; omega
       exact great_of HX.out.1 (by unfold askGreat; rw [List.any_eq_true.2 ⟨_, List.mem_of_getElem? HQ.out, hpg⟩]; simp)
      subst hG
      clear g1
      go_wp2_with fail
      go_ret
      exact ⟨rfl, HBF.out⟩
     have t6 : decide ((2 : Int) < (fn : Int)) = false := by simp; omega
     have hsn : (Q.take (j + 1)).any partGreat = false := by
      rw [any_next HQ.out, HS2.out.2]
      unfold partGreat
      simp
      omega
     have HSN := Lib.hid (And.intro HBF.out hsn)
     clear hsn g1 g2 g3
     go_wp2_with fail
     go_roundw
     case rel => exact ⟨j + 1, by omega, by go_num, HSN⟩
     case measure => simp [intOf]; omega
    ·obtain rfl : qn = j := by omega
     have tj : decide ((qn : Int) < (qn : Int)) = false := by simp
     have hany : (L.take (k + 1)).any askGreat = false := by
      rw [any_next HX.out.1, HS.out.2]
      unfold askGreat
      dsimp only
      have h1 := HS2.out.2
      rw [List.take_of_length_le (by have := HX.out.2.2.2.pn; dsimp only at this; omega)] at h1
      rw [HE.out, h1]
      rfl
     have HSN := Lib.hid (And.intro HS2.out.1 hany)
     have hlt := HLT.out
     clear hany hjt
     go_wp2_with fail
     go_roundw
     case rel => exact ⟨k + 1, by omega, by go_num, HSN⟩
     case measure => simp [intOf]; omega
  ·obtain rfl : n = k := by omega
   have tlt : decide ((n : Int) < (n : Int)) = false := by simp
   have hG : G = false := by
    rw [HG.out]
    have h1 := HS.out.2
    rw [List.take_of_length_le (by rw [← HA.out.2]; exact Nat.le_refl _)] at h1
    unfold greatL
    rw [h1, ← HA.out.2, decide_eq_false H60.out]
    rfl
   subst hG
   clear hlt
   go_wp2
   go_ret
   exact ⟨rfl, HS.out.1⟩
end Go.Proofs.YtnclkfhdpkkakaaGreatDoor
namespace Go.Proofs.YtnclkfhdpkkakaaGreatDoor
set_option linter.unusedVariables false
set_option linter.unusedSimpArgs false
open Go Go.RowKit Go.Shelf Go.MapKept Go.ChangeMaps Go.Maps Go.Sort
def AskRaw.v (x : AskRaw) : OpV := ⟨x.o, x.ps⟩
def AskRaw.ce (x : AskRaw) : Int := ceOf x.r x.Q
theorem great_parts {x : AskRaw} (h : askGreat x = false) : x.r.path.length ≤ 200 ∧ x.r.dn ≤ 200 ∧ x.r.pn ≤ 10 ∧ ∀ q ∈ x.Q, q.path.length ≤ 200 ∧ q.dn ≤ 200 ∧ q.pn ≤ 2 := by
 unfold askGreat at h
 simp only [Bool.or_eq_false_iff, decide_eq_false_iff_not] at h
 obtain ⟨⟨⟨h1, h2⟩, h3⟩, h4⟩ := h
 refine ⟨by omega, by omega, by omega, fun q hq => ?_⟩
 have h5 : ¬ partGreat q = true := fun e => by
  rw [List.any_eq_true.2 ⟨q, hq, e⟩] at h4
  cases h4
 unfold partGreat at h5
 simp at h5
 omega
theorem AskOk.opIn {w : World} {x : AskRaw} (h : AskOk w x) (hg : askGreat x = false) : OpIn w x.r x.v x.ce := by
 obtain ⟨n, hn⟩ := h.ops
 obtain ⟨g1, _, _, g4⟩ := great_parts hg
 have hp : x.r.path = x.o.path := h.ok.leaf.path
 refine opIn_of h.ok h.pn hn h.pl h.parts (by rw [← hp]; omega) (fun p hp => ?_)
 obtain ⟨k, hk⟩ := List.mem_iff_getElem?.1 hp
 have hkl := (List.getElem?_eq_some_iff.1 hk).1
 obtain ⟨q, hq⟩ : ∃ q, x.Q[k]? = some q := ⟨_, List.getElem?_eq_getElem (by rw [← h.pl]; exact hkl)⟩
 obtain ⟨p', h1, h2, _⟩ := h.parts k q hq
 have e : p' = p := Option.some.inj (h1.symm.trans hk)
 subst e
 have := (g4 q (List.mem_of_getElem? hq)).1
 have e2 : q.path = p'.path := h2.leaf.path
 rw [← e2]
 omega
theorem great_not {L : List AskRaw} (h : greatL L = false) : L.length ≤ 60 ∧ ∀ x ∈ L, askGreat x = false := by
 unfold greatL at h
 simp only [Bool.or_eq_false_iff, decide_eq_false_iff_not] at h
 refine ⟨by omega, fun x hx => ?_⟩
 cases e : askGreat x with
 | false => rfl
 | true =>
  have := List.any_eq_true.2 ⟨x, hx, e⟩
  rw [h.2] at this
  cases this
theorem ask_cells {w : World} {b o : Nat} {x : AskRaw} (h : w.rangeAt b o x.cells) : w.rangeAt b o x.r.cells ∧ w.rangeAt b (o + 7) [.int .i64 x.who.site, .int .u32 x.who.n] := by
 refine ⟨fun j u hu => h j u ?_, fun j u hu => ?_⟩
 ·have hj := (List.getElem?_eq_some_iff.1 hu).1
  have e : x.cells = x.r.cells ++ [.int .i64 x.who.site, .int .u32 x.who.n] := rfl
  rw [e, List.getElem?_append_left hj]
  exact hu
 ·have e : x.cells = x.r.cells ++ [.int .i64 x.who.site, .int .u32 x.who.n] := rfl
  have := h (7 + j) u (by
   rw [e, List.getElem?_append_right (by show 7 ≤ 7 + j; omega)]
   rw [show 7 + j - x.r.cells.length = j by show 7 + j - 7 = j; omega]
   exact hu)
  rw [← Nat.add_assoc] at this
  exact this
end Go.Proofs.YtnclkfhdpkkakaaGreatDoor
namespace Go.Proofs.YtnclkfhdpkkakaaGreatDoor
set_option linter.unusedVariables false
set_option linter.unusedSimpArgs false
open Go Go.RowKit Go.Shelf Go.MapKept Go.ChangeMaps Go.Maps Go.Sort
theorem OpsAt.mono {w : World} {n m : Nat} {pa : Option Addr} {R : List RawO} (h : OpsAt w n pa R) (hle : n ≤ m) : OpsAt w m pa R := by
 induction hle with
 | refl => exact h
 | step _ ih => exact ih.up
theorem wp_append_any {P : Program} {w : World} {o : Oper} {a : Act} {K : Act → World → Prop} {Q : Exit → Act → World → Prop} (s x : Operand) (t : TypeId)
  (ho : o.op = .call { callee := .builtin .append, args := #[s, x], argTypes := #[t, t] })
  (base : Nat) (e : TypeId) (i : TypeInfo) (z : Value) (size bytes : Nat) (ht : P.underlying t = some (.slice e)) (hi : P.info? e = some i) (hz : i.zero = some z)
  (hsize : i.size = size) (hby : i.bytes = bytes) (hzs : z.cells.size = size) (hsz : 0 < size)
  (v : Value) (n : Nat) (xs : List Value) (hs : a.eval s = v) (hown : w.ownsRow base e size v n xs)
  (xo : Option Addr) (m c : Nat) (news : List Value) (hx : a.eval x = .slice xo m c) (hno : xo = none → m = 0 ∧ c = 0) (hl : news.length = m * size) (hnews : ∀ ad, xo = some ad → ∀ j u, news[j]? = some u → w.cell? (ad.add j) = some u) (h1 : ∀ u ∈ news, u.oneCell' = true)
  (h63 : n + m ≤ maxLen) (hbytes : (n + m) * bytes ≤ 140737488355328) (hbase : base ≤ w.heap.size)
  (h : ∀ v' w', w'.ownsRow base e size v' (n + m) (xs ++ news) → w.grownBy w' v.ownBlock → (∀ k, v'.ownBlock = some k → v.ownBlock = some k ∨ w.heap.size ≤ k) → K (a.put o.dst v') w') : o.wp P a w K Q := by
 cases xo with
 | some ad => exact wp_append_new s x t ho base e i z size bytes ht hi hz hsize hby hzs hsz v n xs hs hown ad m c news hx hl (hnews ad rfl) h1 h63 hbytes hbase h
 | none =>
  obtain ⟨rfl, rfl⟩ := hno rfl
  obtain rfl : news = [] := List.eq_nil_of_length_eq_zero (by omega)
  have hrun := run_append_owned_none (P := P) (w := w) base t o.type e i size ht hi v n xs hown
  unfold Oper.wp
  simp [execOp, ho, resolve, invoke, builtin, hs, hx, hrun, Result.andThen]
  exact h v w (by simpa using hown) ⟨rfl, rfl, rfl, Nat.le_refl _, fun _ _ _ => rfl⟩ (fun k hk => .inl hk)
end Go.Proofs.YtnclkfhdpkkakaaGreatDoor
namespace Go.Proofs.YtnclkfhdpkkakaaGreatDoor
set_option linter.unusedVariables false
set_option linter.unusedSimpArgs false
open Go Go.RowKit Go.Shelf Go.MapKept Go.ChangeMaps Go.Maps Go.Sort
section
variable {root : Bytes} {M : List (Bytes × Nd)} {at_ : Int} {who : Sess} {o : Opl}
theorem doM_same {ce : Int} {v : OpV} (I : Inv root M) (h : doX root M at_ who ce v = []) : doM root M at_ who ce v = M := by
 have h2 := do_fits (at_ := at_) (who := who) (ce := ce) (o := v) I
 rw [h] at h2
 exact (congrArg Prod.snd h2).symm
end
section
variable {w0 w : World} {b : Nat} {root : Bytes} {at_ : Int} {M : List (Bytes × Nd)}
set_option maxRecDepth 100000 in
theorem St.apply_do (S : St w0 w b root at_ M) (h1 : at_ ≤ 90000) {wI : World} {r : RawO} {o : OpV} {ce : Int} (hin : OpIn wI r o ce) {who : Sess} {a : Option Addr} {n c : Nat} (hu : EffsOut w (.slice a n c) (doX root M at_ who ce o)) (hne : doX root M at_ who ce o ≠ []) :
  Calls Tryz.prog 18 #[.pointer (some ⟨b, 0, none⟩), .slice a n c] w fun e w' => e = .returned (.int .i64 0) ∧ St w0 w' b root (at_ + 1) (doM root M at_ who ce o) ∧ Kept (· = b) w w' := by
 obtain ⟨xa, xc, XL, e, hA, hL⟩ := hu
 cases e
 have hfit := do_fits (at_ := at_) (who := who) (ce := ce) (o := o) S.inv
 have hlen := hin.xlen root M at_ who
 have hl : XL.length = (doX root M at_ who ce o).length := hL.1
 have hap := S.tr.apply S.lo (by omega) a c XL (doX root M at_ who ce o) hL hA (do_fitE S.tr.fit S.inv (fun h0 => (hin.fine h0).1)) (by omega)
 rw [hl] at hap
 refine hap.mono ?_
 rintro e w' ⟨rfl, R4, K4⟩
 obtain ⟨_, ha, hn⟩ := atA_yes (at_ := at_) hfit
 rw [ha, hn] at R4
 rw [hfit]
 exact ⟨rfl, ⟨R4, S.inv.does, S.nice.does, S.tab, by have := S.lo; omega⟩, K4⟩
end
end Go.Proofs.YtnclkfhdpkkakaaGreatDoor
