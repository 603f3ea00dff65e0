/-
  OpReads, walked.
  OpReads: over whatever arguments can be read.
-/
import Derived.Test.YtnclkfhdpkkakaaGreatDoorJOpFitP
import Derived.Deep.RegionHeld3
import Derived.Test.YtnclkfhdpkkakaaGreatDoorShaped
import Derived.ProofKit
import Derived.ChangeMaps5
namespace Go.Proofs.YtnclkfhdpkkakaaGreatDoor
set_option linter.unusedVariables false
set_option linter.unusedSimpArgs false
open Go Go.RowKit Go.Shelf Go.MapKept Go.ChangeMaps Go.Maps Go.Sort
theorem reads_one {M : List (Bytes × Nd)} {at_ : Int} {who : Sess} {o : Opl} (h4 : 4 ≤ o.kind ∧ o.kind ≤ 6) : doX pR M at_ who 0 ⟨o, []⟩ = [] ∧ doE pR M at_ who 0 ⟨o, []⟩ = opE pR M who o ∧ doR pR M at_ who 0 ⟨o, []⟩ = [] ∧ doA pR M at_ who 0 ⟨o, []⟩ = (opR pR M (at_ + 1) who o).a := by
  obtain ⟨e1, e2, e3, e4⟩ := do_one (root := pR) (M := M) (at_ := at_) (who := who) (o := ⟨o, []⟩) (by show o.kind ≠ 7; omega)
  refine ⟨?_, e1, e4, e3⟩
  rw [e2]
  show opXs pR M (at_ + 1) who o = []
  unfold opXs opX
  split
  · rfl
  · rw [if_neg (by omega), if_neg (by omega), if_neg (by omega)]
theorem no_kids {M : List (Bytes × Nd)} (I : Inv pR M) {p : Bytes} (h : getA p M = none) : kidsS pR M p = [] := by
  refine List.eq_nil_of_length_eq_zero ?_
  have hk : ¬ 0 < (kidsS pR M p).length := fun hp => by
    have h1 := (kids_pos pR M p).1 hp
    obtain ⟨y, hy, h2⟩ := List.any_eq_true.1 h1
    unfold kidB at h2
    simp at h2
    obtain ⟨⟨_, hyr⟩, h5⟩ := h2
    have h3 := I.parent y.1 (List.mem_map_of_mem hy) hyr
    rw [h5] at h3
    have h4 := getA_some.2 h3
    rw [h] at h4
    cases h4
  omega
def ReadsP (M : List (Bytes × Nd)) (p : Bytes) (ver : Int) : Prop := ∃ (E : Int) (px : Bytes) (nd : Nd),
    (∀ a who, opE pR M who ⟨5, p, [], 0, false, false⟩ = E ∧ (opR pR M a who ⟨5, p, [], 0, false, false⟩).a = ⟨px, nd, []⟩)
    ∧ (∀ a who, opE pR M who ⟨6, p, [], 0, false, false⟩ = E ∧ (opR pR M a who ⟨6, p, [], 0, false, false⟩).a = ⟨px, nd, kidsS pR M p⟩)
    ∧ (∀ a who, ∃ E4 A4, (opE pR M who ⟨4, p, [], ver, false, false⟩ = E4 ∧ (opR pR M a who ⟨4, p, [], ver, false, false⟩).a = A4) ∧ (E4 = 0 → E = 0 ∧ A4 = ⟨px, nd, []⟩) ∧ (E4 ≠ 0 → E4 = E ∨ (E4 = 35 ∧ 0 ≤ ver)))
theorem reads_plain {M : List (Bytes × Nd)} (I : Inv pR M) (p : Bytes) (ver : Int) : ReadsP M p ver := by
  have key : ∀ (x : Int), x ≠ 0 → getA p M = none → (∀ who, opE pR M who ⟨5, p, [], 0, false, false⟩ = x) → (∀ who, opE pR M who ⟨6, p, [], 0, false, false⟩ = x) → (∀ who, opE pR M who ⟨4, p, [], ver, false, false⟩ = x) → ReadsP M p ver := fun x hx hg h5 h6 h4 => ⟨x, [], zNd,
    fun a who => ⟨h5 who, by unfold opR; rw [if_pos (by rw [h5 who]; exact hx)]; rfl⟩, fun a who => ⟨h6 who, by unfold opR; rw [if_pos (by rw [h6 who]; exact hx), no_kids I hg]; rfl⟩, fun a who => ⟨x, _, ⟨h4 who, rfl⟩, fun h => absurd h hx, fun _ => .inl rfl⟩⟩
  cases hu : underB p pR with
  | false =>
    have hg : getA p M = none := by
      cases hg : getA p M with
      | none => rfl
      | some d =>
        have := I.under p (getA_some.1 (by rw [hg]; rfl))
        rw [hu] at this
        cases this
    exact key 30 (by decide) hg (fun who => by unfold opE; rw [if_pos hu]) (fun who => by unfold opE; rw [if_pos hu]) (fun who => by unfold opE; rw [if_pos hu])
  | true =>
    have hn : ¬ underB p pR = false := by rw [hu]; simp
    cases hg : getA p M with
    | none =>
      refine key 31 (by decide) hg (fun who => ?_) (fun who => ?_) (fun who => ?_)
      · unfold opE; dsimp only; rw [if_neg hn, if_neg (by decide), if_neg (by decide), if_neg (by decide), hg]; rfl
      · unfold opE; dsimp only; rw [if_neg hn, if_neg (by decide), if_neg (by decide), if_neg (by decide), hg]; rfl
      · unfold opE; dsimp only; rw [if_neg hn, if_neg (by decide), if_neg (by decide), if_pos (by decide)]; unfold verE; dsimp only; rw [hg]
    | some d =>
      have h5 : ∀ who, opE pR M who ⟨5, p, [], 0, false, false⟩ = 0 := fun who => by unfold opE; dsimp only; rw [if_neg hn, if_neg (by decide), if_neg (by decide), if_neg (by decide), hg]; rfl
      have h6 : ∀ who, opE pR M who ⟨6, p, [], 0, false, false⟩ = 0 := fun who => by unfold opE; dsimp only; rw [if_neg hn, if_neg (by decide), if_neg (by decide), if_neg (by decide), hg]; rfl
      have h4 : ∀ who, opE pR M who ⟨4, p, [], ver, false, false⟩ = verE M ⟨4, p, [], ver, false, false⟩ := fun who => by unfold opE; dsimp only; rw [if_neg hn, if_neg (by decide), if_neg (by decide), if_pos (by decide)]
      have hnd : nodeAt M p = d := by unfold nodeAt; rw [hg]; rfl
      refine ⟨0, p, d, fun a who => ⟨h5 who, ?_⟩, fun a who => ⟨h6 who, ?_⟩, fun a who => ⟨_, _, ⟨h4 who, rfl⟩, fun h => ⟨rfl, ?_⟩, fun h => .inr ?_⟩⟩
      · unfold opR; rw [if_neg (by rw [h5 who]; simp)]; show (⟨p, nodeAt M p, []⟩ : Ans) = _; rw [hnd]
      · unfold opR; rw [if_neg (by rw [h6 who]; simp)]; show (⟨p, nodeAt M p, kidsS pR M p⟩ : Ans) = _; rw [hnd]
      · unfold opR; rw [if_neg (by rw [h4 who, h]; simp)]; show (⟨p, nodeAt M p, []⟩ : Ans) = _; rw [hnd]
      · unfold verE at h ⊢
        dsimp only at h ⊢
        rw [hg] at h ⊢
        dsimp only at h ⊢
        split at h
        · rename_i h2; rw [if_pos h2]; exact ⟨rfl, h2.1⟩
        · exact absurd rfl h
set_option maxRecDepth 100000 in
set_option maxHeartbeats 64000000 in
theorem opReads_core (w : World) (hm : MaxInt w) (PT : PowTab w) (a : Option Addr) (c : Nat) (L : List AskRaw) (hat : AsksAt w a L) (hl : L.length ≤ maxLen) (p : Bytes) (ver : Int) (hpm : p.length ≤ maxLen) :
    Calls Tryz.prog 8 #[.slice a L.length c, .string (bs p), .int .i64 ver] w fun e w' => e = .returned (.bool true) ∧ Below w.heap.size w w' := by
  obtain ⟨n, hn⟩ : ∃ n, n = L.length := ⟨_, rfl⟩
  have hgr := asks_great w a c L hat hl
  rw [← hn] at hgr ⊢
  obtain ⟨gl, hgl⟩ : ∃ gl, gl = greatL L := ⟨_, rfl⟩
  rw [← hgl] at hgr
  unfold maxLen at hpm
  have HGR := Lib.hid hgr
  have HGL := Lib.hid hgl
  have HM := Lib.hid (And.intro hm (And.intro PT (And.intro hat hn)))
  have HSR : Hid ((Tryz.prog.info? 43).map (·.size) = some 13) := Lib.hid infoReply13
  clear hgr hgl hm PT hat hl hn
  have tps : ∀ _ : True, ((bs p).size : Int) = (p.length : Int) := fun _ => by rw [size_bs]
  go_enter Tryz.func8, Tryz.ntmps8
  go_wp2_with fail
  refine HGR.out.mono ?_
  rintro e w2 ⟨rfl, B2⟩
  have HB2 := Lib.hid B2
  clear B2
  cases gl
  rotate_left
  · go_wp2
    go_ret
    exact ⟨rfl, HB2.out⟩
  by_cases hp2 : 200 < p.length
  · have tp : decide ((200 : Int) < ((bs p).size : Int)) = true := by rw [size_bs]; simp; omega
    clear hp2 hpm tps
    go_wp2
    go_ret
    exact ⟨rfl, HB2.out⟩
  have tp : decide ((200 : Int) < ((bs p).size : Int)) = false := by rw [size_bs]; simp; omega
  have HPN : Hid (p.length ≤ 900) := Lib.hid (by omega)
  clear hp2 hpm tps
  have hgw := grown_any w2 (HM.out.1.kept HB2.out) (tab_below HM.out.2.1 HB2.out) a c L (HM.out.2.2.1.below HB2.out) HGL.out.symm
  rw [← HM.out.2.2.2] at hgw
  have HGW := Lib.hid hgw
  clear hgw
  go_wp2_with fail
  refine HGW.out.mono ?_
  rintro e w3 ⟨b, rfl, hb2, S3, hat3, B3⟩
  generalize (grownS L).1 = at_ at S3 hat3
  generalize (grownS L).2 = M at S3
  have HS1 := Lib.hid S3
  have HAT := Lib.hid hat3
  have HB3 := Lib.hid (HB2.out.trans (B3.mono HB2.out.size))
  obtain ⟨E, px, nd, hpl⟩ := reads_plain S3.inv p ver
  obtain ⟨E4, A4, h4, h40, h4n⟩ := hpl.2.2 (at_ + 1) ⟨0, 0⟩
  have HPL := Lib.hid hpl
  have H4 := Lib.hid h4
  have H40 := Lib.hid (And.intro h40 h4n)
  obtain ⟨K, hK⟩ : ∃ K, K = (kidsS pR M p).length := ⟨_, rfl⟩
  obtain ⟨p4, hp4⟩ : ∃ p4, p4 = A4.path := ⟨_, rfl⟩
  obtain ⟨k4, hk4⟩ : ∃ k4, k4 = A4.kids.length := ⟨_, rfl⟩
  have HK := Lib.hid hK
  have HA4 := Lib.hid (And.intro hp4 hk4)
  clear S3 hat3 B3 hb2 hpl h4 h40 h4n hK hp4 hk4
  go_wp2_with fail
  refine (HS1.out.do_leaf (Int.le_trans HAT.out (by decide)) ⟨5, p, none, 0, 0, 0, false, false, none, 0, 0⟩ (⟨5, p, [], 0, false, false⟩ : Opl) ⟨0, 0⟩ ⟨rfl, rfl, rfl, rfl, rfl, rfl, bytes_none _ _ _ _, fun _ => ⟨rfl, rfl⟩⟩ ⟨show (1 : Int) ≤ 5 by decide, show (5 : Int) ≤ 6 by decide, HPN.out, Nat.zero_le _⟩ rfl (Nat.zero_le _)).mono ?_
  rintro e t1 ⟨u1, u2, rfl, ⟨xa1, xc1, XL, rfl, _, _⟩, ⟨⟨ra1, rn1, rc1, ⟨r11, r12, r13, r14, r15, r16, r17, r18⟩⟩, ka1, kc1, pa1, pc1, rfl, hrd, hkd, _⟩, TB⟩
  have hr := reads_one (M := M) (at_ := at_) (who := ⟨0, 0⟩) (o := (⟨5, p, [], 0, false, false⟩ : Opl)) (show (4 : Int) ≤ 5 ∧ (5 : Int) ≤ 6 by decide)
  have ha := HPL.out.1 (at_ + 1) ⟨0, 0⟩
  rw [hr.2.2.2, ha.2] at hrd hkd
  rw [hr.1, hr.2.1, hr.2.2.1, hr.2.2.2, ha.1, ha.2]
  try dsimp only [List.length_nil]

  try dsimp only
  unfold repCells Raw.cells Nums.cells
  dsimp only [List.cons_append, List.nil_append]
  obtain ⟨v1, hv1⟩ : ∃ v1, v1 = t1.alloc (.cells #[.int .i64 E, .string (bs px), .slice ra1 rn1 rc1, .int .u32 r11, .int .u32 r12, .int .u32 r13, .int .i64 r14, .int .u32 r15, .int .u64 r16, .int .u64 r17, .int .u64 r18, .slice ka1 0 kc1, .slice pa1 0 pc1] 43) := ⟨_, rfl⟩
  have TV : Below t1.heap.size t1 v1 := by rw [hv1]; exact belowA (Below.refl _ t1) _
  have kv : v1.heap[t1.heap.size]? = some (.cells #[.int .i64 E, .string (bs px), .slice ra1 rn1 rc1, .int .u32 r11, .int .u32 r12, .int .u32 r13, .int .i64 r14, .int .u32 r15, .int .u64 r16, .int .u64 r17, .int .u64 r18, .slice ka1 0 kc1, .slice pa1 0 pc1] 43 (0, 0)) := by rw [hv1]; exact heap_alloc_new t1 _
  have BV := TB.trans (TV.mono TB.size)
  have HR1 : Hid (Reads v1 (From w3.heap.size) ⟨ra1, rn1, rc1, ⟨r11, r12, r13, r14, r15, r16, r17, r18⟩⟩ (⟨px, nd, []⟩ : Ans).node ∧ StrLo v1 (From w3.heap.size) ka1 (⟨px, nd, []⟩ : Ans).kids) := Lib.hid ⟨hrd.below TV, hkd.below TV⟩
  have HV1 := Lib.hid (And.intro kv (And.intro BV TB))
  have HW1 := Lib.hid hv1
  have HS2 := Lib.hid (HS1.out.below BV)
  clear hrd hkd hr ha TB TV kv BV hv1
  go_upto_region 7 with fail
  rw [← HW1.out]
  go_wp2_with fail
  refine (HS2.out.do_leaf (Int.le_trans HAT.out (by decide)) ⟨6, p, none, 0, 0, 0, false, false, none, 0, 0⟩ (⟨6, p, [], 0, false, false⟩ : Opl) ⟨0, 1⟩ ⟨rfl, rfl, rfl, rfl, rfl, rfl, bytes_none _ _ _ _, fun _ => ⟨rfl, rfl⟩⟩ ⟨show (1 : Int) ≤ 6 by decide, show (6 : Int) ≤ 6 by decide, HPN.out, Nat.zero_le _⟩ rfl (Nat.zero_le _)).mono ?_
  rintro e t2 ⟨u1, u2, rfl, ⟨xa2, xc2, XL, rfl, _, _⟩, ⟨⟨ra2, rn2, rc2, ⟨r21, r22, r23, r24, r25, r26, r27, r28⟩⟩, ka2, kc2, pa2, pc2, rfl, hrd, hkd, _⟩, TB⟩
  have hr := reads_one (M := M) (at_ := at_) (who := ⟨0, 1⟩) (o := (⟨6, p, [], 0, false, false⟩ : Opl)) (show (4 : Int) ≤ 6 ∧ (6 : Int) ≤ 6 by decide)
  have ha := HPL.out.2.1 (at_ + 1) ⟨0, 1⟩
  rw [hr.2.2.2, ha.2] at hrd hkd
  rw [hr.1, hr.2.1, hr.2.2.1, hr.2.2.2, ha.1, ha.2]
  try dsimp only [List.length_nil]
  rw [← HK.out]
  try dsimp only
  unfold repCells Raw.cells Nums.cells
  dsimp only [List.cons_append, List.nil_append]
  obtain ⟨v2, hv2⟩ : ∃ v2, v2 = t2.alloc (.cells #[.int .i64 E, .string (bs px), .slice ra2 rn2 rc2, .int .u32 r21, .int .u32 r22, .int .u32 r23, .int .i64 r24, .int .u32 r25, .int .u64 r26, .int .u64 r27, .int .u64 r28, .slice ka2 K kc2, .slice pa2 0 pc2] 43) := ⟨_, rfl⟩
  have TV : Below t2.heap.size t2 v2 := by rw [hv2]; exact belowA (Below.refl _ t2) _
  have kv : v2.heap[t2.heap.size]? = some (.cells #[.int .i64 E, .string (bs px), .slice ra2 rn2 rc2, .int .u32 r21, .int .u32 r22, .int .u32 r23, .int .i64 r24, .int .u32 r25, .int .u64 r26, .int .u64 r27, .int .u64 r28, .slice ka2 K kc2, .slice pa2 0 pc2] 43 (0, 0)) := by rw [hv2]; exact heap_alloc_new t2 _
  have BV := TB.trans (TV.mono TB.size)
  have HR2 : Hid (Reads v2 (From v1.heap.size) ⟨ra2, rn2, rc2, ⟨r21, r22, r23, r24, r25, r26, r27, r28⟩⟩ (⟨px, nd, kidsS pR M p⟩ : Ans).node ∧ StrLo v2 (From v1.heap.size) ka2 (⟨px, nd, kidsS pR M p⟩ : Ans).kids) := Lib.hid ⟨hrd.below TV, hkd.below TV⟩
  have HV2 := Lib.hid (And.intro kv (And.intro BV TB))
  have HW2 := Lib.hid hv2
  have HS3 := Lib.hid (HS2.out.below BV)
  clear hrd hkd hr ha TB TV kv BV hv2
  go_upto_region 8 with fail
  rw [← HW2.out]
  go_wp2_with fail
  refine (HS3.out.do_leaf (Int.le_trans HAT.out (by decide)) ⟨4, p, none, 0, 0, ver, false, false, none, 0, 0⟩ (⟨4, p, [], ver, false, false⟩ : Opl) ⟨0, 0⟩ ⟨rfl, rfl, rfl, rfl, rfl, rfl, bytes_none _ _ _ _, fun _ => ⟨rfl, rfl⟩⟩ ⟨show (1 : Int) ≤ 4 by decide, show (4 : Int) ≤ 6 by decide, HPN.out, Nat.zero_le _⟩ rfl (Nat.zero_le _)).mono ?_
  rintro e t3 ⟨u1, u2, rfl, ⟨xa3, xc3, XL, rfl, _, _⟩, ⟨⟨ra3, rn3, rc3, ⟨r31, r32, r33, r34, r35, r36, r37, r38⟩⟩, ka3, kc3, pa3, pc3, rfl, hrd, hkd, _⟩, TB⟩
  have hr := reads_one (M := M) (at_ := at_) (who := ⟨0, 0⟩) (o := (⟨4, p, [], ver, false, false⟩ : Opl)) (show (4 : Int) ≤ 4 ∧ (4 : Int) ≤ 6 by decide)
  have ha := H4.out
  rw [hr.2.2.2, ha.2] at hrd hkd
  rw [hr.1, hr.2.1, hr.2.2.1, hr.2.2.2, ha.1, ha.2]
  try dsimp only [List.length_nil]

  rw [← HA4.out.1, ← HA4.out.2]
  unfold repCells Raw.cells Nums.cells
  dsimp only [List.cons_append, List.nil_append]
  obtain ⟨v3, hv3⟩ : ∃ v3, v3 = t3.alloc (.cells #[.int .i64 E4, .string (bs p4), .slice ra3 rn3 rc3, .int .u32 r31, .int .u32 r32, .int .u32 r33, .int .i64 r34, .int .u32 r35, .int .u64 r36, .int .u64 r37, .int .u64 r38, .slice ka3 k4 kc3, .slice pa3 0 pc3] 43) := ⟨_, rfl⟩
  have TV : Below t3.heap.size t3 v3 := by rw [hv3]; exact belowA (Below.refl _ t3) _
  have kv : v3.heap[t3.heap.size]? = some (.cells #[.int .i64 E4, .string (bs p4), .slice ra3 rn3 rc3, .int .u32 r31, .int .u32 r32, .int .u32 r33, .int .i64 r34, .int .u32 r35, .int .u64 r36, .int .u64 r37, .int .u64 r38, .slice ka3 k4 kc3, .slice pa3 0 pc3] 43 (0, 0)) := by rw [hv3]; exact heap_alloc_new t3 _
  have BV := TB.trans (TV.mono TB.size)
  have HR3 : Hid (Reads v3 (From v2.heap.size) ⟨ra3, rn3, rc3, ⟨r31, r32, r33, r34, r35, r36, r37, r38⟩⟩ (A4 : Ans).node ∧ StrLo v3 (From v2.heap.size) ka3 (A4 : Ans).kids) := Lib.hid ⟨hrd.below TV, hkd.below TV⟩
  have HV3 := Lib.hid (And.intro kv (And.intro BV TB))
  have HW3 := Lib.hid hv3
  have HS4 := Lib.hid (HS3.out.below BV)
  clear hrd hkd hr ha TB TV kv BV hv3
  go_upto_region 9 with fail
  rw [← HW3.out]
  go_wp2_with fail
  refine (HS4.out.do_leaf (Int.le_trans HAT.out (by decide)) ⟨5, p, none, 0, 0, 0, false, false, none, 0, 0⟩ (⟨5, p, [], 0, false, false⟩ : Opl) ⟨2, 9⟩ ⟨rfl, rfl, rfl, rfl, rfl, rfl, bytes_none _ _ _ _, fun _ => ⟨rfl, rfl⟩⟩ ⟨show (1 : Int) ≤ 5 by decide, show (5 : Int) ≤ 6 by decide, HPN.out, Nat.zero_le _⟩ rfl (Nat.zero_le _)).mono ?_
  rintro e t4 ⟨u1, u2, rfl, ⟨xa4, xc4, XL, rfl, _, _⟩, ⟨⟨ra4, rn4, rc4, ⟨r41, r42, r43, r44, r45, r46, r47, r48⟩⟩, ka4, kc4, pa4, pc4, rfl, hrd, hkd, _⟩, TB⟩
  have hr := reads_one (M := M) (at_ := at_) (who := ⟨2, 9⟩) (o := (⟨5, p, [], 0, false, false⟩ : Opl)) (show (4 : Int) ≤ 5 ∧ (5 : Int) ≤ 6 by decide)
  have ha := HPL.out.1 (at_ + 1) ⟨2, 9⟩
  rw [hr.2.2.2, ha.2] at hrd hkd
  rw [hr.1, hr.2.1, hr.2.2.1, hr.2.2.2, ha.1, ha.2]
  try dsimp only [List.length_nil]

  try dsimp only
  unfold repCells Raw.cells Nums.cells
  dsimp only [List.cons_append, List.nil_append]
  obtain ⟨v4, hv4⟩ : ∃ v4, v4 = t4.alloc (.cells #[.int .i64 E, .string (bs px), .slice ra4 rn4 rc4, .int .u32 r41, .int .u32 r42, .int .u32 r43, .int .i64 r44, .int .u32 r45, .int .u64 r46, .int .u64 r47, .int .u64 r48, .slice ka4 0 kc4, .slice pa4 0 pc4] 43) := ⟨_, rfl⟩
  have TV : Below t4.heap.size t4 v4 := by rw [hv4]; exact belowA (Below.refl _ t4) _
  have kv : v4.heap[t4.heap.size]? = some (.cells #[.int .i64 E, .string (bs px), .slice ra4 rn4 rc4, .int .u32 r41, .int .u32 r42, .int .u32 r43, .int .i64 r44, .int .u32 r45, .int .u64 r46, .int .u64 r47, .int .u64 r48, .slice ka4 0 kc4, .slice pa4 0 pc4] 43 (0, 0)) := by rw [hv4]; exact heap_alloc_new t4 _
  have BV := TB.trans (TV.mono TB.size)
  have HR4 : Hid (Reads v4 (From v3.heap.size) ⟨ra4, rn4, rc4, ⟨r41, r42, r43, r44, r45, r46, r47, r48⟩⟩ (⟨px, nd, []⟩ : Ans).node ∧ StrLo v4 (From v3.heap.size) ka4 (⟨px, nd, []⟩ : Ans).kids) := Lib.hid ⟨hrd.below TV, hkd.below TV⟩
  have HV4 := Lib.hid (And.intro kv (And.intro BV TB))
  have HW4 := Lib.hid hv4
  have HS5 := Lib.hid (HS4.out.below BV)
  clear hrd hkd hr ha TB TV kv BV hv4
  go_upto_region 10 with fail
  rw [← HW4.out]

  have c44 : Below v4.heap.size v4 v4 := Below.refl _ _
  have c34 : Below v3.heap.size v3 v4 := HV4.out.2.1
  have c24 : Below v2.heap.size v2 v4 := HV3.out.2.1.trans (c34.mono HV3.out.2.1.size)
  have c14 : Below v1.heap.size v1 v4 := HV2.out.2.1.trans (c24.mono HV2.out.2.1.size)
  have HC := Lib.hid (And.intro c14 (And.intro c24 (And.intro c34 c44)))
  have K1 : v4.heap[t1.heap.size]? = some (.cells #[.int .i64 E, .string (bs px), .slice ra1 rn1 rc1, .int .u32 r11, .int .u32 r12, .int .u32 r13, .int .i64 r14, .int .u32 r15, .int .u64 r16, .int .u64 r17, .int .u64 r18, .slice ka1 0 kc1, .slice pa1 0 pc1] 43 (0, 0)) := (c14.block _ (lt_of_block HV1.out.1)).trans HV1.out.1
  have K2 : v4.heap[t2.heap.size]? = some (.cells #[.int .i64 E, .string (bs px), .slice ra2 rn2 rc2, .int .u32 r21, .int .u32 r22, .int .u32 r23, .int .i64 r24, .int .u32 r25, .int .u64 r26, .int .u64 r27, .int .u64 r28, .slice ka2 K kc2, .slice pa2 0 pc2] 43 (0, 0)) := (c24.block _ (lt_of_block HV2.out.1)).trans HV2.out.1
  have K3 : v4.heap[t3.heap.size]? = some (.cells #[.int .i64 E4, .string (bs p4), .slice ra3 rn3 rc3, .int .u32 r31, .int .u32 r32, .int .u32 r33, .int .i64 r34, .int .u32 r35, .int .u64 r36, .int .u64 r37, .int .u64 r38, .slice ka3 k4 kc3, .slice pa3 0 pc3] 43 (0, 0)) := (c34.block _ (lt_of_block HV3.out.1)).trans HV3.out.1
  have K4 : v4.heap[t4.heap.size]? = some (.cells #[.int .i64 E, .string (bs px), .slice ra4 rn4 rc4, .int .u32 r41, .int .u32 r42, .int .u32 r43, .int .i64 r44, .int .u32 r45, .int .u64 r46, .int .u64 r47, .int .u64 r48, .slice ka4 0 kc4, .slice pa4 0 pc4] 43 (0, 0)) := HV4.out.1
  have HKK := Lib.hid (And.intro K1 (And.intro K2 (And.intro K3 K4)))
  have f1_0 : ∀ w', Below v4.heap.size v4 w' → w'.cell? ⟨t1.heap.size, 0, none⟩ = some (.int .i64 E) := fun w' h => (h.cell (p := ⟨t1.heap.size, 0, none⟩) (lt_of_block K1)).trans (cell_of_row _ _ 0 _ 43 (0, 0) K1)
  have f2_0 : ∀ w', Below v4.heap.size v4 w' → w'.cell? ⟨t2.heap.size, 0, none⟩ = some (.int .i64 E) := fun w' h => (h.cell (p := ⟨t2.heap.size, 0, none⟩) (lt_of_block K2)).trans (cell_of_row _ _ 0 _ 43 (0, 0) K2)
  have f2_11 : ∀ w', Below v4.heap.size v4 w' → w'.cell? ⟨t2.heap.size, 11, none⟩ = some (.slice ka2 K kc2) := fun w' h => (h.cell (p := ⟨t2.heap.size, 11, none⟩) (lt_of_block K2)).trans (cell_of_row _ _ 11 _ 43 (0, 0) K2)
  have KREP : Hid (∀ w', Below v4.heap.size v4 w' → Calls Tryz.prog 15 #[.agg #[.int .i64 E, .string (bs px), .slice ra1 rn1 rc1, .int .u32 r11, .int .u32 r12, .int .u32 r13, .int .i64 r14, .int .u32 r15, .int .u64 r16, .int .u64 r17, .int .u64 r18, .slice ka1 0 kc1, .slice pa1 0 pc1], .agg #[.int .i64 E, .string (bs px), .slice ra4 rn4 rc4, .int .u32 r41, .int .u32 r42, .int .u32 r43, .int .i64 r44, .int .u32 r45, .int .u64 r46, .int .u64 r47, .int .u64 r48, .slice ka4 0 kc4, .slice pa4 0 pc4]] w' fun e w'' => e = .returned (.bool true) ∧ Below v4.heap.size v4 w'') := Lib.hid fun w' h => by
    have h1 : ReplyAt w' (From w3.heap.size) (.agg #[.int .i64 E, .string (bs px), .slice ra1 rn1 rc1, .int .u32 r11, .int .u32 r12, .int .u32 r13, .int .i64 r14, .int .u32 r15, .int .u64 r16, .int .u64 r17, .int .u64 r18, .slice ka1 0 kc1, .slice pa1 0 pc1]) E ⟨px, nd, []⟩ [] := ⟨⟨ra1, rn1, rc1, ⟨r11, r12, r13, r14, r15, r16, r17, r18⟩⟩, ka1, kc1, pa1, pc1, rfl, (HR1.out.1.below c14).below h, (HR1.out.2.below c14).below h, RepsAt.nil _ _ _⟩
    have h2 : ReplyAt w' (From v3.heap.size) (.agg #[.int .i64 E, .string (bs px), .slice ra4 rn4 rc4, .int .u32 r41, .int .u32 r42, .int .u32 r43, .int .i64 r44, .int .u32 r45, .int .u64 r46, .int .u64 r47, .int .u64 r48, .slice ka4 0 kc4, .slice pa4 0 pc4]) E ⟨px, nd, []⟩ [] := ⟨⟨ra4, rn4, rc4, ⟨r41, r42, r43, r44, r45, r46, r47, r48⟩⟩, ka4, kc4, pa4, pc4, rfl, HR4.out.1.below h, HR4.out.2.below h, RepsAt.nil _ _ _⟩
    exact (reply_same h1 h2 (Nat.zero_le _) (Nat.zero_le _) (fun y hy => by simp at hy)).mono fun e w'' ⟨g1, g2⟩ => ⟨g1, h.trans (g2.mono h.size)⟩
  have KND : Hid (∀ w', Below v4.heap.size v4 w' → Calls Tryz.prog 20 #[.agg #[.slice ra1 rn1 rc1, .int .u32 r11, .int .u32 r12, .int .u32 r13, .int .i64 r14, .int .u32 r15, .int .u64 r16, .int .u64 r17, .int .u64 r18], .agg #[.slice ra2 rn2 rc2, .int .u32 r21, .int .u32 r22, .int .u32 r23, .int .i64 r24, .int .u32 r25, .int .u64 r26, .int .u64 r27, .int .u64 r28]] w' fun e w'' => e = .returned (.bool true) ∧ Below v4.heap.size v4 w'') := Lib.hid fun w' h =>
    (refNode_same (r := ⟨ra1, rn1, rc1, ⟨r11, r12, r13, r14, r15, r16, r17, r18⟩⟩) (r' := ⟨ra2, rn2, rc2, ⟨r21, r22, r23, r24, r25, r26, r27, r28⟩⟩) (d := nd) ((HR1.out.1.below c14).below h) ((HR2.out.1.below c24).below h)).mono fun e w'' ⟨g1, g2⟩ => ⟨g1, h.trans (g2.mono h.size)⟩
  have KKD : Hid (∀ w', Below v4.heap.size v4 w' → Calls Tryz.prog 28 #[.pointer (some ⟨b, 0, none⟩), .string (bs p)] w' fun e w'' => ∃ a c, e = .returned (.slice a K c) ∧ StrSl w'' w''.heap.size a (kidsS pR M p) ∧ Below v4.heap.size v4 w'') := Lib.hid fun w' h => by
    rw [HK.out]
    exact ((HS5.out.below h).tr.kids p).mono fun e w'' ⟨a, c, g1, g2, g3⟩ => ⟨a, c, g1, g2, h.trans (g3.mono h.size)⟩
  have hK1 : (kidsS pR M p).length ≤ 1000 := by
    have h1 : (kidsS pR M p).length = (((keysS M).filter (kidB pR p)).map baseL).length := (sortS_perm _).length_eq
    have h2 := kids_len pR M p
    have h3 := HS5.out.tr.fit.len
    omega
  have KTX : Hid (∀ w' a c, Below v4.heap.size v4 w' → StrSl w' w'.heap.size a (kidsS pR M p) → Calls Tryz.prog 24 #[.slice ka2 K kc2, .slice a K c] w' fun e w'' => e = .returned (.bool true) ∧ Below v4.heap.size v4 w'') := Lib.hid fun w' a c h hs => by
    rw [HK.out]
    exact (refTexts_same hK1 (((HR2.out.2.below c24).below h).sl) hs).mono fun e w'' ⟨g1, g2⟩ => ⟨g1, h.trans (g2.mono h.size)⟩
  have tE : (E != E) = false := by simp
  clear K1 K2 K3 K4 c14 c24 c34 c44 hK1
  go_wp2_with fail
  have tEw : ∀ w', Below v4.heap.size v4 w' → (E != E) = false := fun _ _ => tE
  have N1 : ∀ w', Below v4.heap.size v4 w' → w'.rangeAt t1.heap.size 0 [.int .i64 E, .string (bs px), .slice ra1 rn1 rc1, .int .u32 r11, .int .u32 r12, .int .u32 r13, .int .i64 r14, .int .u32 r15, .int .u64 r16, .int .u64 r17, .int .u64 r18, .slice ka1 0 kc1, .slice pa1 0 pc1] := fun w' h => range_blk ((h.block _ (lt_of_block HKK.out.1)).trans HKK.out.1)
  have N4 : ∀ w', Below v4.heap.size v4 w' → w'.rangeAt t4.heap.size 0 [.int .i64 E, .string (bs px), .slice ra4 rn4 rc4, .int .u32 r41, .int .u32 r42, .int .u32 r43, .int .i64 r44, .int .u32 r45, .int .u64 r46, .int .u64 r47, .int .u64 r48, .slice ka4 0 kc4, .slice pa4 0 pc4] := fun w' h => range_blk ((h.block _ (lt_of_block HKK.out.2.2.2)).trans HKK.out.2.2.2)
  have N12 : ∀ w', Below v4.heap.size v4 w' → w'.rangeAt t1.heap.size 2 [.slice ra1 rn1 rc1, .int .u32 r11, .int .u32 r12, .int .u32 r13, .int .i64 r14, .int .u32 r15, .int .u64 r16, .int .u64 r17, .int .u64 r18] := fun w' h => mid_range 2 (o := 0) (N1 w' h) (fun j v hv => by
    have hj := (List.getElem?_eq_some_iff.1 hv).1
    rw [← hv]
    rw [show 2 + j = j + 2 by omega]
    rw [List.getElem?_cons_succ, List.getElem?_cons_succ]
    exact (List.getElem?_append_left (l₂ := [.slice ka1 0 kc1, .slice pa1 0 pc1]) hj))
  have N22 : ∀ w', Below v4.heap.size v4 w' → w'.rangeAt t2.heap.size 2 [.slice ra2 rn2 rc2, .int .u32 r21, .int .u32 r22, .int .u32 r23, .int .i64 r24, .int .u32 r25, .int .u64 r26, .int .u64 r27, .int .u64 r28] := fun w' h => mid_range 2 (o := 0) (range_blk ((h.block _ (lt_of_block HKK.out.2.1)).trans HKK.out.2.1)) (fun j v hv => by
    have hj := (List.getElem?_eq_some_iff.1 hv).1
    rw [← hv]
    rw [show 2 + j = j + 2 by omega]
    rw [List.getElem?_cons_succ, List.getElem?_cons_succ]
    exact (List.getElem?_append_left (l₂ := [.slice ka2 K kc2, .slice pa2 0 pc2]) hj))
  have HSZ : Hid ((Tryz.prog.info? 39).map (·.size) = some 9) := Lib.hid (by kernel_rfl)
  refine wp_region_held_drew (S := fun w' => Below v4.heap.size v4 w') (by kernel_rfl) (Below.refl _ v4).drew (fun hS => ?_)
  refine took_in 0 rfl (by kernel_rfl) (by kernel_rfl) (by kernel_rfl) (by rfl) hS (fun w' hS' => by go_simp <;> rfl) (fun _ _ _ h => h) ?_
  simp only [Act.put, List.setIfInBounds_toArray, List.set_cons_zero, List.set_cons_succ]
  refine took_in 1 rfl (by kernel_rfl) (by kernel_rfl) (by kernel_rfl) (by rfl) hS (fun w' hS' => by go_simp <;> rfl) (fun _ _ _ h => h) ?_
  simp only [Act.put, List.setIfInBounds_toArray, List.set_cons_zero, List.set_cons_succ]
  refine took_in 2 rfl (by kernel_rfl) (by kernel_rfl) (by kernel_rfl) (by rfl) hS (fun w' hS' => by go_simp <;> rfl) (fun _ _ _ h => h) ?_
  simp only [Act.put, List.setIfInBounds_toArray, List.set_cons_zero, List.set_cons_succ]
  refine took_in 3 rfl (by kernel_rfl) (by kernel_rfl) (by kernel_rfl) (by rfl) hS (fun w' hS' => by go_simp <;> rfl) (fun _ _ _ h => h) ?_
  simp only [Act.put, List.setIfInBounds_toArray, List.set_cons_zero, List.set_cons_succ]
  refine took_in 4 rfl (by kernel_rfl) (by kernel_rfl) (by kernel_rfl) (by rfl) hS (fun w' hS' => by go_simp <;> rfl) (fun _ _ _ h => h) ?_
  simp only [Act.put, List.setIfInBounds_toArray, List.set_cons_zero, List.set_cons_succ]
  refine took_in 5 rfl (by kernel_rfl) (by kernel_rfl) (by kernel_rfl) (by rfl) hS (fun w' hS' => by go_simp <;> rfl) (fun _ _ _ h => h) ?_
  simp only [Act.put, List.setIfInBounds_toArray, List.set_cons_zero, List.set_cons_succ]
  refine took_in 6 rfl (by kernel_rfl) (by kernel_rfl) (by kernel_rfl) (by rfl) hS (fun w' hS' => by go_simp <;> rfl) (fun _ _ _ h => h) ?_
  simp only [Act.put, List.setIfInBounds_toArray, List.set_cons_zero, List.set_cons_succ]
  refine took_in 7 rfl (by kernel_rfl) (by kernel_rfl) (by kernel_rfl) (by rfl) hS (fun w' hS' => by go_simp <;> rfl) (fun _ _ _ h => h) ?_
  simp only [Act.put, List.setIfInBounds_toArray, List.set_cons_zero, List.set_cons_succ]
  refine took_in 8 rfl (by kernel_rfl) (by kernel_rfl) (by kernel_rfl) (by rfl) hS (fun w' hS' => by go_simp <;> rfl) (fun _ _ _ h => h) ?_
  simp only [Act.put, List.setIfInBounds_toArray, List.set_cons_zero, List.set_cons_succ]
  refine took_in 9 rfl (by kernel_rfl) (by kernel_rfl) (by kernel_rfl) (by rfl) hS (fun w' hS' => by go_simp <;> rfl) (fun _ _ _ h => h) ?_
  simp only [Act.put, List.setIfInBounds_toArray, List.set_cons_zero, List.set_cons_succ]
  refine took_load 10 rfl (by kernel_rfl) (by kernel_rfl) (by kernel_rfl) (by rfl) hS 43 (.tmp 9) rfl t1.heap.size 0 rfl [.int .i64 E, .string (bs px), .slice ra1 rn1 rc1, .int .u32 r11, .int .u32 r12, .int .u32 r13, .int .i64 r14, .int .u32 r15, .int .u64 r16, .int .u64 r17, .int .u64 r18, .slice ka1 0 kc1, .slice pa1 0 pc1] _ N1 Tryz.underlying43 rfl HSR.out (fun _ _ _ h => h) ?_
  simp only [Act.put, List.setIfInBounds_toArray, List.set_cons_zero, List.set_cons_succ]
  refine took_load 11 rfl (by kernel_rfl) (by kernel_rfl) (by kernel_rfl) (by rfl) hS 43 (.tmp 15) rfl t4.heap.size 0 rfl [.int .i64 E, .string (bs px), .slice ra4 rn4 rc4, .int .u32 r41, .int .u32 r42, .int .u32 r43, .int .i64 r44, .int .u32 r45, .int .u64 r46, .int .u64 r47, .int .u64 r48, .slice ka4 0 kc4, .slice pa4 0 pc4] _ N4 Tryz.underlying43 rfl HSR.out (fun _ _ _ h => h) ?_
  simp only [Act.put, List.setIfInBounds_toArray, List.set_cons_zero, List.set_cons_succ]
  refine call_in 12 rfl (by kernel_rfl) (by rfl) _ _ (by go_simp <;> first | rfl | exact ⟨rfl, rfl⟩) ?_
  refine (KREP.out _ hS).mono ?_
  rintro e w5 ⟨rfl, ct5⟩
  refine ⟨ct5, ?_⟩
  try dsimp only
  simp only [Act.put, List.setIfInBounds_toArray, List.set_cons_zero, List.set_cons_succ]
  refine took_in 13 rfl (by kernel_rfl) (by kernel_rfl) (by kernel_rfl) (by rfl) ct5 (fun w' hS' => by go_simp <;> rfl) (fun _ _ _ h => h) ?_
  simp only [Act.put, List.setIfInBounds_toArray, List.set_cons_zero, List.set_cons_succ]
  refine took_in 14 rfl (by kernel_rfl) (by kernel_rfl) (by kernel_rfl) (by rfl) ct5 (fun w' hS' => by go_simp <;> rfl) (fun _ _ _ h => h) ?_
  simp only [Act.put, List.setIfInBounds_toArray, List.set_cons_zero, List.set_cons_succ]
  refine took_in 15 rfl (by kernel_rfl) (by kernel_rfl) (by kernel_rfl) (by rfl) ct5 (fun w' hS' => by go_simp <;> rfl) (fun _ _ _ h => h) ?_
  simp only [Act.put, List.setIfInBounds_toArray, List.set_cons_zero, List.set_cons_succ]
  refine took_in 16 rfl (by kernel_rfl) (by kernel_rfl) (by kernel_rfl) (by rfl) ct5 (fun w' hS' => by go_simp <;> rfl) (fun _ _ _ h => h) ?_
  simp only [Act.put, List.setIfInBounds_toArray, List.set_cons_zero, List.set_cons_succ]
  refine took_in 17 rfl (by kernel_rfl) (by kernel_rfl) (by kernel_rfl) (by rfl) ct5 (fun w' hS' => by have := f1_0 w' hS'; go_simp <;> rfl) (fun _ _ _ h => h) ?_
  simp only [Act.put, List.setIfInBounds_toArray, List.set_cons_zero, List.set_cons_succ]
  refine took_in 18 rfl (by kernel_rfl) (by kernel_rfl) (by kernel_rfl) (by rfl) ct5 (fun w' hS' => by go_simp <;> rfl) (fun _ _ _ h => h) ?_
  simp only [Act.put, List.setIfInBounds_toArray, List.set_cons_zero, List.set_cons_succ]
  refine took_in 19 rfl (by kernel_rfl) (by kernel_rfl) (by kernel_rfl) (by rfl) ct5 (fun w' hS' => by have := f2_0 w' hS'; go_simp <;> rfl) (fun _ _ _ h => h) ?_
  simp only [Act.put, List.setIfInBounds_toArray, List.set_cons_zero, List.set_cons_succ]
  refine took_in 20 rfl (by kernel_rfl) (by kernel_rfl) (by kernel_rfl) (by rfl) ct5 (fun w' hS' => by have := tEw w' hS'; go_simp <;> rfl) (fun _ _ _ h => h) ?_
  simp only [Act.put, List.setIfInBounds_toArray, List.set_cons_zero, List.set_cons_succ]
  refine took_in 21 rfl (by kernel_rfl) (by kernel_rfl) (by kernel_rfl) (by rfl) ct5 (fun w' hS' => by go_simp <;> rfl) (fun _ _ _ h => h) ?_
  simp only [Act.put, List.setIfInBounds_toArray, List.set_cons_zero, List.set_cons_succ]
  refine took_in 22 rfl (by kernel_rfl) (by kernel_rfl) (by kernel_rfl) (by rfl) ct5 (fun w' hS' => by go_simp <;> rfl) (fun _ _ _ h => h) ?_
  simp only [Act.put, List.setIfInBounds_toArray, List.set_cons_zero, List.set_cons_succ]
  refine took_in 23 rfl (by kernel_rfl) (by kernel_rfl) (by kernel_rfl) (by rfl) ct5 (fun w' hS' => by go_simp <;> rfl) (fun _ _ _ h => h) ?_
  simp only [Act.put, List.setIfInBounds_toArray, List.set_cons_zero, List.set_cons_succ]
  refine took_load 24 rfl (by kernel_rfl) (by kernel_rfl) (by kernel_rfl) (by rfl) ct5 39 (.tmp 83) rfl t1.heap.size 2 rfl [.slice ra1 rn1 rc1, .int .u32 r11, .int .u32 r12, .int .u32 r13, .int .i64 r14, .int .u32 r15, .int .u64 r16, .int .u64 r17, .int .u64 r18] _ N12 Tryz.underlying39 rfl HSZ.out (fun _ _ _ h => h) ?_
  simp only [Act.put, List.setIfInBounds_toArray, List.set_cons_zero, List.set_cons_succ]
  refine took_in 25 rfl (by kernel_rfl) (by kernel_rfl) (by kernel_rfl) (by rfl) ct5 (fun w' hS' => by go_simp <;> rfl) (fun _ _ _ h => h) ?_
  simp only [Act.put, List.setIfInBounds_toArray, List.set_cons_zero, List.set_cons_succ]
  refine took_load 26 rfl (by kernel_rfl) (by kernel_rfl) (by kernel_rfl) (by rfl) ct5 39 (.tmp 85) rfl t2.heap.size 2 rfl [.slice ra2 rn2 rc2, .int .u32 r21, .int .u32 r22, .int .u32 r23, .int .i64 r24, .int .u32 r25, .int .u64 r26, .int .u64 r27, .int .u64 r28] _ N22 Tryz.underlying39 rfl HSZ.out (fun _ _ _ h => h) ?_
  simp only [Act.put, List.setIfInBounds_toArray, List.set_cons_zero, List.set_cons_succ]
  refine call_in 27 rfl (by kernel_rfl) (by rfl) _ _ (by go_simp <;> first | rfl | exact ⟨rfl, rfl⟩) ?_
  refine (KND.out _ ct5).mono ?_
  rintro e w6 ⟨rfl, ct6⟩
  refine ⟨ct6, ?_⟩
  try dsimp only
  simp only [Act.put, List.setIfInBounds_toArray, List.set_cons_zero, List.set_cons_succ]
  refine took_in 28 rfl (by kernel_rfl) (by kernel_rfl) (by kernel_rfl) (by rfl) ct6 (fun w' hS' => by go_simp <;> rfl) (fun _ _ _ h => h) ?_
  simp only [Act.put, List.setIfInBounds_toArray, List.set_cons_zero, List.set_cons_succ]
  refine took_in 29 rfl (by kernel_rfl) (by kernel_rfl) (by kernel_rfl) (by rfl) ct6 (fun w' hS' => by go_simp <;> rfl) (fun _ _ _ h => h) ?_
  simp only [Act.put, List.setIfInBounds_toArray, List.set_cons_zero, List.set_cons_succ]
  refine took_in 30 rfl (by kernel_rfl) (by kernel_rfl) (by kernel_rfl) (by rfl) ct6 (fun w' hS' => by go_simp <;> rfl) (fun _ _ _ h => h) ?_
  simp only [Act.put, List.setIfInBounds_toArray, List.set_cons_zero, List.set_cons_succ]
  refine took_in 31 rfl (by kernel_rfl) (by kernel_rfl) (by kernel_rfl) (by rfl) ct6 (fun w' hS' => by go_simp <;> rfl) (fun _ _ _ h => h) ?_
  simp only [Act.put, List.setIfInBounds_toArray, List.set_cons_zero, List.set_cons_succ]
  refine took_in 32 rfl (by kernel_rfl) (by kernel_rfl) (by kernel_rfl) (by rfl) ct6 (fun w' hS' => by have := f2_11 w' hS'; go_simp <;> rfl) (fun _ _ _ h => h) ?_
  simp only [Act.put, List.setIfInBounds_toArray, List.set_cons_zero, List.set_cons_succ]
  refine took_in 33 rfl (by kernel_rfl) (by kernel_rfl) (by kernel_rfl) (by rfl) ct6 (fun w' hS' => by go_simp <;> rfl) (fun _ _ _ h => h) ?_
  simp only [Act.put, List.setIfInBounds_toArray, List.set_cons_zero, List.set_cons_succ]
  refine took_in 34 rfl (by kernel_rfl) (by kernel_rfl) (by kernel_rfl) (by rfl) ct6 (fun w' hS' => by go_simp <;> rfl) (fun _ _ _ h => h) ?_
  simp only [Act.put, List.setIfInBounds_toArray, List.set_cons_zero, List.set_cons_succ]
  refine call_in 35 rfl (by kernel_rfl) (by rfl) _ _ (by go_simp <;> first | rfl | exact ⟨rfl, rfl⟩) ?_
  refine (KKD.out _ ct6).mono ?_
  rintro e w7 ⟨a7, c7, rfl, S7, ct7⟩
  refine ⟨ct7, ?_⟩
  try dsimp only
  simp only [Act.put, List.setIfInBounds_toArray, List.set_cons_zero, List.set_cons_succ]
  refine call_in 36 rfl (by kernel_rfl) (by rfl) _ _ (by go_simp <;> first | rfl | exact ⟨rfl, rfl⟩) ?_
  refine (KTX.out _ a7 c7 ct7 S7).mono ?_
  rintro e w8 ⟨rfl, ct8⟩
  refine ⟨ct8, ?_⟩
  try dsimp only
  simp only [Act.put, List.setIfInBounds_toArray, List.set_cons_zero, List.set_cons_succ]
  refine took_in 37 rfl (by kernel_rfl) (by kernel_rfl) (by kernel_rfl) (by rfl) ct8 (fun w' hS' => by go_simp <;> rfl) (fun _ _ _ h => h) ?_
  simp only [Act.put, List.setIfInBounds_toArray, List.set_cons_zero, List.set_cons_succ]
  refine took_in 38 rfl (by kernel_rfl) (by kernel_rfl) (by kernel_rfl) (by rfl) ct8 (fun w' hS' => by go_simp <;> rfl) (fun _ _ _ h => h) ?_
  simp only [Act.put, List.setIfInBounds_toArray, List.set_cons_zero, List.set_cons_succ]
  refine took_not 39 rfl (by kernel_rfl) (by kernel_rfl) (by kernel_rfl) (by rfl) ct8 (fun _ _ _ h => h) ?_
  simp only [Act.put, List.setIfInBounds_toArray, List.set_cons_zero, List.set_cons_succ]
  refine took_not 40 rfl (by kernel_rfl) (by kernel_rfl) (by kernel_rfl) (by rfl) ct8 (fun _ _ _ h => h) ?_
  simp only [Act.put, List.setIfInBounds_toArray, List.set_cons_zero, List.set_cons_succ]
  refine took_not 41 rfl (by kernel_rfl) (by kernel_rfl) (by kernel_rfl) (by rfl) ct8 (fun _ _ _ h => h) ?_
  simp only [Act.put, List.setIfInBounds_toArray, List.set_cons_zero, List.set_cons_succ]
  refine took_in 42 rfl (by kernel_rfl) (by kernel_rfl) (by kernel_rfl) (by rfl) ct8 (fun w' hS' => by go_simp <;> rfl) (fun _ _ _ h => h) ?_
  simp only [Act.put, List.setIfInBounds_toArray, List.set_cons_zero, List.set_cons_succ]
  refine took_in 43 rfl (by kernel_rfl) (by kernel_rfl) (by kernel_rfl) (by rfl) ct8 (fun w' hS' => by go_simp <;> rfl) (fun _ _ _ h => h) ?_
  simp only [Act.put, List.setIfInBounds_toArray, List.set_cons_zero, List.set_cons_succ]
  refine wpAnyH_done (by kernel_rfl) ?_ _
  have HC8 := Lib.hid ct8
  clear ct8 ct7 ct6 ct5 S7 hS N1 N4 N12 N22 tEw
  clear f1_0 f2_0 f2_11
  have z3 : w8.cell? ⟨t3.heap.size, 0, none⟩ = some (.int .i64 E4) := (HC8.out.cell (p := ⟨t3.heap.size, 0, none⟩) (lt_of_block HKK.out.2.2.1)).trans (cell_of_row _ _ 0 _ 43 (0, 0) HKK.out.2.2.1)
  have z1 : w8.cell? ⟨t1.heap.size, 0, none⟩ = some (.int .i64 E) := (HC8.out.cell (p := ⟨t1.heap.size, 0, none⟩) (lt_of_block HKK.out.1)).trans (cell_of_row _ _ 0 _ 43 (0, 0) HKK.out.1)
  have hbv : Below w3.heap.size w3 v4 := HV1.out.2.1.trans (HC.out.1.mono HV1.out.2.1.size)
  have HB8 : Hid (Below w.heap.size w w8) := Lib.hid ((HB3.out.trans (hbv.mono HB3.out.size)).trans (HC8.out.mono (HB3.out.trans (hbv.mono HB3.out.size)).size))
  clear hbv
  have HS8 := Lib.hid (HS5.out.below HC8.out)
  by_cases h0 : E4 = 0
  · have t0 : (E4 == 0) = true := by rw [h0]; rfl
    obtain ⟨e0, eA⟩ := H40.out.1 h0
    have h1 : ReplyAt w8 (From w3.heap.size) (.agg #[.int .i64 E, .string (bs px), .slice ra1 rn1 rc1, .int .u32 r11, .int .u32 r12, .int .u32 r13, .int .i64 r14, .int .u32 r15, .int .u64 r16, .int .u64 r17, .int .u64 r18, .slice ka1 0 kc1, .slice pa1 0 pc1]) E ⟨px, nd, []⟩ [] := ⟨⟨ra1, rn1, rc1, ⟨r11, r12, r13, r14, r15, r16, r17, r18⟩⟩, ka1, kc1, pa1, pc1, rfl, (HR1.out.1.below HC.out.1).below HC8.out, (HR1.out.2.below HC.out.1).below HC8.out, RepsAt.nil _ _ _⟩
    have h3 : ReplyAt w8 (From v2.heap.size) (.agg #[.int .i64 E4, .string (bs p4), .slice ra3 rn3 rc3, .int .u32 r31, .int .u32 r32, .int .u32 r33, .int .i64 r34, .int .u32 r35, .int .u64 r36, .int .u64 r37, .int .u64 r38, .slice ka3 k4 kc3, .slice pa3 0 pc3]) E ⟨px, nd, []⟩ [] := by
      have hr := HR3.out
      rw [eA] at hr
      have q1 := HA4.out.1
      have q2 := HA4.out.2
      rw [eA] at q1 q2
      dsimp only [List.length_nil] at q1 q2
      rw [q1, q2, h0, e0]
      exact ⟨⟨ra3, rn3, rc3, ⟨r31, r32, r33, r34, r35, r36, r37, r38⟩⟩, ka3, kc3, pa3, pc3, rfl, (hr.1.below HC.out.2.2.1).below HC8.out, (hr.2.below HC.out.2.2.1).below HC8.out, RepsAt.nil _ _ _⟩
    have HRP := Lib.hid (reply_same h1 h3 (Nat.zero_le _) (Nat.zero_le _) (fun y hy => by simp at hy))
    have R1 := Lib.hid (range_blk ((HC8.out.block _ (lt_of_block HKK.out.1)).trans HKK.out.1))
    have R3 := Lib.hid (range_blk ((HC8.out.block _ (lt_of_block HKK.out.2.2.1)).trans HKK.out.2.2.1))
    clear h0 e0 eA h1 h3
    go_wp2_with (first
      | (refine wpList_load_mid rfl 43 (.tmp 9) rfl t1.heap.size 0 rfl [.int .i64 E, .string (bs px), .slice ra1 rn1 rc1, .int .u32 r11, .int .u32 r12, .int .u32 r13, .int .i64 r14, .int .u32 r15, .int .u64 r16, .int .u64 r17, .int .u64 r18, .slice ka1 0 kc1, .slice pa1 0 pc1] _ R1.out Tryz.underlying43 rfl HSR.out ?_)
      | (refine wpList_load_mid rfl 43 (.tmp 13) rfl t3.heap.size 0 rfl [.int .i64 E4, .string (bs p4), .slice ra3 rn3 rc3, .int .u32 r31, .int .u32 r32, .int .u32 r33, .int .i64 r34, .int .u32 r35, .int .u64 r36, .int .u64 r37, .int .u64 r38, .slice ka3 k4 kc3, .slice pa3 0 pc3] _ R3.out Tryz.underlying43 rfl HSR.out ?_))
    refine HRP.out.mono ?_
    rintro e w9 ⟨rfl, B9⟩
    have HS9 := Lib.hid (HS8.out.below B9)
    have HB9 := Lib.hid (HB8.out.trans (B9.mono HB8.out.size))
    clear B9
    go_wp2_with fail
    refine (works_any _ HS9.out.tr.max HS9.out.pow).mono ?_
    rintro e wz ⟨rfl, BZ⟩
    have HZ := Lib.hid (HB9.out.trans (BZ.mono HB9.out.size))
    clear BZ
    go_wp2
    go_ret
    exact ⟨rfl, HZ.out⟩
  · have t0 : (E4 == 0) = false := by simpa using h0
    by_cases hE : E4 = E
    · have t1 : (E4 == E) = true := by simpa using hE
      clear h0 hE
      go_wp2_with fail
      refine (works_any _ HS8.out.tr.max HS8.out.pow).mono ?_
      rintro e wz ⟨rfl, BZ⟩
      have HZ := Lib.hid (HB8.out.trans (BZ.mono HB8.out.size))
      clear BZ
      go_wp2
      go_ret
      exact ⟨rfl, HZ.out⟩
    · have t1 : (E4 == E) = false := by simpa using hE
      rcases H40.out.2 h0 with h | ⟨h35, hv⟩
      · exact absurd h hE
      have t2 : (E4 == 35) = true := by rw [h35]; rfl
      have t3 : decide ((0 : Int) ≤ ver) = true := by simpa using hv
      clear h0 hE h35 hv
      go_wp2_with fail
      refine (works_any _ HS8.out.tr.max HS8.out.pow).mono ?_
      rintro e wz ⟨rfl, BZ⟩
      have HZ := Lib.hid (HB8.out.trans (BZ.mono HB8.out.size))
      clear BZ
      go_wp2
      go_ret
      exact ⟨rfl, HZ.out⟩
end Go.Proofs.YtnclkfhdpkkakaaGreatDoor

namespace Go.Proofs.YtnclkfhdpkkakaaGreatDoor
set_option linter.unusedVariables false
set_option linter.unusedSimpArgs false
open Go Go.RowKit Go.ChangeShapes Go.WideShapes Go.Deep
open Go.ChangeMaps (open_string)
set_option maxRecDepth 100000 in
theorem opReads_law {H : Type} (enc : TypeId × Value → H) (W : World)
    (v0 : Value) (d0 : DataW H) (p0 : List MemPlace) (h0 : DataW.Trod enc Tryz.prog W 0 (fun _ => true) true 22 v0 d0 p0) (o0 : ∃ b, Value.okWide Tryz.prog W .any b 22 v0)
    (v1 : Value) (d1 : DataW H) (p1 : List MemPlace) (h1 : DataW.Trod enc Tryz.prog W 0 (fun _ => true) true 9 v1 d1 p1) (o1 : ∃ b, Value.okWide Tryz.prog W .any b 9 v1)
    (v2 : Value) (d2 : DataW H) (p2 : List MemPlace) (h2 : DataW.Trod enc Tryz.prog W 0 (fun _ => true) true 2 v2 d2 p2) (o2 : ∃ b, Value.okWide Tryz.prog W .any b 2 v2) (hm : MaxInt W) (PT : PowTab W) :
    Calls Tryz.prog 8 #[v0, v1, v2] W fun e W' => e = .returned (.bool true) ∧ Below W.heap.size W W' := by
  obtain ⟨b0, o0⟩ := o0
  obtain ⟨b1, o1⟩ := o1
  obtain ⟨b2, o2⟩ := o2
  obtain ⟨a0, len0, cap0, rfl⟩ := okWide_slice Tryz.underlying22 o0
  obtain ⟨s1, rfl, rfl, rfl, m1⟩ := open_string Tryz.underlying9 o1 h1
  obtain ⟨l1, rfl⟩ := str_open s1
  obtain ⟨x2, rfl, rfl, rfl, w2⟩ := open_int Tryz.underlying2 o2 h2
  obtain ⟨f0, h0⟩ := h0
  obtain ⟨a, c, L, e0, l0, hat⟩ := asks_open h0
  simp [Value.cells] at e0
  obtain ⟨rfl, rfl, rfl⟩ := e0
  rw [size_bs] at m1
  exact opReads_core W hm PT _ _ L hat l0 l1 x2 m1
end Go.Proofs.YtnclkfhdpkkakaaGreatDoor
