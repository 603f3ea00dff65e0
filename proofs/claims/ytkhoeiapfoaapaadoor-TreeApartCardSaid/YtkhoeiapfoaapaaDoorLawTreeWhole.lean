/-
  TreeWhole, walked.
-/
import Derived.Test.YtkhoeiapfoaapaaDoorTrInv
import Derived.Test.YtkhoeiapfoaapaaDoorTrGreat
import Derived.Test.YtkhoeiapfoaapaaDoorTrGrows
import Derived.Laws.Cover1
import Derived.Sort.Walk0
namespace Go.Proofs.YtkhoeiapfoaapaaDoor
set_option linter.unusedVariables false
set_option linter.unusedSimpArgs false
set_option linter.unusedVariables false
set_option linter.unusedSimpArgs false
open Go Go.RowKit Go.Shelf Go.MapKept Go.ChangeMaps Go.Maps Go.Sort

theorem sameM_refl {M : List (Bytes × Nd)} (h : (M.map (·.1)).Nodup) : sameM M M = true := by
  unfold sameM
  rw [decide_eq_true rfl, Bool.true_and]
  refine List.all_eq_true.2 fun x hx => decide_eq_true ?_
  obtain ⟨j, hj⟩ := List.getElem?_of_mem hx
  exact getA_of_at h hj
theorem sameT_refl {root : Bytes} {at_ : Int} {M : List (Bytes × Nd)} (h : (M.map (·.1)).Nodup) : sameT root at_ M root at_ M = true := by
  unfold sameT
  rw [sameM_refl h]
  simp
/-- The state of the law's loop. -/
def WhSt (w : World) (b : Nat) (i : Nat) (wr : World) : Prop := ∃ (at_ : Int) (M : List (Bytes × Nd)), TR w wr b pR at_ M ∧ 0 ≤ at_ ∧ at_ ≤ i ∧ Inv pR M
/-- The rows that came in fit. -/
theorem great_fit {R : List Row} (h : greatB R = false) {r : Row} (hr : r ∈ R) : ∀ e ∈ r.E, FitE e := fun e he => by
  have := (great_no h).2.1 r hr e he
  exact ⟨by omega, by omega⟩
theorem great_len {R : List Row} (h : greatB R = false) {r : Row} (hr : r ∈ R) : r.E.length ≤ 200 := by
  have h3 := (great_no h).2.2
  obtain ⟨i, hi⟩ := List.getElem?_of_mem hr
  have h1 := total_take R i r hi
  have h2 := total_le R (i + 1)
  omega
/-- The children of the paths so far. -/
def kidSum (M : List (Bytes × Nd)) (k : Nat) : Nat := (((keysS M).take k).map fun p => (kidsS pR M p).length).sum
theorem kidSum_succ {M : List (Bytes × Nd)} {k : Nat} {p : Bytes} (h : (keysS M)[k]? = some p) : kidSum M (k + 1) = kidSum M k + (kidsS pR M p).length := by
  unfold kidSum
  rw [List.take_add_one, h]
  simp
theorem kidSum_le (M : List (Bytes × Nd)) (k : Nat) : kidSum M k ≤ ((keysS M).map fun p => (kidsS pR M p).length).sum := by
  unfold kidSum
  conv => rhs; rw [← List.take_append_drop k (keysS M), List.map_append, List.sum_append]
  exact Nat.le_add_right _ _
set_option maxRecDepth 100000 in
set_option maxHeartbeats 8000000 in
theorem treeWhole_core (ao : Option Addr) (c : Nat) (R : List Row) (w : World) (hm : MaxInt w) (hR : RowsAt w w.heap.size ao R) (hcap : R.length ≤ maxLen) :
    Calls Tryd.prog 5 #[.slice ao R.length c] w fun e w' => e = .returned (.bool true) ∧ Below w.heap.size w w' := by
  have HGR := Lib.hid (great_any ao c R w hR hcap)
  obtain ⟨G, hG⟩ : ∃ G, G = greatB R := ⟨_, rfl⟩
  rw [← hG] at HGR
  obtain ⟨N, hN⟩ : ∃ N, N = R.length := ⟨_, rfl⟩
  rw [← hN] at HGR hcap ⊢
  have HIN := Lib.hid (And.intro hR (And.intro hN (And.intro hG hm)))
  clear hR hN hG hm
  cases G with
  | true =>
    go_enter Tryd.func5, Tryd.ntmps5
    go_wp2_with fail
    refine HGR.out.mono ?_
    rintro e wz ⟨rfl, rfl⟩
    go_wp2
    go_ret
    exact ⟨rfl, Below.refl _ _⟩
  | false =>
    have hN40 : N ≤ 40 := by rw [HIN.out.2.1]; exact (great_no HIN.out.2.2.1.symm).1
    go_enter Tryd.func5, Tryd.ntmps5
    go_wp2_with fail
    refine HGR.out.mono ?_
    rintro e wz ⟨rfl, rfl⟩
    go_wp2_with fail
    refine (TR.new (root := pR) (Below.refl _ w) HIN.out.2.2.2 (by decide) rootsR).mono ?_
    rintro e w2 ⟨b, rfl, R2, hb2, B2⟩
    have HS0 : Hid (WhSt w b 0 w2) := Lib.hid ⟨0, M0, R2, Int.le_refl _, Int.le_refl _, Inv.made rootsR zNd⟩
    clear R2 B2 HGR
    go_wp2
    go_loopw [5] (fun p wr => ∃ i : Nat, i ≤ N ∧ p = .int .i64 i ∧ Hid (WhSt w b i wr)) (fun p _ => N - (intOf p).toNat)
    case atStart => exact ⟨0, by omega, rfl, HS0⟩
    case round =>
      obtain ⟨i, hi, rfl, HS⟩ := hrel
      by_cases hlt : i < N
      · obtain ⟨hR, hN, hG, hm⟩ := HIN.out
        obtain ⟨r, hr⟩ : ∃ r, R[i]? = some r := ⟨_, List.getElem?_eq_getElem (by omega)⟩
        have hrm := List.mem_of_getElem? hr
        have hfit := great_fit hG.symm hrm
        have hlen := great_len hG.symm hrm
        obtain ⟨at_, M, R3, h0, h1, I⟩ := HS.out
        have HR3 := Lib.hid R3
        have HI := Lib.hid I
        have HROW := Lib.hid (And.intro hr (And.intro hrm (And.intro hfit hlen)))
        clear hR hN hG hm hr hrm hfit hlen R3 I
        go_wp2_with fail
        refine HR3.out.clone.mono ?_
        rintro e w4 ⟨b', rfl, R4, hb4, B4⟩
        have hbb : b ≠ b' := by have := HR3.out.lt; omega
        have HR4 := Lib.hid (And.intro (HR3.out.below B4) R4)
        clear R4 B4
        obtain ⟨hro, bo, off, hao, hbo, hcell⟩ := ((HIN.out.1.below HR4.out.1.bl) i r HROW.out.1)
        subst hao
        obtain ⟨n, hn⟩ : ∃ n, n = r.L.length := ⟨_, rfl⟩
        rw [← hn] at hcell
        have hap := HR4.out.1.applyX h0 (by omega) hro.like hro.at_ HROW.out.2.2.1 (by have := hro.like.1; have := HROW.out.2.2.2; omega) rfl rfl rfl n hn (cap := r.c)
        have HAP := Lib.hid hap
        clear hap hro hbo hn
        go_wp2_with fail
        refine HAP.out.mono ?_
        rintro e w5 ⟨rfl, R5, K5⟩
        have I5 : Inv pR (nodesA pR M r.E) := HI.out.nodes
        have R5w := HR4.out.2.other HR4.out.1 (Ne.symm hbb) K5
        have hQ : ∃ (at2 : Int) (M' : List (Bytes × Nd)), TR w w5 b pR at2 M' ∧ TR w w5 b' pR at_ M ∧ Inv pR M' ∧ (((applyA pR M r.E).1 = 0 ∧ at2 = at_ + 1) ∨ ((applyA pR M r.E).1 ≠ 0 ∧ at2 = at_ ∧ M' = M)) := by
          refine ⟨_, _, R5, R5w, I5, ?_⟩
          unfold atA nodesA
          by_cases hx : (applyA pR M r.E).1 = 0
          · rw [if_pos hx, if_pos hx]; exact .inl ⟨hx, rfl⟩
          · rw [if_neg hx, if_neg hx]; exact .inr ⟨hx, rfl, rfl⟩
        clear R5 K5 R5w I5 HAP hcell
        obtain ⟨at2, M', R5, R5w, I5, hcase⟩ := hQ
        have HR5 := Lib.hid (And.intro R5 (And.intro R5w I5))
        have HND := Lib.hid HI.out.nodup
        clear R5 R5w I5 HI
        generalize (applyA pR M r.E).1 = x at *
        have hat2 : 0 ≤ at2 ∧ at2 ≤ at_ + 1 := by rcases hcase with ⟨_, h⟩ | ⟨_, h, _⟩ <;> omega
        have hw64 : IntKind.u64.wrap (at_ + 1) = at_ + 1 := IntWalk.u64_in _ (by omega)
        rcases hcase with ⟨hx, hat⟩ | ⟨hx, hat⟩
        all_goals
          first
          | (obtain ⟨x1, x2⟩ := eq_int hx
             subst hx hat
             go_wp2_with fail
             refine HR5.out.1.at_any.mono ?_
             rintro e wz ⟨rfl, rfl⟩
             go_wp2_with fail
             refine HR5.out.2.1.at_any.mono ?_
             rintro e wz ⟨rfl, rfl⟩
             have HQ : Hid (TR w w5 b pR (at_ + 1) M' ∧ Inv pR M') := Lib.hid ⟨HR5.out.1, HR5.out.2.2⟩)
          | (obtain ⟨x1, x2⟩ := neq_int hx
             have HX := Lib.hid hx
             obtain ⟨rfl, rfl⟩ := hat
             clear hx
             go_wp2_with fail
             have hsame := HR5.out.2.1.same HR5.out.1
             rw [sameT_refl HND.out] at hsame
             refine hsame.mono ?_
             rintro e w6 ⟨rfl, B6⟩
             have HQ : Hid (TR w w6 b pR at2 M' ∧ Inv pR M') := Lib.hid ⟨HR5.out.1.below B6, HR5.out.2.2⟩
             clear B6 hsame)
          go_wp2_with fail
          refine HQ.out.1.paths.mono ?_
          rintro e w7 ⟨a7, c7, rfl, S7, B7⟩
          have HR7 := Lib.hid (HQ.out.1.below B7)
          have HS7 := Lib.hid S7
          have HI7 := Lib.hid HQ.out.2
          obtain ⟨K, hK⟩ : ∃ K, K = M'.length := ⟨_, rfl⟩
          have hK48 : K ≤ 48 := by rw [hK]; exact HQ.out.1.fit.len
          obtain ⟨bk, ofk, rfl, hbk, hc0⟩ := S7 0 pR HI7.out.first
          rw [Nat.add_zero] at hc0
          have hKpos : 0 < K := by
            have := (List.getElem?_eq_some_iff.1 HI7.out.first).1
            rw [keysS_len] at this
            omega
          rw [← hK]
          have HK := Lib.hid hK
          have t1 : ((K : Int) == 0) = false := by simpa using (by omega : ¬ (K : Int) = 0)
          have t2 : (!((bs pR).toList == [47, 114])) = false := by rw [toList_bs]; decide
          have t3 : decide ((48 : Int) < (K : Int)) = false := by simpa using (by omega : (K : Int) ≤ 48)
          clear S7 B7 hK HR5 HQ
          go_wp2
          go_loopw [9, 10] (fun kd kk wr2 => ∃ k sm : Nat, k ≤ K ∧ kd = .int .i64 sm ∧ kk = .int .i64 k ∧ sm ≤ 48 ∧ Hid (Below w7.heap.size w7 wr2 ∧ sm = kidSum M' k)) (fun _ kk _ => K - (intOf kk).toNat)
          case atStart => exact ⟨0, 0, by omega, rfl, rfl, by omega, Lib.hid ⟨Below.refl _ _, rfl⟩⟩
          case round =>
            obtain ⟨k, sm, hk, rfl, rfl, hsm, HS2⟩ := hrel
            have hbw2 := HS2.out.1
            have R8 := HR7.out.below hbw2
            by_cases hlk : k < K
            · obtain ⟨p, hp⟩ : ∃ p, (keysS M')[k]? = some p := ⟨_, List.getElem?_eq_getElem (by rw [keysS_len, ← HK.out]; exact hlk)⟩
              obtain ⟨b9, o9, e9, hb9, hc9⟩ := HS7.out k p hp
              cases e9
              have hck : wr.cell? ⟨bk, ofk + k, none⟩ = some (.string (bs p)) := (hbw2.cell (p := ⟨bk, ofk + k, none⟩) hb9).trans hc9
              have hks := kidSum_succ hp
              have hle := kidSum_le M' (k + 1)
              rw [HI7.out.kids] at hle
              obtain ⟨m8, hm8⟩ : ∃ m8, m8 = (kidsS pR M' p).length := ⟨_, rfl⟩
              have hkd := R8.kids p
              rw [← hm8] at hkd hks
              have hsum : sm + m8 ≤ 47 := by have := HS2.out.2; have := HK.out; omega
              have HKD := Lib.hid hkd
              have HKS := Lib.hid (And.intro hp hks)
              have HR8 := Lib.hid R8
              have HBW2 := Lib.hid hbw2
              have hbk2 : bk < wr.heap.size := Nat.lt_of_lt_of_le hb9 hbw2.size
              have hpl : p.length ≤ 1000 := by
                obtain ⟨x, hx, rfl⟩ := List.mem_map.1 (keysS_mem.1 (List.mem_of_getElem? hp))
                exact R8.fit.path x hx
              clear hkd hks hle hm8 hp R8 hbw2 hc9 hb9
              go_wp2_with fail
              refine HKD.out.mono ?_
              rintro e w9 ⟨a9, c9, rfl, _, B9⟩
              have HB9 := Lib.hid B9
              have HR9 := Lib.hid (HR8.out.below B9)
              have hck9 : w9.cell? ⟨bk, ofk + k, none⟩ = some (.string (bs p)) := (B9.cell (p := ⟨bk, ofk + k, none⟩) hbk2).trans hck
              have hbk9 : bk < w9.heap.size := Nat.lt_of_lt_of_le hbk2 B9.size
              clear B9 hck
              by_cases hk0 : k = 0
              · have tk : ((k : Int) == 0) = true := by simpa using (by omega : (k : Int) = 0)
                clear hk0
                go_wp2
                go_roundw
                case rel => exact ⟨k + 1, sm + m8, by omega, by go_num, by go_num, by omega, Lib.hid ⟨HBW2.out.trans (HB9.out.mono HBW2.out.size), by rw [HKS.out.2, HS2.out.2]⟩⟩
                case measure => simp [intOf]; omega
              · have tk : ((k : Int) == 0) = false := by simpa using (by omega : ¬ (k : Int) = 0)
                have hk1 : 1 ≤ k := by omega
                have HPAR := Lib.hid (always_parent HR9.out.max p hpl)
                have hpu := HI7.out.under p (keysS_mem.1 (List.mem_of_getElem? HKS.out.1))
                have hne : p ≠ pR := fun e => by
                  have h1 := keysS_lt HI7.out.nodup HI7.out.first HKS.out.1 (by omega)
                  rw [e] at h1
                  exact absurd h1 (List.lt_irrefl _)
                have hpar := getA_some.2 (HI7.out.parent p (keysS_mem.1 (List.mem_of_getElem? HKS.out.1)) hne)
                obtain ⟨p1, hp1⟩ : ∃ p1, (keysS M')[k - 1]? = some p1 := ⟨_, List.getElem?_eq_getElem (by rw [keysS_len, ← HK.out]; omega)⟩
                have hlt1 := keysS_lt HI7.out.nodup hp1 HKS.out.1 (by omega)
                have tl : Op.bytesLess (bs p1).toList (bs p).toList = true := by rw [toList_bs, toList_bs, bytesLess_eq]; simpa using hlt1
                have tl2 : (!Op.bytesLess (bs p1).toList (bs p).toList) = false := by rw [tl]; rfl
                obtain ⟨b1, o1, e1, hb1, hc1⟩ := HS7.out (k - 1) p1 hp1
                cases e1
                have hck1 : w9.cell? ⟨bk, ofk + (k - 1), none⟩ = some (.string (bs p1)) := ((HBW2.out.trans (HB9.out.mono HBW2.out.size)).cell (p := ⟨bk, ofk + (k - 1), none⟩) hb1).trans hc1
                have HPU := Lib.hid (And.intro hpu hpar)
                clear hk0 hpu hne hpar hp1 hlt1 hc1 hb1
                go_wp2_with fail
                refine (HPAR.out _ (Below.refl _ _)).mono ?_
                rintro e w10 ⟨rfl, B10⟩
                have HR10 := Lib.hid (HR9.out.below B10)
                have hck10 : w10.cell? ⟨bk, ofk + k, none⟩ = some (.string (bs p)) := (B10.cell (p := ⟨bk, ofk + k, none⟩) hbk9).trans hck9
                have hck11 : w10.cell? ⟨bk, ofk + (k - 1), none⟩ = some (.string (bs p1)) := (B10.cell (p := ⟨bk, ofk + (k - 1), none⟩) hbk9).trans hck1
                have hbk10 : bk < w10.heap.size := Nat.lt_of_lt_of_le hbk9 B10.size
                have HB10 := Lib.hid (HB9.out.trans (B10.mono HB9.out.size))
                have hgt := HR10.out.get (parentL p) (by have := parentL_len p hpl; unfold maxLen; omega)
                rw [HPU.out.2] at hgt
                have HGT := Lib.hid hgt
                clear B10 hck9 hck1 hbk9 hgt
                go_wp2_with fail
                refine HGT.out.mono ?_
                rintro e w11 ⟨⟨ga, gn, gc, ⟨v1, v2, v3, v4, v5, v6, v7, v8⟩⟩, rfl, _, B11, _⟩
                unfold Raw.val Raw.cells Nums.cells
                dsimp only
                obtain ⟨w12, hw12⟩ : ∃ w12, w12 = w11.alloc (.cells #[.slice ga gn gc, .int .u32 v1, .int .u32 v2, .int .u32 v3, .int .i64 v4, .int .u32 v5, .int .u64 v6, .int .u64 v7, .int .u64 v8] 33) := ⟨_, rfl⟩
                have B12 : Below w10.heap.size w10 w12 := B11.trans (by rw [hw12]; exact (belowA (Below.refl _ w11) _).mono B11.size)
                have g : ∀ (q : Addr) v, w10.cell? q = some v → ∀ o, (Wext w12 o).cell? q = some v := fun q v h o => ((B12.trans ((Wext.below w12 o).mono B12.size)).cell (World.block_lt_of_cell? _ _ h)).trans h
                have y0 := g _ _ hck10
                have y1 := g _ _ hck11
                have KU := Lib.hid ((always_under HR10.out.max p pR hpl (by decide)).ext B12)
                rw [HPU.out.1] at KU
                have HW12 := Lib.hid hw12
                have HB12 := Lib.hid (HB10.out.trans (B12.mono HB10.out.size))
                clear B11 B12 g hck10 hck11 hw12
                have hw1 : IntKind.i64.wrap ((k : Int) - 1) = ((k - 1 : Nat) : Int) := by rw [IntWalk.i64_in _ (by omega)]; omega
                have hk1l : k - 1 < K := by omega
                go_wp2_with fail
                rw [← HW12.out]
                refine wp_region_ext (by kernel_rfl) (by kernel_rfl) ?_
                repeat (go_big_quiet_step (first | (go_at_call 24; exact KU.out _)))
                refine wpQuiet_nil ?_
                intro w' hw'
                obtain ⟨oq, hw''⟩ := hw'
                subst hw''
                have HBE := Lib.hid (HB12.out.trans ((Wext.below w12 oq).mono HB12.out.size))
                clear y0 y1 hw1 hk1l
                go_wp2
                go_roundw
                case rel => exact ⟨k + 1, sm + m8, by omega, by go_num, by go_num, by omega, Lib.hid ⟨HBW2.out.trans (HBE.out.mono HBW2.out.size), by rw [HKS.out.2, HS2.out.2]⟩⟩
                case measure => simp [intOf]; omega
            · obtain rfl : k = K := by omega
              have hsk : sm = k - 1 := by
                have h1 := HS2.out.2
                unfold kidSum at h1
                rw [List.take_of_length_le (by rw [keysS_len]; exact Nat.le_of_eq HK.out.symm), HI7.out.kids, ← HK.out] at h1
                exact h1
              have ts : ((sm : Int) == (k : Int) - 1) = true := by simpa using (by omega : (sm : Int) = (k : Int) - 1)
              have ts2 : (!((sm : Int) == (k : Int) - 1)) = false := by rw [ts]; rfl
              have HSK := Lib.hid hsk
              have HR12 := Lib.hid R8
              clear hsk R8 hbw2
              go_wp2
              go_roundw
              case rel => exact ⟨i + 1, by omega, by go_num, Lib.hid ⟨_, M', HR12.out, by omega, by omega, HI7.out⟩⟩
              case measure => simp [intOf]; omega
      · obtain rfl : i = N := by omega
        obtain ⟨at_, M, R3, h0, h1, I⟩ := HS.out
        have HR3 := Lib.hid R3
        clear R3 I
        go_wp2_with fail
        refine (grows_any _ HR3.out.max).mono ?_
        rintro e w4 ⟨rfl, B4⟩
        have HR4 := Lib.hid (HR3.out.below B4)
        clear B4
        go_wp2
        go_ret
        exact ⟨rfl, HR4.out.bl⟩
end Go.Proofs.YtkhoeiapfoaapaaDoor
