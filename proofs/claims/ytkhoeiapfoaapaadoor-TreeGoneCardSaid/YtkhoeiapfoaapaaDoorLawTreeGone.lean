/-
  TreeGone, walked.
-/
import Derived.Test.YtkhoeiapfoaapaaDoorGnEval
import Derived.Test.YtkhoeiapfoaapaaDoorGnRow
import Derived.Test.YtkhoeiapfoaapaaDoorTrGrows
namespace Go.Proofs.YtkhoeiapfoaapaaDoor
set_option linter.unusedVariables false
set_option linter.unusedSimpArgs false
set_option linter.unusedVariables false
set_option linter.unusedSimpArgs false
open Go Go.RowKit Go.Shelf Go.MapKept Go.ChangeMaps Go.Maps Go.Sort

theorem join_gp (i : Nat) (hi : i < 20) (w : World) (hm : MaxInt w) : Calls Tryd.prog 19 #[.string (bs (gp i)), .string ⟨#[97]⟩] w fun e w' => e = .returned (.tuple #[.string (bs (gp (i + 1))), .int .i64 0]) ∧ Below w.heap.size w w' := by
  cases i with
  | zero =>
    have h := join_nil (gp 0) [97] gj0 gj2 (by simp) w
    have g := gj3 0 (by omega)
    rw [show List.replicate 0 ([97] : Bytes) = [] from rfl] at g
    rw [g] at h
    exact h
  | succ i =>
    have h := join_some (gp (i + 1)) [97] _ (gj1 i (by omega)) (by simp) gj2 (by simp) w hm
    rw [gj3 (i + 1) hi] at h
    exact h
/-- Where the rows of paths lie. -/
def PathsAt (w : World) (g d : Nat) : Prop := g < w.heap.size ∧ ∀ i, i < d → w.cell? ⟨g, i * 11, none⟩ = some (.string (bs (gp (i + 1))))
theorem PathsAt.below {w w' : World} {g d : Nat} (h : PathsAt w g d) (hb : Below w.heap.size w w') : PathsAt w' g d := ⟨Nat.lt_of_lt_of_le h.1 hb.size, fun i hi => (hb.cell (p := ⟨g, i * 11, none⟩) h.1).trans (h.2 i hi)⟩
theorem PathsAt.kept {w w' : World} {g d b : Nat} (h : PathsAt w g d) (hk : Kept (· = b) w w') (hne : g ≠ b) : PathsAt w' g d := ⟨Nat.lt_of_lt_of_le h.1 hk.size, fun i hi => (hk.cell (p := ⟨g, i * 11, none⟩) h.1 hne).trans (h.2 i hi)⟩
/-- The row after i rounds. -/
def GnSt (w1 : World) (i : Nat) (v : Value) (wr : World) : Prop := Below w1.heap.size w1 wr ∧ ∃ L, L.length = i ∧ EffRow wr w1.heap.size v L (EG i)
set_option maxRecDepth 100000 in
set_option maxHeartbeats 8000000 in
theorem treeGone_core (n k : Int) (hn0 : 0 ≤ n) (hn1 : n ≤ 255) (hk0 : 0 ≤ k) (hk1 : k ≤ 255) (w : World) (hm : MaxInt w) :
    Calls Tryd.prog 4 #[.int .u8 n, .int .u8 k] w fun e w' => e = .returned (.bool true) ∧ Below w.heap.size w w' := by
  obtain ⟨i0, hi0, hz0, hz1, hz2⟩ := info_parts infoEffect
  have HM := Lib.hid hm
  clear hm
  go_enter Tryd.func4, Tryd.ntmps4
  go_wp2_with fail
  obtain ⟨d, hd1, hd2, hd⟩ : ∃ d : Nat, 1 ≤ d ∧ d ≤ 20 ∧ 1 + n % 20 = d := ⟨(1 + n % 20).toNat, by omega, by omega, by omega⟩
  rw [hd]
  refine (TR.new (root := pG) (Below.refl _ w) HM.out (by decide) rootsG).mono ?_
  rintro e w1 ⟨b, rfl, R1, hb1, B1⟩
  have hbl := R1.lt
  have HR1 : Hid (TR w w1 b pG 0 (MG 0)) := Lib.hid R1
  clear R1 B1 hd
  go_wp2
  go_loopw [8, 9, 10] (fun v p c wr => ∃ i : Nat, i ≤ d ∧ c = .int .i64 i ∧ p = .string (bs (gp i)) ∧ Hid (GnSt w1 i v wr)) (fun _ _ c _ => d - (intOf c).toNat)
  case atStart => exact ⟨0, by omega, rfl, rfl, Lib.hid ⟨Below.refl _ w1, [], rfl, effRow_nil _ _⟩⟩
  case round =>
    obtain ⟨i, hi, rfl, rfl, HS⟩ := hrel
    by_cases hlt : i < d
    · obtain ⟨HB, L, hL, ER⟩ := HS.out
      have HB := Lib.hid HB
      have HER := Lib.hid ER
      clear ER HS
      go_wp2_with fail
      refine (join_gp i (by omega) wr (HM.out.kept (HR1.out.below HB.out).bl)).mono ?_
      rintro e w2 ⟨rfl, B2⟩
      go_wp2_with fail
      refine (putE_any (gp (i + 1)) w2).mono ?_
      rintro e w3 ⟨r, rfl, RD3, B3⟩
      obtain ⟨ra, rn, rc, ru⟩ := r
      have hu : ru = zNums := RD3.num
      subst hu
      unfold RawE.val RawE.cells Raw.cells Nums.cells zNums
      dsimp only
      have hown3 := own_below HER.out.own (belowA (B2.trans (B3.mono B2.size)) (.cells #[.string (bs (gp (i + 1))), .bool false, .slice ra rn rc, .int .u32 0, .int .u32 0, .int .u32 0, .int .i64 0, .int .u32 0, .int .u64 0, .int .u64 0, .int .u64 0] 35))
      have hb3 : Below w1.heap.size w1 w3 := HB.out.trans ((B2.trans (B3.mono B2.size)).mono HB.out.size)
      have hs3 := hb3.size
      have HX := Lib.hid (And.intro hown3 (And.intro hb3 (And.intro RD3 (And.intro B2 B3))))
      clear hown3 hb3 RD3 B2 B3
      go_wp2_with (at_builtin; refine wpList_append_new rfl (.tmp 43) (.tmp 46) 37 rfl w1.heap.size 35 i0 (.agg #[.string ⟨#[]⟩, .bool false, .slice none 0 0, .int .u32 0, .int .u32 0, .int .u32 0, .int .i64 0, .int .u32 0, .int .u64 0, .int .u64 0, .int .u64 0]) 11 104 Tryd.underlying37 hi0 hz0 hz1 hz2 rfl (by decide) _ _ _ rfl HX.out.1 ⟨w3.heap.size, 0, none⟩ 1 1 [.string (bs (gp (i + 1))), .bool false, .slice ra rn rc, .int .u32 0, .int .u32 0, .int .u32 0, .int .i64 0, .int .u32 0, .int .u64 0, .int .u64 0, .int .u64 0] rfl rfl (effE_len _ _ _ _ _ _ _ _ _ _ _ w3) (by intro u hu; simp at hu; rcases hu with rfl | rfl | rfl | rfl | rfl | rfl | rfl <;> rfl) (by unfold maxLen; omega) (by omega) (by simp; omega) ?_; intro v4 w4 hown4 hgrow4 hwh4)
      have hb4 : Below w1.heap.size w1 w4 := (belowA HX.out.2.1 _).grown hgrow4 (by simp; omega) (fun g hg => (HX.out.1.lt g hg).1)
      have hmore := HER.out.more (HX.out.2.2.2.1.trans (HX.out.2.2.2.2.mono HX.out.2.2.2.1.size)) (e := putF (gp (i + 1))) (r := ⟨gp (i + 1), false, ⟨ra, rn, rc, zNums⟩⟩) ⟨rfl, rfl, HX.out.2.2.1.mono fun k hk => Nat.le_trans HX.out.2.2.2.1.size hk⟩ _ hown4 rfl hgrow4 hwh4
      have HM4 : Hid (GnSt w1 (i + 1) v4 w4) := Lib.hid ⟨hb4, L ++ [⟨gp (i + 1), false, ⟨ra, rn, rc, zNums⟩⟩], by simp [hL], by
        rw [show EG (i + 1) = EG i ++ [putF (gp (i + 1))] by simp [EG, List.range_succ]]
        exact hmore⟩
      clear hb4 hmore hown4 hgrow4 hwh4
      go_roundw
      case rel => exact ⟨i + 1, by omega, by go_num, rfl, HM4⟩
      case measure => simp [intOf]; omega
    · obtain rfl : i = d := by omega
      obtain ⟨HB, L, hL, ER⟩ := HS.out
      obtain ⟨g, c, rfl, hg1, hg2, hea⟩ := ER.lies (by omega)
      have hgb : g ≠ b := by omega
      have hlike := ER.like
      have hpa : PathsAt wr g i := ⟨hg2, fun j hj => by
        obtain ⟨r, hr⟩ : ∃ r, L[j]? = some r := ⟨_, List.getElem?_eq_getElem (by omega)⟩
        obtain ⟨b', off, e1, _, h3⟩ := hea j r hr
        cases e1
        have hE : (EG i)[j]? = some (putF (gp (j + 1))) := by simp [EG, hj]
        have hpth : r.path = gp (j + 1) := (hlike.2 j r _ hr hE).path
        have := h3 0 (.string (bs r.path)) rfl
        rw [hpth] at this
        rw [show 0 + j * 11 + 0 = j * 11 by omega] at this
        exact this⟩
      have hap := (HR1.out.below HB).applyX (by decide) (by decide) hlike hea (fun e he => by
        obtain ⟨j, hj, rfl⟩ := List.mem_map.1 he
        exact fit_put _ (gp_len _ (by have := List.mem_range.1 hj; omega))) (by omega) (at' := 1) (atA_yes (at_ := 0) (gn1 i hd2)).1 (atA_yes (at_ := 0) (gn1 i hd2)).2.1 (atA_yes (at_ := 0) (gn1 i hd2)).2.2 i hL.symm (cap := c)
      rw [hL]
      have HAP := Lib.hid hap
      have HPA := Lib.hid hpa
      clear hap hpa hlike hea ER HB HS hL
      go_wp2_with fail
      refine HAP.out.mono ?_
      rintro e w5 ⟨rfl, R5, K5⟩
      have HR5 := Lib.hid R5
      have HP5 := Lib.hid (HPA.out.kept K5 hgb)
      clear R5 K5 HPA HAP
      go_wp2_with fail
      refine HR5.out.paths.mono ?_
      rintro e w6 ⟨a6, c6, rfl, _, B6⟩
      have HR6 := Lib.hid (HR5.out.below B6)
      have HP6 := Lib.hid (HP5.out.below B6)
      clear B6 HR5 HP5
      rw [gn3]
      obtain ⟨a, ha, hka⟩ : ∃ a : Nat, a < i ∧ k % (i : Int) = a := ⟨(k % (i : Int)).toNat, by
        have := Int.emod_lt_of_pos k (show (0 : Int) < i by omega)
        have := Int.emod_nonneg k (show (i : Int) ≠ 0 by omega)
        omega, by
        have := Int.emod_nonneg k (show (i : Int) ≠ 0 by omega)
        omega⟩
      have hl1 : (((i + 1 : Nat) : Int) != (i : Int) + 1) = false := by simp
      have hload := HP6.out.2 a ha
      go_wp2_with fail
      refine (goneE_cells (gp (a + 1)) w6).mono ?_
      rintro e w7 ⟨rfl, E7, B7⟩
      have HR7 := Lib.hid (HR6.out.below B7)
      have HE7 := Lib.hid (E7 w7)
      have HP7 := Lib.hid (HP6.out.below B7)
      clear E7 B7 HR6 HP6 hload
      obtain ⟨x, m, at_, hx, hmi, hat0, hat1, hcase⟩ : ∃ (x : Int) (m : Nat) (at_ : Int), ((applyA pG (MG i) [goneF (gp (a + 1))]).1 = x ∧ atA pG 1 (MG i) [goneF (gp (a + 1))] = at_ ∧ nodesA pG (MG i) [goneF (gp (a + 1))] = MG m) ∧ m ≤ i ∧ 0 ≤ at_ ∧ at_ ≤ 2 ∧ ((x = 0 ∧ (((a : Int) == (i : Int) - 1) = true)) ∨ (x = 33 ∧ (((a : Int) == (i : Int) - 1) = false))) := by
        have h := gn2 i hd2 a ha
        by_cases hc : a + 1 = i
        · rw [if_pos hc] at h
          exact ⟨0, a, 2, atA_yes h, by omega, by omega, by omega, .inl ⟨rfl, by simp; omega⟩⟩
        · rw [if_neg hc] at h
          exact ⟨33, i, 1, atA_no (by rw [h]) (by decide), by omega, by omega, by omega, .inr ⟨rfl, by simp; omega⟩⟩
      have hap := HR7.out.apply1 (r := ⟨gp (a + 1), true, zRaw⟩) (by decide) (by decide) HE7.out (fit_gone _ (gp_len _ (by omega))) hx
      have HAP := Lib.hid hap
      clear hap hx
      go_wp2_with fail
      refine HAP.out.mono ?_
      rintro e w8 ⟨rfl, R8, K8⟩
      have HR8 := Lib.hid R8
      have HP8 := Lib.hid (HP7.out.kept K8 hgb)
      clear R8 K8 HR7 HE7 HP7 HAP
      rcases hcase with ⟨rfl, hc⟩ | ⟨rfl, hc⟩
      all_goals
        go_wp2_with fail
        refine HR8.out.paths.mono ?_
        rintro e w9 ⟨a9, c9, rfl, _, B9⟩
        have HS9 := Lib.hid (And.intro (HR8.out.below B9) (HP8.out.below B9))
        clear B9 HR8 HP8 hc
        rw [gn3]
        go_wp2
        go_loopw [15] (fun c wr => ∃ (j : Nat) (t : Int), j ≤ i ∧ 0 ≤ t ∧ t + j ≤ 30 ∧ c = .int .i64 ((j : Int) - 1) ∧ Hid (TR w wr b pG t (MG j) ∧ PathsAt wr g i)) (fun c _ => (intOf c + 1).toNat)
        case atStart => exact ⟨m, at_, hmi, hat0, by omega, by go_num, HS9⟩
        case round =>
          obtain ⟨j, t, hj, ht0, ht1, rfl, HS⟩ := hrel
          cases j with
          | succ j =>
            rw [show (((j + 1 : Nat) : Int) - 1) = (j : Int) by omega]
            have hload := HS.out.2.2 j (by omega)
            go_wp2_with fail
            refine (goneE_cells (gp (j + 1)) _).mono ?_
            rintro e wa ⟨rfl, Ea, Ba⟩
            have HSA := Lib.hid (And.intro (HS.out.1.below Ba) (And.intro (HS.out.2.below Ba) (Ea wa)))
            clear Ea Ba HS hload
            have h3 : applyA pG (MG (j + 1)) [goneF (gp (j + 1))] = (0, MG j) := by
              have h := gn2 (j + 1) (by omega) j (by omega)
              rw [if_pos rfl] at h
              exact h
            have hap := HSA.out.1.apply1 (r := ⟨gp (j + 1), true, zRaw⟩) ht0 (by omega) HSA.out.2.2 (fit_gone _ (gp_len _ (by omega))) (atA_yes h3)
            have HAP := Lib.hid hap
            clear hap h3
            go_wp2_with fail
            refine HAP.out.mono ?_
            rintro e wb ⟨rfl, Rb, Kb⟩
            have HSB := Lib.hid (And.intro Rb (HSA.out.2.1.kept Kb hgb))
            clear Rb Kb HAP HSA
            go_wp2
            go_roundw
            case rel => exact ⟨j, t + 1, by omega, by omega, by omega, by go_num, HSB⟩
            case measure => simp [intOf]
          | zero =>
            go_wp2_with fail
            refine HS.out.1.paths.mono ?_
            rintro e wa ⟨aa, ca, rfl, _, Ba⟩
            have HRA := Lib.hid (HS.out.1.below Ba)
            clear Ba HS
            rw [gn3]
            go_wp2_with fail
            refine (grows_any _ HRA.out.max).mono ?_
            rintro e wb ⟨rfl, Bb⟩
            have HRB := Lib.hid (HRA.out.below Bb)
            clear Bb HRA
            go_wp2
            go_ret
            exact ⟨rfl, HRB.out.bl⟩
end Go.Proofs.YtkhoeiapfoaapaaDoor
