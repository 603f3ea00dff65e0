/-
  BallotMeet, walked.
-/
import Derived.Test.YtoddbmbifgoliaaCommits
namespace Go.Proofs.Ytoddbmbifgoliaa
open Go.RowKit
theorem info4 : (Try.prog.info? 4).map (fun i => (i.zero, i.size, i.bytes)) = some (some (.bool false), 1, 1) := by kernel_rfl

/-- A block of bools. -/
def RowB (w : World) (X s : Nat) : Prop := ∃ cur, w.heap[X]? = some (.cells cur 4 (0, 0)) ∧ cur.size = s ∧ ∀ j, j < s → ∃ b, cur[j]? = some (.bool b)
theorem RowB.lt {w : World} {X s : Nat} (h : RowB w X s) : X < w.heap.size := by obtain ⟨cur, hc, _⟩ := h; exact (Array.getElem?_eq_some_iff.1 hc).1
theorem RowB.cell {w : World} {X s : Nat} (h : RowB w X s) (j : Nat) (hj : j < s) : ∃ b, w.cell? ⟨X, j, none⟩ = some (.bool b) := by
  obtain ⟨cur, hc, hs, hb⟩ := h
  obtain ⟨b, hb⟩ := hb j hj
  exact ⟨b, by simp [World.cell?, hc, hb]⟩
theorem RowB.frozen {w : World} {X s : Nat} (h : RowB w X s) (j : Nat) : w.frozen? ⟨X, j, none⟩ = false := by
  obtain ⟨cur, hc, hs, hb⟩ := h
  simp [World.frozen?, hc]
theorem RowB.other {w : World} {X s Y : Nat} (h : RowB w X s) (hne : X ≠ Y) (j : Nat) (v : Value) : RowB (w.setCell ⟨Y, j, none⟩ v) X s := by
  obtain ⟨cur, hc, hs, hb⟩ := h
  exact ⟨cur, by rw [Below.heap_setCell _ _ _ _ hne]; exact hc, hs, hb⟩
theorem RowB.set {w : World} {X s : Nat} (h : RowB w X s) (j : Nat) (b : Bool) : RowB (w.setCell ⟨X, j, none⟩ (.bool b)) X s := by
  obtain ⟨cur, hc, hs, hb⟩ := h
  refine ⟨cur.setIfInBounds j (.bool b), ?_, by simp [hs], fun i hi => ?_⟩
  · simp [World.setCell, Array.getElem?_modify, hc]
  · rw [Array.getElem?_setIfInBounds]
    by_cases e : j = i
    · subst e
      exact ⟨b, by simp [hs, hi]⟩
    · rw [if_neg e]
      exact hb i hi
theorem RowB.kept {w w' : World} {X s B : Nat} (h : RowB w X s) (hb : Below B w w') (hX : X < B) : RowB w' X s := by
  obtain ⟨cur, hc, hs, hb'⟩ := h
  exact ⟨cur, by rw [hb.block X hX]; exact hc, hs, hb'⟩

/-- The numbers of a slice that came in. -/
def ElemsB (w : World) (ao : Option Addr) (n : Nat) : Prop := ∀ i, i < n → ∃ b off x, ao = some ⟨b, off, none⟩ ∧ b < w.heap.size ∧ w.cell? ⟨b, off + i, none⟩ = some (.int .u8 x) ∧ 0 ≤ x ∧ x ≤ 255

theorem full_rowB {w : World} {base g n : Nat} (h : w.ownsRow base 4 1 (.slice (some ⟨g, 0, none⟩) n n) n (madeCells (Value.bool false).cells (n * 1)).toList) : RowB w g n := by
  obtain ⟨hx, ⟨h0, _⟩ | ⟨g', cap, cur, hv, hbg, hg, hnc, hcm, hsz, htk⟩⟩ := h
  · cases h0
  · cases hv
    refine ⟨cur, hg, by omega, fun j hj => ⟨false, ?_⟩⟩
    have e1 : cur.toList.take (n * 1) = cur.toList := List.take_of_length_le (by simp; omega)
    rw [e1, show (Value.bool false).cells = #[.bool false] from rfl, toList_madeCells_one] at htk
    have : cur.toList[j]? = some (.bool false) := by rw [htk, List.getElem?_replicate, if_pos (by omega)]
    simpa using this
theorem elems_kept {w w' : World} {ao : Option Addr} {n : Nat} (h : ElemsB w ao n) (hb : Below w.heap.size w w') : ElemsB w' ao n := by
  intro i hi
  obtain ⟨b, off, x, e, hlt, hc, r⟩ := h i hi
  exact ⟨b, off, x, e, Nat.lt_of_lt_of_le hlt hb.size, (hb.cell (p := ⟨b, off + i, none⟩) hlt).trans hc, r⟩

def NumsL (w : World) (ao : Option Addr) (L : List Int) : Prop := ∀ i, i < L.length → ∃ b off, ao = some ⟨b, off, none⟩ ∧ b < w.heap.size ∧ w.cell? ⟨b, off + i, none⟩ = some (.int .i64 (L.getD i 0))

set_option maxRecDepth 100000 in
set_option maxHeartbeats 16000000 in
theorem meet_core (n : Int) (n0 : 0 ≤ n) (n1 : n ≤ 255) (ao bo mo : Option Addr) (la lb ca cb cm : Nat) (L : List Int) (w : World) (hla : la ≤ 200) (hlb : lb ≤ 200) (hlm : L.length ≤ 200)
    (hA : ElemsB w ao la) (hB : ElemsB w bo lb) (hM : NumsL w mo L) (v : Int)
    (hv1 : 0 < L.length → L.length / 2 + 1 ≤ cntGe L v) (hv2 : 0 < L.length → (L.countP fun y => decide (v < y)) ≤ L.length / 2)
    (hcommit : ∀ W : World, Below w.heap.size w W → Calls Try.prog 15 #[.slice mo L.length cm] W fun e w' => e = .returned (.int .i64 v) ∧ Below W.heap.size W w')
    (hcounts : ∀ w, Calls Try.prog 14 #[] w fun e w' => e = .returned (.bool true) ∧ Below w.heap.size w w') :
    Calls Try.prog 5 #[.int .u8 n, .slice ao la ca, .slice bo lb cb, .slice mo L.length cm] w fun e w' => e = .returned (.bool true) ∧ Below w.heap.size w w' := by
  obtain ⟨i0, hi, hz0, hz1, hz2⟩ := info_parts info4
  have hs1 : 1 ≤ 1 + n % 40 ∧ 1 + n % 40 ≤ 40 := by omega
  obtain ⟨s, hs⟩ : ∃ s : Nat, 1 + n % 40 = (s : Int) := ⟨(1 + n % 40).toNat, by omega⟩
  obtain ⟨hs1, hs2⟩ := hs1
  have HS := Lib.hid hs
  have s1 : 1 ≤ s := by omega
  have s2 : s ≤ 40 := by omega
  clear hs
  have hb2 : i0.bytes * s ≤ 281474976710656 := by rw [hz2]; omega
  have hb3 : s ≤ maxLen := by unfold maxLen; omega
  have HA := Lib.hid hA
  have HB := Lib.hid hB
  have HM := Lib.hid hM
  have HV1 := Lib.hid hv1
  have HV2 := Lib.hid hv2
  clear hA hB hM hv1 hv2
  obtain ⟨N, hN⟩ : ∃ N, N = L.length := ⟨_, rfl⟩
  rw [← hN] at hlm hcommit ⊢
  have HN := Lib.hid hN
  clear hN
  go_enter Try.func5, Try.ntmps5
  go_wp2_with (first
    | (at_make; refine wpList_make_full _ rfl _ _ 33 rfl w.heap.size 4 i0 (.bool false) 1 Try.underlying33 hi hz0 hz1 .i64 .i64 _ _ s rfl rfl HS.out HS.out hb2 hb3 (Nat.le_refl _) ?_; intro w1 hown1 hgr1)
    | (at_make; refine wpList_make_full _ rfl _ _ 33 rfl w1.heap.size 4 i0 (.bool false) 1 Try.underlying33 hi hz0 hz1 .i64 .i64 _ _ s rfl rfl HS.out HS.out hb2 hb3 (Nat.le_refl _) ?_; intro w2 hown2 hgr2))
  rw [HS.out]
  have hB2 : Below w.heap.size w w2 := (((Below.refl _ w).grown hgr1 (Nat.le_refl _) (fun k hk => by cases hk))).trans (((Below.refl _ w1).grown hgr2 (Nat.le_refl _) (fun k hk => by cases hk)).mono hgr1.size)
  have hX := full_rowB hown1
  have hXY : w.heap.size < w1.heap.size := hX.lt
  have hX2 := hX.kept ((Below.refl _ w1).grown hgr2 (Nat.le_refl _) (fun k hk => by cases hk)) hXY
  have hY2 := full_rowB hown2
  clear hX hown1 hown2 hgr1 hgr2 hb2 hb3 hi hz0 hz1 hz2
  obtain ⟨Y, hYe⟩ : ∃ Y, Y = w1.heap.size := ⟨_, rfl⟩
  rw [← hYe] at hXY hY2 ⊢
  clear hYe
  obtain ⟨X, hXe⟩ : ∃ X, X = w.heap.size := ⟨_, rfl⟩
  have HX := Lib.hid hXe
  rw [← hXe] at hXY hX2 hcommit hB2 ⊢
  clear hXe
  have hne : ¬ X = Y := by omega
  have hne' : ¬ Y = X := by omega
  go_loopw [12] (fun i wr => ∃ k : Nat, k ≤ la ∧ i = .int .i64 k ∧ RowB wr X s ∧ RowB wr Y s ∧ Below X w wr) (fun i _ => la - (intOf i).toNat)
  case atStart => exact ⟨0, by omega, rfl, hX2, hY2, hB2⟩
  case round =>
    obtain ⟨k, hk, rfl, hrX, hrY, hrB⟩ := hrel
    clear hX2 hY2 hB2
    by_cases hlt : k < la
    · obtain ⟨b, off, x, rfl, hbl, hc0, hx0, hx1⟩ := HA.out k hlt
      have hc : wr.cell? ⟨b, off + k, none⟩ = some (.int .u8 x) := (hrB.cell (p := ⟨b, off + k, none⟩) (by rw [HX.out]; exact hbl)).trans hc0
      have q1 : 0 ≤ x % (s : Int) := Int.emod_nonneg _ (by omega)
      have q2 : x % (s : Int) < s := Int.emod_lt_of_pos _ (by omega)
      obtain ⟨bb, hcX⟩ := hrX.cell (x % (s : Int)).toNat (by omega)
      have hfX := hrX.frozen (x % (s : Int)).toNat
      have E := Lib.hid (And.intro hrX (And.intro hrY hrB))
      clear hrX hrY hrB hc0
      go_wp2
      go_roundw
      case rel => exact ⟨k + 1, by omega, by go_num, E.out.1.set _ _, E.out.2.1.other hne' _ _, E.out.2.2.setCell (Nat.le_refl _) _⟩
      case measure => simp [intOf]; omega
    · obtain rfl : k = la := by omega
      go_wp2
      go_loopw [13] (fun i wr => ∃ k : Nat, k ≤ lb ∧ i = .int .i64 k ∧ RowB wr X s ∧ RowB wr Y s ∧ Below X w wr) (fun i _ => lb - (intOf i).toNat)
      case atStart => exact ⟨0, by omega, rfl, hrX, hrY, hrB⟩
      case round =>
        clear hrX hrY hrB
        obtain ⟨m, hm, rfl, hrX, hrY, hrB⟩ := hrel
        by_cases hlt2 : m < lb
        · obtain ⟨b, off, x, rfl, hbl, hc0, hx0, hx1⟩ := HB.out m hlt2
          have hc : wr.cell? ⟨b, off + m, none⟩ = some (.int .u8 x) := (hrB.cell (p := ⟨b, off + m, none⟩) (by rw [HX.out]; exact hbl)).trans hc0
          have q1 : 0 ≤ x % (s : Int) := Int.emod_nonneg _ (by omega)
          have q2 : x % (s : Int) < s := Int.emod_lt_of_pos _ (by omega)
          obtain ⟨bb, hcX⟩ := hrY.cell (x % (s : Int)).toNat (by omega)
          have hfX := hrY.frozen (x % (s : Int)).toNat
          have E := Lib.hid (And.intro hrX (And.intro hrY hrB))
          clear hrX hrY hrB hc0
          go_wp2
          go_roundw
          case rel => exact ⟨m + 1, by omega, by go_num, E.out.1.other hne _ _, E.out.2.1.set _ _, E.out.2.2.setCell (Nat.le_of_lt hXY) _⟩
          case measure => simp [intOf]; omega
        · obtain rfl : m = lb := by omega
          go_wp2
          go_loop [14, 15, 16, 17] (fun p q b i => ∃ k P Q B : Nat, k ≤ s ∧ i = .int .i64 k ∧ p = .int .i64 P ∧ q = .int .i64 Q ∧ b = .int .i64 B ∧ P + Q ≤ B + k ∧ P ≤ k ∧ Q ≤ k ∧ B ≤ k) (fun _ _ _ i => s - (intOf i).toNat)
          case atStart => exact ⟨0, 0, 0, 0, by omega, rfl, rfl, rfl, rfl, by omega, by omega, by omega, by omega⟩
          case round =>
            obtain ⟨k3, P, Q, B, hk3, rfl, rfl, rfl, rfl, h5, h6, h7, h8⟩ := hrel
            by_cases hlt3 : k3 < s
            · obtain ⟨bx, hbx⟩ := hrX.cell k3 hlt3
              obtain ⟨by', hby⟩ := hrY.cell k3 hlt3
              clear hrX hrY hrB
              cases bx <;> cases by'
              · go_wp2
                go_round
                case rel => exact ⟨k3 + 1, P, Q, B, by omega, by go_num, rfl, rfl, rfl, by omega, by omega, by omega, by omega⟩
                case measure => simp [intOf]; omega
              · go_wp2
                go_round
                case rel => exact ⟨k3 + 1, P, Q + 1, B, by omega, by go_num, rfl, by go_num, rfl, by omega, by omega, by omega, by omega⟩
                case measure => simp [intOf]; omega
              · go_wp2
                go_round
                case rel => exact ⟨k3 + 1, P + 1, Q, B, by omega, by go_num, by go_num, rfl, rfl, by omega, by omega, by omega, by omega⟩
                case measure => simp [intOf]; omega
              · go_wp2
                go_round
                case rel => exact ⟨k3 + 1, P + 1, Q + 1, B + 1, by omega, by go_num, by go_num, by go_num, by go_num, by omega, by omega, by omega, by omega⟩
                case measure => simp [intOf]; omega
            · obtain rfl : k3 = s := by omega
              have hq := quorum_any (k3 : Int) (by omega) (by omega)
              rw [show quorumOf (k3 : Int) = (k3 : Int) / 2 + 1 from if_neg (by omega)] at hq
              have HR := Lib.hid hrB
              have hcm := hcommit wr (HX.out ▸ hrB)
              clear hcommit hrX hrY hrB
              have hcase : ((P : Int) < (k3 : Int) / 2 + 1) ∨ ((k3 : Int) / 2 + 1 ≤ (P : Int) ∧ (Q : Int) < (k3 : Int) / 2 + 1) ∨ ((k3 : Int) / 2 + 1 ≤ (P : Int) ∧ (k3 : Int) / 2 + 1 ≤ (Q : Int) ∧ ((B : Int) == 0) = false) := by
                by_cases g1 : (P : Int) < (k3 : Int) / 2 + 1
                · exact .inl g1
                · by_cases g2 : (Q : Int) < (k3 : Int) / 2 + 1
                  · exact .inr (.inl ⟨by omega, g2⟩)
                  · exact .inr (.inr ⟨by omega, by omega, by simp; omega⟩)
              rcases hcase with g1 | ⟨g1, g2⟩ | ⟨g1, g2, g3⟩
              all_goals
                go_wp2_with fail
                refine (hq _).mono ?_
                rintro e w3 ⟨rfl, rfl⟩
                go_wp2_with fail
                refine hcm.mono ?_
                rintro e w4 ⟨rfl, B4⟩
                have HR4 := Lib.hid (HR.out.trans (B4.mono (by have := HR.out.size; rw [HX.out] at *; exact this)))
                clear B4 hcm hq
                go_wp2_with fail
                go_loop [20, 21, 22] (fun p q i => ∃ k : Nat, k ≤ N ∧ i = .int .i64 k ∧ p = .int .i64 (cntGe (L.take k) v : Nat) ∧ q = .int .i64 ((L.take k).countP fun y => decide (v < y) : Nat)) (fun _ _ i => N - (intOf i).toNat)
                case atStart => exact ⟨0, by omega, rfl, rfl, rfl⟩
                case round =>
                  obtain ⟨k, hk, rfl, rfl, rfl⟩ := hrel
                  have hl1 := cnt_le L k v
                  have hl2 := gt_le L k v
                  by_cases hlt : k < N
                  · have hkL : k < L.length := by rw [← HN.out]; exact hlt
                    obtain ⟨b, off, rfl, hbl, hc0⟩ := HM.out k hkL
                    have hc := (HR4.out.cell (p := ⟨b, off + k, none⟩) (by rw [HX.out]; exact hbl)).trans hc0
                    have E1 := Lib.hid (cnt_succ L k hkL v)
                    have E2 := Lib.hid (gt_succ L k hkL v)
                    clear hc0 hkL
                    generalize L.getD k 0 = y at *
                    generalize cntGe (L.take k) v = c1 at *
                    generalize (L.take k).countP (fun y => decide (v < y)) = c2 at *
                    rcases (show (v ≤ y ∧ v < y) ∨ (v ≤ y ∧ ¬ v < y) ∨ (¬ v ≤ y ∧ ¬ v < y) by omega) with ⟨t1, t2⟩ | ⟨t1, t2⟩ | ⟨t1, t2⟩
                    · go_wp2
                      go_round
                      case rel => exact ⟨k + 1, by omega, by go_num, by rw [E1.out, if_pos (by omega)]; go_num, by rw [E2.out, if_pos (by omega)]; go_num⟩
                      case measure => simp [intOf]; omega
                    · go_wp2
                      go_round
                      case rel => exact ⟨k + 1, by omega, by go_num, by rw [E1.out, if_pos (by omega)]; go_num, by rw [E2.out, if_neg (by omega)]; rfl⟩
                      case measure => simp [intOf]; omega
                    · go_wp2
                      go_round
                      case rel => exact ⟨k + 1, by omega, by go_num, by rw [E1.out, if_neg (by omega)]; rfl, by rw [E2.out, if_neg (by omega)]; rfl⟩
                      case measure => simp [intOf]; omega
                  · obtain rfl : k = N := by omega
                    have ht : L.take k = L := by rw [HN.out, List.take_length]
                    rw [ht] at hl1 hl2 ⊢
                    clear ht
                    by_cases hpos : 0 < k
                    · have m1 := HV1.out (by rw [← HN.out]; exact hpos)
                      have m2 := HV2.out (by rw [← HN.out]; exact hpos)
                      rw [← HN.out] at m1 m2
                      generalize cntGe L v = c1 at *
                      generalize L.countP (fun y => decide (v < y)) = c2 at *
                      have hq2 := quorum_any (k : Int) (by omega) (by omega)
                      rw [show quorumOf (k : Int) = (k : Int) / 2 + 1 from if_neg (by omega)] at hq2
                      go_wp2_with fail
                      refine (hq2 _).mono ?_
                      rintro e w5 ⟨rfl, rfl⟩
                      go_wp2_with fail
                      refine (hq2 _).mono ?_
                      rintro e w5 ⟨rfl, rfl⟩
                      go_wp2_with fail
                      refine (hcounts _).mono ?_
                      rintro e w6 ⟨rfl, B6⟩
                      go_wp2_with fail
                      go_ret
                      have B7 := HR4.out.trans (B6.mono (by rw [HX.out]; exact HR4.out.size))
                      first
                        | exact ⟨rfl, B7⟩
                        | exact ⟨rfl, by rw [HX.out] at B7; exact B7⟩
                    · obtain rfl : k = 0 := by omega
                      go_wp2_with fail
                      refine (hcounts _).mono ?_
                      rintro e w6 ⟨rfl, B6⟩
                      go_wp2_with fail
                      go_ret
                      have B7 := HR4.out.trans (B6.mono (by rw [HX.out]; exact HR4.out.size))
                      first
                        | exact ⟨rfl, B7⟩
                        | exact ⟨rfl, by rw [HX.out] at B7; exact B7⟩

end Go.Proofs.Ytoddbmbifgoliaa
