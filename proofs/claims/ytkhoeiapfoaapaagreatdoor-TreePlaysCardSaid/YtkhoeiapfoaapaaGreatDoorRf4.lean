/-
  The document's tree: Kids, walked.
-/
import Derived.Test.YtkhoeiapfoaapaaGreatDoorRf2
import Derived.Test.YtkhoeiapfoaapaaGreatDoorPlSort
import Derived.Test.YtkhoeiapfoaapaaGreatDoorApp
import Derived.Deep.Onto
import Derived.Laws.OwnMore
namespace Go.Proofs.YtkhoeiapfoaapaaGreatDoor
set_option linter.unusedVariables false
set_option linter.unusedSimpArgs false
set_option linter.unusedVariables false
set_option linter.unusedSimpArgs false
open Go Go.RowKit Go.Shelf Go.MapKept Go.ChangeMaps Go.Maps Go.Sort

theorem own_below2 {w w' : World} {base size n : Nat} {e : TypeId} {v : Value} {xs : List Value} (h : w.ownsRow base e size v n xs) (hb : Below w.heap.size w w') : w'.ownsRow base e size v n xs :=
  h.kept (row := none) ⟨hb.os, hb.tape, hb.output, hb.size, fun i hi _ => hb.block i hi⟩ (by cases v.ownBlock <;> simp)
/-- The names found in the first i nodes. -/
def kidsTo (root p : Bytes) (L : List (Bytes × Nd)) (i : Nat) : List Bytes := (((L.take i).map (·.1)).filter (kidB root p)).map baseL
theorem kidsTo_succ {root p : Bytes} {L : List (Bytes × Nd)} {i : Nat} {x : Bytes × Nd} (h : L[i]? = some x) : kidsTo root p L (i + 1) = if kidB root p x.1 = true then kidsTo root p L i ++ [baseL x.1] else kidsTo root p L i := by
  unfold kidsTo
  rw [List.take_add_one, h]
  by_cases hk : kidB root p x.1 = true
  · rw [if_pos hk]
    simp [hk]
  · rw [if_neg hk]
    simp [hk]
theorem kidsTo_len {root p : Bytes} {L : List (Bytes × Nd)} {i : Nat} : (kidsTo root p L i).length ≤ i := by
  unfold kidsTo
  rw [List.length_map]
  have h1 := (List.filter_sublist (p := kidB root p) (l := (L.take i).map (·.1))).length_le
  simp only [List.length_map, List.length_take] at h1
  omega
/-- The row of names, being sorted. -/
def SrtSt (w : World) (g n cap : Nat) (K0 K : List Bytes) (wr : World) : Prop := Below w.heap.size w wr ∧ w.heap.size ≤ g ∧ wr.ownsRow w.heap.size 9 1 (.slice (some ⟨g, 0, none⟩) n cap) n (K.map sv) ∧ K.Perm K0 ∧ K.length = n
theorem SrtSt.cell {w wr : World} {g n cap : Nat} {K0 K : List Bytes} (h : SrtSt w g n cap K0 K wr) {j : Nat} {x : Bytes} (hx : K[j]? = some x) : wr.cell? ⟨g, j, none⟩ = some (.string (bs x)) := by
  obtain ⟨_, _, h3, _, h5⟩ := h
  have hj := (List.getElem?_eq_some_iff.1 hx).1
  rw [h3.cellAt j (by omega), List.getElem?_map, hx]
  rfl
theorem SrtSt.frozen {w wr : World} {g n cap : Nat} {K0 K : List Bytes} (h : SrtSt w g n cap K0 K wr) (j : Nat) : wr.frozen? ⟨g, j, none⟩ = false := h.2.2.1.frozenAt j
theorem below_stored {w wr : World} {g j : Nat} (hb : Below w.heap.size w wr) (hg : w.heap.size ≤ g) (v : Value) : Below w.heap.size w (wr.setCell ⟨g, j, none⟩ v) := hb.setCell hg v
theorem SrtSt.drewN {w wr : World} {g n cap : Nat} {K0 K : List Bytes} (h : SrtSt w g n cap K0 K wr) (q : Nat) : SrtSt w g n cap K0 K (wr.drewN q) := ⟨belowN h.1 q, h.2⟩
theorem SrtSt.drew {w wr : World} {g n cap : Nat} {K0 K : List Bytes} (h : SrtSt w g n cap K0 K wr) : SrtSt w g n cap K0 K wr.drew := h.drewN 1
theorem SrtSt.frozen2 {w wr : World} {g n cap : Nat} {K0 K : List Bytes} (h : SrtSt w g n cap K0 K wr) (j k : Nat) (v : Value) : (wr.setCell ⟨g, j, none⟩ v).frozen? ⟨g, k, none⟩ = false := (h.2.2.1.stored j v).1.frozenAt k
theorem SrtSt.swap {w wr : World} {g n cap : Nat} {K0 K : List Bytes} (h : SrtSt w g n cap K0 K wr) {i k : Nat} {x y : Bytes} (hx : K[i]? = some x) (hy : K[k]? = some y) :
    SrtSt w g n cap K0 (swapL K i k x y) ((wr.setCell ⟨g, i, none⟩ (.string (bs y))).setCell ⟨g, k, none⟩ (.string (bs x))) := by
  have hp := swapL_perm hx hy
  obtain ⟨h1, h2, h3, h4, h5⟩ := h
  refine ⟨below_stored (below_stored h1 h2 _) h2 _, h2, ?_, hp.trans h4, by rw [hp.length_eq]; exact h5⟩
  have e : (swapL K i k x y).map sv = ((K.map sv).set i (.string (bs y))).set k (.string (bs x)) := by
    unfold swapL
    rw [List.map_set, List.map_set]
    rfl
  rw [e]
  exact ((h3.stored i (.string (bs y))).1.stored k (.string (bs x))).1
section
variable {w : World} {Z : Nat → Prop} {rb : Nat} {root : Bytes} {cnt : Int} {ao : Option Addr} {c0 : Nat} {R : List RawA} {L : List (Bytes × Nd)}
def KdSt (w : World) (root p : Bytes) (L : List (Bytes × Nd)) (i : Nat) (v : Value) (wr : World) : Prop := Below w.heap.size w wr ∧ wr.ownsRow w.heap.size 9 1 v (kidsTo root p L i).length ((kidsTo root p L i).map sv)
set_option maxRecDepth 100000 in
set_option maxHeartbeats 8000000 in
theorem RefAt.kids (T : RefAt w Z rb root cnt ao c0 R L) (hl : R.length ≤ 1000) (hv : ∀ x ∈ L, x.1.length ≤ 1000 ∧ ∃ P, partsL x.1 = some P) (p : Bytes) :
    Calls Tryz.prog 26 #[.pointer (some ⟨rb, 0, none⟩), .string (bs p)] w fun e w' => ∃ a c K, e = .returned (.slice a K.length c) ∧ StrSl w' w'.heap.size a K ∧ K.Pairwise (· ≤ ·) ∧ K.Perm (kidsTo root p L L.length) ∧ Below w.heap.size w w' := by
  obtain ⟨i0, hi0, hz0, hz1, hz2⟩ := info_parts infoStr
  have HT := Lib.hid T
  have HV := Lib.hid hv
  obtain ⟨N, hN⟩ : ∃ N, N = R.length := ⟨_, rfl⟩
  rw [← hN] at hl
  have HN := Lib.hid hN
  clear T hv hN
  go_enter Tryz.func26, Tryz.ntmps26
  go_wp2
  go_loopw [5, 6] (fun v ci wr => ∃ i : Nat, i ≤ N ∧ ci = .int .i64 i ∧ Hid (KdSt w root p L i v wr)) (fun _ ci _ => N - (intOf ci).toNat)
  case atStart => exact ⟨0, by omega, rfl, Lib.hid ⟨Below.refl _ w, World.ownsRow_nil _ _ _ _⟩⟩
  case round =>
    obtain ⟨i, hi, rfl, HS⟩ := hrel
    have Tr := HT.out.below HS.out.1
    have q2 := Tr.c2
    rw [← HN.out] at q2
    by_cases hlt : i < N
    · obtain ⟨r, x, b, off, hr, hx, rfl, hbl, _, hp, _, hrg⟩ := Tr.node (i := i) (by rw [← HN.out]; exact hlt)
      have q0 := Tr.c0
      have k0 : wr.cell? ⟨b, off + i * 10, none⟩ = some (.string (bs r.path)) := hrg 0 _ rfl
      rw [hp] at k0
      have HX := Lib.hid hx
      obtain ⟨hvl, P, hP⟩ := HV.out x (List.mem_of_getElem? hx)
      have HP := Lib.hid (And.intro hvl hP)
      clear hr hx hp hrg Tr hvl hP
      by_cases e1 : x.1 = root
      · have t1 : ((bs x.1).toList == (bs root).toList) = true := by rw [e1]; simp
        have hk : ¬ kidB root p x.1 = true := by unfold kidB; simp [e1]
        have HK := Lib.hid hk
        clear e1 hk
        go_wp2
        have HS2 : Hid (KdSt w root p L (i + 1) _ _) := Lib.hid (by
          have h := HS.out
          unfold KdSt at h ⊢
          rw [kidsTo_succ HX.out, if_neg HK.out]
          exact h)
        go_roundw
        case rel => exact ⟨i + 1, by omega, by go_num, HS2⟩
        case measure => simp [intOf]; omega
      · have t1 : ((bs x.1).toList == (bs root).toList) = false := by rw [toList_bs, toList_bs]; simpa using e1
        by_cases e2 : x.1 = p
        · have t2 : ((bs x.1).toList == (bs p).toList) = true := by rw [e2]; simp
          have hk : ¬ kidB root p x.1 = true := by unfold kidB; simp [e2]
          have HK := Lib.hid hk
          clear e1 e2 hk
          go_wp2
          have HS2 : Hid (KdSt w root p L (i + 1) _ _) := Lib.hid (by
            have h := HS.out
            unfold KdSt at h ⊢
            rw [kidsTo_succ HX.out, if_neg HK.out]
            exact h)
          go_roundw
          case rel => exact ⟨i + 1, by omega, by go_num, HS2⟩
          case measure => simp [intOf]; omega
        · have t2 : ((bs x.1).toList == (bs p).toList) = false := by rw [toList_bs, toList_bs]; simpa using e2
          have HE := Lib.hid (And.intro e1 e2)
          clear e1 e2
          go_wp2_with fail
          refine (rfParent_any x.1 P HP.out.2 HP.out.1 wr).mono ?_
          rintro e w2 ⟨rfl, B2⟩
          have hb2 := HS.out.1.trans (B2.mono HS.out.1.size)
          have hown2 := own_below2 HS.out.2 B2
          have HS2 := Lib.hid (And.intro hb2 hown2)
          clear B2 hb2 hown2
          by_cases e3 : parentL x.1 = p
          · have t3 : ((bs (parentL x.1)).toList == (bs p).toList) = true := by rw [e3]; simp
            have hk : kidB root p x.1 = true := by unfold kidB; simp [HE.out.1, HE.out.2, e3]
            have HK := Lib.hid (And.intro hk e3)
            clear e3 hk
            go_wp2_with fail
            refine (refParts_some x.1 P HP.out.2 w2).mono ?_
            rintro e w3 ⟨v3, rfl, ho3, B3⟩
            have hP0 : P ≠ [] := fun h0 => HE.out.2 (by
              have hq := HP.out.2
              rw [h0] at hq
              rw [← HK.out.2]
              unfold parentL
              rw [hq]
              simp)
            rcases ownS_form ho3 with ⟨rfl, h2⟩ | ⟨g, cap, rfl, hc, hb, hg, hat⟩
            · exact absurd h2 hP0
            · obtain ⟨n, hn⟩ : ∃ n, n = P.length := ⟨_, rfl⟩
              obtain ⟨m, hm⟩ : ∃ m, n = m + 1 := ⟨n - 1, by have := List.length_pos_iff.2 hP0; omega⟩
              have hPl := partsL_len HP.out.2
              obtain ⟨y, hy⟩ : ∃ y, P[m]? = some y := ⟨_, List.getElem?_eq_getElem (by omega)⟩
              have hbase : baseL x.1 = y := by
                unfold baseL
                rw [HP.out.2]
                simp only [List.getLast?_eq_getElem?]
                rw [show P.length - 1 = m by omega, hy]
                rfl
              have k3 : w3.cell? ⟨g, m, none⟩ = some (.string (bs y)) := by
                have := hat m y hy
                rw [Nat.zero_add] at this
                exact this
              have hw : wrap64 ((n : Int) - 1) = (m : Int) := by
                unfold wrap64
                omega
              have hO3 := own_below2 HS2.out.2 B3
              have hb3 := HS2.out.1.trans (B3.mono HS2.out.1.size)
              have HO3 := Lib.hid (And.intro hO3 (And.intro hb3 hbase))
              have hs3 := hb3.size
              have hkl := kidsTo_len (root := root) (p := p) (L := L) (i := i)
              rw [← hn] at hc ⊢
              have hmn : m < n := by omega
              clear ho3 B3 hat hy hbase hO3 hb3 hn hm hP0
              go_wp2_with (at_builtin; refine wpList_append_new rfl (.tmp 52) (.tmp 59) 49 rfl w.heap.size 9 i0 (.string ByteArray.empty) 1 16 Tryz.underlying49 hi0 hz0 hz1 hz2 rfl (by decide) _ _ _ rfl (HO3.out.1.alloc _) ⟨w3.heap.size, 0, none⟩ 1 1 [sv y] rfl rfl (cell_one_new _ _ _) (sv_one [y]) (by unfold maxLen; omega) (by omega) (by simp; omega) ?_; intro vq4 w4 hown4 hgrow4 hwh4)
              have hb4 := (belowA HO3.out.2.1 (.cells #[.string (bs y)] 9)).grown hgrow4 (by simp; omega) (fun g hg => (HO3.out.1.lt g hg).1)
              have HS4 : Hid (KdSt w root p L (i + 1) vq4 w4) := Lib.hid ⟨hb4, by
                rw [kidsTo_succ HX.out, if_pos HK.out.1, HO3.out.2.2]
                rw [List.length_append, List.map_append]
                exact hown4⟩
              clear hb4 hown4 hgrow4 hwh4
              go_roundw
              case rel => exact ⟨i + 1, by omega, by go_num, HS4⟩
              case measure => simp [intOf]; omega
          · have t3 : ((bs (parentL x.1)).toList == (bs p).toList) = false := by rw [toList_bs, toList_bs]; simpa using e3
            have hk : ¬ kidB root p x.1 = true := by unfold kidB; simp [e3]
            have HK := Lib.hid hk
            clear e3 hk
            go_wp2
            have HS3 : Hid (KdSt w root p L (i + 1) _ _) := Lib.hid (by
              have h := HS2.out
              unfold KdSt
              rw [kidsTo_succ HX.out, if_neg HK.out]
              exact h)
            go_roundw
            case rel => exact ⟨i + 1, by omega, by go_num, HS3⟩
            case measure => simp [intOf]; omega
    · obtain rfl : N = i := by omega
      have hNL : N = L.length := by rw [HN.out]; exact HT.out.like.1
      obtain ⟨K0, hK0⟩ : ∃ K0, K0 = kidsTo root p L N := ⟨_, rfl⟩
      have hS0 := HS.out
      unfold KdSt at hS0
      rw [← hK0] at hS0
      rw [hNL] at hK0
      have HK0 := Lib.hid hK0
      have hkl := kidsTo_len (root := root) (p := p) (L := L) (i := L.length)
      rw [← hK0, ← hNL] at hkl
      rcases hS0.2.2 with ⟨h1, h0⟩ | ⟨g, cap, cur, h1, hbg, hg, hnc, hcm, _⟩
      · subst h1
        have hb0 := Lib.hid (And.intro hS0.1 h0)
        clear hS0 h0 hK0 hNL Tr
        go_wp2
        go_loopw [10] (fun ci wr' => ci = .int .i64 0 ∧ wr' = wr) (fun ci _ => 0)
        case atStart => exact ⟨rfl, rfl⟩
        case round =>
          obtain ⟨rfl, rfl⟩ := hrel
          go_wp2
          go_ret
          have hn0 := List.eq_nil_of_length_eq_zero hb0.out.2
          refine ⟨none, 0, [], rfl, StrSl.nil _ _ _, List.Pairwise.nil, ?_, hb0.out.1⟩
          rw [← HK0.out, hn0]
      · obtain ⟨n, hn⟩ : ∃ n, n = K0.length := ⟨_, rfl⟩
        rw [← hn] at hS0 hkl h1
        subst h1
        have hst : SrtSt w g n cap K0 K0 wr := ⟨hS0.1, hbg, hS0.2, List.Perm.refl _, hn.symm⟩
        have HST := Lib.hid hst
        have hgl : w.heap.size ≤ g := hbg
        rw [← hn] at hnc
        clear hst hS0 hK0 hNL Tr hg hn hbg
        go_wp2
        go_loopw [10, 11, 12] (fun ci _ _ wr' => ∃ (i : Nat) (K : List Bytes), i ≤ n ∧ ci = .int .i64 i ∧ Hid (SrtSt w g n cap K0 K wr' ∧ Upto K i)) (fun ci _ _ _ => n - (intOf ci).toNat)
        case atStart => exact ⟨0, K0, by omega, rfl, Lib.hid ⟨HST.out, upto_zero _⟩⟩
        case round =>
          obtain ⟨i, K, hi, rfl, HU⟩ := hrel
          by_cases hin : i < n
          · go_wp2
            go_loopw [11, 12] (fun ck _ wr2 => ∃ (k : Nat) (K' : List Bytes), i < k ∧ k ≤ n ∧ ck = .int .i64 k ∧ Hid (SrtSt w g n cap K0 K' wr2 ∧ UptoK K' i k)) (fun ck _ _ => n - (intOf ck).toNat)
            case atStart => exact ⟨i + 1, K, by omega, by omega, by go_num, Lib.hid ⟨HU.out.1, uptoK_start HU.out.2⟩⟩
            case round =>
              obtain ⟨k, K', hik, hk, rfl, HV2⟩ := hrel
              have hlen : K'.length = n := HV2.out.1.2.2.2.2
              by_cases hkn : k < n
              · obtain ⟨x, hx⟩ : ∃ x, K'[i]? = some x := ⟨_, List.getElem?_eq_getElem (by omega)⟩
                obtain ⟨y, hy⟩ : ∃ y, K'[k]? = some y := ⟨_, List.getElem?_eq_getElem (by omega)⟩
                have hd := HV2.out.1.drew
                have k1 := HV2.out.1.cell hx
                have k2 := HV2.out.1.cell hy
                have f1 := HV2.out.1.frozen i
                have f2 := HV2.out.1.frozen2 i k (.string (bs y))
                have HXY := Lib.hid (And.intro hx hy)
                clear hx hy hlen hd
                have hnc2 : k < cap := by omega
                by_cases hlt : y < x
                · have t1 : Op.bytesLess (bs y).toList (bs x).toList = true := by
                    rw [toList_bs, toList_bs, bytesLess_eq]
                    simpa using hlt
                  have HLT := Lib.hid hlt
                  clear hlt
                  go_wp2_with fail
                  go_region
                  go_wp2
                  go_roundw
                  case rel => exact ⟨k + 1, _, by omega, by omega, by go_num, Lib.hid ⟨HV2.out.1.drew.swap HXY.out.1 HXY.out.2, uptoK_swap HV2.out.2 hik HXY.out.1 HXY.out.2 HLT.out⟩⟩
                  case measure => simp [intOf]; omega
                · have t1 : Op.bytesLess (bs y).toList (bs x).toList = false := by
                    rw [toList_bs, toList_bs, bytesLess_eq]
                    simpa using hlt
                  have HLT := Lib.hid hlt
                  clear hlt
                  go_wp2_with fail
                  go_region
                  go_wp2
                  go_roundw
                  case rel => exact ⟨k + 1, K', by omega, by omega, by go_num, Lib.hid ⟨HV2.out.1.drew, uptoK_keep HV2.out.2 HXY.out.1 HXY.out.2 (List.not_lt.1 HLT.out)⟩⟩
                  case measure => simp [intOf]; omega
              · obtain rfl : n = k := by omega
                have HLEN := Lib.hid hlen
                clear hlen
                go_wp2
                go_roundw
                case rel => exact ⟨i + 1, K', by omega, by go_num, Lib.hid ⟨HV2.out.1, uptoK_end HV2.out.2 (Nat.le_of_eq HLEN.out)⟩⟩
                case measure => simp [intOf]; omega
          · obtain rfl : n = i := by omega
            go_wp2
            go_ret
            obtain ⟨⟨h1, h2, h3, h4, h5⟩, h6⟩ := HU.out
            refine ⟨some ⟨g, 0, none⟩, cap, K, by rw [h5]; rfl, fun j x hx => ⟨g, 0, rfl, (h3.lt g rfl).2, ?_⟩, upto_sorted (by rw [h5]; exact h6), ?_, h1⟩
            · rw [Nat.zero_add]
              exact HU.out.1.cell hx
            · rw [← HK0.out]; exact h4
end
end Go.Proofs.YtkhoeiapfoaapaaGreatDoor
