/-
  great, walked.
-/
import Derived.Test.YtkhoeiapfoaapaaDoorTrOpen
namespace Go.Proofs.YtkhoeiapfoaapaaDoor
set_option linter.unusedVariables false
set_option linter.unusedSimpArgs false
set_option linter.unusedVariables false
set_option linter.unusedSimpArgs false
open Go Go.RowKit Go.Deep

def badE (e : Eff) : Bool := decide (200 < e.path.length) || decide (200 < e.node.data.length)
def total (R : List Row) : Nat := (R.map (·.E.length)).sum
def greatB (R : List Row) : Bool := decide (40 < R.length) || R.any (fun r => r.E.any badE) || decide (200 < total R)
theorem total_take (R : List Row) (i : Nat) (r : Row) (h : R[i]? = some r) : total (R.take (i + 1)) = total (R.take i) + r.E.length := by
  unfold total
  rw [List.take_add_one, h]
  simp
theorem total_le (R : List Row) (i : Nat) : total (R.take i) ≤ total R := by
  conv => rhs; rw [← List.take_append_drop i R]
  unfold total
  rw [List.map_append, List.sum_append]
  exact Nat.le_add_right _ _
theorem great_bad {R : List Row} {r : Row} {e : Eff} (hr : r ∈ R) (he : e ∈ r.E) (h : badE e = true) : greatB R = true := by
  unfold greatB
  have : R.any (fun r => r.E.any badE) = true := List.any_eq_true.2 ⟨r, hr, List.any_eq_true.2 ⟨e, he, h⟩⟩
  rw [this]
  simp
theorem great_no {R : List Row} (h : greatB R = false) : R.length ≤ 40 ∧ (∀ r ∈ R, ∀ e ∈ r.E, e.path.length ≤ 200 ∧ e.node.data.length ≤ 200) ∧ total R ≤ 200 := by
  unfold greatB at h
  simp only [Bool.or_eq_false_iff, decide_eq_false_iff_not] at h
  refine ⟨by omega, fun r hr e he => ?_, by omega⟩
  have h2 := List.any_eq_false.1 h.1.2 r hr
  have h3 := List.any_eq_false.1 (by simpa using h2) e he
  unfold badE at h3
  simp only [Bool.or_eq_true, decide_eq_true_eq, not_or] at h3
  omega
/-- Nothing bad so far. -/
structure Small (R : List Row) (i k n : Nat) : Prop where
  rows : ∀ (j : Nat) r, j < i → R[j]? = some r → r.E.any badE = false
  row : ∀ r, R[i]? = some r → (r.E.take k).any badE = false
  cnt : n = total (R.take i) + k
  le : n ≤ 200
theorem ret_b {a b : Bool} (h : a = b) : Ending.returned (.bool a) = .returned (.bool b) := by rw [h]
set_option maxRecDepth 100000 in
set_option maxHeartbeats 8000000 in
theorem great_any (ao : Option Addr) (c : Nat) (R : List Row) (w : World) (h : RowsAt w w.heap.size ao R) (hb : R.length ≤ maxLen) :
    Calls Tryd.prog 20 #[.slice ao R.length c] w fun e w' => e = .returned (.bool (greatB R)) ∧ w = w' := by
  obtain ⟨G, hG⟩ : ∃ G, G = greatB R := ⟨_, rfl⟩
  rw [← hG]
  obtain ⟨N, hN⟩ : ∃ N, N = R.length := ⟨_, rfl⟩
  rw [← hN] at hb ⊢
  have HG := Lib.hid hG
  have HN := Lib.hid hN
  have HR := Lib.hid h
  unfold maxLen at hb
  clear hG hN h
  by_cases h40 : 40 < N
  · have hg : G = true := by rw [HG.out]; unfold greatB; rw [← HN.out, decide_eq_true h40]; simp
    have h40d : decide ((40 : Int) < (N : Int)) = true := by simpa using (by omega : (40 : Int) < (N : Int))
    subst hg
    go_enter Tryd.func20, Tryd.ntmps20
    go_wp2
    go_ret
    exact ⟨rfl, rfl⟩
  · have h40d : decide ((40 : Int) < (N : Int)) = false := by simpa using (by omega : (N : Int) ≤ 40)
    go_enter Tryd.func20, Tryd.ntmps20
    go_wp2
    go_loop [3, 4] (fun n i => ∃ (k m : Nat), k ≤ N ∧ n = .int .i64 m ∧ i = .int .i64 k ∧ m ≤ 200 ∧ Hid (Small R k 0 m)) (fun _ i => N - (intOf i).toNat)
    case atStart => exact ⟨0, 0, by omega, rfl, rfl, by omega, Lib.hid ⟨fun j r h => by omega, fun r _ => by simp, by simp [total], by omega⟩⟩
    case round =>
      obtain ⟨i, m, hi, rfl, rfl, hm, HS⟩ := hrel
      by_cases hlt : i < N
      · obtain ⟨r, hr⟩ : ∃ r, R[i]? = some r := ⟨_, List.getElem?_eq_getElem (by rw [← HN.out]; exact hlt)⟩
        obtain ⟨hro, b, off, rfl, hbl, hc⟩ := HR.out i r hr
        obtain ⟨M, hM⟩ : ∃ M, M = r.L.length := ⟨_, rfl⟩
        have hMc : M ≤ 9223372036854775807 := by have h1 := hro.len; have h2 := hro.cap; unfold maxLen at h2; omega
        have HM := Lib.hid hM
        have HRO := Lib.hid hro
        have HRI := Lib.hid hr
        rw [← hM] at hc
        clear hM hro hr
        go_wp2
        go_loop [3, 5] (fun n k => ∃ (k' m' : Nat), k' ≤ M ∧ n = .int .i64 m' ∧ k = .int .i64 k' ∧ m' ≤ 200 ∧ Hid (Small R i k' m')) (fun _ k => M - (intOf k).toNat)
        case atStart => exact ⟨0, m, by omega, rfl, rfl, hm, HS⟩
        case round =>
          obtain ⟨k, n, hk, rfl, rfl, hn, HS2⟩ := hrel
          by_cases hlk : k < M
          · obtain ⟨q, hq⟩ : ∃ q, r.L[k]? = some q := ⟨_, List.getElem?_eq_getElem (by rw [← HM.out]; exact hlk)⟩
            obtain ⟨e, he⟩ : ∃ e, r.E[k]? = some e := ⟨_, List.getElem?_eq_getElem (by rw [← HRO.out.like.1, ← HM.out]; exact hlk)⟩
            obtain ⟨q1, q2, q3⟩ := HRO.out.like.2 k q e hq he
            obtain ⟨bb, of2, hao, hbb, hrg⟩ := HRO.out.at_ k q hq
            rw [hao] at hc
            obtain ⟨qp, qg, ⟨qa, qn, qc, qv⟩⟩ := q
            have hq3 := q3.len
            dsimp only at q1 q2 hq3
            have k0 : w.cell? ⟨bb, of2 + k * 11, none⟩ = some (.string (bs qp)) := hrg 0 _ rfl
            have k2 : w.cell? ⟨bb, of2 + k * 11 + 2, none⟩ = some (.slice qa qn qc) := hrg 2 _ rfl
            have hsz : ((bs qp).size : Int) = (qp.length : Int) := by rw [size_bs]
            have hie := HRO.out.ok e (List.mem_of_getElem? he)
            have hpl : qp.length ≤ 9223372036854775807 := by have := hie.path; unfold maxLen at this; rw [q1]; omega
            have hdl : qn ≤ 9223372036854775807 := by have := hie.data; unfold maxLen at this; omega
            have HE := Lib.hid he
            have HQ := Lib.hid (And.intro q1 hq3)
            clear hrg hq he q1 q2 q3 hq3 hie hao
            have hnn : IntKind.i64.wrap ((n : Int) + 1) = (n : Int) + 1 := IntWalk.i64_in _ (by omega)
            by_cases hp2 : 200 < qp.length
            · have t1 : decide ((200 : Int) < ((bs qp).size : Int)) = true := by rw [hsz]; simpa using (by omega : (200 : Int) < (qp.length : Int))
              have t1' : decide ((200 : Int) < (qp.length : Int)) = true := by simpa using (by omega : (200 : Int) < (qp.length : Int))
              have hg : G = true := by rw [HG.out]; exact great_bad (List.mem_of_getElem? HRI.out) (List.mem_of_getElem? HE.out) (by unfold badE; rw [← HQ.out.1, decide_eq_true hp2]; rfl)
              subst hg
              rw [← hsz] at t1'
              clear hsz
              go_wp2
              go_ret
              exact ⟨rfl, rfl⟩
            · have t1 : decide ((200 : Int) < ((bs qp).size : Int)) = false := by rw [hsz]; simpa using (by omega : (qp.length : Int) ≤ 200)
              by_cases hd2 : 200 < qn
              · have t2 : decide ((200 : Int) < (qn : Int)) = true := by simpa using (by omega : (200 : Int) < (qn : Int))
                have hg : G = true := by rw [HG.out]; exact great_bad (List.mem_of_getElem? HRI.out) (List.mem_of_getElem? HE.out) (by unfold badE; rw [← HQ.out.2, decide_eq_true hd2]; simp)
                subst hg
                clear hsz
                go_wp2
                go_ret
                exact ⟨rfl, rfl⟩
              · have t2 : decide ((200 : Int) < (qn : Int)) = false := by simpa using (by omega : (qn : Int) ≤ 200)
                have hbad : badE e = false := by
                  unfold badE
                  rw [← HQ.out.1, ← HQ.out.2, decide_eq_false hp2, decide_eq_false hd2]
                  rfl
                have HBAD := Lib.hid hbad
                clear hbad
                by_cases hn2 : 200 < n + 1
                · have t3 : decide ((200 : Int) < (n : Int) + 1) = true := by simpa using (by omega : (200 : Int) < (n : Int) + 1)
                  have hg : G = true := by
                    rw [HG.out]
                    unfold greatB
                    have h1 := HS2.out.cnt
                    have h2 := total_take R i r HRI.out
                    have h3 := total_le R (i + 1)
                    have h4 : M = r.E.length := HM.out.trans HRO.out.like.1
                    rw [decide_eq_true (show 200 < total R by omega)]
                    simp
                  subst hg
                  clear hsz
                  go_wp2
                  go_ret
                  exact ⟨rfl, rfl⟩
                · have t3 : decide ((200 : Int) < (n : Int) + 1) = false := by simpa using (by omega : (n : Int) + 1 ≤ 200)
                  clear hsz
                  go_wp2
                  go_round
                  case rel =>
                    refine ⟨k + 1, n + 1, by omega, by go_num, by go_num, by omega, Lib.hid ⟨HS2.out.rows, fun r' hr' => ?_, by rw [HS2.out.cnt]; omega, by omega⟩⟩
                    have h1 := HS2.out.row r' hr'
                    rw [HRI.out] at hr'
                    cases hr'
                    rw [List.take_add_one, HE.out, List.any_append, h1]
                    simp [HBAD.out]
                  case measure => simp [intOf]; omega
          · obtain rfl : k = M := by omega
            go_wp2
            go_round
            case rel =>
              refine ⟨i + 1, n, by omega, rfl, by go_num, hn, Lib.hid ⟨fun j r' hj hr' => ?_, fun r' _ => by simp, ?_, hn⟩⟩
              · by_cases hji : j < i
                · exact HS2.out.rows j r' hji hr'
                · obtain rfl : j = i := by omega
                  have h1 := HS2.out.row r' hr'
                  rw [HRI.out] at hr'
                  cases hr'
                  rwa [List.take_of_length_le (by rw [← HRO.out.like.1, ← HM.out]; exact Nat.le_refl _)] at h1
              · rw [total_take R i r HRI.out, HS2.out.cnt, HM.out, HRO.out.like.1]
                omega
            case measure => simp [intOf]; omega
      · obtain rfl : i = N := by omega
        go_wp2
        go_ret
        refine ⟨ret_b ?_, rfl⟩
        rw [HG.out]
        unfold greatB
        have h1 : R.any (fun r => r.E.any badE) = false := List.any_eq_false.2 fun r hr => by
          obtain ⟨j, hj⟩ := List.getElem?_of_mem hr
          have := HS.out.rows j r (by rw [HN.out]; exact (List.getElem?_eq_some_iff.1 hj).1) hj
          simp [this]
        have h2 := HS.out.cnt
        rw [HN.out, List.take_length] at h2
        rw [h1, decide_eq_false (by rw [← HN.out]; exact h40), decide_eq_false (by omega)]
        rfl
end Go.Proofs.YtkhoeiapfoaapaaDoor
