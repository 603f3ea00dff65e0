/-
  The program's Under, walked.
-/
import Derived.Test.YtkhoeiapfoaapaaGreatDoorPathJoin
namespace Go.Proofs.YtkhoeiapfoaapaaGreatDoor
set_option linter.unusedVariables false
set_option linter.unusedSimpArgs false
open Go.RowKit

/-- Under, in plain Lean. -/
def underB (p q : Bytes) : Bool :=
  match partsL p, partsL q with
  | some l, some m => decide (m.length ≤ l.length) && decide (l.take m.length = m)
  | _, _ => false

theorem bs_inj {a b : Bytes} (h : bs a = bs b) : a = b := by rw [← data_bs a, h, data_bs]
theorem map_bs_inj : ∀ {L M : List Bytes}, L.map bs = M.map bs → L = M
  | [], [], _ => rfl
  | [], _ :: _, h => by cases h
  | _ :: _, [], h => by cases h
  | x :: L, y :: M, h => by
    simp only [List.map_cons, List.cons.injEq] at h
    rw [bs_inj h.1, map_bs_inj h.2]
theorem getD_bs (L : List Bytes) (j : Nat) (hj : j < (L.map bs).length) : (L.map bs).getD j ByteArray.empty = bs (L[j]'(by simpa using hj)) := by
  simp [List.getD_eq_getElem?_getD, List.getElem?_eq_getElem (show j < L.length by simpa using hj)]
theorem equal_any (b1 c b2 d : Nat) (l m : List Bytes) (w : World) (h1 : StrsAt w b1 0 l) (h2 : StrsAt w b2 0 m) (hl : l.length ≤ 1000) (hm : m.length ≤ l.length) :
    Calls Tryz.prog 40 #[.slice (some ⟨b1, 0, none⟩) m.length c, .slice (some ⟨b2, 0, none⟩) m.length d] w fun e w' => e = .returned (.bool (decide (l.take m.length = m))) ∧ ∃ q, w' = w.drewN q := by
  have h := Tryz.slices_Equal_string b1 0 m.length c b2 0 m.length d (l.map bs) (m.map bs) w (by simpa using hm) (by simp) (by omega) (by omega)
    (fun j hj => by rw [getD_bs l j hj]; exact h1 j _ (List.getElem?_eq_getElem _)) (fun j hj => by rw [getD_bs m j hj]; exact h2 j _ (List.getElem?_eq_getElem _))
  have e : decide ((l.map bs).take m.length = (m.map bs).take m.length) = decide (l.take m.length = m) := by
    rw [decide_eq_decide]
    have : (m.map bs).take m.length = m.map bs := List.take_of_length_le (by simp)
    rw [this, ← List.map_take]
    exact ⟨map_bs_inj, fun h => by rw [h]⟩
  rw [e] at h
  exact h

set_option maxRecDepth 100000 in
theorem under_f1 (p q : Bytes) (hp : (bs p).size ≤ 9223372036854775807) (hq : (bs q).size ≤ 9223372036854775807) (h : partsL p = none) (w : World) (hm : MaxInt w) :
    Calls Tryz.prog 21 #[.string (bs p), .string (bs q)] w fun e w' => e = .returned (.bool false) ∧ Below w.heap.size w w' := by
  have h1 := split_none p h hp w hm
  have h2 := fun (W : World) (hW : Below w.heap.size w W) => split_any q hq W (hm.kept hW)
  have H2 := Lib.hid h2
  clear h2 h hm
  generalize (partsL q).isSome = ok at *
  go_enter Tryz.func21, Tryz.ntmps21
  go_wp2_with fail
  refine h1.mono ?_
  rintro e w1 ⟨v, rfl, B1⟩
  go_wp2_with fail
  refine (H2.out _ B1).mono ?_
  rintro e w2 ⟨v2, rfl, B2⟩
  have HB := Lib.hid (B1.trans (B2.mono B1.size))
  clear B1 B2
  go_wp2
  go_ret
  exact ⟨rfl, HB.out⟩
set_option maxRecDepth 100000 in
theorem under_f2 (p q : Bytes) (L : List Bytes) (hq : (bs q).size ≤ 9223372036854775807) (h : partsL p = some L) (h0 : partsL q = none) (w : World) (hm : MaxInt w) :
    Calls Tryz.prog 21 #[.string (bs p), .string (bs q)] w fun e w' => e = .returned (.bool false) ∧ Below w.heap.size w w' := by
  have h1 := split_ok p L h w hm
  have h2 := fun (W : World) (hW : Below w.heap.size w W) => split_none q h0 hq W (hm.kept hW)
  have H2 := Lib.hid h2
  clear h2 h hm h0
  go_enter Tryz.func21, Tryz.ntmps21
  go_wp2_with fail
  refine h1.mono ?_
  rintro e w1 ⟨v, rfl, B1⟩
  go_wp2_with fail
  refine (H2.out _ B1).mono ?_
  rintro e w2 ⟨v2, rfl, B2⟩
  have HB := Lib.hid (B1.trans (B2.mono B1.size))
  clear B1 B2
  go_wp2
  go_ret
  exact ⟨rfl, HB.out⟩
set_option maxRecDepth 100000 in
theorem under_nn (p q : Bytes) (h : partsL p = some []) (h0 : partsL q = some []) (w : World) :
    Calls Tryz.prog 21 #[.string (bs p), .string (bs q)] w fun e w' => e = .returned (.bool true) ∧ Below w.heap.size w w' := by
  have h1 := split_nil p h w
  have h2 := split_nil q h0 w
  have h3 := Tryz.slices_Equal_string_empty none none 0 0 0 w (by omega)
  clear h h0
  go_enter Tryz.func21, Tryz.ntmps21
  go_wp2_with fail
  refine h1.mono ?_
  rintro e w1 ⟨rfl, rfl⟩
  go_wp2_with fail
  refine h2.mono ?_
  rintro e w1 ⟨rfl, rfl⟩
  go_wp2_with fail
  refine h3.mono ?_
  rintro e w1 ⟨rfl, hw1⟩
  subst w1
  go_wp2
  go_ret
  exact ⟨rfl, Below.refl _ _⟩
set_option maxRecDepth 100000 in
theorem under_sn (p q : Bytes) (L : List Bytes) (h : partsL p = some L) (hL : L ≠ []) (h0 : partsL q = some []) (w : World) (hm : MaxInt w) :
    Calls Tryz.prog 21 #[.string (bs p), .string (bs q)] w fun e w' => e = .returned (.bool true) ∧ Below w.heap.size w w' := by
  have h1 := split_some p L h hL w hm
  have h2 := split_nil q h0
  have h3 := Tryz.slices_Equal_string_empty (some ⟨w.heap.size, 0, none⟩) none L.length 0 0
  have hl := partsL_len h
  clear h h0 hm hL
  generalize L.length = n at *
  go_enter Tryz.func21, Tryz.ntmps21
  go_wp2_with fail
  refine h1.mono ?_
  rintro e w1 ⟨rfl, _, B1⟩
  go_wp2_with fail
  refine (h2 _).mono ?_
  rintro e w2 ⟨rfl, rfl⟩
  go_wp2_with fail
  refine (h3 _ (by omega)).mono ?_
  rintro e w3 ⟨rfl, hw3⟩
  subst w3
  go_wp2
  go_ret
  exact ⟨rfl, B1⟩
set_option maxRecDepth 100000 in
theorem under_ns (p q : Bytes) (M : List Bytes) (h : partsL p = some []) (hM : M ≠ []) (h0 : partsL q = some M) (w : World) (hm : MaxInt w) :
    Calls Tryz.prog 21 #[.string (bs p), .string (bs q)] w fun e w' => e = .returned (.bool false) ∧ Below w.heap.size w w' := by
  have h1 := split_nil p h w
  have h2 := split_some q M h0 hM w hm
  have hl := partsL_len h0
  have hp : 0 < M.length := List.length_pos_iff.2 hM
  clear h h0 hm hM
  generalize M.length = n at *
  go_enter Tryz.func21, Tryz.ntmps21
  go_wp2_with fail
  refine h1.mono ?_
  rintro e w1 ⟨rfl, rfl⟩
  go_wp2_with fail
  refine h2.mono ?_
  rintro e w1 ⟨rfl, _, B1⟩
  go_wp2
  go_ret
  exact ⟨rfl, B1⟩
set_option maxRecDepth 100000 in
theorem under_gt (p q : Bytes) (L M : List Bytes) (h : partsL p = some L) (hL : L ≠ []) (h0 : partsL q = some M) (hgt : L.length < M.length) (w : World) (hm : MaxInt w) :
    Calls Tryz.prog 21 #[.string (bs p), .string (bs q)] w fun e w' => e = .returned (.bool false) ∧ Below w.heap.size w w' := by
  have h1 := split_some p L h hL w hm
  have h2 := fun (W : World) (hW : Below w.heap.size w W) => split_some q M h0 (fun e => by rw [e] at hgt; simp at hgt) W (hm.kept hW)
  have H2 := Lib.hid h2
  have hl := partsL_len h
  have hl2 := partsL_len h0
  clear h h0 hm hL h2
  generalize L.length = n at *
  generalize M.length = k at *
  go_enter Tryz.func21, Tryz.ntmps21
  go_wp2_with fail
  refine h1.mono ?_
  rintro e w1 ⟨rfl, _, B1⟩
  go_wp2_with fail
  refine (H2.out _ B1).mono ?_
  rintro e w2 ⟨rfl, _, B2⟩
  have HB := Lib.hid (B1.trans (B2.mono B1.size))
  clear B1 B2
  go_wp2
  go_ret
  exact ⟨rfl, HB.out⟩
set_option maxRecDepth 100000 in
theorem under_le (p q : Bytes) (L M : List Bytes) (h : partsL p = some L) (hM : M ≠ []) (h0 : partsL q = some M) (hle : M.length ≤ L.length) (w : World) (hm : MaxInt w) :
    Calls Tryz.prog 21 #[.string (bs p), .string (bs q)] w fun e w' => e = .returned (.bool (decide (L.take M.length = M))) ∧ Below w.heap.size w w' := by
  have hp : 0 < M.length := List.length_pos_iff.2 hM
  have h1 := split_some p L h (fun e => by rw [e] at hle; simp at hle; exact hM hle) w hm
  have h2 := fun (W : World) (hW : Below w.heap.size w W) => split_some q M h0 hM W (hm.kept hW)
  have H2 := Lib.hid h2
  have hl := partsL_len h
  have hl2 := partsL_len h0
  have h3 := fun (W : World) (g : Nat) (a : BlkS W w.heap.size L) (b : BlkS W g M) => equal_any w.heap.size L.length g M.length L M W a.at b.at (by omega) hle
  have H3 := Lib.hid h3
  clear h h0 hm h2 h3 hM
  generalize decide (L.take M.length = M) = r at *
  generalize hn : L.length = n at *
  generalize hk : M.length = k at *
  clear hn hk
  go_enter Tryz.func21, Tryz.ntmps21
  go_wp2_with fail
  refine h1.mono ?_
  rintro e w1 ⟨rfl, A1, B1⟩
  go_wp2_with fail
  refine (H2.out _ B1).mono ?_
  rintro e w2 ⟨rfl, A2, B2⟩
  have h3 := H3.out w2 w1.heap.size (A1.kept B2 A1.lt) A2
  have HB := Lib.hid (B1.trans (B2.mono B1.size))
  clear B1 B2 A1 A2
  go_wp2_with fail
  refine h3.mono ?_
  rintro e w3 ⟨rfl, q3, rfl⟩
  have HB2 := Lib.hid (show Below w.heap.size w (w2.drewN q3) from ⟨HB.out.os, HB.out.tape, HB.out.output, HB.out.size, HB.out.block⟩)
  clear h3
  go_wp2
  go_ret
  exact ⟨rfl, HB2.out⟩

theorem under_any (p q : Bytes) (hp : (bs p).size ≤ 9223372036854775807) (hq : (bs q).size ≤ 9223372036854775807) (w : World) (hm : MaxInt w) :
    Calls Tryz.prog 21 #[.string (bs p), .string (bs q)] w fun e w' => e = .returned (.bool (underB p q)) ∧ Below w.heap.size w w' := by
  unfold underB
  cases h1 : partsL p with
  | none => exact under_f1 p q hp hq h1 w hm
  | some L =>
    cases h2 : partsL q with
    | none => exact under_f2 p q L hq h1 h2 w hm
    | some M =>
      dsimp only
      by_cases hM : M = []
      · subst hM
        simp only [List.length_nil, Nat.zero_le, decide_true, List.take_zero, Bool.and_true]
        by_cases hL : L = []
        · subst hL
          exact under_nn p q h1 h2 w
        · exact under_sn p q L h1 hL h2 w hm
      · by_cases hle : M.length ≤ L.length
        · rw [decide_eq_true hle, Bool.true_and]
          exact under_le p q L M h1 hM h2 hle w hm
        · rw [decide_eq_false hle, Bool.false_and]
          by_cases hL : L = []
          · subst hL
            exact under_ns p q M h1 hM h2 w hm
          · exact under_gt p q L M h1 hL h2 (by omega) w hm
end Go.Proofs.YtkhoeiapfoaapaaGreatDoor
