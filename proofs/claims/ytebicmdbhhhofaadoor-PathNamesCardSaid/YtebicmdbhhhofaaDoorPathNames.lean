/-
  PathNames, walked.
-/
import Derived.Test.YtebicmdbhhhofaaDoorNamesPlain
import Derived.Test.YtebicmdbhhhofaaDoorExt
import Derived.BigRegion
import Derived.StillTailTactics
namespace Go.Proofs.YtebicmdbhhhofaaDoor
set_option linter.unusedVariables false
set_option linter.unusedSimpArgs false
open Go.RowKit

theorem conv1 (W : World) (g : Nat) (v : Int) (h : W.cell? ⟨g, 0, none⟩ = some (.int .u8 v)) :
    (convert 34 9 (.slice (some ⟨g, 0, none⟩) 1 1)).run Tryd.prog W = .ok (.string (bs [UInt8.ofNat v.toNat])) W := by
  rw [run_convert_bytes_string W 34 9 5 _ 1 1 Tryd.underlying34 Tryd.underlying5 Tryd.underlying9]
  have hl := run_loadCells_list (P := Tryd.prog) (w := W) ⟨g, 0, none⟩ [.int .u8 v] (fun j u hu => by
    have hj : j = 0 := by
      have := (List.getElem?_eq_some_iff.1 hu).1
      simpa using this
    subst hj
    cases hu
    exact h)
  rw [run_bytesToString W ⟨g, 0, none⟩ 1 1 [v] hl]
  rfl
theorem add_bs (x y : ByteArray) (z : Bytes) (hz : x ++ y = bs z) (hl : z.length ≤ 1000) (W : World) : (Op.stringOp .add x y).run Tryd.prog W = .ok (.string (bs z)) W := by
  have h : (x ++ y).size = x.size + y.size := ByteArray.size_append
  rw [hz, size_bs] at h
  rw [run_string_add_sum W x y (by omega), hz]
def bad7 : List Int := [0, 31, 127, 47, 128, 255, 192]
set_option maxRecDepth 100000 in
set_option maxHeartbeats 8000000 in
theorem names_core (a b : Bytes) (x c : Int) (ha : a.length ≤ 60) (hb : b.length ≤ 60) (hx0 : 0 ≤ x) (hx1 : x ≤ 255) (hc0 : 0 ≤ c) (hc1 : c ≤ 255) (hn : okName a = true) (w : World) (hm : MaxInt w) :
    Calls Tryd.prog 5 #[.string (bs a), .string (bs b), .int .u8 x, .int .u8 c] w fun e w' => e = .returned (.bool true) ∧ Below w.heap.size w w' := by
  have s1 : (bs a).size ≤ 60 := by rw [size_bs]; exact ha
  have s2 : (bs b).size ≤ 60 := by rw [size_bs]; exact hb
  have c1 := later_name w a
  rw [hn] at c1
  have C1 := Lib.hid c1
  have hcat : bs a ++ (⟨#[47]⟩ : ByteArray) ++ bs b = bs (a ++ 47 :: b) := by
    rw [show (⟨#[47]⟩ : ByteArray) = bs [47] from rfl, cat_bs, cat_bs, List.append_assoc]; rfl
  have HCAT := Lib.hid hcat
  have c2 := later_name w (a ++ 47 :: b)
  have hno : okName (a ++ 47 :: b) = false := by
    cases h : okName (a ++ 47 :: b) with
    | false => rfl
    | true => exact absurd (by simp) (name_free h)
  rw [hno] at c2
  have C2 := Lib.hid c2
  have B0 := Lib.hid (Below.refl w.heap.size w)
  clear c1 c2 hno hcat
  go_enter Tryd.func5, Tryd.ntmps5
  go_wp2_with fail
  refine (C1.out _ B0.out).mono ?_
  rintro e wa1 ⟨rfl, Ba1⟩
  have Xa1 := Lib.hid Ba1
  clear Ba1
  go_wp2_with fail
  rw [HCAT.out]
  refine (C2.out _ Xa1.out).mono ?_
  rintro e w2 ⟨rfl, B2⟩
  have X2 := Lib.hid B2
  clear B2
  go_wp2_with fail
  obtain ⟨k, hk⟩ : ∃ k : Nat, x % ((bs a).size + 1 : Int) = (k : Int) := ⟨(x % ((bs a).size + 1 : Int)).toNat, by have := Int.emod_nonneg x (show ((bs a).size + 1 : Int) ≠ 0 by omega); omega⟩
  have hka : k ≤ (bs a).size := by have := Int.emod_lt_of_pos x (show (0 : Int) < ((bs a).size + 1 : Int) by omega); omega
  rw [hk]
  have HK := Lib.hid hk
  clear hk
  obtain ⟨r, hr⟩ : ∃ r : Nat, c % 7 = (r : Int) := ⟨(c % 7).toNat, by omega⟩
  have hr7 : r < 7 := by omega
  have ht : c.tmod 7 = (r : Int) := by rw [Int.tmod_eq_emod_of_nonneg hc0]; exact hr
  have hcell : (w2.alloc (.cells #[.int .u8 0, .int .u8 31, .int .u8 127, .int .u8 47, .int .u8 128, .int .u8 255, .int .u8 192] 5)).cell? ⟨w2.heap.size, r, none⟩ = some (.int .u8 (bad7.getD r 0)) := by
    rcases (show r = 0 ∨ r = 1 ∨ r = 2 ∨ r = 3 ∨ r = 4 ∨ r = 5 ∨ r = 6 by omega) with rfl | rfl | rfl | rfl | rfl | rfl | rfl <;> exact (World.cell?_alloc_at _ _ _ _ (by simp))
  generalize hv : bad7.getD r 0 = v at hcell
  have hv1 : 0 ≤ v ∧ v ≤ 255 := by
    subst hv
    rcases (show r = 0 ∨ r = 1 ∨ r = 2 ∨ r = 3 ∨ r = 4 ∨ r = 5 ∨ r = 6 by omega) with rfl | rfl | rfl | rfl | rfl | rfl | rfl <;> simp [bad7]
  obtain ⟨v0, v1⟩ := hv1
  have HV := Lib.hid hv
  clear hv hr
  have hv2 : (((w2.alloc (.cells #[.int .u8 0, .int .u8 31, .int .u8 127, .int .u8 47, .int .u8 128, .int .u8 255, .int .u8 192] 5)).alloc (.cells #[.int .u8 v] 5)).drew).cell? ⟨w2.heap.size + 1, 0, none⟩ = some (.int .u8 v) :=
    World.cell?_alloc_at _ _ _ _ (by simp)
  have hconv := conv1 _ _ _ hv2
  have hac : bs a = bs (a.take k ++ a.drop k) := by rw [List.take_append_drop]
  have e1 : (bs a).extract 0 k = bs (a.take k) := by rw [cut_bs]; simp
  have e2 : (bs a).extract k (bs a).size = bs (a.drop k) := by
    rw [cut_bs, size_bs]
    have : (a.drop k).take (a.length - k) = a.drop k := List.take_of_length_le (by simp)
    rw [this]
  have hla : (a.take k).length + (a.drop k).length ≤ 60 := by rw [← List.length_append, List.take_append_drop]; exact ha
  have hadd1 := add_bs ((bs a).extract 0 k) (bs [UInt8.ofNat v.toNat]) (a.take k ++ [UInt8.ofNat v.toNat]) (by rw [e1, cat_bs]) (by rw [List.length_append]; simp only [List.length_cons, List.length_nil]; omega)
  have hadd2 := add_bs (bs (a.take k ++ [UInt8.ofNat v.toNat])) ((bs a).extract k (bs a).size) (insB a k (UInt8.ofNat v.toNat)) (by rw [e2, cat_bs, List.append_assoc]; rfl) (by unfold insB; rw [List.length_append, List.length_cons]; omega)
  clear e1 e2 hac hla
  go_region
  have hmem : UInt8.ofNat v.toNat ∈ ([0, 31, 127, 47, 128, 255, 192] : List UInt8) := by
    rw [← HV.out]
    rcases (show r = 0 ∨ r = 1 ∨ r = 2 ∨ r = 3 ∨ r = 4 ∨ r = 5 ∨ r = 6 by omega) with rfl | rfl | rfl | rfl | rfl | rfl | rfl <;> decide
  have c3 := later_name w (insB a k (UInt8.ofNat v.toNat))
  rw [ins_bad a k _ (by rw [size_bs] at hka; exact hka) hn hmem] at c3
  have C3 := Lib.hid c3
  have XB := Lib.hid (show Below w.heap.size w (((w2.alloc (.cells #[.int .u8 0, .int .u8 31, .int .u8 127, .int .u8 47, .int .u8 128, .int .u8 255, .int .u8 192] 5)).alloc (.cells #[.int .u8 v] 5)).drew) from
    ((X2.out.alloc X2.out.size _).alloc (by have := X2.out.size; simp; omega) _).drew)
  have CG := Lib.hid (later_goes w hm)
  clear c3 hmem hcell hv2 hconv hadd1 hadd2 ht
  generalize insB a k (UInt8.ofNat v.toNat) = z at *
  go_wp2_with fail
  refine (C3.out _ XB.out).mono ?_
  rintro e w3 ⟨rfl, B3⟩
  have X3 := Lib.hid B3
  clear B3
  go_wp2_with fail
  refine (CG.out _ X3.out).mono ?_
  rintro e w4 ⟨rfl, B4⟩
  go_wp2
  go_ret
  exact ⟨rfl, B4⟩

set_option maxRecDepth 100000 in
set_option maxHeartbeats 4000000 in
theorem names_other (a b : Bytes) (x c : Int) (h : 60 < (bs a).size ∨ 60 < (bs b).size ∨ okName a = false) (m1 : (bs a).size ≤ 9223372036854775807) (m2 : (bs b).size ≤ 9223372036854775807) (w : World) (hm : MaxInt w) :
    Calls Tryd.prog 5 #[.string (bs a), .string (bs b), .int .u8 x, .int .u8 c] w fun e w' => e = .returned (.bool true) ∧ Below w.heap.size w w' := by
  have CG := Lib.hid (later_goes w hm)
  have B0 := Lib.hid (Below.refl w.heap.size w)
  rcases (show 60 < (bs a).size ∨ ((bs a).size ≤ 60 ∧ 60 < (bs b).size) ∨ ((bs a).size ≤ 60 ∧ (bs b).size ≤ 60 ∧ okName a = false) by
    rcases h with h | h | h
    · exact .inl h
    · by_cases h1 : 60 < (bs a).size
      · exact .inl h1
      · exact .inr (.inl ⟨by omega, h⟩)
    · by_cases h1 : 60 < (bs a).size
      · exact .inl h1
      · by_cases h2 : 60 < (bs b).size
        · exact .inr (.inl ⟨by omega, h2⟩)
        · exact .inr (.inr ⟨by omega, by omega, h⟩)) with g | ⟨g1, g2⟩ | ⟨g1, g2, g3⟩
  · clear h
    go_enter Tryd.func5, Tryd.ntmps5
    go_wp2_with fail
    refine (CG.out _ B0.out).mono ?_
    rintro e w1 ⟨rfl, B1⟩
    have X1 := Lib.hid B1
    clear B1
    go_wp2
    go_ret
    exact ⟨rfl, X1.out⟩
  · clear h
    go_enter Tryd.func5, Tryd.ntmps5
    go_wp2_with fail
    refine (CG.out _ B0.out).mono ?_
    rintro e w1 ⟨rfl, B1⟩
    have X1 := Lib.hid B1
    clear B1
    go_wp2
    go_ret
    exact ⟨rfl, X1.out⟩
  · have c1 := later_name w a
    rw [g3] at c1
    have C1 := Lib.hid c1
    clear h c1 g3
    go_enter Tryd.func5, Tryd.ntmps5
    go_wp2_with fail
    refine (C1.out _ B0.out).mono ?_
    rintro e w1 ⟨rfl, B1⟩
    have X1 := Lib.hid B1
    clear B1
    go_wp2_with fail
    refine (CG.out _ X1.out).mono ?_
    rintro e w2 ⟨rfl, B2⟩
    have X2 := Lib.hid B2
    clear B2
    go_wp2
    go_ret
    exact ⟨rfl, X2.out⟩
theorem names_all (a b : Bytes) (x c : Int) (hx : 0 ≤ x ∧ x ≤ 255) (hc : 0 ≤ c ∧ c ≤ 255) (m1 : (bs a).size ≤ 9223372036854775807) (m2 : (bs b).size ≤ 9223372036854775807) (w : World) (hm : MaxInt w) :
    Calls Tryd.prog 5 #[.string (bs a), .string (bs b), .int .u8 x, .int .u8 c] w fun e w' => e = .returned (.bool true) ∧ Below w.heap.size w w' := by
  by_cases h : a.length ≤ 60 ∧ b.length ≤ 60 ∧ okName a = true
  · exact names_core a b x c h.1 h.2.1 hx.1 hx.2 hc.1 hc.2 h.2.2 w hm
  · refine names_other a b x c ?_ m1 m2 w hm
    rw [size_bs, size_bs]
    cases ho : okName a with
    | false => exact .inr (.inr rfl)
    | true =>
      have : ¬ (a.length ≤ 60 ∧ b.length ≤ 60) := fun h' => h ⟨h'.1, h'.2, ho⟩
      omega
end Go.Proofs.YtebicmdbhhhofaaDoor
