/-
  alike, walked: it answers true.
-/
import Derived.Test.YtkhoeiapfoaapaaGreatDoorRf6
import Derived.Deep.RegionHeld3
namespace Go.Proofs.YtkhoeiapfoaapaaGreatDoor
set_option linter.unusedVariables false
set_option linter.unusedSimpArgs false
set_option linter.unusedVariables false
set_option linter.unusedSimpArgs false
open Go Go.RowKit Go.Shelf Go.MapKept Go.ChangeMaps Go.Maps Go.Sort

section
variable {w0 w : World} {Z : Nat → Prop} {b rb : Nat} {root : Bytes} {at_ : Int} {ao : Option Addr} {c0 : Nat} {R : List RawA} {M L : List (Bytes × Nd)}
theorem texts_same {w : World} {a b : Option Addr} {c d : Nat} {K : List Bytes} (hl : K.length ≤ 1000) (S1 : StrSl w w.heap.size a K) (S2 : StrSl w w.heap.size b K) :
    Calls Tryz.prog 17 #[.slice a K.length c, .slice b K.length d] w fun e w' => e = .returned (.bool true) ∧ Below w.heap.size w w' :=
  (texts_any a b c d _ _ K K w hl hl S1 S2).mono fun e w' ⟨h1, q, h2⟩ => by
    subst h2
    exact ⟨by rw [h1]; simp, belowN (Below.refl _ w) q⟩
theorem TR.root_any (RA : TR w0 w b root at_ M) : Calls Tryz.prog 25 #[.pointer (some ⟨b, 0, none⟩)] w fun e w' => e = .returned (.string (bs root)) ∧ w' = w := by
  obtain ⟨lo, mb, T⟩ := RA.tree
  exact T.root_any
theorem StrSl.belowW {w w' : World} {a : Option Addr} {K : List Bytes} (h : StrSl w w.heap.size a K) (hb : Below w.heap.size w w') : StrSl w' w'.heap.size a K := fun k p hk => by
  obtain ⟨b, off, h1, h2, h3⟩ := h k p hk
  exact ⟨b, off, h1, Nat.lt_of_lt_of_le h2 hb.size, (hb.cell (p := ⟨b, off + k, none⟩) h2).trans h3⟩
set_option maxRecDepth 100000 in
set_option maxHeartbeats 8000000 in
theorem alike_any (RA : TR w0 w b root at_ M) (T : RefAt w Z rb root at_ ao c0 R L) (H : Rel M L) (I : Inv root M) (p : Bytes) (hp : p.length ≤ 1000) :
    Calls Tryz.prog 10 #[.pointer (some ⟨b, 0, none⟩), .pointer (some ⟨rb, 0, none⟩), .string (bs p)] w fun e w' => e = .returned (.bool true) ∧ Below w.heap.size w w' := by
  have F := RA.fit
  have hRM : R.length = M.length := by rw [T.like.1, H.len I.nodup]
  have hR48 : R.length ≤ 48 := by rw [hRM]; exact F.len
  obtain ⟨N, hN⟩ : ∃ N, N = R.length := ⟨_, rfl⟩
  have hNM : N = M.length := hN.trans hRM
  have hN48 : N ≤ 48 := by omega
  have hkl : ∀ q, (kidsS root M q).length ≤ 1000 := fun q => by
    have h1 : (kidsS root M q).length = (((keysS M).filter (kidB root q)).map baseL).length := (sortS_perm _).length_eq
    have h2 := kids_len root M q
    have h3 := F.len
    omega
  have hR0 : 0 < R.length := by rw [T.like.1]; exact H.pos I
  obtain ⟨_, _, bo, off, _, _, hao, hbo, _, _, _, _⟩ := T.node (i := 0) hR0
  subst hao
  have HPT := Lib.hid RA.paths
  have HT := Lib.hid (And.intro RA (And.intro T (And.intro H (And.intro I (And.intro F (And.intro hN hNM))))))
  have HKL := Lib.hid hkl
  have te : ((bs root).toList == (bs root).toList) = true := by simp
  have q1 := HPT.out
  rw [← hNM] at q1
  have HQ1 := Lib.hid q1
  clear RA T H I F hN hNM hRM hR48 hR0 hkl q1
  go_enter Tryz.func10, Tryz.ntmps10
  go_wp2_with fail
  refine HQ1.out.mono ?_
  rintro e w1 ⟨pa, pc, rfl, S1, B1⟩
  have RA1 := HT.out.1.below B1
  have T1 := HT.out.2.1.below B1
  have hb1 : Below w.heap.size w w1 := B1
  have HB1 := Lib.hid hb1
  have HS1 := Lib.hid S1
  have HT1 := Lib.hid (And.intro RA1 T1)
  have e0 : ∀ w', Below w1.heap.size w1 w' → w'.cell? ⟨rb, 0, none⟩ = some (.string (bs root)) := fun w' h => (T1.below h).c0
  have e1 : ∀ w', Below w1.heap.size w1 w' → w'.cell? ⟨rb, 1, none⟩ = some (.int .u64 at_) := fun w' h => (T1.below h).c1
  have e2 : ∀ w', Below w1.heap.size w1 w' → w'.cell? ⟨rb, 2, none⟩ = some (.slice (some ⟨bo, off, none⟩) N c0) := fun w' h => by have := (T1.below h).c2; rw [← HT.out.2.2.2.2.2.1] at this; exact this
  have hRl : R.length ≤ 1000 := by rw [← HT.out.2.2.2.2.2.1]; omega
  have KR : Hid (∀ w', Below w1.heap.size w1 w' → Calls Tryz.prog 25 #[.pointer (some ⟨b, 0, none⟩)] w' fun e w'' => e = .returned (.string (bs root)) ∧ Below w1.heap.size w1 w'') := Lib.hid fun w' h => (RA1.below h).root_any.mono fun e w'' ⟨g1, g2⟩ => by
    subst g2
    exact ⟨g1, h⟩
  have KA : Hid (∀ w', Below w1.heap.size w1 w' → Calls Tryz.prog 16 #[.pointer (some ⟨b, 0, none⟩)] w' fun e w'' => e = .returned (.int .u64 at_) ∧ Below w1.heap.size w1 w'') := Lib.hid fun w' h => (RA1.below h).at_any.mono fun e w'' ⟨g1, g2⟩ => by
    subst g2
    exact ⟨g1, h⟩
  have KK : Hid (∀ q w', Below w1.heap.size w1 w' → Calls Tryz.prog 19 #[.pointer (some ⟨b, 0, none⟩), .string (bs q)] w' fun e w'' => ∃ a c, e = .returned (.slice a (kidsS root M q).length c) ∧ StrSl w'' w''.heap.size a (kidsS root M q) ∧ Below w1.heap.size w1 w'' ∧ Below w'.heap.size w' w'') := Lib.hid fun q w' h => ((RA1.below h).kids q).mono fun e w'' ⟨a, c, g1, g2, g3⟩ => ⟨a, c, g1, g2, h.trans (g3.mono h.size), g3⟩
  have KD : Hid (∀ q w', Below w1.heap.size w1 w' → Calls Tryz.prog 26 #[.pointer (some ⟨rb, 0, none⟩), .string (bs q)] w' fun e w'' => ∃ a c, e = .returned (.slice a (kidsS root M q).length c) ∧ StrSl w'' w''.heap.size a (kidsS root M q) ∧ Below w1.heap.size w1 w'' ∧ Below w'.heap.size w' w'') := Lib.hid fun q w' h => ((T1.below h).kidsX hRl HT.out.2.2.1 HT.out.2.2.2.1 HT.out.2.2.2.2.1 q).mono fun e w'' ⟨a, c, g1, g2, g3⟩ => ⟨a, c, g1, g2, h.trans (g3.mono h.size), g3⟩
  clear S1 B1 RA1 T1 hb1
  go_wp2_with fail
  go_region_held3 (fun w' => Below w1.heap.size w1 w') (first | assumption | exact (Below.refl _ _).drew | exact Below.drew (by assumption)) (first
    | (go_at_call 17; refine (texts_same (HKL.out p) S6 S7).mono ?_; rintro e w8 ⟨rfl, B8⟩; have ct8 := ct7.trans (B8.mono ct7.size); clear B8)
    | (go_at_call 26; refine (KD.out p _ (by first | assumption | exact (Below.refl _ _).drew | exact Below.drew (by assumption))).mono ?_; rintro e w7 ⟨a7, c7, rfl, S7, ct7, B7⟩; have S6 := StrSl.belowW S6' B7; clear B7)
    | (go_at_call 19; refine (KK.out p _ (by first | assumption | exact (Below.refl _ _).drew | exact Below.drew (by assumption))).mono ?_; rintro e w6 ⟨a6, c6, rfl, S6', ct6, _⟩)
    | (go_at_call 16; refine (KA.out _ (by first | assumption | exact (Below.refl _ _).drew | exact Below.drew (by assumption))).mono ?_; rintro e w5 ⟨rfl, ct5⟩)
    | (go_at_call 25; refine (KR.out _ (by first | assumption | exact (Below.refl _ _).drew | exact Below.drew (by assumption))).mono ?_; rintro e w4 ⟨rfl, ct4⟩))
  have HC8 := Lib.hid ct8
  clear ct8 ct7 ct6 ct5 ct4 S6 S7 S6' e0 e1 e2
  have hps := HPT
  go_wp2_with fail
  refine ((HT1.out.1.below HC8.out).get p (by unfold maxLen; omega)).mono ?_
  rintro e w9 ⟨r9, rfl, _, B9, _⟩
  obtain ⟨ra, rn, rc, ⟨r1, r2, r3, r4, r5, r6, r7, r8⟩⟩ := r9
  obtain ⟨w10, hw10⟩ : ∃ w10, w10 = w9.alloc (.cells #[.slice ra rn rc, .int .u32 r1, .int .u32 r2, .int .u32 r3, .int .i64 r4, .int .u32 r5, .int .u64 r6, .int .u64 r7, .int .u64 r8] 39) := ⟨_, rfl⟩
  have B10 : Below w1.heap.size w1 w10 := HC8.out.trans ((B9.trans (by rw [hw10]; exact (belowA (Below.refl _ w9) _).mono B9.size)).mono HC8.out.size)
  have HB10 := Lib.hid B10
  have HW10 := Lib.hid hw10
  obtain ⟨j, hj⟩ := find_ex L p
  have HF := Lib.hid ((HT1.out.2.below B10).findX hRl HT.out.2.2.1.nodup hj)
  obtain ⟨gi, hgi⟩ : ∃ gi, gi = (getA p M).isSome := ⟨_, rfl⟩
  rw [← hgi]
  have hjg : decide ((0 : Int) ≤ j) = gi := by
    rcases HT.out.2.2.1.find hj with ⟨rfl, h⟩ | ⟨k, d, rfl, _, h⟩
    · rw [hgi, h]
      rfl
    · rw [hgi, h]
      simp
  have tgi : (gi == gi) = true := by simp
  clear B9 B10 hw10 hj hgi
  unfold Raw.val Raw.cells Nums.cells
  dsimp only
  go_wp2_with fail
  rw [← HW10.out]
  refine HF.out.mono ?_
  rintro e w11 ⟨rfl, rfl⟩
  go_wp2
  go_loopw [10, 11, 12] (fun ci _ _ wr => ∃ i : Nat, i ≤ N ∧ ci = .int .i64 i ∧ Hid (Below w1.heap.size w1 wr)) (fun ci _ _ _ => N - (intOf ci).toNat)
  case atStart => exact ⟨0, by omega, rfl, HB10⟩
  case round =>
    obtain ⟨i, hi, rfl, HS⟩ := hrel
    by_cases hlt : i < N
    · have Tr := HT1.out.2.below HS.out
      have hiR : i < R.length := by rw [← HT.out.2.2.2.2.2.1]; exact hlt
      obtain ⟨⟨rp, ya, yn, yc, ⟨y1, y2, y3, y4, y5, y6, y7, y8⟩⟩, ⟨q, d⟩, b', off', hr, hx, hao, hbo1, _, hrp, hrd, hrg⟩ := Tr.node (i := i) hiR
      cases hao
      dsimp only at hrp hrd
      subst hrp
      have hgm : getA rp M = some d := by rw [← HT.out.2.2.1.get]; exact getA_of_at HT.out.2.2.1.nodup hx
      have hkq : (keysS M)[i]? = some rp := by rw [HT.out.2.2.1.keys HT.out.2.2.2.1.nodup, List.getElem?_map, hx]; rfl
      have hql : rp.length ≤ 1000 := (HT.out.2.2.1.paths HT.out.2.2.2.1 HT.out.2.2.2.2.1 _ (List.mem_of_getElem? hx)).1
      obtain ⟨bl, ol, hpa, hbl, hcl⟩ := HS1.out i rp hkq
      subst hpa
      have hck : wr.cell? ⟨bl, ol + i, none⟩ = some (.string (bs rp)) := (HS.out.cell (p := ⟨bl, ol + i, none⟩) hbl).trans hcl
      have hgt := (HT1.out.1.below HS.out).get rp (by unfold maxLen; omega)
      rw [hgm] at hgt
      have HGT := Lib.hid hgt
      have HRG : Hid (wr.rangeAt bo (off + i * 10) (RawA.cells ⟨rp, ⟨ya, yn, yc, ⟨y1, y2, y3, y4, y5, y6, y7, y8⟩⟩⟩)) := Lib.hid hrg
      have HRD := Lib.hid (And.intro hrd (And.intro hbo1 hbl))
      have tq : ((bs rp).toList == (bs rp).toList) = true := by simp
      clear hr hx hgm hkq hcl hgt hrg hrd hiR Tr hbo1 hbl
      go_wp2_with fail
      refine HGT.out.mono ?_
      rintro e w11 ⟨r11, rfl, hrd11, B11, _⟩
      obtain ⟨sa, sn, sc, ⟨s1, s2, s3, s4, s5, s6, s7, s8⟩⟩ := r11
      obtain ⟨w12, hw12⟩ : ∃ w12, w12 = w11.alloc (.cells #[.slice sa sn sc, .int .u32 s1, .int .u32 s2, .int .u32 s3, .int .i64 s4, .int .u32 s5, .int .u64 s6, .int .u64 s7, .int .u64 s8] 39) := ⟨_, rfl⟩
      have B112 : Below w11.heap.size w11 w12 := by rw [hw12]; exact belowA (Below.refl _ w11) _
      have B12 : Below wr.heap.size wr w12 := B11.trans (B112.mono B11.size)
      have C12 : Below w1.heap.size w1 w12 := HS.out.trans (B12.mono HS.out.size)
      have hbx : w12.rangeAt w11.heap.size 0 [.slice sa sn sc, .int .u32 s1, .int .u32 s2, .int .u32 s3, .int .i64 s4, .int .u32 s5, .int .u64 s6, .int .u64 s7, .int .u64 s8] := fun j u hu => by
        rw [hw12, Nat.zero_add, cell_of_row _ _ j _ 39 (0, 0) (heap_alloc_new w11 _)]
        simpa using hu
      have hxl : w11.heap.size < w12.heap.size := by rw [hw12]; simp
      have f0 : ∀ w', Below w12.heap.size w12 w' → w'.cell? ⟨bl, ol + i, none⟩ = some (.string (bs rp)) := fun w' h => (h.cell (p := ⟨bl, ol + i, none⟩) (Nat.lt_of_lt_of_le (Nat.lt_of_lt_of_le HRD.out.2.2 HS.out.size) B12.size)).trans ((B12.cell (p := ⟨bl, ol + i, none⟩) (Nat.lt_of_lt_of_le HRD.out.2.2 HS.out.size)).trans hck)
      have f1 : ∀ w', Below w12.heap.size w12 w' → w'.cell? ⟨rb, 2, none⟩ = some (.slice (some ⟨bo, off, none⟩) N c0) := fun w' h => by have := ((HT1.out.2.below C12).below h).c2; rw [← HT.out.2.2.2.2.2.1] at this; exact this
      have hR12 := range_kept HRG.out B12 HRD.out.2.1
      have hbo12 : bo < w12.heap.size := Nat.lt_of_lt_of_le HRD.out.2.1 B12.size
      have f2 : ∀ w', Below w12.heap.size w12 w' → w'.cell? ⟨bo, off + i * 10, none⟩ = some (.string (bs rp)) := fun w' h => range_kept hR12 h hbo12 0 _ rfl
      have hN12 : w12.rangeAt bo (off + i * 10 + 1) [.slice ya yn yc, .int .u32 y1, .int .u32 y2, .int .u32 y3, .int .i64 y4, .int .u32 y5, .int .u64 y6, .int .u64 y7, .int .u64 y8] := fun j u hu => by
        have := hR12 (j + 1) u (by simpa [RawA.cells, Raw.cells, Nums.cells] using hu)
        rw [show off + i * 10 + 1 + j = off + i * 10 + (j + 1) by omega]
        exact this
      have f30 : ∀ w', Below w12.heap.size w12 w' → w'.cell? ⟨bo, off + i * 10 + 1, none⟩ = some (.slice ya yn yc) := fun w' h => range_kept hN12 h hbo12 0 _ rfl
      have f31 : ∀ w', Below w12.heap.size w12 w' → w'.cell? ⟨bo, off + i * 10 + 1 + 1, none⟩ = some (.int .u32 y1) := fun w' h => range_kept hN12 h hbo12 1 _ rfl
      have f32 : ∀ w', Below w12.heap.size w12 w' → w'.cell? ⟨bo, off + i * 10 + 1 + 2, none⟩ = some (.int .u32 y2) := fun w' h => range_kept hN12 h hbo12 2 _ rfl
      have f33 : ∀ w', Below w12.heap.size w12 w' → w'.cell? ⟨bo, off + i * 10 + 1 + 3, none⟩ = some (.int .u32 y3) := fun w' h => range_kept hN12 h hbo12 3 _ rfl
      have f34 : ∀ w', Below w12.heap.size w12 w' → w'.cell? ⟨bo, off + i * 10 + 1 + 4, none⟩ = some (.int .i64 y4) := fun w' h => range_kept hN12 h hbo12 4 _ rfl
      have f35 : ∀ w', Below w12.heap.size w12 w' → w'.cell? ⟨bo, off + i * 10 + 1 + 5, none⟩ = some (.int .u32 y5) := fun w' h => range_kept hN12 h hbo12 5 _ rfl
      have f36 : ∀ w', Below w12.heap.size w12 w' → w'.cell? ⟨bo, off + i * 10 + 1 + 6, none⟩ = some (.int .u64 y6) := fun w' h => range_kept hN12 h hbo12 6 _ rfl
      have f37 : ∀ w', Below w12.heap.size w12 w' → w'.cell? ⟨bo, off + i * 10 + 1 + 7, none⟩ = some (.int .u64 y7) := fun w' h => range_kept hN12 h hbo12 7 _ rfl
      have f38 : ∀ w', Below w12.heap.size w12 w' → w'.cell? ⟨bo, off + i * 10 + 1 + 8, none⟩ = some (.int .u64 y8) := fun w' h => range_kept hN12 h hbo12 8 _ rfl
      have f40 : ∀ w', Below w12.heap.size w12 w' → w'.cell? ⟨w11.heap.size, 0, none⟩ = some (.slice sa sn sc) := fun w' h => range_kept hbx h hxl 0 _ rfl
      have f41 : ∀ w', Below w12.heap.size w12 w' → w'.cell? ⟨w11.heap.size, 1, none⟩ = some (.int .u32 s1) := fun w' h => range_kept hbx h hxl 1 _ rfl
      have f42 : ∀ w', Below w12.heap.size w12 w' → w'.cell? ⟨w11.heap.size, 2, none⟩ = some (.int .u32 s2) := fun w' h => range_kept hbx h hxl 2 _ rfl
      have f43 : ∀ w', Below w12.heap.size w12 w' → w'.cell? ⟨w11.heap.size, 3, none⟩ = some (.int .u32 s3) := fun w' h => range_kept hbx h hxl 3 _ rfl
      have f44 : ∀ w', Below w12.heap.size w12 w' → w'.cell? ⟨w11.heap.size, 4, none⟩ = some (.int .i64 s4) := fun w' h => range_kept hbx h hxl 4 _ rfl
      have f45 : ∀ w', Below w12.heap.size w12 w' → w'.cell? ⟨w11.heap.size, 5, none⟩ = some (.int .u32 s5) := fun w' h => range_kept hbx h hxl 5 _ rfl
      have f46 : ∀ w', Below w12.heap.size w12 w' → w'.cell? ⟨w11.heap.size, 6, none⟩ = some (.int .u64 s6) := fun w' h => range_kept hbx h hxl 6 _ rfl
      have f47 : ∀ w', Below w12.heap.size w12 w' → w'.cell? ⟨w11.heap.size, 7, none⟩ = some (.int .u64 s7) := fun w' h => range_kept hbx h hxl 7 _ rfl
      have f48 : ∀ w', Below w12.heap.size w12 w' → w'.cell? ⟨w11.heap.size, 8, none⟩ = some (.int .u64 s8) := fun w' h => range_kept hbx h hxl 8 _ rfl
      have KN : Hid (∀ w', Below w12.heap.size w12 w' → Calls Tryz.prog 28 #[.agg #[.slice sa sn sc, .int .u32 s1, .int .u32 s2, .int .u32 s3, .int .i64 s4, .int .u32 s5, .int .u64 s6, .int .u64 s7, .int .u64 s8], .agg #[.slice ya yn yc, .int .u32 y1, .int .u32 y2, .int .u32 y3, .int .i64 y4, .int .u32 y5, .int .u64 y6, .int .u64 y7, .int .u64 y8]] w' fun e w'' => e = .returned (.bool true) ∧ Below w12.heap.size w12 w'') := Lib.hid fun w' h => (rfNode_same (r := ⟨sa, sn, sc, ⟨s1, s2, s3, s4, s5, s6, s7, s8⟩⟩) (r' := ⟨ya, yn, yc, ⟨y1, y2, y3, y4, y5, y6, y7, y8⟩⟩) (d := d) ((hrd11.below B112).below h) ((HRD.out.1.below B12).below h)).mono fun e w'' ⟨g1, g2⟩ => ⟨g1, h.trans (g2.mono h.size)⟩
      have HC12 := Lib.hid C12
      have HW12 := Lib.hid hw12
      clear hrd11 B11 B112 B12 hw12 hbx hxl hR12 hbo12 hN12 hck C12
      unfold Raw.val Raw.cells Nums.cells
      dsimp only [Option.isSome_some, Option.getD_some]
      go_wp2_with fail
      rw [← HW12.out]
      go_region_held3 (fun w' => Below w12.heap.size w12 w') (first | assumption | exact (Below.refl _ _).drew | exact Below.drew (by assumption)) (first
        | (go_at_call 17; refine (texts_same (HKL.out rp) S16 S17).mono ?_; rintro e w18 ⟨rfl, B18⟩; have ct18 := ct17.trans (B18.mono ct17.size); clear B18)
        | (go_at_call 26; refine (KD.out rp _ (HC12.out.trans (ct16.mono HC12.out.size))).mono ?_; rintro e w17 ⟨a17, c17, rfl, S17, _, B17⟩; have ct17 := ct16.trans (B17.mono ct16.size); have S16 := StrSl.belowW S16' B17; clear B17)
        | (go_at_call 19; refine (KK.out rp _ (HC12.out.trans (ct15.mono HC12.out.size))).mono ?_; rintro e w16 ⟨a16, c16, rfl, S16', _, B16⟩; have ct16 := ct15.trans (B16.mono ct15.size); clear B16)
        | (go_at_call 28; refine (KN.out _ (by first | assumption | exact (Below.refl _ _).drew | exact Below.drew (by assumption))).mono ?_; rintro e w15 ⟨rfl, ct15⟩))
      have HS18 := Lib.hid (HC12.out.trans (ct18.mono HC12.out.size))
      clear ct18 ct17 ct16 ct15 S16 S17 S16' f0 f1 f2 f30 f40 f31 f41 f32 f42 f33 f43 f34 f44 f35 f45 f36 f46 f37 f47 f38 f48
      go_wp2
      go_roundw
      case rel => exact ⟨i + 1, by omega, by go_num, HS18⟩
      case measure => simp [intOf]; omega
    · obtain rfl : i = N := by omega
      go_wp2
      go_ret
      exact ⟨rfl, HB1.out.trans (HS.out.mono HB1.out.size)⟩
end
end Go.Proofs.YtkhoeiapfoaapaaGreatDoor
