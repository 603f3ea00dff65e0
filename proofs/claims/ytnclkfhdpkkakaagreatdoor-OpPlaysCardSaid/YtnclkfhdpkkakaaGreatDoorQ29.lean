/-
  The reference's Check, walked.
-/
import Derived.Test.YtnclkfhdpkkakaaGreatDoorQ28
namespace Go.Proofs.YtnclkfhdpkkakaaGreatDoor
set_option linter.unusedVariables false
set_option linter.unusedSimpArgs false
set_option linter.unusedVariables false
set_option linter.unusedSimpArgs false
open Go Go.RowKit Go.Shelf Go.MapKept Go.ChangeMaps Go.Maps Go.Sort
def PartsIn (w : World) (pa : Option Addr) (P : List PartI) : Prop := ∀ (k : Nat) i, P[k]? = some i → ∃ (b off : Nat) (r : RawO), pa = some ⟨b, off, none⟩ ∧ b < w.heap.size ∧ w.rangeAt b (off + k * 7) r.cells ∧ i = ⟨r.kind, r.dn, r.pn⟩
theorem OpAtN.parts {w : World} : ∀ {n : Nat} {pa : Option Addr} {P : List PartI}, OpAtN w n pa P → PartsIn w pa P
 | 0, _, P, h => by
  have h : P = [] := h
  subst h
  exact fun k i hk => by simp at hk
 | n + 1, pa, P, h => fun k i hk => by
  obtain ⟨b, off, r, Q, h1, h2, h3, h4, _⟩ := h k i hk
  exact ⟨b, off, r, h1, h2, h3, h4⟩
set_option maxRecDepth 100000 in
set_option maxHeartbeats 8000000 in
theorem q5check_any (w : World) (r : RawO) (P : List PartI) (hn : r.pn = P.length) (H : PartsIn w r.pa P) (hdn : r.dn ≤ maxLen) :
  Calls Tryz.prog 32 #[r.val] w (CheckIs w (checkE r.kind r.dn P)) := by
 obtain ⟨kind, path, da, dn, dc, ver, seq, eph, pa, pn, pc⟩ := r
 unfold RawO.val RawO.cells
 dsimp only at hn H hdn ⊢
 unfold maxLen at hdn
 obtain ⟨w1, hw1⟩ : ∃ w1, w1 = w.alloc (.cells #[.int .u8 kind, .string (bs path), .slice da dn dc, .int .i64 ver, .bool seq, .bool eph, .slice pa pn pc] 26) := ⟨_, rfl⟩
 have hb1 : Below w.heap.size w w1 := by rw [hw1]; exact belowA (Below.refl _ w) _
 have hs1 : w.heap.size < w1.heap.size := by rw [hw1]; simp
 have hbox : w1.rangeAt w.heap.size 0 [.int .u8 kind, .string (bs path), .slice da dn dc, .int .i64 ver, .bool seq, .bool eph, .slice pa pn pc] := fun j u hu => by
  rw [hw1, Nat.zero_add, cell_of_row _ _ j _ 26 (0, 0) (heap_alloc_new w _)]
  simpa using hu
 have HB1 := Lib.hid (And.intro hb1 hbox)
 have HH := Lib.hid H
 have HNP := Lib.hid hn
 clear H hb1 hbox
 obtain ⟨lg, hlg⟩ : ∃ lg, lg = decide (64 < dn) := ⟨_, rfl⟩
 have tl : decide ((64 : Int) < (dn : Int)) = lg := by rw [hlg]; simp; omega
 by_cases h1 : kind < 1
 ·have hE : checkE kind dn P = 1 := checkE_early (.inl h1)
  rw [hE]
  have t1 : decide (kind < 1) = true := by simpa using h1
  clear hE h1 hn hlg
  go_enter Tryz.func32, Tryz.ntmps32
  go_wp2
  go_ret
  rw [← hw1]
  exact ⟨rfl, HB1.out.1⟩
 have t1 : decide (kind < 1) = false := by simpa using h1
 by_cases h2 : 7 < kind
 ·have hE : checkE kind dn P = 1 := checkE_early (.inr (.inl h2))
  rw [hE]
  have t2 : decide ((7 : Int) < kind) = true := by simpa using h2
  clear hE h2 h1 hn hlg
  go_enter Tryz.func32, Tryz.ntmps32
  go_wp2
  go_ret
  rw [← hw1]
  exact ⟨rfl, HB1.out.1⟩
 have t2 : decide ((7 : Int) < kind) = false := by simpa using h2
 by_cases h3 : 6 < pn
 ·have hE : checkE kind dn P = 1 := checkE_early (.inr (.inr (.inl (by rw [← hn]; exact h3))))
  rw [hE]
  have t3 : decide ((6 : Int) < (pn : Int)) = true := by simp; omega
  clear hE h2 h1 h3 hn hlg
  go_enter Tryz.func32, Tryz.ntmps32
  go_wp2
  go_ret
  rw [← hw1]
  exact ⟨rfl, HB1.out.1⟩
 have t3 : decide ((6 : Int) < (pn : Int)) = false := by simp; omega
 obtain ⟨b7, hb7⟩ : ∃ b7, b7 = decide (kind = 7) := ⟨_, rfl⟩
 obtain ⟨b0, hb0⟩ : ∃ b0, b0 = decide (0 < pn) := ⟨_, rfl⟩
 have t4 : (kind == 7) = b7 := by rw [hb7]; by_cases h : kind = 7 <;> simp [h]
 have t5 : decide (0 < pn) = b0 := hb0.symm
 by_cases h4 : b7 = b0
 ·have hne : ¬ (kind < 1 ∨ 7 < kind ∨ 6 < P.length ∨ (decide (kind = 7) ≠ decide (0 < P.length))) := by
   rw [← hn]
   rintro (h | h | h | h)
   ·exact h1 h
   ·exact h2 h
   ·exact h3 h
   ·exact h (by rw [← hb7, ← hb0]; exact h4)
  have HNE := Lib.hid hne
  have hlgP : lg = decide (64 < dn) := hlg
  have HLG := Lib.hid hlgP
  clear hne hn hlg hlgP hb7 hb0
  subst h4
  have hpn : pn ≤ 6 := by omega
  clear h1 h2 h3
  go_enter Tryz.func32, Tryz.ntmps32
  go_wp2
  rw [← hw1]
  clear hw1
  go_loopw [3, 4] (fun lv ci wr => ∃ k : Nat, k ≤ pn ∧ ci = .int .i64 k ∧ lv = .bool (lg || (P.take k).any PartI.long) ∧ Hid (ChkSt w1 P k wr)) (fun _ ci _ => pn - (intOf ci).toNat)
  case atStart => exact ⟨0, by omega, rfl, by simp, Lib.hid ⟨Below.refl _ _, by simp⟩⟩
  case round =>
   obtain ⟨k, hk, rfl, rfl, HS⟩ := hrel
   by_cases hlt : k < pn
   ·obtain ⟨i, hi⟩ : ∃ i, P[k]? = some i := ⟨_, List.getElem?_eq_getElem (by rw [← HNP.out]; exact hlt)⟩
    obtain ⟨b, off, ⟨k', p', da', dn', dc', v', sq', ep', pa', pn', pc'⟩, hpa, hbl, hrg, hie⟩ := HH.out k i hi
    dsimp only at hie
    subst hpa
    have hbig : Below w.heap.size w wr := HB1.out.1.trans (HS.out.1.mono (Nat.le_of_lt hs1))
    have hc0 : wr.cell? ⟨w.heap.size, 6, none⟩ = some (.slice (some ⟨b, off, none⟩) pn pc) := (HS.out.1.cell (p := ⟨w.heap.size, 6, none⟩) hs1).trans (HB1.out.2 6 _ rfl)
    have hr2 := range_kept hrg hbig hbl
    have HRG : Hid (wr.rangeAt b (off + k * 7) [.int .u8 k', .string (bs p'), .slice da' dn' dc', .int .i64 v', .bool sq', .bool ep', .slice pa' pn' pc']) := Lib.hid hr2
    obtain ⟨w2, hw2⟩ : ∃ w2, w2 = wr.alloc (.cells #[.int .u8 k', .string (bs p'), .slice da' dn' dc', .int .i64 v', .bool sq', .bool ep', .slice pa' pn' pc'] 26) := ⟨_, rfl⟩
    have hb2 : Below wr.heap.size wr w2 := by rw [hw2]; exact belowA (Below.refl _ wr) _
    have hx2 : w2.heap[wr.heap.size]? = some (.cells #[.int .u8 k', .string (bs p'), .slice da' dn' dc', .int .i64 v', .bool sq', .bool ep', .slice pa' pn' pc'] 26 (0, 0)) := by rw [hw2]; exact heap_alloc_new wr _
    have y0 : w2.cell? ⟨wr.heap.size, 0, none⟩ = some (.int .u8 k') := cell_of_row _ _ 0 _ 26 (0, 0) hx2
    have y2 : w2.cell? ⟨wr.heap.size, 2, none⟩ = some (.slice da' dn' dc') := cell_of_row _ _ 2 _ 26 (0, 0) hx2
    have y6 : w2.cell? ⟨wr.heap.size, 6, none⟩ = some (.slice pa' pn' pc') := cell_of_row _ _ 6 _ 26 (0, 0) hx2
    have hb3 : Below w1.heap.size w1 w2 := HS.out.1.trans (hb2.mono HS.out.1.size)
    have HSZO : Hid ((Tryz.prog.info? 26).map (·.size) = some 7) := Lib.hid (by kernel_rfl)
    have HB3 := Lib.hid hb3
    have HX2 := Lib.hid hw2
    have hsucc : ∀ f : PartI → Bool, (P.take (k + 1)).any f = ((P.take k).any f || f i) := fun f => any_succ hi
    have HSU := Lib.hid hsucc
    have hbadE : PartI.bad i = true → checkE kind dn P = 1 := fun h => checkE_bad (List.any_eq_true.2 ⟨i, List.mem_of_getElem? hi, h⟩)
    have hbd : PartI.bad i = (decide (k' < 1) || decide (7 ≤ k') || decide (0 < pn')) := by rw [hie]; rfl
    have hlo : PartI.long i = decide (64 < dn') := by rw [hie]; rfl
    have HBE := Lib.hid hbadE
    have hw64 : IntKind.i64.wrap ((k : Int) + 1) = ((k + 1 : Nat) : Int) := by rw [IntWalk.i64_in _ (by omega)]; omega
    obtain ⟨kl, hkl⟩ : ∃ kl, kl = decide (k' < 1) := ⟨_, rfl⟩
    obtain ⟨kh, hkh⟩ : ∃ kh, kh = decide (7 ≤ k') := ⟨_, rfl⟩
    obtain ⟨kp, hkp⟩ : ∃ kp, kp = decide (0 < pn') := ⟨_, rfl⟩
    obtain ⟨kd, hkd⟩ : ∃ kd, kd = decide (64 < dn') := ⟨_, rfl⟩
    rw [← hkl, ← hkh, ← hkp] at hbd
    rw [← hkd] at hlo
    have t0' : decide (k' < 1) = kl := hkl.symm
    have t1' : decide (6 < k') = kh := by rw [hkh]; simp; omega
    have t2' : decide ((0 : Int) < (pn' : Int)) = kp := by rw [hkp]; simp
    have t3' : decide ((64 : Int) < (dn' : Int)) = kd := by rw [hkd]; simp; omega
    have t2'' : decide (0 < pn') = kp := hkp.symm
    have t3'' : decide (64 < dn') = kd := hkd.symm
    have HI := Lib.hid (And.intro hbd hlo)
    clear hi hie hbig hr2 hrg hb2 hx2 hw2 hb3 hsucc hbadE hbd hlo hkl hkh hkp hkd
    obtain ⟨lk, hlk⟩ : ∃ lk, lk = (lg || (P.take k).any PartI.long) := ⟨_, rfl⟩
    rw [← hlk]
    have HLK := Lib.hid hlk
    clear hlk
    go_upto_region 8 with (refine wpList_load_mid rfl 26 (.tmp 44) rfl b (off + k * 7) rfl [.int .u8 k', .string (bs p'), .slice da' dn' dc', .int .i64 v', .bool sq', .bool ep', .slice pa' pn' pc'] _ HRG.out Tryz.underlying26 rfl HSZO.out ?_)
    rw [← HX2.out]
    cases kl
    case true =>
     go_wp2
     go_ret
     exact ⟨by rw [HBE.out (by rw [HI.out.1]; rfl)]; rfl, HB1.out.1.trans (HB3.out.mono (Nat.le_of_lt hs1))⟩
    case false =>
     cases kh
     case true =>
      go_wp2
      go_ret
      exact ⟨by rw [HBE.out (by rw [HI.out.1]; rfl)]; rfl, HB1.out.1.trans (HB3.out.mono (Nat.le_of_lt hs1))⟩
     case false =>
      cases kp
      case true =>
       go_wp2
       go_ret
       exact ⟨by rw [HBE.out (by rw [HI.out.1]; rfl)]; rfl, HB1.out.1.trans (HB3.out.mono (Nat.le_of_lt hs1))⟩
      case false =>
       cases lk
       all_goals
        go_wp2
        go_roundw
        case rel => exact ⟨k + 1, by omega, by go_num, by rw [HSU.out, HI.out.2, ← Bool.or_assoc, ← HLK.out]; rfl, Lib.hid ⟨HB3.out, by rw [HSU.out, HI.out.1, HS.out.2]; rfl⟩⟩
        case measure => simp [intOf]; omega
   ·obtain rfl : pn = k := by omega
    obtain ⟨hbe, hnb⟩ := HS.out
    rw [List.take_of_length_le (by rw [← HNP.out]; exact Nat.le_refl _)] at hnb
    obtain ⟨al, hal⟩ : ∃ al, al = (lg || (P.take pn).any PartI.long) := ⟨_, rfl⟩
    rw [← hal]
    have hE : checkE kind dn P = if al = true then 3 else 0 := by
     rw [List.take_of_length_le (by rw [← HNP.out]; exact Nat.le_refl _)] at hal
     unfold checkE
     rw [if_neg HNE.out, if_neg (by rw [hnb]; simp), hal, HLG.out]
     simp
    have HE := Lib.hid hE
    have HBE := Lib.hid hbe
    clear hE hal hnb hbe hlt hk
    have hc0 : wr.cell? ⟨w.heap.size, 6, none⟩ = some (.slice pa pn pc) := (HBE.out.cell (p := ⟨w.heap.size, 6, none⟩) hs1).trans (HB1.out.2 6 _ rfl)
    have tnl : decide ((pn : Int) < (pn : Int)) = false := by simp
    have tnn : decide (pn < pn) = false := by simp
    cases al
    all_goals
     go_wp2
     go_ret
     exact ⟨by rw [HE.out]; rfl, HB1.out.1.trans (HBE.out.mono (Nat.le_of_lt hs1))⟩
 ·have hE : checkE kind dn P = 1 := checkE_early (.inr (.inr (.inr (by rw [← hn, ← hb7, ← hb0]; exact h4))))
  rw [hE]
  have tn : (b7 != b0) = true := by simpa using h4
  have tn2 : (b7 == b0) = false := by simpa using h4
  have hb : b0 = !b7 := by cases b7 <;> cases b0 <;> simp_all
  clear hE h2 h1 h3 h4 hn hb7 hb0 hlg tn tn2
  subst hb
  go_enter Tryz.func32, Tryz.ntmps32
  go_wp2
  go_ret
  rw [← hw1]
  exact ⟨rfl, HB1.out.1⟩
end Go.Proofs.YtnclkfhdpkkakaaGreatDoor
