/-
  The document's Touch, walked; and both Touches' posts in one form.
-/
import Derived.Test.YtfbimhbdifmeoaaDoorWtD
namespace Go.Proofs.YtfbimhbdifmeoaaDoor
set_option linter.unusedVariables false
set_option linter.unusedSimpArgs false
open Go Go.RowKit Go.Shelf

/-- What a Touch leaves: the row that it answers, the table's new list. -/
def TouchEnd (t e : TypeId) (B b : Nat) (w : World) (out left : List Ev) (en : Ending) (w' : World) : Prop :=
  ∃ a c row', en = .returned (.slice a out.length c) ∧ w'.ownsRow w.heap.size e 4 (.slice a out.length c) out.length (flat out) ∧ TabAt t e B w' b row' left ∧ (∀ g, row' = some g → w.heap.size ≤ g) ∧
    (∀ g, (Value.slice a out.length c).ownBlock = some g → row' ≠ some g) ∧ Kept (· = b) w w'
theorem touch_end (B b : Nat) (row : Option Nat) (L : List Ev) (ao : Option Addr) (c : Nat) (P : List Bytes) (w : World) (hm : MaxInt w) (hbig : P.length ≤ 4000) (hp : ∀ p ∈ P, p.length ≤ 1000)
    (hE : EffsAt w w.heap.size ao P) (hT : TabAt 58 44 B w b row L) (hB : B ≤ w.heap.size) (hL : L.length ≤ 16) :
    Calls Tryd.prog 12 #[.pointer (some ⟨b, 0, none⟩), .slice ao P.length c] w (TouchEnd 58 44 B b w (outL P L) (leftL P L)) := by
  obtain ⟨hBb, v, hv, hrow, hvr⟩ := hT
  refine (touch_any b B v L ao c P w hm hbig hp hE hv hrow hL).mono fun en w' ⟨a, c1, a2, c2, he, ho, hbx, ho2, hne, hk⟩ => ?_
  refine ⟨a, c1, _, he, ho, ⟨hBb, _, hbx, ho2.mono hB, rfl⟩, fun g hg => (ho2.lt g hg).1, hne, Kept.of_keepT hk⟩

/-! plain -/
def hitR (P : List Bytes) (e : Ev) : Bool := P.any (refTouchB e)
theorem hitR_eq {P : List Bytes} {e : Ev} (h : (partsL e.path).isSome = true) : hitR P e = hitB P e := by
  unfold hitR hitB
  rw [show refTouchB e = touchB e from funext fun p => refTouch_eq e p h]
theorem filterR {P : List Bytes} {L : List Ev} (h : ∀ e ∈ L, (partsL e.path).isSome = true) : L.filter (hitR P) = outL P L ∧ L.filter (fun e => !hitR P e) = leftL P L := by
  unfold outL leftL
  constructor
  · exact List.filter_congr fun e he => hitR_eq (h e he)
  · exact List.filter_congr fun e he => by rw [hitR_eq (h e he)]
theorem any_take_succ {α : Type} (f : α → Bool) {L : List α} {k : Nat} {x : α} (h : L[k]? = some x) : (L.take (k + 1)).any f = ((L.take k).any f || f x) := by
  rw [List.take_add_one, h]
  simp
/-- An append to one row, another row standing. -/
theorem row_grown {w w' : World} {base base2 : Nat} {e : TypeId} {size n : Nat} {v : Value} {xs : List Value} {o : Option Nat} (h : w.ownsRow base e size v n xs) (hg : w.grownBy w' o) (hn : ∀ g, v.ownBlock = some g → o ≠ some g) (hb : base2 ≤ base) : w'.ownsRow base2 e size v n xs :=
  row_kept h hb (fun g cs fr hv _ ho => hg.block g (Array.getElem?_eq_some_iff.1 ho).1 (fun e1 => hn g hv e1.symm))

set_option maxRecDepth 100000 in
set_option maxHeartbeats 16000000 in
theorem refTouch_any (B b : Nat) (row : Option Nat) (L : List Ev) (ao : Option Addr) (c : Nat) (P : List Bytes) (w : World) (hbig : P.length ≤ 4000) (hp : ∀ p ∈ P, p.length ≤ 1000)
    (hE : EffsAt w w.heap.size ao P) (hT : TabAt 29 34 B w b row L) (hB : B ≤ w.heap.size) (hL : L.length ≤ 16) :
    Calls Tryd.prog 13 #[.pointer (some ⟨b, 0, none⟩), .slice ao P.length c] w (TouchEnd 29 34 B b w (L.filter (hitR P)) (L.filter fun e => !hitR P e)) := by
  obtain ⟨i0, hi, hz0, hz1, hz2⟩ := info_parts infoWt
  have hlt := hT.lt
  obtain ⟨hBb, v, hv, hrow, hvr⟩ := hT
  obtain ⟨ro, rc, rfl, _, hEv⟩ := evs_any hrow
  have HEV := Lib.hid hEv
  have HEF := Lib.hid hE
  have HP := Lib.hid hp
  obtain ⟨N, hN⟩ : ∃ N, N = L.length := ⟨_, rfl⟩
  have HN := Lib.hid hN
  obtain ⟨M, hM⟩ : ∃ M, M = P.length := ⟨_, rfl⟩
  have HMP := Lib.hid hM
  rw [← hN] at hL hrow hv hvr
  rw [← hM] at hbig ⊢
  have HV := Lib.hid hv
  have HBB := Lib.hid hBb
  have tcell : ∀ (W : World), Below w.heap.size w W → W.cell? ⟨b, 0, none⟩ = some (.slice ro N rc) := fun W hW => (hW.cell (p := ⟨b, 0, none⟩) hlt).trans HV.out.cell
  have HTC := Lib.hid tcell
  clear hv hrow hvr hBb hN hM hp hEv tcell hE
  go_enter Tryd.func13, Tryd.ntmps13
  go_wp2
  go_loopw [5, 6, 7] (fun o l i wr => ∃ k : Nat, k ≤ N ∧ i = .int .i64 k ∧ Hid (Below w.heap.size w wr) ∧ Hid (wr.ownsRow w.heap.size 34 4 o ((L.take k).filter (hitR P)).length (flat ((L.take k).filter (hitR P)))) ∧
      Hid (wr.ownsRow w.heap.size 34 4 l ((L.take k).filter fun e => !hitR P e).length (flat ((L.take k).filter fun e => !hitR P e))) ∧ Hid (∀ g, o.ownBlock = some g → l.ownBlock ≠ some g)) (fun _ _ i _ => N - (intOf i).toNat)
  case atStart => exact ⟨0, by omega, rfl, Lib.hid (Below.refl _ _), Lib.hid (World.ownsRow_nil _ _ _ _), Lib.hid (World.ownsRow_nil _ _ _ _), Lib.hid (fun g h => by simp [Value.ownBlock] at h)⟩
  case round =>
    obtain ⟨k, hk, rfl, HB, HO, HLF, HD⟩ := hrel
    have t0 := HTC.out wr HB.out
    by_cases hlt2 : k < N
    · obtain ⟨y, hy⟩ : ∃ y, L[k]? = some y := ⟨_, List.getElem?_eq_getElem (by rw [← HN.out]; exact hlt2)⟩
      obtain ⟨bb, off, rfl, hbb, hrg0⟩ := HEV.out.below (Below.refl _ _) k y hy
      have HRG := Lib.hid hrg0
      have HBBL := Lib.hid hbb
      have HY := Lib.hid hy
      have hl1 : ((L.take k).filter (hitR P)).length ≤ k := Nat.le_trans (List.length_filter_le _ _) (by simp; omega)
      have hl2 : ((L.take k).filter fun e => !hitR P e).length ≤ k := Nat.le_trans (List.length_filter_le _ _) (by simp; omega)
      clear hrg0 hy
      have hyv : y.val = .agg #[.int .i64 y.site, .int .u32 y.num, .string (bs y.path), .bool y.kids] := rfl
      have HYV := Lib.hid hyv
      clear hyv
      go_wp2
      obtain ⟨wo, rfl⟩ : ∃ wo : World, wo = wr := ⟨_, rfl⟩
      go_loopw [8, 9] (fun s i wr => ∃ j : Nat, j ≤ M ∧ i = .int .i64 j ∧ s = .bool ((P.take j).any (refTouchB y)) ∧ Hid (Below wo.heap.size wo wr)) (fun _ i _ => M - (intOf i).toNat)
      case atStart => exact ⟨0, by omega, rfl, by simp, Lib.hid (Below.refl _ _)⟩
      case round =>
        obtain ⟨j, hj, rfl, rfl, HB2⟩ := hrel
        have HW := Lib.hid (HB.out.trans (HB2.out.mono HB.out.size))
        by_cases hlt3 : j < M
        · obtain ⟨p, hpj⟩ : ∃ p, P[j]? = some p := ⟨_, List.getElem?_eq_getElem (by rw [← HMP.out]; exact hlt3)⟩
          have HAT := Lib.hid (any_take_succ (refTouchB y) hpj)
          obtain ⟨bp, offp, rest, rfl, hbp, hrl, hrgp⟩ := HEF.out j p hpj
          match rest, hrl with
          | [x1, x2, x3, x4, x5, x6, x7, x8, x9, x10], _ =>
          have ct := fun (W : World) => refTouches_any y p [x1, x2, x3, x4, x5, x6, x7, x8, x9, x10] (HP.out p (List.mem_of_getElem? hpj)) W rfl
          rw [HYV.out] at ct
          have CT := Lib.hid ct
          have HRGP := Lib.hid hrgp
          clear hpj hrgp ct
          generalize hs : (P.take j).any (refTouchB y) = s at *
          clear hs
          generalize hr2 : refTouchB y p = r at *
          clear hr2
          cases s with
          | true =>
            go_wp2_with fail
            refine wp_region_ext (by kernel_rfl) (by kernel_rfl) ?_
            repeat (go_big_quiet_step (fail))
            refine wpQuiet_nil ?_
            intro w' hw'
            obtain ⟨oq, hw''⟩ := hw'
            subst hw''
            go_wp2
            go_roundw
            case rel => exact ⟨j + 1, by omega, by go_num, by rw [HAT.out]; rfl, Lib.hid (HB2.out.trans ((Wext.below wr oq).mono HB2.out.size))⟩
            case measure => simp [intOf]; omega
          | false =>
            have hall : ∀ o, Below w.heap.size w (Wext wr o) := fun o => HW.out.trans ((Wext.below wr o).mono HW.out.size)
            have a0 : ∀ o, (Wext wr o).cell? ⟨b, 0, none⟩ = some (.slice (some ⟨bb, off, none⟩) N rc) := fun o => HTC.out _ (hall o)
            have a1 : ∀ o, (Wext wr o).cell? ⟨bb, off + k * 4, none⟩ = some (.int .i64 y.site) := fun o => range_kept HRG.out (hall o) HBBL.out 0 _ rfl
            have a2 : ∀ o, (Wext wr o).cell? ⟨bb, off + k * 4 + 1, none⟩ = some (.int .u32 y.num) := fun o => range_kept HRG.out (hall o) HBBL.out 1 _ rfl
            have a3 : ∀ o, (Wext wr o).cell? ⟨bb, off + k * 4 + 2, none⟩ = some (.string (bs y.path)) := fun o => range_kept HRG.out (hall o) HBBL.out 2 _ rfl
            have a4 : ∀ o, (Wext wr o).cell? ⟨bb, off + k * 4 + 3, none⟩ = some (.bool y.kids) := fun o => range_kept HRG.out (hall o) HBBL.out 3 _ rfl
            have b0 : ∀ o, (Wext wr o).cell? ⟨bp, offp + j * 11, none⟩ = some (.string (bs p)) := fun o => range_kept HRGP.out (hall o) hbp 0 _ rfl
            have b1 : ∀ o, (Wext wr o).cell? ⟨bp, offp + j * 11 + 1, none⟩ = some x1 := fun o => range_kept HRGP.out (hall o) hbp 1 _ rfl
            have b2 : ∀ o, (Wext wr o).cell? ⟨bp, offp + j * 11 + 2, none⟩ = some x2 := fun o => range_kept HRGP.out (hall o) hbp 2 _ rfl
            have b3 : ∀ o, (Wext wr o).cell? ⟨bp, offp + j * 11 + 3, none⟩ = some x3 := fun o => range_kept HRGP.out (hall o) hbp 3 _ rfl
            have b4 : ∀ o, (Wext wr o).cell? ⟨bp, offp + j * 11 + 4, none⟩ = some x4 := fun o => range_kept HRGP.out (hall o) hbp 4 _ rfl
            have b5 : ∀ o, (Wext wr o).cell? ⟨bp, offp + j * 11 + 5, none⟩ = some x5 := fun o => range_kept HRGP.out (hall o) hbp 5 _ rfl
            have b6 : ∀ o, (Wext wr o).cell? ⟨bp, offp + j * 11 + 6, none⟩ = some x6 := fun o => range_kept HRGP.out (hall o) hbp 6 _ rfl
            have b7 : ∀ o, (Wext wr o).cell? ⟨bp, offp + j * 11 + 7, none⟩ = some x7 := fun o => range_kept HRGP.out (hall o) hbp 7 _ rfl
            have b8 : ∀ o, (Wext wr o).cell? ⟨bp, offp + j * 11 + 8, none⟩ = some x8 := fun o => range_kept HRGP.out (hall o) hbp 8 _ rfl
            have b9 : ∀ o, (Wext wr o).cell? ⟨bp, offp + j * 11 + 9, none⟩ = some x9 := fun o => range_kept HRGP.out (hall o) hbp 9 _ rfl
            have b10 : ∀ o, (Wext wr o).cell? ⟨bp, offp + j * 11 + 10, none⟩ = some x10 := fun o => range_kept HRGP.out (hall o) hbp 10 _ rfl
            have KT : Hid (∀ o, Calls Tryd.prog 25 #[.agg #[.int .i64 y.site, .int .u32 y.num, .string (bs y.path), .bool y.kids], .agg [Value.string (bs p), x1, x2, x3, x4, x5, x6, x7, x8, x9, x10].toArray] (Wext wr o) fun e w' => e = .returned (.bool r) ∧ ∃ o', w' = Wext wr o') :=
              Lib.hid (fun o => (CT.out (Wext wr o)).mono fun e w' ⟨he, hb9⟩ => ⟨he, below_ext ((Wext.below wr o).trans (hb9.mono (Wext.below wr o).size))⟩)
            clear hall t0
            go_wp2_with fail
            refine wp_region_ext (by kernel_rfl) (by kernel_rfl) ?_
            repeat (go_big_quiet_step (first | (go_at_call 25; exact KT.out _)))
            refine wpQuiet_nil ?_
            intro w' hw'
            obtain ⟨oq, hw''⟩ := hw'
            subst hw''
            clear a0 a1 a2 a3 a4 b0 b1 b2 b3 b4 b5 b6 b7 b8 b9 b10
            go_wp2
            go_roundw
            case rel => exact ⟨j + 1, by omega, by go_num, by rw [HAT.out]; rfl, Lib.hid (HB2.out.trans ((Wext.below wr oq).mono HB2.out.size))⟩
            case measure => simp [intOf]; omega
        · obtain rfl : j = M := by omega
          have hany : (P.take j).any (refTouchB y) = hitR P y := by rw [HMP.out, List.take_length]; rfl
          rw [hany]
          obtain ⟨t0', r1, r2, r3, r4⟩ : wr.cell? ⟨b, 0, none⟩ = some (.slice (some ⟨bb, off, none⟩) N rc) ∧ wr.cell? ⟨bb, off + k * 4, none⟩ = some (.int .i64 y.site) ∧ wr.cell? ⟨bb, off + k * 4 + 1, none⟩ = some (.int .u32 y.num) ∧ wr.cell? ⟨bb, off + k * 4 + 2, none⟩ = some (.string (bs y.path)) ∧ wr.cell? ⟨bb, off + k * 4 + 3, none⟩ = some (.bool y.kids) :=
            ⟨HTC.out wr HW.out, range_kept HRG.out HW.out HBBL.out 0 _ rfl, range_kept HRG.out HW.out HBBL.out 1 _ rfl, range_kept HRG.out HW.out HBBL.out 2 _ rfl, range_kept HRG.out HW.out HBBL.out 3 _ rfl⟩
          have HO2 := Lib.hid (row_kept HO.out (Nat.le_refl _) (fun g cs fr hg _ ho => HB2.out.block g (Array.getElem?_eq_some_iff.1 ho).1))
          have HL2 := Lib.hid (row_kept HLF.out (Nat.le_refl _) (fun g cs fr hg _ ho => HB2.out.block g (Array.getElem?_eq_some_iff.1 ho).1))
          clear t0
          cases hh : hitR P y with
          | true =>
            have HF1 := Lib.hid (filter_hit (hitR P) HY.out hh)
            have HF2 := Lib.hid (filter_miss (fun e => !hitR P e) HY.out (by simp [hh]))
            clear hh
            go_wp2_with (at_builtin; refine wpList_append_new rfl (.tmp 41) (.tmp 49) 27 rfl w.heap.size 34 i0 evZero 4 40 Tryd.underlying27 hi hz0 hz1 hz2 rfl (by decide) _ _ _ rfl (HO2.out.alloc _) ⟨wr.heap.size, 0, none⟩ 1 1 y.cells rfl rfl (cells_new _ y.cells 34) (by intro u hu; simp [Ev.cells] at hu; rcases hu with rfl | rfl | rfl | rfl <;> rfl) (by unfold maxLen; omega) (by omega) (by have := HW.out.size; simp; omega) ?_; intro v3 w3 hown hgrow hwhere)
            have hB3 : Below w.heap.size w w3 := (belowA HW.out _).grown hgrow (by have := HW.out.size; simp; omega) (fun g hg => (HO2.out.lt g hg).1)
            have hOth := row_grown (HL2.out.alloc (.cells #[.int .i64 y.site, .int .u32 y.num, .string (bs y.path), .bool y.kids] 34)) hgrow (fun g hg h => HD.out g h hg) (Nat.le_refl _)
            have hd3 : ∀ g, v3.ownBlock = some g → u6.ownBlock ≠ some g := fun g hg h => by
              rcases hwhere g hg with h1 | h1
              · exact HD.out g h1 h
              · have := (HL2.out.lt g h).2
                simp at h1
                omega
            have HX := Lib.hid (And.intro hB3 (And.intro hown (And.intro hOth hd3)))
            clear hB3 hown hOth hd3 hgrow hwhere t0' r1 r2 r3 r4
            go_wp2
            go_roundw
            case rel =>
              obtain ⟨z1, z2, z3, z4⟩ := HX.out
              refine ⟨k + 1, by omega, by go_num, Lib.hid z1, Lib.hid ?_, Lib.hid ?_, Lib.hid z4⟩
              · rw [HF1.out, List.length_append, flat_snoc]
                exact z2
              · rw [HF2.out]
                exact z3
            case measure => simp [intOf]; omega
          | false =>
            have HF1 := Lib.hid (filter_miss (hitR P) HY.out hh)
            have HF2 := Lib.hid (filter_hit (fun e => !hitR P e) HY.out (by simp [hh]))
            clear hh
            go_wp2_with (at_builtin; refine wpList_append_new rfl (.tmp 51) (.tmp 59) 27 rfl w.heap.size 34 i0 evZero 4 40 Tryd.underlying27 hi hz0 hz1 hz2 rfl (by decide) _ _ _ rfl (HL2.out.alloc _) ⟨wr.heap.size, 0, none⟩ 1 1 y.cells rfl rfl (cells_new _ y.cells 34) (by intro u hu; simp [Ev.cells] at hu; rcases hu with rfl | rfl | rfl | rfl <;> rfl) (by unfold maxLen; omega) (by omega) (by have := HW.out.size; simp; omega) ?_; intro v3 w3 hown hgrow hwhere)
            have hB3 : Below w.heap.size w w3 := (belowA HW.out _).grown hgrow (by have := HW.out.size; simp; omega) (fun g hg => (HL2.out.lt g hg).1)
            have hOth := row_grown (HO2.out.alloc (.cells #[.int .i64 y.site, .int .u32 y.num, .string (bs y.path), .bool y.kids] 34)) hgrow (fun g hg => HD.out g hg) (Nat.le_refl _)
            have hd3 : ∀ g, u5.ownBlock = some g → v3.ownBlock ≠ some g := fun g hg h => by
              rcases hwhere g h with h1 | h1
              · exact HD.out g hg h1
              · have := (HO2.out.lt g hg).2
                simp at h1
                omega
            have HX := Lib.hid (And.intro hB3 (And.intro hown (And.intro hOth hd3)))
            clear hB3 hown hOth hd3 hgrow hwhere t0' r1 r2 r3 r4
            go_wp2
            go_roundw
            case rel =>
              obtain ⟨z1, z2, z3, z4⟩ := HX.out
              refine ⟨k + 1, by omega, by go_num, Lib.hid z1, Lib.hid ?_, Lib.hid ?_, Lib.hid z4⟩
              · rw [HF1.out]
                exact z3
              · rw [HF2.out, List.length_append, flat_snoc]
                exact z2
            case measure => simp [intOf]; omega
    · obtain rfl : k = N := by omega
      have hltr : b < wr.heap.size := Nat.lt_of_lt_of_le hlt HB.out.size
      have hvr : Boxed wr b 29 (.slice ro k rc) := (HB.out.block b hlt).trans HV.out
      have hfz := hvr.frozen
      have HVR := Lib.hid hvr
      have hO := HO.out
      have hL2 := HLF.out
      have htk : L.take k = L := by rw [HN.out, List.take_length]
      rw [htk] at hO hL2
      obtain ⟨a1, c1, rfl⟩ := row_form hO
      obtain ⟨a2, c2, rfl⟩ := row_form hL2
      have HOO := Lib.hid hO
      have HLL := Lib.hid hL2
      have HTK := Lib.hid htk
      clear hO hL2 hvr htk
      go_wp2
      go_ret
      have hset : ∀ g, g ≠ b → (wr.setCell ⟨b, 0, none⟩ (.slice a2 (L.filter fun e => !hitR P e).length c2)).heap[g]? = wr.heap[g]? := fun g hg => Below.heap_setCell _ _ _ g hg
      refine ⟨a1, c1, _, rfl, ?_, ⟨HBB.out, _, HVR.out.set _, ?_, rfl⟩, fun g hg => (HLL.out.lt g hg).1, ?_, ?_⟩
      · exact row_kept HOO.out (Nat.le_refl _) (fun g cs fr hg hbg ho => hset g (by omega))
      · exact row_kept HLL.out hB (fun g cs fr hg hbg ho => hset g (by omega))
      · exact HD.out
      · exact Kept.setCell (S := (· = b)) (Kept.of_below HB.out _) (p := ⟨b, 0, none⟩) rfl _
end Go.Proofs.YtfbimhbdifmeoaaDoor
