/-
  The document's tree: Apply, walked.
-/
import Derived.Test.YtkhoeiapfoaapaaGreatDoorRf5
namespace Go.Proofs.YtkhoeiapfoaapaaGreatDoor
set_option linter.unusedVariables false
set_option linter.unusedSimpArgs false
set_option linter.unusedVariables false
set_option linter.unusedSimpArgs false
open Go Go.RowKit Go.Shelf Go.MapKept Go.ChangeMaps Go.Maps Go.Sort

section
variable {w : World} {Z : Nat → Prop} {rb : Nat} {root : Bytes} {cnt : Int} {ao : Option Addr} {c0 : Nat} {R : List RawA} {M L : List (Bytes × Nd)}
/-- Behind effects. -/
def ApEnd (w : World) (Z : Nat → Prop) (rb : Nat) (root : Bytes) (cnt : Int) (M : List (Bytes × Nd)) (E : List Eff) (en : Ending) (w' : World) : Prop :=
  en = .returned (.int .i64 (applyA root M E).1) ∧ (∃ ao' c' R' L', RefAt w' Z rb root (atA root cnt M E) ao' c' R' L' ∧ Rel (nodesA root M E) L') ∧ Kept (· = rb) w w'
/-- The state between two effects. -/
def RfSt (w w1 : World) (Z : Nat → Prop) (rb : Nat) (root : Bytes) (cnt : Int) (M : List (Bytes × Nd)) (E : List Eff) (i : Nat) (wr : World) : Prop :=
  (applyA root M (E.take i)).1 = 0 ∧ (∃ ao' c' R' L', RefAt wr Z rb root cnt ao' c' R' L' ∧ Rel (applyA root M (E.take i)).2 L') ∧ Kept (· = rb) w1 wr
theorem EffsAt.kept {w w' : World} {S : Nat → Prop} {B : Nat} {ao : Option Addr} {L : List RawE} (h : EffsAt w B ao L) (hk : Kept S w w') (hB : B ≤ w.heap.size) (hn : ∀ b, b < B → ¬ S b) : EffsAt w' B ao L := fun k r hr => by
  obtain ⟨b, off, h1, h2, h3⟩ := h k r hr
  exact ⟨b, off, h1, h2, fun j v hv => (hk.cell (p := ⟨b, off + k * 11 + j, none⟩) (Nat.lt_of_lt_of_le h2 hB) (hn b h2)).trans (h3 j v hv)⟩
theorem LikeE.kept {w w' : World} {S lo : Nat → Prop} {L : List RawE} {E : List Eff} (h : LikeE w lo L E) (hk : Kept S w w') (hn : ∀ b, lo b → ¬ S b) : LikeE w' lo L E := ⟨h.1, fun k r e h1 h2 => by
  obtain ⟨g1, g2, g3⟩ := h.2 k r e h1 h2
  exact ⟨g1, g2, g3.num, g3.len, (g3.data.kept hk (Nat.le_refl _) (fun b hb _ _ => hn b hb)).mono (fun _ h => h) hk.size, g3.nil⟩⟩
/-- The elder list is put back. -/
theorem RefAt.back {wr : World} {ao1 : Option Addr} {c1 : Nat} {R1 : List RawA} {L1 : List (Bytes × Nd)} {v : Value} {aw : Option Addr} {cw : Nat} {RW : List RawA} {LW : List (Bytes × Nd)} (T : RefAt wr Z rb root cnt ao1 c1 R1 L1) (hv : v = .slice aw RW.length cw) (hat : AtsAt wr wr.heap.size Z aw RW) (hl : LikeA wr Z RW LW) (hc : RW.length ≤ cw) (hzr : Z rb) :
    RefAt (wr.setCell ⟨rb, 2, none⟩ v) Z rb root cnt aw cw RW LW ∧ Kept (· = rb) wr (wr.setCell ⟨rb, 2, none⟩ v) := by
  subst hv
  have hk : Kept (· = rb) wr (wr.setCell ⟨rb, 2, none⟩ (.slice aw RW.length cw)) := Kept.setCell (S := (· = rb)) (p := ⟨rb, 2, none⟩) (Kept.refl _ wr) rfl _
  have hz : ∀ k, k = rb → Z k := fun k e => by rw [e]; exact hzr
  refine ⟨⟨?_, hat.kept hk hz, hl.kept hk hz, hc⟩, hk⟩
  simp [World.setCell, Array.getElem?_modify, T.blk]
/-- One more is counted. -/
theorem RefAt.count (T : RefAt w Z rb root cnt ao c0 R L) (hzr : Z rb) : RefAt (w.setCell ⟨rb, 1, none⟩ (.int .u64 (cnt + 1))) Z rb root (cnt + 1) ao c0 R L ∧ Kept (· = rb) w (w.setCell ⟨rb, 1, none⟩ (.int .u64 (cnt + 1))) := by
  have hk : Kept (· = rb) w (w.setCell ⟨rb, 1, none⟩ (.int .u64 (cnt + 1))) := Kept.setCell (S := (· = rb)) (p := ⟨rb, 1, none⟩) (Kept.refl _ w) rfl _
  have hz : ∀ k, k = rb → Z k := fun k e => by rw [e]; exact hzr
  refine ⟨⟨?_, T.at_.kept hk hz, T.like.kept hk hz, T.cap⟩, hk⟩
  simp [World.setCell, Array.getElem?_modify, T.blk]
set_option maxRecDepth 100000 in
set_option maxHeartbeats 8000000 in
theorem RefAt.apply (T : RefAt w Z rb root cnt ao c0 R L) (H : Rel M L) (I : Inv root M) (F : Fit M) (hrl : root.length ≤ 1000) (h0 : 0 ≤ cnt) (h1 : cnt ≤ 1000000000) (le : Option Addr) (cap : Nat) (LE : List RawE) (E : List Eff)
    (hL : LikeE w (fun k => ¬ Z k) LE E) {B : Nat} (hA : EffsAt w B le LE) (hB : B ≤ w.heap.size) (hle : ∀ b, b < B → b ≠ rb) (hE : ∀ e ∈ E, FitE e) (hbig : LE.length ≤ 1000000) (hZ : ∀ k, w.heap.size ≤ k → ¬ Z k) (hzr : Z rb) (n : Nat) (hn : n = LE.length) :
    Calls Tryz.prog 9 #[.pointer (some ⟨rb, 0, none⟩), .slice le n cap] w (ApEnd w Z rb root cnt M E) := by
  obtain ⟨i0, hi0, hz0, hz1, hz2⟩ := info_parts infoAt
  obtain ⟨NR, hNR⟩ : ∃ NR, NR = R.length := ⟨_, rfl⟩
  have q2 := T.c2
  have hNL : R.length = M.length := by rw [T.like.1, H.len I.nodup]
  have hR1 : R.length ≤ 48 := by rw [hNL]; exact F.len
  have hR0 : 0 < R.length := by rw [T.like.1]; exact H.pos I
  obtain ⟨r0, x0, b, off, _, _, hao, hbl, hnz, _, _, _⟩ := T.node (i := 0) hR0
  subst hao
  have hcs := T.at_.cells 0 (R' := R) (fun k r h => by rw [Nat.zero_add]; exact h)
  rw [Nat.zero_mul, Nat.add_zero] at hcs
  rw [← hNR] at q2 hR1 hR0
  have hm1 : 0 + NR ≤ maxLen := by unfold maxLen; omega
  have hm2 : (0 + NR) * 96 ≤ 140737488355328 := by omega
  have HT := Lib.hid T
  have HM := Lib.hid (And.intro H (And.intro I (And.intro F (And.intro hZ hzr))))
  have HIN := Lib.hid (And.intro hL (And.intro hA (And.intro hle (And.intro hE hn))))
  have HR := Lib.hid (And.intro hcs hNR)
  have hfl : (R.flatMap RawA.cells).length = NR * 10 := by rw [flatA_len, hNR]
  have HFL := Lib.hid hfl
  rw [← hn] at hbig
  clear T H I F hZ hzr hL hA hle hE hn hcs hNR hNL hfl
  go_enter Tryz.func9, Tryz.ntmps9
  go_wp2_with (first
    | (at_builtin; (refine wpList_append_new rfl (.tmp 8) (.tmp 12) 54 rfl w.heap.size 53 i0 (.agg #[.string ⟨#[]⟩, .slice none 0 0, .int .u32 0, .int .u32 0, .int .u32 0, .int .i64 0, .int .u32 0, .int .u64 0, .int .u64 0, .int .u64 0]) 10 96 Tryz.underlying54 hi0 hz0 hz1 hz2 rfl (by decide) (.slice none 0 0) 0 [] rfl (World.ownsRow_nil _ _ _ _) ⟨b, off, none⟩ NR c0 (R.flatMap RawA.cells) rfl HFL.out HR.out.1 (flatA_plain _) hm1 hm2 (Nat.le_refl _) ?_; intro vq5 w1 hown5 hgrow5 hwh5; have B1 : Below w.heap.size w w1 := (Below.refl _ w).grown hgrow5 (Nat.le_refl _) (fun g hg => by cases hg); rw [List.nil_append] at hown5; have HW := Lib.hid (And.intro hown5 B1); clear hown5 hgrow5 hwh5 B1)))
  have hst : RfSt w w1 Z rb root cnt M E 0 w1 := ⟨by simp [applyA], ⟨_, _, _, _, HT.out.below HW.out.2, by simpa [applyA] using HM.out.1⟩, Kept.refl _ _⟩
  have HST := Lib.hid hst
  obtain ⟨aw, cw, hvw, hatw, hcw⟩ := atRow_lies (R := R) (Z := Z) (by rw [← HR.out.2]; have := HW.out.1; rw [Nat.zero_add] at this; exact this) HM.out.2.2.2.1
  rw [← HR.out.2] at hvw
  subst hvw
  have HV := Lib.hid (And.intro hatw hcw)
  clear hst hatw hcw
  go_loopw [6, 7] (fun ci _ wr => ∃ i : Nat, i ≤ n ∧ ci = .int .i64 i ∧ Hid (RfSt w w1 Z rb root cnt M E i wr)) (fun ci _ _ => n - (intOf ci).toNat)
  case atStart => exact ⟨0, by omega, rfl, HST⟩
  case round =>
    obtain ⟨i, hi, rfl, HS⟩ := hrel
    obtain ⟨hok, ⟨ao1, c1, R1, L1, T1, H1⟩, hk1⟩ := HS.out
    have HT1 := Lib.hid (And.intro T1 (And.intro H1 (And.intro hk1 hok)))
    have hkw : Kept (· = rb) w wr := (Kept.ofBelow (S := (· = rb)) HW.out.2).trans hk1
    have HKW := Lib.hid hkw
    clear T1 H1 hk1 hok HS
    by_cases hlt : i < n
    · have hlen : i < LE.length := by rw [← HIN.out.2.2.2.2]; exact hlt
      obtain ⟨re, hre⟩ : ∃ re, LE[i]? = some re := ⟨_, List.getElem?_eq_getElem hlen⟩
      obtain ⟨e, he⟩ : ∃ e, E[i]? = some e := ⟨_, List.getElem?_eq_getElem (by rw [← HIN.out.1.1]; exact hlen)⟩
      have hbew : ∀ b : Nat, b < B → b < wr.heap.size := fun b h => Nat.lt_of_lt_of_le (Nat.lt_of_lt_of_le h hB) HKW.out.size
      have hA2 := HIN.out.2.1.kept HKW.out hB HIN.out.2.2.1
      obtain ⟨be, oe, rfl, hbe0, hrg⟩ := hA2 i re hre
      have hbe := hbew be hbe0
      clear hbew hbe0
      have hrd := (HIN.out.1.kept HKW.out (fun b hb hs => hb (by rw [hs]; exact HM.out.2.2.2.2))).2 i re e hre he
      have hone := HT1.out.1.one HT1.out.2.1 (HM.out.2.1.all) (HM.out.2.2.1.all (fun x hx => HIN.out.2.2.2.1 x (List.mem_of_mem_take hx))) hrl re e hrd (HIN.out.2.2.2.1 e (List.mem_of_getElem? he)) (fun k hk => HM.out.2.2.2.1 k (Nat.le_trans HKW.out.size hk)) HM.out.2.2.2.2
      have hap := applyA_at HT1.out.2.2.2 he
      obtain ⟨x, hx⟩ : ∃ x, x = oneE root (applyA root M (E.take i)).2 e := ⟨_, rfl⟩
      unfold OneEnd at hone
      rw [← hx] at hone hap
      obtain ⟨pp, gg, ⟨aa, nn, cc, ⟨v1, v2, v3, v4, v5, v6, v7, v8⟩⟩⟩ := re
      unfold RawE.val RawE.cells Raw.cells Nums.cells at hone
      dsimp only at hone
      have HONE := Lib.hid hone
      have HAP := Lib.hid hap
      have HRG : Hid (wr.rangeAt be (oe + i * 11) [.string (bs pp), .bool gg, .slice aa nn cc, .int .u32 v1, .int .u32 v2, .int .u32 v3, .int .i64 v4, .int .u32 v5, .int .u64 v6, .int .u64 v7, .int .u64 v8]) := Lib.hid hrg
      have HSZE : Hid ((Tryz.prog.info? 41).map (·.size) = some 11) := Lib.hid (by kernel_rfl)
      clear hone hap hrg hrd hA2 hre he hlen hkw hx
      go_wp2_with (first | ((refine wpList_load_mid rfl 41 (.tmp 23) rfl be (oe + i * 11) rfl [.string (bs pp), .bool gg, .slice aa nn cc, .int .u32 v1, .int .u32 v2, .int .u32 v3, .int .i64 v4, .int .u32 v5, .int .u64 v6, .int .u64 v7, .int .u64 v8] _ HRG.out Tryz.underlying41 rfl HSZE.out ?_)))
      refine HONE.out.mono ?_
      rintro en w2 ⟨rfl, ⟨ao2, c2, R2, L2, T2, H2⟩, hk2⟩
      have q22 := T2.c2
      have hfz2 : w2.frozen? ⟨rb, 2, none⟩ = false := by simp [World.frozen?, T2.blk]
      have HT2 := Lib.hid (And.intro T2 (And.intro H2 hk2))
      clear T2 H2 hk2
      by_cases hx0 : x = 0
      · subst hx0
        have hs := HAP.out.2 rfl
        have HS2 : Hid (RfSt w w1 Z rb root cnt M E (i + 1) w2) := Lib.hid (by
          unfold RfSt
          rw [hs]
          exact ⟨rfl, ⟨_, _, _, _, HT2.out.1, HT2.out.2.1⟩, HT1.out.2.2.1.trans HT2.out.2.2⟩)
        clear hs
        go_wp2
        go_roundw
        case rel => exact ⟨i + 1, by omega, by go_num, HS2⟩
        case measure => simp [intOf]; omega
      · have tx : (x == 0) = false := (neq_int hx0).1
        have hs := HAP.out.1 hx0
        have HX := Lib.hid (And.intro hx0 hs)
        clear hx0 hs
        go_wp2
        go_ret
        have hk12 := HT1.out.2.2.1.trans HT2.out.2.2
        have hz : ∀ k, k = rb → Z k := fun k e => by rw [e]; exact HM.out.2.2.2.2
        have hB1 : Kept (· = rb) w w1 := Kept.ofBelow HW.out.2
        obtain ⟨hb1, hb2⟩ := HT2.out.1.back (v := .slice aw NR cw) (by rw [HR.out.2]) (HV.out.1.kept hk12 hz) ((HT.out.like.kept hB1 hz).kept hk12 hz) HV.out.2 HM.out.2.2.2.2
        refine ⟨by rw [HX.out.2]; rfl, ⟨aw, cw, R, L, ?_, ?_⟩, (hB1.trans hk12).trans hb2⟩
        · have : atA root cnt M E = cnt := by unfold atA; rw [HX.out.2]; exact if_neg HX.out.1
          rw [this]
          exact hb1
        · have : nodesA root M E = M := by unfold nodesA; rw [HX.out.2]; exact if_neg HX.out.1
          rw [this]
          exact HM.out.1
    · obtain rfl : n = i := by omega
      have hte : E.take n = E := List.take_of_length_le (by rw [← HIN.out.1.1, ← HIN.out.2.2.2.2]; exact Nat.le_refl _)
      have HTE := Lib.hid hte
      have q21 := HT1.out.1.c1
      have hfz1 : wr.frozen? ⟨rb, 1, none⟩ = false := by simp [World.frozen?, HT1.out.1.blk]
      have hwc : ∀ _ : True, IntKind.u64.wrap (cnt + 1) = cnt + 1 := fun _ => by
        simp [IntKind.wrap, IntKind.bits, IntKind.signed]
        omega
      clear hte hkw
      go_wp2
      go_ret
      obtain ⟨hc1, hc2⟩ := HT1.out.1.count HM.out.2.2.2.2
      have hok := HT1.out.2.2.2
      have hrl2 := HT1.out.2.1
      rw [HTE.out] at hok hrl2
      refine ⟨by rw [hok]; rfl, ⟨ao1, c1, R1, L1, ?_, ?_⟩, HKW.out.trans hc2⟩
      · have : atA root cnt M E = cnt + 1 := by unfold atA; rw [if_pos hok]
        rw [this]
        exact hc1
      · have : nodesA root M E = (applyA root M E).2 := by unfold nodesA; rw [if_pos hok]
        rw [this]
        exact hrl2
end
end Go.Proofs.YtkhoeiapfoaapaaGreatDoor
