/-
  WatchOnce, walked.
-/
import Derived.Test.YtfbimhbdifmeoaaDoorWtH
import Derived.Test.YtfbimhbdifmeoaaDoorWtS
import Derived.Test.YtfbimhbdifmeoaaDoorWtU
import Derived.Test.YtfbimhbdifmeoaaDoorWtPlays
import Derived.BigRegion
namespace Go.Proofs.YtfbimhbdifmeoaaDoor
set_option linter.unusedVariables false
set_option linter.unusedSimpArgs false
open Go Go.RowKit Go.Shelf Go.MapKept Go.ChangeMaps

section
variable {Z : Nat → Prop} {W0 W2 w : World} {b : Nat} {L : List Ev}
/-- Other blocks protected: of the elder ones, or new. -/
theorem One.more (S : One Z W0 W2 w b L) {w' : World} (hb : Below w.heap.size w w') (Z' : Nat → Prop) (hZ : ∀ k, Z' k → Z k ∨ (w.heap.size ≤ k ∧ k < w'.heap.size)) : One Z' W0 W2 w' b L := by
  obtain ⟨r, hT, hr⟩ := S.ex
  have S' := S.other hb
  refine ⟨⟨r, hT.below hb, fun g hg => ⟨(hr g hg).1, fun hz => ?_⟩⟩, fun hz => ?_, fun k hk => ?_, S.lt, S.hw, S'.kept, S'.below⟩
  · rcases hZ g hz with h | h
    · exact (hr g hg).2 h
    · have := (hT.rowlt g hg).2
      omega
  · rcases hZ b hz with h | h
    · exact S.zb h
    · have := hT.lt
      omega
  · rcases hZ k hk with h | h
    · exact Nat.lt_of_lt_of_le (S.zlt k h) hb.size
    · exact h.2
/-- A protected block turns. -/
theorem One.turn (S : One Z W0 W2 w b L) {w' : World} (hz : ∀ k, Z k → W2.heap.size ≤ k) (hk : Kept Z w w') : One Z W0 W2 w' b L := by
  obtain ⟨r, hT, hr⟩ := S.ex
  have hW : W0.heap.size ≤ W2.heap.size := by have := S.lt; have := S.hw; omega
  refine ⟨⟨r, hT.kept hk S.zb (fun g hg => (hr g hg).2), hr⟩, S.zb, fun k h => Nat.lt_of_lt_of_le (S.zlt k h) hk.size, S.lt, S.hw, ?_, ?_⟩
  · refine ⟨hk.os.trans S.kept.os, hk.tape.trans S.kept.tape, hk.output.trans S.kept.output, Nat.le_trans S.kept.size hk.size, fun k h1 h2 => ?_⟩
    exact (hk.block k (Nat.lt_of_lt_of_le h1 S.kept.size) (fun e => by have := hz k e; omega)).trans (S.kept.block k h1 h2)
  · exact S.below.trans (hk.below S.sz (fun k h => Nat.le_trans hW (hz k h)))
end
theorem zero4 (w : World) : (zeroValue 4).run Tryd.prog w = .ok (.bool false) w := by kernel_rfl
theorem SetAt.leng {w : World} {g : Nat} {L : List Ev} (h : SetAt Tryd.prog 44 Ev.val w g L) (ty : TypeId) : (Builtin.len_ #[47] ty #[.map (some g)]).run Tryd.prog w = .ok (.int .i64 (L.length : Int)) w := by
  have := HasMap.run_len h Tryd.underlying47 ty
  rwa [List.length_map] at this

/-! plain -/
/-- What is left in the set when the first j of the told ones have been struck. -/
def struck (L X : List Ev) : List Ev := L.filter fun e => !X.contains e
theorem struck_nil (L : List Ev) : struck L [] = L := by simp [struck]
theorem struck_succ (L X : List Ev) (z : Ev) : delK z (struck L X) = struck L (X ++ [z]) := by
  unfold delK struck
  rw [List.filter_filter]
  congr 1
  funext e
  simp [Bool.and_comm]
theorem struck_out (P : List Bytes) (L : List Ev) : struck L (outL P L) = leftL P L := by
  unfold struck leftL
  refine List.filter_congr fun e he => ?_
  congr 1
  rw [Bool.eq_iff_iff]
  simp [outL, he]
theorem struck_has (P : List Bytes) (L : List Ev) (hn : L.Nodup) (j : Nat) (z : Ev) (hz : (outL P L)[j]? = some z) : (struck L ((outL P L).take j)).contains z = true := by
  have hm : z ∈ outL P L := List.mem_of_getElem? hz
  have hL : z ∈ L := (List.mem_filter.1 hm).1
  have hnn : (outL P L).Nodup := hn.filter _
  have ht : z ∉ (outL P L).take j := by
    intro h
    obtain ⟨i, hi⟩ := List.getElem?_of_mem h
    rw [List.getElem?_take] at hi
    split at hi
    · rename_i hij
      obtain ⟨h1, h2⟩ := List.getElem?_eq_some_iff.1 hi
      obtain ⟨h3, h4⟩ := List.getElem?_eq_some_iff.1 hz
      have := (List.getElem_inj hnn).1 (h2.trans h4.symm)
      omega
    · cases hi
  simp [struck, hL, ht]
theorem out_left_len (P : List Bytes) (L : List Ev) : L.length = (outL P L).length + (leftL P L).length := by
  unfold outL leftL
  induction L with
  | nil => rfl
  | cons a r ih =>
    simp only [List.filter_cons, List.length_cons]
    cases hitB P a <;> simp <;> omega
theorem left_left (P : List Bytes) (L : List Ev) : leftL P (leftL P L) = leftL P L := by
  unfold leftL
  rw [List.filter_filter]
  simp
theorem addK_addL {L : List Ev} {x : Ev} (h : addE L x = 0) : addK x L = addL L x := by
  unfold addE at h
  unfold addK addL
  split at h
  · rename_i hp
    rw [if_pos hp]
    split at h
    · rename_i hc
      rw [if_pos hc, if_pos hc]
    · rename_i hc
      rw [if_neg hc, if_neg hc]
      split at h
      · cases h
      · rename_i hl
        rw [if_neg hl]
  · cases h
theorem addL_not {L : List Ev} {x : Ev} (h : addE L x ≠ 0) : addL L x = L := by
  unfold addE at h
  unfold addL
  split at h
  · rename_i hp
    rw [if_pos hp]
    split at h
    · exact absurd rfl h
    · rename_i hc
      rw [if_neg hc]
      split at h
      · rename_i hl
        rw [if_pos hl]
      · exact absurd rfl h
  · rename_i hp
    rw [if_neg hp]
theorem addL_mem {L : List Ev} {x e : Ev} (h : e ∈ addL L x) : e ∈ L ∨ e = x := by
  unfold addL at h
  split at h
  · split at h
    · exact .inl h
    · split at h
      · exact .inl h
      · simpa using h
  · exact .inl h

set_option maxRecDepth 100000 in
set_option maxHeartbeats 2000000 in
theorem once_great (ao : Option Addr) (c : Nat) (A : List ActD) (w : World) (hbig : A.length ≤ maxLen) (hA : ActsAt w w.heap.size ao A) (hg : greatB A = true) :
    Calls Tryd.prog 4 #[.slice ao A.length c] w (LawEnd w) := by
  have hc := great_any ao c A w hbig hA
  rw [hg] at hc
  clear hg hA hbig
  generalize A.length = N at *
  go_enter Tryd.func4, Tryd.ntmps4
  go_wp2_with fail
  refine hc.mono ?_
  rintro e w1 ⟨rfl, rfl⟩
  go_wp2
  go_ret
  exact ⟨rfl, Below.refl _ _⟩

set_option maxRecDepth 100000 in
set_option maxHeartbeats 8000000 in
theorem once_small (ao : Option Addr) (c : Nat) (A : List ActD) (w : World) (hm : MaxInt w) (hbig : A.length ≤ maxLen) (hA : ActsAt w w.heap.size ao A) (hg : greatB A = false) :
    Calls Tryd.prog 4 #[.slice ao A.length c] w (LawEnd w) := by
  have hc := great_any ao c A w hbig hA
  rw [hg] at hc
  obtain ⟨h60, hsm⟩ := greatB_no hg
  have HC := Lib.hid hc
  have HM := Lib.hid hm
  have HA := Lib.hid hA
  have HSM := Lib.hid hsm
  obtain ⟨N, hN⟩ : ∃ N, N = A.length := ⟨_, rfl⟩
  have HN := Lib.hid hN
  rw [← hN] at h60 HC ⊢
  clear hg hA hbig hc hm hsm hN
  have hmm := @run_makeMap Tryd.prog
  go_enter Tryd.func4, Tryd.ntmps4
  go_wp2_with fail
  refine HC.out.mono ?_
  rintro e w0 ⟨rfl, rfl⟩
  go_wp2_with fail
  refine (new_any w).mono ?_
  rintro e w1 ⟨rfl, hw1⟩
  have S0 := One.new hw1
  have hs1 : w1.heap.size = w.heap.size + 1 := by rw [hw1]; simp
  have HZ : Hid (w.heap.size < w1.heap.size) := Lib.hid (by omega)
  clear hw1 hs1
  go_wp2
  have S1 := S0.protect (belowA (Below.refl _ w1) (.map #[] 0)) (· = w1.heap.size) (fun k hk => by subst hk; simp)
  have hS1 := SetAt.made Tryd.prog 44 Ev.val w1
  have H1 := Lib.hid (And.intro S1 hS1)
  clear S0 S1 hS1
  obtain ⟨w2, hw2⟩ : ∃ w2, w2 = w1.alloc (.map #[] 0) := ⟨_, rfl⟩
  obtain ⟨gb, hgb⟩ : ∃ gb, gb = w1.heap.size := ⟨_, rfl⟩
  rw [← hw2, ← hgb] at H1
  rw [← hw2, ← hgb]
  have HGW : Hid (w1.heap.size ≤ gb) := Lib.hid (by omega)
  have HGB : Hid (w.heap.size < gb) := Lib.hid (by have := HZ.out; omega)
  clear hw2 hgb hmm
  go_loopw [5] (fun i wr => ∃ k : Nat, k ≤ N ∧ i = .int .i64 k ∧ ∃ L, Hid (One (· = gb) w w1 wr w.heap.size L ∧ SetAt Tryd.prog 44 Ev.val wr gb L ∧ Fine L ∧ ∀ e ∈ L, EvOk e ∧ e.path.length ≤ 1000)) (fun i _ => N - (intOf i).toNat)
  case atStart => exact ⟨0, by omega, rfl, [], Lib.hid ⟨H1.out.1, H1.out.2, Fine.nil, by simp⟩⟩
  case round =>
    obtain ⟨k, hk, rfl, L, HS⟩ := hrel
    by_cases hlt : k < N
    · obtain ⟨a, ha⟩ : ∃ a, A[k]? = some a := ⟨_, List.getElem?_eq_getElem (by rw [← HN.out]; exact hlt)⟩
      obtain ⟨hok, b, off, rfl, hb, hrg0⟩ := HA.out k a ha
      have hsm := HSM.out a (List.mem_of_getElem? ha)
      obtain ⟨d, x, pa, P, pc⟩ := a
      have hrg := range_kept hrg0 HS.out.1.below hb
      have c0 : wr.cell? ⟨b, off + k * 6, none⟩ = some (.int .u8 d) := hrg 0 _ rfl
      have c1 : wr.cell? ⟨b, off + k * 6 + 1, none⟩ = some (.int .i64 x.site) := hrg 1 _ rfl
      have c2 : wr.cell? ⟨b, off + k * 6 + 1 + 1, none⟩ = some (.int .u32 x.num) := hrg 2 _ rfl
      have c3 : wr.cell? ⟨b, off + k * 6 + 1 + 2, none⟩ = some (.string (bs x.path)) := hrg 3 _ rfl
      have c4 : wr.cell? ⟨b, off + k * 6 + 1 + 3, none⟩ = some (.bool x.kids) := hrg 4 _ rfl
      have c5 : wr.cell? ⟨b, off + k * 6 + 5, none⟩ = some (.slice pa P.length pc) := hrg 5 _ rfl
      have hbw : b < wr.heap.size := Nat.lt_of_lt_of_le hb HS.out.1.below.size
      have HRG := Lib.hid hrg0
      have HEW := Lib.hid hok.effs
      have hd0 : 0 ≤ d := hok.d.1
      have hxp : x.path.length ≤ 1000 := by have := hsm.path; dsimp only at this; omega
      have HXO := Lib.hid hok.x
      have HPL := Lib.hid hsm.len
      have HPS := Lib.hid hsm.paths
      dsimp only at HPL HPS HEW HXO
      clear hrg hrg0 ha hok hsm
      go_wp2
      go_region
      obtain ⟨wB, hwB⟩ : ∃ wB, wB = (wr.alloc (.cells #[.int .i64 x.site, .int .u32 x.num, .string (bs x.path), .bool x.kids] 44)).drew := ⟨_, rfl⟩
      rw [← hwB]
      have hbx : Below wr.heap.size wr wB := by rw [hwB]; exact (belowA (Below.refl _ wr) _).drew
      have hltB : wr.heap.size < wB.heap.size := by rw [hwB]; simp [World.drew]
      have hb0 : wB.cell? ⟨wr.heap.size, 0, none⟩ = some (.int .i64 x.site) ∧ wB.cell? ⟨wr.heap.size, 1, none⟩ = some (.int .u32 x.num) ∧ wB.cell? ⟨wr.heap.size, 2, none⟩ = some (.string (bs x.path)) ∧ wB.cell? ⟨wr.heap.size, 3, none⟩ = some (.bool x.kids) := by
        rw [hwB]
        exact ⟨(new_cell (Below.refl _ (wr.alloc (.cells #[.int .i64 x.site, .int .u32 x.num, .string (bs x.path), .bool x.kids] 44))) 0 _ rfl).1, (new_cell (Below.refl _ (wr.alloc (.cells #[.int .i64 x.site, .int .u32 x.num, .string (bs x.path), .bool x.kids] 44))) 1 _ rfl).1, (new_cell (Below.refl _ (wr.alloc (.cells #[.int .i64 x.site, .int .u32 x.num, .string (bs x.path), .bool x.kids] 44))) 2 _ rfl).1, (new_cell (Below.refl _ (wr.alloc (.cells #[.int .i64 x.site, .int .u32 x.num, .string (bs x.path), .bool x.kids] 44))) 3 _ rfl).1⟩
      have HBX := Lib.hid (And.intro hbx hltB)
      have hHB : ∀ W', Kept (fun k => ¬ (k = gb ∨ k = wr.heap.size)) wB W' → W'.cell? ⟨wr.heap.size, 0, none⟩ = some (.int .i64 x.site) ∧ W'.cell? ⟨wr.heap.size, 1, none⟩ = some (.int .u32 x.num) ∧ W'.cell? ⟨wr.heap.size, 2, none⟩ = some (.string (bs x.path)) ∧ W'.cell? ⟨wr.heap.size, 3, none⟩ = some (.bool x.kids) := fun W' hk => by
        obtain ⟨h0, h1, h2, h3⟩ := hb0
        exact ⟨(hk.cell (p := ⟨wr.heap.size, 0, none⟩) hltB (fun e => e (.inr rfl))).trans h0, (hk.cell (p := ⟨wr.heap.size, 1, none⟩) hltB (fun e => e (.inr rfl))).trans h1, (hk.cell (p := ⟨wr.heap.size, 2, none⟩) hltB (fun e => e (.inr rfl))).trans h2, (hk.cell (p := ⟨wr.heap.size, 3, none⟩) hltB (fun e => e (.inr rfl))).trans h3⟩
      have HB := Lib.hid hHB
      have HSB := Lib.hid (HS.out.2.1.kept (Kept.of_below hbx Nothing) (fun e => e))
      have HF16 := Lib.hid HS.out.2.2.1.len
      have HZB : Hid (∀ k, k = gb ∨ k = wr.heap.size → w1.heap.size ≤ k) := Lib.hid (fun k hk => by
        rcases hk with rfl | rfl
        · exact HGW.out
        · exact HS.out.1.kept.size)
      obtain ⟨b0, b1, b2, b3⟩ := hb0
      have c0 : wB.cell? ⟨b, off + k * 6, none⟩ = some (.int .u8 d) := (hbx.cell (p := ⟨b, off + k * 6, none⟩) hbw).trans c0
      have c5 : wB.cell? ⟨b, off + k * 6 + 5, none⟩ = some (.slice pa P.length pc) := (hbx.cell (p := ⟨b, off + k * 6 + 5, none⟩) hbw).trans c5
      clear hwB hHB hbx
      by_cases hd : d % 3 < 2
      · have hd' : decide (d % 3 < 2) = true := by simpa using hd
        clear hd
        have RR := Lib.hid (HS.out.1.more HBX.out.1 (fun k => k = gb ∨ k = wr.heap.size) (fun k hk => by
          rcases hk with rfl | rfl
          · exact .inl rfl
          · exact .inr ⟨Nat.le_refl _, HBX.out.2⟩))
        have HFA := Lib.hid (HS.out.2.2.1.add x)
        have HMA : Hid (∀ e ∈ addL L x, EvOk e ∧ e.path.length ≤ 1000) := Lib.hid (fun e he => by
          rcases addL_mem he with h | rfl
          · exact HS.out.2.2.2 e h
          · exact ⟨HXO.out, hxp⟩)
        cases hok : (partsL x.path).isSome with
        | false =>
          have HOK := Lib.hid hok
          clear hok
          have A5 := RR.out.add HM.out HF16.out hxp
          have hE : addE L x = 30 := by unfold addE; rw [HOK.out]; rfl
          have HE := Lib.hid hE
          rw [hE] at A5
          have HA5 := Lib.hid A5
          have ck : Always w 16 #[.string (bs x.path)] (.int .i64 30) := by have h := always_check HM.out x.path hxp; unfold checkV at h; rw [HOK.out] at h; exact h
          have CK := Lib.hid ck
          clear hE A5 ck
          go_wp2_with fail
          refine HA5.out.mono ?_
          rintro e w5 ⟨rfl, RT, KT⟩
          have hS5 := HSB.out.kept KT (fun h => h (.inl rfl))
          have ht := HB.out _ KT
          obtain ⟨t0, t1, t2, t3⟩ := ht
          have H5 := Lib.hid (And.intro RT hS5)
          have HKT := Lib.hid KT
          clear RT KT hS5 HA5 c0 c1 c2 c3 c4 c5
          go_wp2_with fail
          refine (CK.out w5 H5.out.1.below).mono ?_
          rintro e w6 ⟨rfl, B6⟩
          have R6 := H5.out.1.other B6
          have hS6 := H5.out.2.kept (Kept.of_below B6 Nothing) (fun e => e)
          obtain ⟨t0, t1, t2, t3⟩ := HB.out _ (HKT.out.trans (Kept.of_below B6 _))
          have hlt6 := World.block_lt_of_cell? _ _ t0
          have hS7 : SetAt Tryd.prog 44 Ev.val w6 gb (addL L x) := by rw [addL_not (by rw [HE.out]; decide)]; exact hS6
          have R7 := R6.more (Below.refl _ _) (· = gb) (fun k h => .inl (.inl h))
          have HR := Lib.hid (And.intro R7 hS7)
          clear hS7 R7
          clear R6 hS6 B6
          go_wp2
          go_roundw
          case rel => exact ⟨k + 1, by omega, by go_num, addL L x, Lib.hid ⟨HR.out.1, HR.out.2, HFA.out, HMA.out⟩⟩
          case measure => simp [intOf]; omega
        | true =>
          have HOK := Lib.hid hok
          clear hok
          cases hin : L.contains x with
          | true =>
            have A5 := RR.out.add HM.out HF16.out hxp
            have hE : addE L x = 0 := by unfold addE; rw [HOK.out, hin]; rfl
            have HE := Lib.hid hE
            rw [hE] at A5
            have HA5 := Lib.hid A5
            have ck : Always w 16 #[.string (bs x.path)] (.int .i64 0) := by have h := always_check HM.out x.path hxp; unfold checkV at h; rw [HOK.out] at h; exact h
            have CK := Lib.hid ck
            have HIN := Lib.hid hin
            clear hin
            clear hE A5 ck
            go_wp2_with fail
            refine HA5.out.mono ?_
            rintro e w5 ⟨rfl, RT, KT⟩
            have hS5 := HSB.out.kept KT (fun h => h (.inl rfl))
            have ht := HB.out _ KT
            obtain ⟨t0, t1, t2, t3⟩ := ht
            have H5 := Lib.hid (And.intro RT hS5)
            have HKT := Lib.hid KT
            clear RT KT hS5 HA5 c0 c1 c2 c3 c4 c5
            go_wp2_with fail
            refine (CK.out w5 H5.out.1.below).mono ?_
            rintro e w6 ⟨rfl, B6⟩
            have R6 := H5.out.1.other B6
            have hS6 := H5.out.2.kept (Kept.of_below B6 Nothing) (fun e => e)
            obtain ⟨t0, t1, t2, t3⟩ := HB.out _ (HKT.out.trans (Kept.of_below B6 _))
            have hlt6 := World.block_lt_of_cell? _ _ t0
            obtain ⟨lx, hlx⟩ := ev_key HXO.out
            have q1 : (Instr.lookup 47 (.map (some gb)) (.agg #[.int .i64 x.site, .int .u32 x.num, .string (bs x.path), .bool x.kids]) false).run Tryd.prog w6 = .ok (.bool (L.contains x)) w6 := hS6.look key44 Ev.val_inj Tryd.underlying47 zero4 hlx
            rw [HIN.out] at q1
            obtain ⟨o, ho⟩ := hS6.store key44 Ev.val_inj Tryd.underlying47 hlx
            obtain ⟨g1, g2, g3⟩ := ho w6 rfl
            have g1 : (Instr.mapUpdate 47 (.map (some gb)) (.agg #[.int .i64 x.site, .int .u32 x.num, .string (bs x.path), .bool x.kids]) (.bool true)).run Tryd.prog w6 = .ok () (setBlock w6 gb o) := g1
            rw [addK_addL HE.out] at g2
            have R7 := (R6.turn HZB.out (g3.mono (fun k _ h => .inl h))).more (Below.refl _ _) (· = gb) (fun k h => .inl (.inl h))
            have HR := Lib.hid (And.intro R7 g2)
            clear g2 g3 ho R7 hlx
            clear R6 hS6 B6
            go_wp2
            go_roundw
            case rel => exact ⟨k + 1, by omega, by go_num, addL L x, Lib.hid ⟨HR.out.1, HR.out.2, HFA.out, HMA.out⟩⟩
            case measure => simp [intOf]; omega
          | false =>
            by_cases h16 : 16 ≤ L.length
            · have A5 := RR.out.add HM.out HF16.out hxp
              have hE : addE L x = 4 := by unfold addE; rw [HOK.out, hin]; simp [h16]
              have HE := Lib.hid hE
              rw [hE] at A5
              have HA5 := Lib.hid A5
              have ck : Always w 16 #[.string (bs x.path)] (.int .i64 0) := by have h := always_check HM.out x.path hxp; unfold checkV at h; rw [HOK.out] at h; exact h
              have CK := Lib.hid ck
              have HIN := Lib.hid hin
              clear hin
              have dl : decide ((L.length : Int) < 16) = false := by simp; omega
              generalize hNL : L.length = NL at dl
              have HNL := Lib.hid hNL
              clear hNL h16
              clear hE A5 ck
              go_wp2_with fail
              refine HA5.out.mono ?_
              rintro e w5 ⟨rfl, RT, KT⟩
              have hS5 := HSB.out.kept KT (fun h => h (.inl rfl))
              have ht := HB.out _ KT
              obtain ⟨t0, t1, t2, t3⟩ := ht
              have H5 := Lib.hid (And.intro RT hS5)
              have HKT := Lib.hid KT
              clear RT KT hS5 HA5 c0 c1 c2 c3 c4 c5
              go_wp2_with fail
              refine (CK.out w5 H5.out.1.below).mono ?_
              rintro e w6 ⟨rfl, B6⟩
              have R6 := H5.out.1.other B6
              have hS6 := H5.out.2.kept (Kept.of_below B6 Nothing) (fun e => e)
              obtain ⟨t0, t1, t2, t3⟩ := HB.out _ (HKT.out.trans (Kept.of_below B6 _))
              have hlt6 := World.block_lt_of_cell? _ _ t0
              obtain ⟨lx, hlx⟩ := ev_key HXO.out
              have q1 : (Instr.lookup 47 (.map (some gb)) (.agg #[.int .i64 x.site, .int .u32 x.num, .string (bs x.path), .bool x.kids]) false).run Tryd.prog w6 = .ok (.bool (L.contains x)) w6 := hS6.look key44 Ev.val_inj Tryd.underlying47 zero4 hlx
              rw [HIN.out] at q1
              have q2 : ∀ ty, (Builtin.len_ #[47] ty #[.map (some gb)]).run Tryd.prog w6 = .ok (.int .i64 (NL : Int)) w6 := fun ty => by rw [← HNL.out]; exact hS6.leng ty
              have hS7 : SetAt Tryd.prog 44 Ev.val w6 gb (addL L x) := by rw [addL_not (by rw [HE.out]; decide)]; exact hS6
              have R7 := R6.more (Below.refl _ _) (· = gb) (fun k h => .inl (.inl h))
              have HR := Lib.hid (And.intro R7 hS7)
              clear hS7 R7 hlx
              clear R6 hS6 B6
              go_wp2
              go_roundw
              case rel => exact ⟨k + 1, by omega, by go_num, addL L x, Lib.hid ⟨HR.out.1, HR.out.2, HFA.out, HMA.out⟩⟩
              case measure => simp [intOf]; omega
            · have A5 := RR.out.add HM.out HF16.out hxp
              have hE : addE L x = 0 := by unfold addE; rw [HOK.out, hin]; simp [h16]
              have HE := Lib.hid hE
              rw [hE] at A5
              have HA5 := Lib.hid A5
              have ck : Always w 16 #[.string (bs x.path)] (.int .i64 0) := by have h := always_check HM.out x.path hxp; unfold checkV at h; rw [HOK.out] at h; exact h
              have CK := Lib.hid ck
              have HIN := Lib.hid hin
              clear hin
              have dl : decide ((L.length : Int) < 16) = true := by simp; omega
              generalize hNL : L.length = NL at dl
              have HNL := Lib.hid hNL
              clear hNL h16
              clear hE A5 ck
              go_wp2_with fail
              refine HA5.out.mono ?_
              rintro e w5 ⟨rfl, RT, KT⟩
              have hS5 := HSB.out.kept KT (fun h => h (.inl rfl))
              have ht := HB.out _ KT
              obtain ⟨t0, t1, t2, t3⟩ := ht
              have H5 := Lib.hid (And.intro RT hS5)
              have HKT := Lib.hid KT
              clear RT KT hS5 HA5 c0 c1 c2 c3 c4 c5
              go_wp2_with fail
              refine (CK.out w5 H5.out.1.below).mono ?_
              rintro e w6 ⟨rfl, B6⟩
              have R6 := H5.out.1.other B6
              have hS6 := H5.out.2.kept (Kept.of_below B6 Nothing) (fun e => e)
              obtain ⟨t0, t1, t2, t3⟩ := HB.out _ (HKT.out.trans (Kept.of_below B6 _))
              have hlt6 := World.block_lt_of_cell? _ _ t0
              obtain ⟨lx, hlx⟩ := ev_key HXO.out
              have q1 : (Instr.lookup 47 (.map (some gb)) (.agg #[.int .i64 x.site, .int .u32 x.num, .string (bs x.path), .bool x.kids]) false).run Tryd.prog w6 = .ok (.bool (L.contains x)) w6 := hS6.look key44 Ev.val_inj Tryd.underlying47 zero4 hlx
              rw [HIN.out] at q1
              have q2 : ∀ ty, (Builtin.len_ #[47] ty #[.map (some gb)]).run Tryd.prog w6 = .ok (.int .i64 (NL : Int)) w6 := fun ty => by rw [← HNL.out]; exact hS6.leng ty
              obtain ⟨o, ho⟩ := hS6.store key44 Ev.val_inj Tryd.underlying47 hlx
              obtain ⟨g1, g2, g3⟩ := ho w6 rfl
              have g1 : (Instr.mapUpdate 47 (.map (some gb)) (.agg #[.int .i64 x.site, .int .u32 x.num, .string (bs x.path), .bool x.kids]) (.bool true)).run Tryd.prog w6 = .ok () (setBlock w6 gb o) := g1
              rw [addK_addL HE.out] at g2
              have R7 := (R6.turn HZB.out (g3.mono (fun k _ h => .inl h))).more (Below.refl _ _) (· = gb) (fun k h => .inl (.inl h))
              have HR := Lib.hid (And.intro R7 g2)
              clear g2 g3 ho R7 hlx
              clear R6 hS6 B6
              go_wp2
              go_roundw
              case rel => exact ⟨k + 1, by omega, by go_num, addL L x, Lib.hid ⟨HR.out.1, HR.out.2, HFA.out, HMA.out⟩⟩
              case measure => simp [intOf]; omega
      · have hd' : decide (d % 3 < 2) = false := by simpa using hd
        clear hd
        obtain ⟨M, hM⟩ : ∃ M, M = P.length := ⟨_, rfl⟩
        have HPP : Hid (∀ p ∈ P, p.length ≤ 1000) := Lib.hid (fun p hp => Nat.le_trans (HPS.out p hp) (by omega))
        have HPB : Hid (P.length ≤ 4000) := Lib.hid (by have := HPL.out; omega)
        have T1 := (HS.out.1.other HBX.out.1).touch HM.out HF16.out (P := P) (ao := pa) (c := pc) HPB.out HPP.out ((HEW.out.kept (HS.out.1.other HBX.out.1).below).mono (HS.out.1.other HBX.out.1).below.size)
        rw [← hM] at T1 c5
        have HM2 := Lib.hid hM
        have HT1 := Lib.hid T1
        have hgbB : gb < wB.heap.size := HSB.out.lt
        have HGBB := Lib.hid hgbB
        clear hM T1 b0 b1 b2 b3 c1 c2 c3 c4 hgbB
        go_wp2_with fail
        refine HT1.out.mono ?_
        rintro e w6 ⟨a1, k1, rfl, O1, S2, K1⟩
        have hS6 := HSB.out.kept K1 (by have := HGB.out; omega)
        obtain ⟨NL, hNL⟩ : ∃ NL, NL = L.length := ⟨_, rfl⟩
        obtain ⟨NO, hNO⟩ : ∃ NO, NO = (outL P L).length := ⟨_, rfl⟩
        have q6 : ∀ ty, (Builtin.len_ #[47] ty #[.map (some gb)]).run Tryd.prog w6 = .ok (.int .i64 (NL : Int)) w6 := fun ty => by rw [hNL]; exact hS6.leng ty
        have HNL := Lib.hid hNL
        have HNO := Lib.hid hNO
        have hNO16 : NO ≤ 16 := by rw [hNO]; exact Nat.le_trans (List.length_filter_le _ _) HF16.out
        have H6 := Lib.hid (And.intro S2 hS6)
        have HO1 := Lib.hid O1
        rw [← hNO]
        have HLM := Lib.hid HS.out.2.2
        clear S2 O1 K1 hS6 HT1 hNL hNO c0 c5
        go_wp2_with fail
        obtain ⟨w7, hw7⟩ : ∃ w7, w7 = w6 := ⟨_, rfl⟩
        subst hw7
        clear q6
        go_loopw [10] (fun i wq => ∃ j : Nat, j ≤ NO ∧ i = .int .i64 j ∧ Hid (One (· = gb) w w1 wq w.heap.size (leftL P L) ∧ SetAt Tryd.prog 44 Ev.val wq gb (struck L ((outL P L).take j)) ∧ Kept (· = gb) w7 wq)) (fun i _ => NO - (intOf i).toNat)
        case atStart => exact ⟨0, by omega, rfl, Lib.hid ⟨H6.out.1, by rw [List.take_zero, struck_nil]; exact H6.out.2, Kept.refl _ _⟩⟩
        case round =>
          obtain ⟨j, hj, rfl, HQ⟩ := hrel
          by_cases hlt3 : j < NO
          · obtain ⟨z, hz⟩ : ∃ z, (outL P L)[j]? = some z := ⟨_, List.getElem?_eq_getElem (by rw [← HNO.out]; exact hlt3)⟩
            have HZJ := Lib.hid hz
            obtain ⟨ga, rfl, hga0, hga, hra⟩ := HO1.out j z hz
            have hne : ¬ ga = gb := by have := HGBB.out; omega
            have hzL : z ∈ L := (List.mem_filter.1 (List.mem_of_getElem? hz)).1
            have hzh : hitB P z = true := (List.mem_filter.1 (List.mem_of_getElem? hz)).2
            have hzok := HLM.out.2 z hzL
            have hkx : ∀ o, Kept (· = gb) w7 (Wext wr o) := fun o => HQ.out.2.2.trans (Kept.of_below (Wext.below wr o) _)
            have hx : ∀ o i v, z.cells[i]? = some v → (Wext wr o).cell? ⟨ga, j * 4 + i, none⟩ = some v := fun o i v hv => ((hkx o).cell (p := ⟨ga, j * 4 + i, none⟩) hga hne).trans (hra i v hv)
            have x0 : ∀ o, (Wext wr o).cell? ⟨ga, j * 4, none⟩ = some (.int .i64 z.site) := fun o => hx o 0 _ rfl
            have x1 : ∀ o, (Wext wr o).cell? ⟨ga, j * 4 + 1, none⟩ = some (.int .u32 z.num) := fun o => hx o 1 _ rfl
            have x2 : ∀ o, (Wext wr o).cell? ⟨ga, j * 4 + 2, none⟩ = some (.string (bs z.path)) := fun o => hx o 2 _ rfl
            have x3 : ∀ o, (Wext wr o).cell? ⟨ga, j * 4 + 3, none⟩ = some (.bool z.kids) := fun o => hx o 3 _ rfl
            have hbo : ∀ o, Below w.heap.size w (Wext wr o) := fun o => HQ.out.1.below.trans ((Wext.below wr o).mono HQ.out.1.below.size)
            have y5 : ∀ o, (Wext wr o).cell? ⟨b, off + k * 6 + 5, none⟩ = some (.slice pa M pc) := fun o => by
              rw [HM2.out]
              exact range_kept HRG.out (hbo o) hb 5 _ rfl
            obtain ⟨lz, hlz⟩ := ev_key hzok.1
            have hSo : ∀ o, SetAt Tryd.prog 44 Ev.val (Wext wr o) gb (struck L ((outL P L).take j)) := fun o => HQ.out.2.1.kept (Kept.of_below (Wext.below wr o) Nothing) (fun e => e)
            have qz : ∀ o, (Instr.lookup 47 (.map (some gb)) (.agg #[.int .i64 z.site, .int .u32 z.num, .string (bs z.path), .bool z.kids]) false).run Tryd.prog (Wext wr o) = .ok (.bool true) (Wext wr o) := fun o => by
              have h := (hSo o).look key44 Ev.val_inj Tryd.underlying47 zero4 hlz
              rw [struck_has P L HLM.out.1.nodup j z HZJ.out] at h
              exact h
            have KT : Hid (∀ o, Calls Tryd.prog 17 #[(.agg #[.int .i64 z.site, .int .u32 z.num, .string (bs z.path), .bool z.kids]), .slice pa M pc] (Wext wr o) fun e w' => e = .returned (.bool true) ∧ ∃ o', w' = Wext wr o') := Lib.hid (fun o => by
              have h := lawTouched_any z pa pc P (Wext wr o) (HM.out.kept (hbo o)) HPB.out HPP.out ((HEW.out.kept (hbo o)).mono (hbo o).size)
              rw [hzh, ← HM2.out] at h
              exact h.mono fun e w' ⟨he, hb⟩ => ⟨he, below_ext ((Wext.below wr o).trans (hb.mono (Wext.below wr o).size))⟩)
            have HSO := Lib.hid hSo
            have HLZ := Lib.hid hlz
            clear hkx hx hbo hra hz hzL hzh hzok hSo hlz
            go_wp2_with fail
            refine wp_region_ext (by kernel_rfl) (by kernel_rfl) ?_
            repeat (go_big_quiet_step (first | (go_at_call 17; exact KT.out _)))
            refine wpQuiet_nil ?_
            intro w' hw'
            obtain ⟨oq, hw''⟩ := hw'
            subst hw''
            obtain ⟨od, hod⟩ := (HSO.out oq).drop key44 Ev.val_inj Tryd.underlying47 HLZ.out
            have g1 : ∀ ty, (Builtin.delete_ #[47, 44] ty #[.map (some gb), (.agg #[.int .i64 z.site, .int .u32 z.num, .string (bs z.path), .bool z.kids])]).run Tryd.prog (Wext wr oq) = .ok (.tuple #[]) (setBlock (Wext wr oq) gb od) := fun ty => (hod (Wext wr oq) ty rfl).1
            obtain ⟨_, g2, g3⟩ := hod (Wext wr oq) 0 rfl
            have HG := Lib.hid (And.intro g2 g3)
            clear hod g2 g3
            go_wp2
            go_roundw
            case rel =>
              refine ⟨j + 1, by omega, by go_num, Lib.hid ⟨?_, ?_, ?_⟩⟩
              · exact (HQ.out.1.other (Wext.below wr oq)).turn (fun k h => by subst h; exact HGW.out) HG.out.2
              · rw [List.take_add_one, HZJ.out, Option.toList_some, ← struck_succ]
                exact HG.out.1
              · exact (HQ.out.2.2.trans (Kept.of_below (Wext.below wr oq) _)).trans HG.out.2
            case measure => simp [intOf]; omega
          · obtain rfl : j = NO := by omega
            obtain ⟨NR, hNR⟩ : ∃ NR, NR = (leftL P L).length := ⟨_, rfl⟩
            have hst : struck L ((outL P L).take j) = leftL P L := by rw [HNO.out, List.take_length, struck_out]
            have hSQ := HQ.out.2.1
            rw [hst] at hSQ
            have q7 : ∀ ty, (Builtin.len_ #[47] ty #[.map (some gb)]).run Tryd.prog wr = .ok (.int .i64 (NR : Int)) wr := fun ty => by rw [hNR]; exact hSQ.leng ty
            have hsum : NL = j + NR := by rw [HNL.out, HNO.out, hNR]; exact out_left_len P L
            have hNR16 : NR ≤ 16 := by have := HF16.out; have := HNL.out; omega
            have s1 : IntKind.i64.wrap ((NL : Int) - (NR : Int)) = (j : Int) := by
              rw [show (NL : Int) - (NR : Int) = (j : Int) by omega]
              exact IntWalk.i64_in _ (by omega)
            have s2 : wrap64 ((NL : Int) - (NR : Int)) = (j : Int) := by unfold wrap64; omega
            have L1 := HQ.out.1.len
            have T2 := HQ.out.1.touch HM.out (by rw [← hNR]; exact hNR16) (P := P) (ao := pa) (c := pc) HPB.out HPP.out ((HEW.out.kept HQ.out.1.below).mono HQ.out.1.below.size)
            rw [← HM2.out, leftL_all, left_left] at T2
            rw [← hNR] at L1
            have HL1 := Lib.hid L1
            have HT2 := Lib.hid T2
            have HSQ := Lib.hid hSQ
            have y5 : wr.cell? ⟨b, off + k * 6 + 5, none⟩ = some (.slice pa M pc) := by
              rw [HM2.out]
              exact range_kept HRG.out HQ.out.1.below hb 5 _ rfl
            clear L1 T2 hSQ hNR hst hsum
            go_wp2_with fail
            refine HL1.out.mono ?_
            rintro e w9 ⟨rfl, rfl⟩
            go_wp2_with fail
            refine HT2.out.mono ?_
            rintro e w10 ⟨a2, k2, rfl, O2, S3, K3⟩
            have H3 := Lib.hid (And.intro S3 (HSQ.out.kept K3 (by have := HGB.out; omega)))
            clear O2 S3 K3 HT2 HL1 q7 s1 s2
            go_wp2
            go_roundw
            case rel => exact ⟨k + 1, by omega, by go_num, leftL P L, Lib.hid ⟨H3.out.1, H3.out.2, HLM.out.1.left P, fun e he => HLM.out.2 e (List.mem_filter.1 he).1⟩⟩
            case measure => simp [intOf]; omega
    · obtain rfl : k = N := by omega
      go_wp2_with fail
      refine (goes_true wr (HM.out.kept HS.out.1.below)).mono ?_
      rintro e wz ⟨rfl, Bz⟩
      go_wp2
      go_ret
      exact ⟨rfl, HS.out.1.below.trans (Bz.mono HS.out.1.below.size)⟩
end Go.Proofs.YtfbimhbdifmeoaaDoor
