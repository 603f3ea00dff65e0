/-
  The doer's one, walked.
  The doer's methods, each as one operation on the nodes.
-/
import Derived.Test.YtnclkfhdpkkakaaGreatDoorJOpOne0
import Derived.Test.YtnclkfhdpkkakaaGreatDoorJOp8k
import Derived.Test.YtnclkfhdpkkakaaGreatDoorJOpDoes
import Derived.Test.YtnclkfhdpkkakaaGreatDoorLater
namespace Go.Proofs.YtnclkfhdpkkakaaGreatDoor
set_option linter.unusedVariables false
set_option linter.unusedSimpArgs false
open Go Go.RowKit Go.Shelf Go.MapKept Go.ChangeMaps Go.Maps Go.Sort
/-- The result is laid into the function's own box. -/
theorem OpDone.box {X : Nat → Prop} {w0 w w2 w3 : World} {d b : Nat} {root : Bytes} {at_ cnt : Int} {M M' : List (Bytes × Nd)} {who : Sess} {v : Value} {E : List Eff} {A : Ans} {e : Ending} (h : OpDone X w0 w2 d b root at_ cnt M M' who v E A e w3) (hb : Below w.heap.size w w2) {B : Nat} (hB : w.heap.size ≤ B) (hB2 : B < w2.heap.size)
    (hk : w2.heap[B]? = some (.cells #[.int .i64 0, .string ⟨#[]⟩, .slice none 0 0, .int .u32 0, .int .u32 0, .int .u32 0, .int .i64 0, .int .u32 0, .int .u64 0, .int .u64 0, .int .u64 0, .slice none 0 0, .slice none 0 0] 43 (0, 0))) (hd : d < w.heap.size) (hbb : b < w.heap.size) (hv : ∀ k, v.ownBlock = some k → k < w.heap.size) (h0 : w0.heap.size ≤ w.heap.size) (cs : List Value) :
    OpDone X w0 w d b root at_ cnt M M' who v E A e (w3.setCells B 0 cs) := by
  obtain ⟨⟨v', L', r, ka, kc, he, D, G, hr, hkd⟩, K⟩ := h
  have k3 := (K.block B hB2 (fun e => by
    rcases e with e | e | e
    · omega
    · omega
    · have := hv B e; omega)).trans hk
  have K9 : Kept (· = B) w3 (w3.setCells B 0 cs) := Kept.setCells (S := (· = B)) (p := B) rfl _ 0 (Kept.refl _ w3)
  have D9 := D.turn k3 zr_free (by decide) (by decide) (by decide) (by omega) K9
  have hs := hb.size
  refine ⟨⟨v', L', r, ka, kc, he, D9, fun k e => (G k e).imp id (fun h => by omega), ?_, ?_⟩, ?_⟩
  · exact (hr.keptS K9 (fun k h1 _ e => by have e : k = B := e; have := h1.1; omega)).monoB (fun k h1 _ => ⟨by have := h1.1; omega, h1.2⟩)
  · exact (hkd.keptS K9 (fun k h1 _ e => by have e : k = B := e; have := h1.1; omega)).mono (fun k h1 _ => ⟨by have := h1.1; omega, h1.2⟩)
  · exact ((Kept.ofBelow hb).trans K).newK K9 hB
section
variable {X : Nat → Prop} {w0 w : World} {d b : Nat} {root : Bytes} {at_ cnt : Int} {M : List (Bytes × Nd)} {who : Sess} {v : Value} {L : List RawE} {E : List Eff}
/-- Behind a method. -/
def MethEnd (X : Nat → Prop) (w0 w : World) (d b : Nat) (root : Bytes) (at_ cnt : Int) (M : List (Bytes × Nd)) (who : Sess) (v : Value) (E : List Eff) (o : Opl) (e : Ending) (w' : World) : Prop :=
  (opE root M who o = 0 ∧ ∃ cnt', cnt ≤ cnt' ∧ cnt' ≤ cnt + 1 ∧ OpDone X w0 w d b root at_ cnt' M (opM root M at_ who o) who v (E ++ opXs root M at_ who o) (opA root M at_ who o) e w') ∨ (opE root M who o ≠ 0 ∧ OpFail w (opE root M who o) e w')
/-- Behind one. -/
def OneEnd (X : Nat → Prop) (w0 w : World) (d b : Nat) (root : Bytes) (at_ cnt : Int) (M : List (Bytes × Nd)) (who : Sess) (v : Value) (E : List Eff) (o : Opl) (e : Ending) (w' : World) : Prop :=
  (opE root M who o = 0 ∧ ∃ cnt', cnt ≤ cnt' ∧ cnt' ≤ cnt + 1 ∧ OpDone X w0 w d b root at_ cnt' M (opM root M at_ who o) who v (E ++ opXs root M at_ who o) (opA root M at_ who o) e w') ∨ (opE root M who o ≠ 0 ∧ e = .returned (.agg (repCells (opE root M who o) [] zRaw none 0 0 none 0 0).toArray) ∧ Below w.heap.size w w')
theorem opE_under {o : Opl} (h : underB o.path root = false) : opE root M who o = 30 := by unfold opE; rw [if_pos h]
set_option maxRecDepth 100000 in
theorem kTab_key {n f : Nat} (h : getA n kTab = some f) : ∃ l, keyOf Tryz.prog 5 (kVal n) = some l := by
  have hn : n = 1 ∨ n = 2 ∨ n = 3 ∨ n = 4 ∨ n = 5 ∨ n = 6 := by
    have := getA_none (a := n) (m := kTab)
    by_cases h1 : n = 1 ∨ n = 2 ∨ n = 3 ∨ n = 4 ∨ n = 5 ∨ n = 6
    · exact h1
    · have h2 : getA n kTab = none := this.2 (fun p hp => by
        simp [kTab] at hp
        rcases hp with rfl | rfl | rfl | rfl | rfl | rfl <;> (show _ ≠ n; simp; omega))
      rw [h2] at h
      cases h
  rcases hn with rfl | rfl | rfl | rfl | rfl | rfl <;> exact ⟨_, rfl⟩
theorem zeroFn {w : World} : (zeroValue 117).run Tryz.prog w = .ok .nilFunc w := by kernel_rfl
set_option maxRecDepth 100000 in
set_option maxHeartbeats 16000000 in
theorem DoerAt.one_any (D : DoerAt X w0 w d b root at_ cnt M who v L E) (r : RawO) (o : Opl) {lo : Nat → Prop} (hr : LeafO w lo r o) (hp : o.path.length ≤ 1000) (f : Nat) (hf : getA r.kind.toNat kTab = some f) (hk0 : 0 ≤ r.kind) (hcf : ∀ args w, (callFunc f args).run Tryz.prog w = .ok (.enter f args) w)
    (hm : underB o.path root = true → ∀ w', Below w.heap.size w w' → Calls Tryz.prog f #[.pointer (some ⟨d, 0, none⟩), r.val] w' (MethEnd X w0 w' d b root at_ cnt M who v E o)) :
    Calls Tryz.prog 35 #[.pointer (some ⟨d, 0, none⟩), r.val] w (OneEnd X w0 w d b root at_ cnt M who v E o) := by
  obtain ⟨ok, op, oa, on, oc, ov, os, oe, pa, pn, pc⟩ := r
  obtain ⟨okd, opp, odata, over, oseq, oeph⟩ := o
  obtain ⟨q1, q2, q3, q4, q5, q6, q7, q8⟩ := hr
  clear q1 q3 q4 q5 q6 q7 q8
  dsimp only at q2 hf hk0 hp hm
  subst q2
  obtain ⟨kn, rfl⟩ : ∃ kn : Nat, ok = kn := ⟨ok.toNat, by omega⟩
  rw [Int.toNat_natCast] at hf
  unfold RawO.val RawO.cells at hm ⊢
  dsimp only at hm ⊢
  obtain ⟨w1, hw1, hb1, hs1, k0, k1, ho1⟩ := op_boxes w (kn : Int) op oa on oc ov os oe pa pn pc
  have HSO : Hid ((Tryz.prog.info? 26).map (·.size) = some 7) := Lib.hid (by kernel_rfl)
  have HSR : Hid ((Tryz.prog.info? 43).map (·.size) = some 13) := Lib.hid infoReply13
  have D1 := D.below hb1
  have y1 : ∀ w', Below w1.heap.size w1 w' → w'.cell? ⟨w.heap.size, 1, none⟩ = some (.string (bs op)) := fun w' hb => (hb.cell (p := ⟨w.heap.size, 1, none⟩) (by show w.heap.size < w1.heap.size; omega)).trans (ho1 1 _ rfl)
  have y0 : ∀ w', Below w1.heap.size w1 w' → w'.cell? ⟨d, 0, none⟩ = some (.pointer (some ⟨b, 0, none⟩)) := fun w' hb => (hb.cell (p := ⟨d, 0, none⟩) D1.lt).trans D1.c0
  have HRT : Hid (∀ w', Below w1.heap.size w1 w' → Calls Tryz.prog 59 #[.pointer (some ⟨b, 0, none⟩)] w' fun e w'' => e = .returned (.string (bs root)) ∧ w'' = w') := Lib.hid fun w' hb => by
    obtain ⟨lo, mb, T⟩ := (D1.below hb).tree.tree
    exact T.root_any
  have HU := Lib.hid (later_under w1 D1.tree.max op root hp D.tree.rl)
  obtain ⟨t1, ht1⟩ : ∃ t1, t1 = underB op root := ⟨_, rfl⟩
  rw [← ht1] at HU
  have HT1 := Lib.hid ht1
  have HD := Lib.hid (And.intro D D1)
  have hdl := D.lt
  have HO1 := Lib.hid ho1
  have HM := Lib.hid hm
  have HFF := Lib.hid hf
  have H1 := Lib.hid (And.intro hb1 (And.intro hs1 (And.intro k0 (And.intro k1 hw1))))
  have hmf : ∀ (fn : Fn) (first cap : Array Value) (w : World), (Instr.makeFunc fn first cap).run Tryz.prog w = .ok (.func fn first cap) w := fun _ _ _ _ => rfl
  clear D D1 ht1 hb1 hs1 k0 k1 hw1 ho1 hm hf
  go_enter_defers Tryz.func35, Tryz.ntmps35
  go_wp2_with fail
  rw [← H1.out.2.2.2.2]
  refine region_panics (.pointer (some ⟨w.heap.size + 1, 0, none⟩)) [{ target := .fn (.func 57) #[.pointer (some ⟨w.heap.size + 1, 0, none⟩)], args := #[] }] (fun c w' => c = [{ v := errV 30, recovered := false }] ∧ t1 = false ∧ Below w1.heap.size w1 w') ?_ ?_
  · rintro chain a w' h1 h2 ⟨rfl, ht, hb⟩
    change Leaves _ _ a.tmps _ a.defers _ w'
    rw [h2]
    obtain ⟨hb1, hs1, k0, k1, _⟩ := H1.out
    have ht1 : w'.there (w.heap.size + 1) 0 13 := there_of ((hb.block _ (by omega)).trans k1) (by simp)
    have K9 : Kept (· = w.heap.size + 1) w' (w'.setCells (w.heap.size + 1) 0 [.int .i64 30, .string ⟨#[]⟩, .slice none 0 0, .int .u32 0, .int .u32 0, .int .u32 0, .int .i64 0, .int .u32 0, .int .u64 0, .int .u64 0, .int .u64 0, .slice none 0 0, .slice none 0 0]) := Kept.setCells (S := (· = w.heap.size + 1)) (p := w.heap.size + 1) rfl _ 0 (Kept.refl _ w')
    have hb2 : Below w.heap.size w w' := hb1.trans (hb.mono hb1.size)
    have he : opE root M who ⟨okd, op, odata, over, oseq, oeph⟩ = 30 := opE_under (by rw [← HT1.out]; exact ht)
    refine door_panics h1 ht1 (.inr ⟨by rw [he]; decide, by rw [he]; rfl, hb2.trans (K9.below hb2.size (fun k e => by have e : k = w.heap.size + 1 := e; omega))⟩)
  refine wp_region_held_drew (S := Below w1.heap.size w1) (by kernel_rfl) (Below.refl _ w1).drew (fun hS => ?_)
  refine took_in 0 rfl (by kernel_rfl) (by kernel_rfl) (by kernel_rfl) (by rfl) hS (fun w' hS' => by go_simp <;> rfl) (fun _ _ _ h => panicAt_put (by decide) h) ?_
  simp only [Act.put, List.setIfInBounds_toArray, List.set_cons_zero, List.set_cons_succ]
  refine took_in 1 rfl (by kernel_rfl) (by kernel_rfl) (by kernel_rfl) (by rfl) hS (fun w' hS' => by have := y1 w' hS'; go_simp <;> rfl) (fun _ _ _ h => panicAt_put (by decide) h) ?_
  simp only [Act.put, List.setIfInBounds_toArray, List.set_cons_zero, List.set_cons_succ]
  refine took_in 2 rfl (by kernel_rfl) (by kernel_rfl) (by kernel_rfl) (by rfl) hS (fun w' hS' => by go_simp <;> rfl) (fun _ _ _ h => panicAt_put (by decide) h) ?_
  simp only [Act.put, List.setIfInBounds_toArray, List.set_cons_zero, List.set_cons_succ]
  refine took_in 3 rfl (by kernel_rfl) (by kernel_rfl) (by kernel_rfl) (by rfl) hS (fun w' hS' => by go_simp <;> rfl) (fun _ _ _ h => panicAt_put (by decide) h) ?_
  simp only [Act.put, List.setIfInBounds_toArray, List.set_cons_zero, List.set_cons_succ]
  refine took_in 4 rfl (by kernel_rfl) (by kernel_rfl) (by kernel_rfl) (by rfl) hS (fun w' hS' => by go_simp <;> rfl) (fun _ _ _ h => panicAt_put (by decide) h) ?_
  simp only [Act.put, List.setIfInBounds_toArray, List.set_cons_zero, List.set_cons_succ]
  refine took_in 5 rfl (by kernel_rfl) (by kernel_rfl) (by kernel_rfl) (by rfl) hS (fun w' hS' => by have := y0 w' hS'; go_simp <;> rfl) (fun _ _ _ h => panicAt_put (by decide) h) ?_
  simp only [Act.put, List.setIfInBounds_toArray, List.set_cons_zero, List.set_cons_succ]
  refine call_in 6 rfl (by kernel_rfl) (by rfl) _ _ (by go_simp <;> first | rfl | exact ⟨rfl, rfl⟩) ?_
  refine (HRT.out _ hS).mono ?_
  rintro e w2 ⟨rfl, rfl⟩
  refine ⟨hS, ?_⟩
  try dsimp only
  simp only [Act.put, List.setIfInBounds_toArray, List.set_cons_zero, List.set_cons_succ]
  refine call_in 7 rfl (by kernel_rfl) (by rfl) _ _ (by go_simp <;> first | rfl | exact ⟨rfl, rfl⟩) ?_
  refine (HU.out _ (hS)).mono ?_
  rintro e w2 ⟨rfl, B2⟩
  refine ⟨B2, ?_⟩
  try dsimp only
  simp only [Act.put, List.setIfInBounds_toArray, List.set_cons_zero, List.set_cons_succ]
  refine call_in 8 rfl (by kernel_rfl) (by rfl) _ _ (by go_simp <;> first | rfl | exact ⟨rfl, rfl⟩) ?_
  refine (must_any _ _ _).mono ?_
  rintro e w2' ⟨rfl, (⟨ht, rfl⟩ | ⟨ht, rfl⟩)⟩
  rotate_left
  · exact ⟨rfl, rfl, rfl, ht, B2⟩
  refine ⟨B2, ?_⟩
  have HB2 := Lib.hid (And.intro B2 (HT1.out.symm.trans ht))
  clear hS B2 ht y0
  try dsimp only
  simp only [Act.put, List.setIfInBounds_toArray, List.set_cons_zero, List.set_cons_succ]
  refine wpAnyH_done (by kernel_rfl) ?_ _
  simp only [PanicAt]
  go_wp2_with fail
  -- the method
  have hR2 : Hid (w2.drew.rangeAt w.heap.size 0 [.int .u8 (kn : Int), .string (bs op), .slice oa on oc, .int .i64 ov, .bool os, .bool oe, .slice pa pn pc]) := Lib.hid (range_kept HO1.out HB2.out.1.drew (by have := H1.out.2.1; omega))
  have HDO := Lib.hid (does_ok w2.drew)
  refine region_panics (.pointer (some ⟨w.heap.size + 1, 0, none⟩)) [{ target := .fn (.func 57) #[.pointer (some ⟨w.heap.size + 1, 0, none⟩)], args := #[] }] (fun c w' => c = [{ v := errV (opE root M who ⟨okd, op, odata, over, oseq, oeph⟩), recovered := false }] ∧ opE root M who ⟨okd, op, odata, over, oseq, oeph⟩ ≠ 0 ∧ Below w1.heap.size w1 w') ?_ ?_
  · rintro chain a w' h1 h2 ⟨rfl, hx, hb⟩
    change Leaves _ _ a.tmps _ a.defers _ w'
    rw [h2]
    obtain ⟨hb1, hs1, k0, k1, _⟩ := H1.out
    have ht1 : w'.there (w.heap.size + 1) 0 13 := there_of ((hb.block _ (by omega)).trans k1) (by simp)
    have K9 : Kept (· = w.heap.size + 1) w' (w'.setCells (w.heap.size + 1) 0 [.int .i64 (opE root M who ⟨okd, op, odata, over, oseq, oeph⟩), .string ⟨#[]⟩, .slice none 0 0, .int .u32 0, .int .u32 0, .int .u32 0, .int .i64 0, .int .u32 0, .int .u64 0, .int .u64 0, .int .u64 0, .slice none 0 0, .slice none 0 0]) := Kept.setCells (S := (· = w.heap.size + 1)) (p := w.heap.size + 1) rfl _ 0 (Kept.refl _ w')
    have hb2 : Below w.heap.size w w' := hb1.trans (hb.mono hb1.size)
    exact door_panics h1 ht1 (.inr ⟨hx, rfl, hb2.trans (K9.below hb2.size (fun k e => by have e : k = w.heap.size + 1 := e; omega))⟩)
  refine wp_region_held_drew (S := fun w' => World.rangeAt w' w.heap.size 0 [.int .u8 (kn : Int), .string (bs op), .slice oa on oc, .int .i64 ov, .bool os, .bool oe, .slice pa pn pc]) (by kernel_rfl) hR2.out (fun hS => ?_)
  have yk : ∀ w', World.rangeAt w' w.heap.size 0 [.int .u8 (kn : Int), .string (bs op), .slice oa on oc, .int .i64 ov, .bool os, .bool oe, .slice pa pn pc] → w'.cell? ⟨w.heap.size, 0, none⟩ = some (.int .u8 (kn : Int)) := fun w' h => h 0 _ rfl
  refine took_in 1 rfl (by kernel_rfl) (by kernel_rfl) (by kernel_rfl) (by rfl) hS (fun w' hS' => by go_simp <;> rfl) (fun _ _ _ h => panicAt_put (by decide) h) ?_
  simp only [Act.put, List.setIfInBounds_toArray, List.set_cons_zero, List.set_cons_succ]
  refine took_in 2 rfl (by kernel_rfl) (by kernel_rfl) (by kernel_rfl) (by rfl) hS (fun w' hS' => by have := yk w' hS'; go_simp <;> rfl) (fun _ _ _ h => panicAt_put (by decide) h) ?_
  simp only [Act.put, List.setIfInBounds_toArray, List.set_cons_zero, List.set_cons_succ]
  refine took_in 4 rfl (by kernel_rfl) (by kernel_rfl) (by kernel_rfl) (by rfl) hS (fun w' hS' => by go_simp <;> rfl) (fun _ _ _ h => panicAt_put (by decide) h) ?_
  simp only [Act.put, List.setIfInBounds_toArray, List.set_cons_zero, List.set_cons_succ]
  refine took_load 5 rfl (by kernel_rfl) (by kernel_rfl) (by kernel_rfl) (by rfl) hS 26 (.tmp 3) rfl w.heap.size 0 rfl [.int .u8 (kn : Int), .string (bs op), .slice oa on oc, .int .i64 ov, .bool os, .bool oe, .slice pa pn pc] _ (fun _ h => h) Tryz.underlying26 rfl HSO.out (fun _ _ _ h => panicAt_put (by decide) h) ?_
  simp only [Act.put, List.setIfInBounds_toArray, List.set_cons_zero, List.set_cons_succ]
  refine call_in 0 rfl (by kernel_rfl) (by rfl) _ _ (by go_simp <;> first | rfl | exact ⟨rfl, rfl⟩) ?_
  refine HDO.out.mono ?_
  rintro e w3 ⟨mb, rfl, HT, hmb, B3'⟩
  have B3 : Below w2.heap.size w2 w3 := (Below.refl _ w2).drew.trans B3'
  have B13 : Below w1.heap.size w1 w3 := HB2.out.1.trans (B3.mono HB2.out.1.size)
  have hS3 : World.rangeAt w3 w.heap.size 0 [.int .u8 (kn : Int), .string (bs op), .slice oa on oc, .int .i64 ov, .bool os, .bool oe, .slice pa pn pc] := range_kept HO1.out B13 (by have := H1.out.2.1; omega)
  have hlk : (Instr.lookup 116 (.map (some mb)) (.int .u8 (kn : Int)) false).run Tryz.prog w3 = .ok (.func (.func f) #[] #[]) w3 := by
    obtain ⟨l, hl⟩ := kTab_key HFF.out
    have h := HasMap.lookup HT keyU8 kVal_inj Tryz.underlying116 zeroFn (a := kn) hl
    rw [HFF.out] at h
    exact h
  have H3 := Lib.hid (And.intro B3 B13)
  have HM3 := Lib.hid (HM.out HB2.out.2 w3 (H1.out.1.trans (B13.mono H1.out.1.size)))
  clear B3 B3' B13 HT hmb
  refine ⟨hS3, ?_⟩
  try dsimp only
  simp only [Act.put, List.setIfInBounds_toArray, List.set_cons_zero, List.set_cons_succ]
  refine give_in 3 rfl (by kernel_rfl) (by rfl) (.func (.func f) #[] #[]) w3 (by have := hlk; go_simp <;> first | rfl | exact ⟨rfl, rfl⟩) hS3 ?_
  clear hlk
  simp only [Act.put, List.setIfInBounds_toArray, List.set_cons_zero, List.set_cons_succ]
  refine call_in 6 rfl (by kernel_rfl) (by rfl) _ _ (by have := hcf; go_simp <;> first | rfl | exact ⟨rfl, rfl⟩) ?_
  refine HM3.out.mono ?_
  rintro e w5 (⟨hx0, cnt2, c1, c2, OD⟩ | ⟨hx, rfl, B5⟩)
  rotate_left
  · unfold panicV
    exact ⟨rfl, rfl, rfl, hx, H3.out.2.trans (B5.mono H3.out.2.size)⟩
  obtain ⟨v5, L5, ⟨ra, rn, rc, ⟨r1, r2, r3, r4, r5, r6, r7, r8⟩⟩, ka, kc, he, _⟩ := OD.ret
  subst he
  have HOD := Lib.hid OD
  have hs1 := H1.out.2.1
  have hs13 := H3.out.2.size
  have hvl : ∀ k, v.ownBlock = some k → k < w.heap.size := fun k h => (HD.out.1.row.own.lt k h).2
  have hbb := HD.out.1.tree.lt
  have hnk : ∀ k, w.heap.size ≤ k → ¬ (k = b ∨ k = d ∨ v.ownBlock = some k) := fun k hk h => by
    rcases h with h | h | h
    · omega
    · omega
    · have := hvl k h; omega
  have hS5 : World.rangeAt w5 w.heap.size 0 [.int .u8 (kn : Int), .string (bs op), .slice oa on oc, .int .i64 ov, .bool os, .bool oe, .slice pa pn pc] := fun j u hu => (OD.kept.cell (p := ⟨w.heap.size, 0 + j, none⟩) (by show w.heap.size < w3.heap.size; omega) (hnk _ (Nat.le_refl _))).trans (hS3 j u hu)
  have kb3 := (H3.out.2.block (w.heap.size + 1) (by omega)).trans H1.out.2.2.2.1
  have ht5 : w5.there (w.heap.size + 1) 0 13 := there_of ((OD.kept.block (w.heap.size + 1) (by omega) (hnk _ (Nat.le_succ _))).trans kb3) (by simp)
  have HK3 := Lib.hid (And.intro kb3 ht5)
  have HNK := Lib.hid (And.intro hvl hbb)
  clear OD kb3 ht5 hs1 hs13 hvl hbb hnk
  obtain ⟨px, hpx⟩ : ∃ px, px = (opA root M at_ who ⟨okd, op, odata, over, oseq, oeph⟩).path := ⟨_, rfl⟩
  obtain ⟨kl, hkl⟩ : ∃ kl, kl = (opA root M at_ who ⟨okd, op, odata, over, oseq, oeph⟩).kids.length := ⟨_, rfl⟩
  rw [← hpx, ← hkl] at HOD
  rw [← hpx, ← hkl]
  clear hpx hkl
  unfold repCells Raw.cells Nums.cells
  try dsimp only [List.cons_append, List.nil_append]
  refine ⟨hS5, ?_⟩
  try dsimp only
  simp only [Act.put, List.setIfInBounds_toArray, List.set_cons_zero, List.set_cons_succ]
  have HON : Hid ((#[.int .i64 0, .string (bs px), .slice ra rn rc, .int .u32 r1, .int .u32 r2, .int .u32 r3, .int .i64 r4, .int .u32 r5, .int .u64 r6, .int .u64 r7, .int .u64 r8, .slice ka kl kc, .slice none 0 0] : Array Value).all (·.oneCell') = true) := Lib.hid (by simp [Value.oneCell'])
  refine store_in 7 rfl (by kernel_rfl) (by rfl) 43 (.tmp 4) (.tmp 21) rfl (w.heap.size + 1) 0 #[.int .i64 0, .string (bs px), .slice ra rn rc, .int .u32 r1, .int .u32 r2, .int .u32 r3, .int .i64 r4, .int .u32 r5, .int .u64 r6, .int .u64 r7, .int .u64 r8, .slice ka kl kc, .slice none 0 0] rfl rfl HK3.out.2 HSR.out HON.out (range_set hS5 (by omega)) ?_
  simp only [Act.put, List.setIfInBounds_toArray, List.set_cons_zero, List.set_cons_succ]
  refine wpAnyH_done (by kernel_rfl) ?_ _
  simp only [PanicAt]
  go_wp2_with fail
  refine door_returns rfl (World.rangeAt_setCells_same _ _ _ _ HK3.out.2) rfl (.inl ⟨hx0, cnt2, c1, c2, ?_⟩)
  exact HOD.out.box (H1.out.1.trans (H3.out.2.mono H1.out.1.size)) (Nat.le_succ _) (by have := H1.out.2.1; have := H3.out.2.size; omega) HK3.out.1 hdl HNK.out.2 HNK.out.1 HD.out.1.tree.bl.size _
end
end Go.Proofs.YtnclkfhdpkkakaaGreatDoor

namespace Go.Proofs.YtnclkfhdpkkakaaGreatDoor
set_option linter.unusedVariables false
set_option linter.unusedSimpArgs false
open Go Go.RowKit Go.Shelf Go.MapKept Go.ChangeMaps Go.Maps Go.Sort
section
variable {X : Nat → Prop} {w0 w : World} {d b : Nat} {root : Bytes} {at_ cnt : Int} {M : List (Bytes × Nd)} {who : Sess} {v : Value} {L : List RawE} {E : List Eff}
theorem opE_is {o : Opl} (hu : underB o.path root = true) : opE root M who o = if o.kind = 1 then createE root M who o else if o.kind = 2 then removeE root M o else if o.kind = 3 ∨ o.kind = 4 then verE M o else if (getA o.path M).isSome = false then 31 else 0 := by
  unfold opE
  rw [if_neg (by rw [hu]; simp)]
/-- An operation that only reads, done. -/
theorem meth_read {o : Opl} {A : Ans} {e : Ending} {w' : World} (h0 : opE root M who o = 0) (hk : 4 ≤ o.kind) (hA : opA root M at_ who o = A) (h : OpDone X w0 w d b root at_ cnt M M who v E A e w') : MethEnd X w0 w d b root at_ cnt M who v E o e w' := by
  refine .inl ⟨h0, cnt, Int.le_refl _, by omega, ?_⟩
  have e1 : opM root M at_ who o = M := by
    unfold opM
    rw [if_neg (by simpa using h0), if_neg (by omega), if_neg (by omega), if_neg (by omega)]
  have e2 : opXs root M at_ who o = [] := by
    unfold opXs opX
    rw [if_neg (by simpa using h0), if_neg (by omega), if_neg (by omega), if_neg (by omega)]
  rw [e1, e2, List.append_nil, hA]
  exact h
theorem meth_err {o : Opl} {x : Int} {e : Ending} {w' : World} (h : opE root M who o = x) (hx : x ≠ 0) (hf : OpFail w x e w') : MethEnd X w0 w d b root at_ cnt M who v E o e w' := .inr ⟨by rw [h]; exact hx, by rw [h]; exact hf⟩
theorem node_is {p : Bytes} {nd : Nd} (h : getA p M = some nd) : nodeAt M p = nd := by unfold nodeAt; rw [h]; rfl
theorem DoerAt.meth_get (D : DoerAt X w0 w d b root at_ cnt M who v L E) (r : RawO) (o : Opl) {lo : Nat → Prop} (hr : LeafO w lo r o) (hp : o.path.length ≤ 1000) (hu : underB o.path root = true) (hk : o.kind = 5) :
    Calls Tryz.prog 89 #[.pointer (some ⟨d, 0, none⟩), r.val] w (MethEnd X w0 w d b root at_ cnt M who v E o) := by
  have hE := opE_is (M := M) (who := who) hu
  rw [if_neg (by omega), if_neg (by omega), if_neg (by omega)] at hE
  cases hg : getA o.path M with
  | none => exact (D.get_none r o hr hp hg).mono fun e w' h => meth_err (by rw [hE, hg]; rfl) (by decide) h
  | some nd =>
    refine (D.get_ok r o hr hp hg).mono fun e w' h => meth_read (by rw [hE, hg]; rfl) (by omega) ?_ h
    unfold opA
    rw [if_neg (by omega), if_neg (by omega), if_neg (by omega), if_neg (by omega), node_is hg]
theorem DoerAt.meth_kids (D : DoerAt X w0 w d b root at_ cnt M who v L E) (r : RawO) (o : Opl) {lo : Nat → Prop} (hr : LeafO w lo r o) (hp : o.path.length ≤ 1000) (hu : underB o.path root = true) (hk : o.kind = 6) :
    Calls Tryz.prog 90 #[.pointer (some ⟨d, 0, none⟩), r.val] w (MethEnd X w0 w d b root at_ cnt M who v E o) := by
  have hE := opE_is (M := M) (who := who) hu
  rw [if_neg (by omega), if_neg (by omega), if_neg (by omega)] at hE
  cases hg : getA o.path M with
  | none => exact (D.kids_none r o hr hp hg).mono fun e w' h => meth_err (by rw [hE, hg]; rfl) (by decide) h
  | some nd =>
    refine (D.kids_ok r o hr hp hg).mono fun e w' h => meth_read (by rw [hE, hg]; rfl) (by omega) ?_ h
    unfold opA
    rw [if_neg (by omega), if_neg (by omega), if_neg (by omega), if_pos hk, node_is hg]
theorem DoerAt.meth_check (D : DoerAt X w0 w d b root at_ cnt M who v L E) (r : RawO) (o : Opl) {lo : Nat → Prop} (hr : LeafO w lo r o) (hp : o.path.length ≤ 1000) (hu : underB o.path root = true) (hk : o.kind = 4) :
    Calls Tryz.prog 88 #[.pointer (some ⟨d, 0, none⟩), r.val] w (MethEnd X w0 w d b root at_ cnt M who v E o) := by
  have hE := opE_is (M := M) (who := who) hu
  rw [if_neg (by omega), if_neg (by omega), if_pos (by omega)] at hE
  by_cases hv : verE M o = 0
  · obtain ⟨nd, hg, hn⟩ := ver_there hv
    refine (D.check_ok r o hr hp hg hn).mono fun e w' h => meth_read (by rw [hE, hv]) (by omega) ?_ h
    unfold opA
    rw [if_neg (by omega), if_neg (by omega), if_neg (by omega), if_neg (by omega), node_is hg]
  · exact (D.check_err r o hr hp rfl hv).mono fun e w' h => meth_err hE hv h
theorem DoerAt.meth_set (D : DoerAt X w0 w d b root at_ cnt M who v L E) (h0 : 0 ≤ cnt) (h1 : cnt ≤ 100000) (hsz : E.length ≤ 900) (r : RawO) (o : Opl) {lo : Nat → Prop} (hr : LeafO w lo r o) (hlo : ∀ k, lo k → v.ownBlock ≠ some k ∧ ¬ X k) (hp : o.path.length ≤ 1000) (hdl : o.data.length ≤ 1000000) (hu : underB o.path root = true) (hk : o.kind = 3) :
    Calls Tryz.prog 87 #[.pointer (some ⟨d, 0, none⟩), r.val] w (MethEnd X w0 w d b root at_ cnt M who v E o) := by
  have hE := opE_is (M := M) (who := who) hu
  rw [if_neg (by omega), if_neg (by omega), if_pos (by omega)] at hE
  by_cases hv : verE M o = 0
  · have h0' : opE root M who o = 0 := by rw [hE, hv]
    have e1 : opM root M at_ who o = setM M at_ o := by
      unfold opM
      rw [if_neg (by simpa using h0'), if_neg (by omega), if_neg (by omega), if_pos hk]
    have e2 : opXs root M at_ who o = setX M at_ o := by
      unfold opXs opX
      rw [if_neg (by simpa using h0'), if_neg (by omega), if_neg (by omega), if_pos hk]
    have e3 : opA root M at_ who o = ⟨o.path, setN (nodeAt M o.path) o.data at_, []⟩ := by
      unfold opA
      rw [if_neg (by omega), if_neg (by omega), if_pos hk]
    refine (D.set_ok h0 h1 hsz r o hr hlo hp hdl hv).mono fun e w' h => .inl ⟨h0', cnt + 1, by omega, by omega, ?_⟩
    rw [e1, e2, e3]
    exact h
  · exact (D.set_err r o hr hp rfl hv).mono fun e w' h => meth_err hE hv h
theorem DoerAt.meth_remove (D : DoerAt X w0 w d b root at_ cnt M who v L E) (h0 : 0 ≤ cnt) (h1 : cnt ≤ 100000) (hsz : E.length ≤ 900) (r : RawO) (o : Opl) {lo : Nat → Prop} (hr : LeafO w lo r o) (hp : o.path.length ≤ 1000) (hu : underB o.path root = true) (hk : o.kind = 2) :
    Calls Tryz.prog 86 #[.pointer (some ⟨d, 0, none⟩), r.val] w (MethEnd X w0 w d b root at_ cnt M who v E o) := by
  have hE := opE_is (M := M) (who := who) hu
  rw [if_neg (by omega), if_pos hk] at hE
  refine (D.remove_any h0 h1 hsz r o hr hp rfl).mono fun e w' h => ?_
  rcases h with ⟨hx, h⟩ | ⟨hx, h⟩
  · have h0' : opE root M who o = 0 := by rw [hE, hx]
    have e1 : opM root M at_ who o = removeM M at_ o := by
      unfold opM
      rw [if_neg (by simpa using h0'), if_neg (by omega), if_pos hk]
    have e2 : opXs root M at_ who o = removeX M at_ o := by
      unfold opXs opX
      rw [if_neg (by simpa using h0'), if_neg (by omega), if_pos hk]
    have e3 : opA root M at_ who o = ⟨o.path, zNd, []⟩ := by
      unfold opA
      rw [if_neg (by omega), if_pos hk]
    refine .inl ⟨h0', cnt + 1, by omega, by omega, ?_⟩
    rw [e1, e2, e3]
    exact h
  · exact meth_err hE hx h
end
end Go.Proofs.YtnclkfhdpkkakaaGreatDoor
