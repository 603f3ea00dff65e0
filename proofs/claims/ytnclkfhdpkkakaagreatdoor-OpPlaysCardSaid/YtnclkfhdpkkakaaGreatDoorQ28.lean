/-
  A function that recovers: its post at a panic; its door. The doer's one, walked. The doer's methods, each as one operation on the nodes. Replies as they lie; a row of replies that the call builds. Check, walked: any operation, however deep.
-/
import Derived.Test.YtnclkfhdpkkakaaGreatDoorQ27
import Derived.Defers
import Derived.Test.YtnclkfhdpkkakaaGreatDoorQ19
import Derived.Test.YtnclkfhdpkkakaaGreatDoorQ16
import Derived.Test.YtnclkfhdpkkakaaGreatDoorQ7
import Derived.Test.YtnclkfhdpkkakaaGreatDoorQ25
namespace Go.Proofs.YtnclkfhdpkkakaaGreatDoor
set_option linter.unusedVariables false
set_option linter.unusedSimpArgs false
open Go Go.RowKit Go.Shelf Go.MapKept Go.ChangeMaps Go.Maps Go.Sort
def PanicAt (p : Value) (ds : List Deferred) (R : List PanicEntry → World → Prop) (K : Act → World → Prop) : Exit → Act → World → Prop
 | .panic c, a, w => a.tmps.getD 4 undef = p ∧ a.defers = ds ∧ R c w
 | .normal, a, w => K a w
 | _, _, _ => False
theorem panicAt_put {p : Value} {ds : List Deferred} {R : List PanicEntry → World → Prop} {K : Act → World → Prop} {c : List PanicEntry} {a : Act} {dst : Option Tmp} {v : Value} {w : World} (hd : dst ≠ some 4) (h : PanicAt p ds R K (.panic c) (a.put dst v) w) : PanicAt p ds R K (.panic c) a w := by
 obtain ⟨h1, h2, h3⟩ := h
 cases dst with
 | none => exact ⟨h1, h2, h3⟩
 | some k =>
  refine ⟨?_, h2, h3⟩
  have hk : k ≠ 4 := fun e => hd (by rw [e])
  rw [← h1]
  simp [Act.put, Array.getD_eq_getD_getElem?, Array.getElem?_setIfInBounds, hk]
theorem region_panics {P : Program} {c : Code} {Q : Exit → Act → World → Prop} {a : Act} {w : World} (p : Value) (ds : List Deferred) (R : List PanicEntry → World → Prop)
  (hp : ∀ chain a w, a.tmps.getD 4 undef = p → a.defers = ds → R chain w → Q (.panic chain) a w)
  (h : c.wp P (PanicAt p ds R (Q .normal)) a w) : c.wp P Q a w := by
 refine Code.wp_mono ?_ h
 intro e a w h
 cases e with
 | normal => exact h
 | panic c => exact hp c a w h.1 h.2.1 h.2.2
 | _ => exact (h : False).elim
theorem infoReply13 : (Tryz.prog.info? 43).map (·.size) = some 13 := by kernel_rfl
theorem door_panics {tmps : Array Value} {B : Nat} {x : Int} {w' : World} {R : Ending → World → Prop} (hp : tmps.getD 4 undef = .pointer (some ⟨B, 0, none⟩)) (ht : w'.there B 0 13)
  (hR : R (.returned (.agg #[.int .i64 x, .string ⟨#[]⟩, .slice none 0 0, .int .u32 0, .int .u32 0, .int .u32 0, .int .i64 0, .int .u32 0, .int .u64 0, .int .u64 0, .int .u64 0, .slice none 0 0, .slice none 0 0])) (w'.setCells B 0 [.int .i64 x, .string ⟨#[]⟩, .slice none 0 0, .int .u32 0, .int .u32 0, .int .u32 0, .int .i64 0, .int .u32 0, .int .u64 0, .int .u64 0, .int .u64 0, .slice none 0 0, .slice none 0 0])) :
  Leaves Tryz.prog Tryz.f35 tmps R [{ target := .fn (.func 57) #[.pointer (some ⟨B, 0, none⟩)], args := #[] }] (.panicking [{ v := errV x, recovered := false }]) w' := by
 refine leaves_cons (f := 57) (args := #[.pointer (some ⟨B, 0, none⟩)]) (by simp) (by simp [go_sem]) ?_
 refine (catch_panicking B x [] w' ht).mono ?_
 rintro e u' w'' ⟨rfl, rfl, rfl⟩
 exact ⟨_, results_cell_mid rfl tmps _ B 0 [.int .i64 x, .string ⟨#[]⟩, .slice none 0 0, .int .u32 0, .int .u32 0, .int .u32 0, .int .i64 0, .int .u32 0, .int .u64 0, .int .u64 0, .int .u64 0, .slice none 0 0, .slice none 0 0] _ hp (World.rangeAt_setCells_same _ _ _ _ ht) Tryz.underlying43 rfl infoReply13, hR⟩
theorem door_returns {tmps : Array Value} {B : Nat} {cs : List Value} {w' : World} {R : Ending → World → Prop} (hp : tmps.getD 4 undef = .pointer (some ⟨B, 0, none⟩)) (hc : w'.rangeAt B 0 cs) (hl : cs.length = 13)
  (hR : R (.returned (.agg cs.toArray)) w') :
  Leaves Tryz.prog Tryz.f35 tmps R [{ target := .fn (.func 57) #[.pointer (some ⟨B, 0, none⟩)], args := #[] }] .returning w' := by
 refine leaves_cons (f := 57) (args := #[.pointer (some ⟨B, 0, none⟩)]) (by simp) (by simp [go_sem]) ?_
 refine (catch_idle ⟨B, 0, none⟩ w').mono ?_
 rintro e u' w'' ⟨rfl, rfl, rfl⟩
 exact ⟨_, results_cell_mid rfl tmps _ B 0 cs _ hp hc Tryz.underlying43 rfl (by rw [hl]; exact infoReply13), hR⟩
end Go.Proofs.YtnclkfhdpkkakaaGreatDoor
namespace Go.Proofs.YtnclkfhdpkkakaaGreatDoor
set_option linter.unusedVariables false
set_option linter.unusedSimpArgs false
open Go Go.RowKit Go.Shelf Go.MapKept Go.ChangeMaps Go.Maps Go.Sort
theorem OpDone.box {X : Nat → Prop} {w0 w w2 w3 : World} {d b : Nat} {root : Bytes} {at_ cnt : Int} {M M' : List (Bytes × Nd)} {who : Sess} {v : Value} {E : List Eff} {A : Ans} {e : Ending} (h : OpDone X w0 w2 d b root at_ cnt M M' who v E A e w3) (hb : Below w.heap.size w w2) {B : Nat} (hB : w.heap.size ≤ B) (hB2 : B < w2.heap.size)
  (hk : w2.heap[B]? = some (.cells #[.int .i64 0, .string ⟨#[]⟩, .slice none 0 0, .int .u32 0, .int .u32 0, .int .u32 0, .int .i64 0, .int .u32 0, .int .u64 0, .int .u64 0, .int .u64 0, .slice none 0 0, .slice none 0 0] 43 (0, 0))) (hd : d < w.heap.size) (hbb : b < w.heap.size) (hv : ∀ k, v.ownBlock = some k → k < w.heap.size) (h0 : w0.heap.size ≤ w.heap.size) (cs : List Value) :
  OpDone X w0 w d b root at_ cnt M M' who v E A e (w3.setCells B 0 cs) := by
 obtain ⟨⟨v', L', r, ka, kc, he, D, G, hr, hkd⟩, K⟩ := h
 have k3 := (K.block B hB2 (fun e => by
  rcases e with e | e | e
  ·omega
  ·omega
  ·have := hv B e; omega)).trans hk
 have K9 : Kept (· = B) w3 (w3.setCells B 0 cs) := Kept.setCells (S := (· = B)) (p := B) rfl _ 0 (Kept.refl _ w3)
 have D9 := D.turn k3 zr_free (by decide) (by decide) (by decide) (by omega) K9
 have hs := hb.size
 refine ⟨⟨v', L', r, ka, kc, he, D9, fun k e => (G k e).imp id (fun h => by omega), ?_, ?_⟩, ?_⟩
 ·exact (hr.keptS K9 (fun k h1 _ e => by have e : k = B := e; have := h1.1; omega)).monoB (fun k h1 _ => ⟨by have := h1.1; omega, h1.2⟩)
 ·exact (hkd.keptS K9 (fun k h1 _ e => by have e : k = B := e; have := h1.1; omega)).mono (fun k h1 _ => ⟨by have := h1.1; omega, h1.2⟩)
 ·exact ((Kept.ofBelow hb).trans K).newK K9 hB
section
variable {X : Nat → Prop} {w0 w : World} {d b : Nat} {root : Bytes} {at_ cnt : Int} {M : List (Bytes × Nd)} {who : Sess} {v : Value} {L : List RawE} {E : List Eff}
def MethEnd (X : Nat → Prop) (w0 w : World) (d b : Nat) (root : Bytes) (at_ cnt : Int) (M : List (Bytes × Nd)) (who : Sess) (v : Value) (E : List Eff) (o : Opl) (e : Ending) (w' : World) : Prop :=
 (opE root M who o = 0 ∧ ∃ cnt', cnt ≤ cnt' ∧ cnt' ≤ cnt + 1 ∧ OpDone X w0 w d b root at_ cnt' M (opM root M at_ who o) who v (E ++ opXs root M at_ who o) (opA root M at_ who o) e w') ∨ (opE root M who o ≠ 0 ∧ OpFail w (opE root M who o) e w')
def OneEnd (X : Nat → Prop) (w0 w : World) (d b : Nat) (root : Bytes) (at_ cnt : Int) (M : List (Bytes × Nd)) (who : Sess) (v : Value) (E : List Eff) (o : Opl) (e : Ending) (w' : World) : Prop :=
 (opE root M who o = 0 ∧ ∃ cnt', cnt ≤ cnt' ∧ cnt' ≤ cnt + 1 ∧ OpDone X w0 w d b root at_ cnt' M (opM root M at_ who o) who v (E ++ opXs root M at_ who o) (opA root M at_ who o) e w') ∨ (opE root M who o ≠ 0 ∧ e = .returned (.agg (repCells (opE root M who o) [] zRaw none 0 0 none 0 0).toArray) ∧ Below w.heap.size w w')
theorem opE_under {o : Opl} (h : underB o.path root = false) : opE root M who o = 30 := by unfold opE; rw [if_pos h]
set_option maxRecDepth 100000 in
theorem kTab_key {n f : Nat} (h : getA n kTab = some f) : ∃ l, keyOf Tryz.prog 5 (kVal n) = some l := by
 have hn : n = 1 ∨ n = 2 ∨ n = 3 ∨ n = 4 ∨ n = 5 ∨ n = 6 := by
  have := getA_none (a := n) (m := kTab)
  by_cases h1 : n = 1 ∨ n = 2 ∨ n = 3 ∨ n = 4 ∨ n = 5 ∨ n = 6
  ·exact h1
  ·have h2 : getA n kTab = none := this.2 (fun p hp => by
    simp [kTab] at hp
    rcases hp with rfl | rfl | rfl | rfl | rfl | rfl <;> (show _ ≠ n; simp; omega))
   rw [h2] at h
   cases h
 rcases hn with rfl | rfl | rfl | rfl | rfl | rfl <;> exact ⟨_, rfl⟩
theorem zeroFn {w : World} : (zeroValue 117).run Tryz.prog w = .ok .nilFunc w := by kernel_rfl
set_option maxRecDepth 100000 in
set_option maxHeartbeats 16000000 in
theorem DoerAt.one_any (D : DoerAt X w0 w d b root at_ cnt M who v L E) (r : RawO) (o : Opl) {lo : Nat → Prop} (hr : LeafO w lo r o) (hp : o.path.length ≤ 1000) (f : Nat) (hf : getA r.kind.toNat kTab = some f) (hk0 : 0 ≤ r.kind) (hcf : ∀ args w, (callFunc f args).run Tryz.prog w = .ok (.enter f args) w)
  (hm : underB o.path root = true → ∀ w', Below w.heap.size w w' → Calls Tryz.prog f #[.pointer (some ⟨d, 0, none⟩), r.val] w' (MethEnd X w0 w' d b root at_ cnt M who v E o)) :
  Calls Tryz.prog 35 #[.pointer (some ⟨d, 0, none⟩), r.val] w (OneEnd X w0 w d b root at_ cnt M who v E o) := by
 obtain ⟨ok, op, oa, on, oc, ov, os, oe, pa, pn, pc⟩ := r
 obtain ⟨okd, opp, odata, over, oseq, oeph⟩ := o
 obtain ⟨q1, q2, q3, q4, q5, q6, q7, q8⟩ := hr
 clear q1 q3 q4 q5 q6 q7 q8
 dsimp only at q2 hf hk0 hp hm
 subst q2
 obtain ⟨kn, rfl⟩ : ∃ kn : Nat, ok = kn := ⟨ok.toNat, by omega⟩
 rw [Int.toNat_natCast] at hf
 unfold RawO.val RawO.cells at hm ⊢
 dsimp only at hm ⊢
 obtain ⟨w1, hw1, hb1, hs1, k0, k1, ho1⟩ := op_boxes w (kn : Int) op oa on oc ov os oe pa pn pc
 have HSO : Hid ((Tryz.prog.info? 26).map (·.size) = some 7) := Lib.hid (by kernel_rfl)
 have HSR : Hid ((Tryz.prog.info? 43).map (·.size) = some 13) := Lib.hid infoReply13
 have D1 := D.below hb1
 have y1 : ∀ w', Below w1.heap.size w1 w' → w'.cell? ⟨w.heap.size, 1, none⟩ = some (.string (bs op)) := fun w' hb => (hb.cell (p := ⟨w.heap.size, 1, none⟩) (by show w.heap.size < w1.heap.size; omega)).trans (ho1 1 _ rfl)
 have y0 : ∀ w', Below w1.heap.size w1 w' → w'.cell? ⟨d, 0, none⟩ = some (.pointer (some ⟨b, 0, none⟩)) := fun w' hb => (hb.cell (p := ⟨d, 0, none⟩) D1.lt).trans D1.c0
 have HRT : Hid (∀ w', Below w1.heap.size w1 w' → Calls Tryz.prog 59 #[.pointer (some ⟨b, 0, none⟩)] w' fun e w'' => e = .returned (.string (bs root)) ∧ w'' = w') := Lib.hid fun w' hb => by
  obtain ⟨lo, mb, T⟩ := (D1.below hb).tree.tree
  exact T.root_any
 have HU := Lib.hid (later_under w1 D1.tree.max op root hp D.tree.rl)
 obtain ⟨t1, ht1⟩ : ∃ t1, t1 = underB op root := ⟨_, rfl⟩
 rw [← ht1] at HU
 have HT1 := Lib.hid ht1
 have HD := Lib.hid (And.intro D D1)
 have hdl := D.lt
 have HO1 := Lib.hid ho1
 have HM := Lib.hid hm
 have HFF := Lib.hid hf
 have H1 := Lib.hid (And.intro hb1 (And.intro hs1 (And.intro k0 (And.intro k1 hw1))))
 have hmf : ∀ (fn : Fn) (first cap : Array Value) (w : World), (Instr.makeFunc fn first cap).run Tryz.prog w = .ok (.func fn first cap) w := fun _ _ _ _ => rfl
 clear D D1 ht1 hb1 hs1 k0 k1 hw1 ho1 hm hf
 go_enter_defers Tryz.func35, Tryz.ntmps35
 go_wp2_with fail
 rw [← H1.out.2.2.2.2]
 refine region_panics (.pointer (some ⟨w.heap.size + 1, 0, none⟩)) [{ target := .fn (.func 57) #[.pointer (some ⟨w.heap.size + 1, 0, none⟩)], args := #[] }] (fun c w' => c = [{ v := errV 30, recovered := false }] ∧ t1 = false ∧ Below w1.heap.size w1 w') ?_ ?_
 ·rintro chain a w' h1 h2 ⟨rfl, ht, hb⟩
  change Leaves _ _ a.tmps _ a.defers _ w'
  rw [h2]
  obtain ⟨hb1, hs1, k0, k1, _⟩ := H1.out
  have ht1 : w'.there (w.heap.size + 1) 0 13 := there_of ((hb.block _ (by omega)).trans k1) (by simp)
  have K9 : Kept (· = w.heap.size + 1) w' (w'.setCells (w.heap.size + 1) 0 [.int .i64 30, .string ⟨#[]⟩, .slice none 0 0, .int .u32 0, .int .u32 0, .int .u32 0, .int .i64 0, .int .u32 0, .int .u64 0, .int .u64 0, .int .u64 0, .slice none 0 0, .slice none 0 0]) := Kept.setCells (S := (· = w.heap.size + 1)) (p := w.heap.size + 1) rfl _ 0 (Kept.refl _ w')
  have hb2 : Below w.heap.size w w' := hb1.trans (hb.mono hb1.size)
  have he : opE root M who ⟨okd, op, odata, over, oseq, oeph⟩ = 30 := opE_under (by rw [← HT1.out]; exact ht)
  refine door_panics h1 ht1 (.inr ⟨by rw [he]; decide, by rw [he]; rfl, hb2.trans (K9.below hb2.size (fun k e => by have e : k = w.heap.size + 1 := e; omega))⟩)
 refine wp_region_held_drew (S := Below w1.heap.size w1) (by kernel_rfl) (Below.refl _ w1).drew (fun hS => ?_)
 refine took_in 0 rfl (by kernel_rfl) (by kernel_rfl) (by kernel_rfl) (by rfl) hS (fun w' hS' => by go_simp <;> rfl) (fun _ _ _ h => panicAt_put (by decide) h) ?_
 simp only [putS]
 refine took_in 1 rfl (by kernel_rfl) (by kernel_rfl) (by kernel_rfl) (by rfl) hS (fun w' hS' => by have := y1 w' hS'; go_simp <;> rfl) (fun _ _ _ h => panicAt_put (by decide) h) ?_
 simp only [putS]
 refine took_in 2 rfl (by kernel_rfl) (by kernel_rfl) (by kernel_rfl) (by rfl) hS (fun w' hS' => by go_simp <;> rfl) (fun _ _ _ h => panicAt_put (by decide) h) ?_
 simp only [putS]
 refine took_in 3 rfl (by kernel_rfl) (by kernel_rfl) (by kernel_rfl) (by rfl) hS (fun w' hS' => by go_simp <;> rfl) (fun _ _ _ h => panicAt_put (by decide) h) ?_
 simp only [putS]
 refine took_in 4 rfl (by kernel_rfl) (by kernel_rfl) (by kernel_rfl) (by rfl) hS (fun w' hS' => by go_simp <;> rfl) (fun _ _ _ h => panicAt_put (by decide) h) ?_
 simp only [putS]
 refine took_in 5 rfl (by kernel_rfl) (by kernel_rfl) (by kernel_rfl) (by rfl) hS (fun w' hS' => by have := y0 w' hS'; go_simp <;> rfl) (fun _ _ _ h => panicAt_put (by decide) h) ?_
 simp only [putS]
 refine cI 6 rfl ?_
 refine (HRT.out _ hS).mono ?_
 rintro e w2 ⟨rfl, rfl⟩
 refine ⟨hS, ?_⟩
 try dsimp only
 simp only [putS]
 refine cI 7 rfl ?_
 refine (HU.out _ (hS)).mono ?_
 rintro e w2 ⟨rfl, B2⟩
 refine ⟨B2, ?_⟩
 try dsimp only
 simp only [putS]
 refine cI 8 rfl ?_
 refine (must_any _ _ _).mono ?_
 rintro e w2' ⟨rfl, (⟨ht, rfl⟩ | ⟨ht, rfl⟩)⟩
 rotate_left
 ·exact ⟨rfl, rfl, rfl, ht, B2⟩
 refine ⟨B2, ?_⟩
 have HB2 := Lib.hid (And.intro B2 (HT1.out.symm.trans ht))
 clear hS B2 ht y0
 try dsimp only
 simp only [putS]
 refine wpAnyH_done (by kernel_rfl) ?_ _
 simp only [PanicAt]
 go_wp2_with fail
 have hR2 : Hid (w2.drew.rangeAt w.heap.size 0 [.int .u8 (kn : Int), .string (bs op), .slice oa on oc, .int .i64 ov, .bool os, .bool oe, .slice pa pn pc]) := Lib.hid (range_kept HO1.out HB2.out.1.drew (by have := H1.out.2.1; omega))
 have HDO := Lib.hid (does_ok w2.drew)
 refine region_panics (.pointer (some ⟨w.heap.size + 1, 0, none⟩)) [{ target := .fn (.func 57) #[.pointer (some ⟨w.heap.size + 1, 0, none⟩)], args := #[] }] (fun c w' => c = [{ v := errV (opE root M who ⟨okd, op, odata, over, oseq, oeph⟩), recovered := false }] ∧ opE root M who ⟨okd, op, odata, over, oseq, oeph⟩ ≠ 0 ∧ Below w1.heap.size w1 w') ?_ ?_
 ·rintro chain a w' h1 h2 ⟨rfl, hx, hb⟩
  change Leaves _ _ a.tmps _ a.defers _ w'
  rw [h2]
  obtain ⟨hb1, hs1, k0, k1, _⟩ := H1.out
  have ht1 : w'.there (w.heap.size + 1) 0 13 := there_of ((hb.block _ (by omega)).trans k1) (by simp)
  have K9 : Kept (· = w.heap.size + 1) w' (w'.setCells (w.heap.size + 1) 0 [.int .i64 (opE root M who ⟨okd, op, odata, over, oseq, oeph⟩), .string ⟨#[]⟩, .slice none 0 0, .int .u32 0, .int .u32 0, .int .u32 0, .int .i64 0, .int .u32 0, .int .u64 0, .int .u64 0, .int .u64 0, .slice none 0 0, .slice none 0 0]) := Kept.setCells (S := (· = w.heap.size + 1)) (p := w.heap.size + 1) rfl _ 0 (Kept.refl _ w')
  have hb2 : Below w.heap.size w w' := hb1.trans (hb.mono hb1.size)
  exact door_panics h1 ht1 (.inr ⟨hx, rfl, hb2.trans (K9.below hb2.size (fun k e => by have e : k = w.heap.size + 1 := e; omega))⟩)
 refine wp_region_held_drew (S := fun w' => World.rangeAt w' w.heap.size 0 [.int .u8 (kn : Int), .string (bs op), .slice oa on oc, .int .i64 ov, .bool os, .bool oe, .slice pa pn pc]) (by kernel_rfl) hR2.out (fun hS => ?_)
 have yk : ∀ w', World.rangeAt w' w.heap.size 0 [.int .u8 (kn : Int), .string (bs op), .slice oa on oc, .int .i64 ov, .bool os, .bool oe, .slice pa pn pc] → w'.cell? ⟨w.heap.size, 0, none⟩ = some (.int .u8 (kn : Int)) := fun w' h => h 0 _ rfl
 refine took_in 1 rfl (by kernel_rfl) (by kernel_rfl) (by kernel_rfl) (by rfl) hS (fun w' hS' => by go_simp <;> rfl) (fun _ _ _ h => panicAt_put (by decide) h) ?_
 simp only [putS]
 refine took_in 2 rfl (by kernel_rfl) (by kernel_rfl) (by kernel_rfl) (by rfl) hS (fun w' hS' => by have := yk w' hS'; go_simp <;> rfl) (fun _ _ _ h => panicAt_put (by decide) h) ?_
 simp only [putS]
 refine took_in 4 rfl (by kernel_rfl) (by kernel_rfl) (by kernel_rfl) (by rfl) hS (fun w' hS' => by go_simp <;> rfl) (fun _ _ _ h => panicAt_put (by decide) h) ?_
 simp only [putS]
 refine took_load 5 rfl (by kernel_rfl) (by kernel_rfl) (by kernel_rfl) (by rfl) hS 26 (.tmp 3) rfl w.heap.size 0 rfl [.int .u8 (kn : Int), .string (bs op), .slice oa on oc, .int .i64 ov, .bool os, .bool oe, .slice pa pn pc] _ (fun _ h => h) Tryz.underlying26 rfl HSO.out (fun _ _ _ h => panicAt_put (by decide) h) ?_
 simp only [putS]
 refine cI 0 rfl ?_
 refine HDO.out.mono ?_
 rintro e w3 ⟨mb, rfl, HT, hmb, B3'⟩
 have B3 : Below w2.heap.size w2 w3 := (Below.refl _ w2).drew.trans B3'
 have B13 : Below w1.heap.size w1 w3 := HB2.out.1.trans (B3.mono HB2.out.1.size)
 have hS3 : World.rangeAt w3 w.heap.size 0 [.int .u8 (kn : Int), .string (bs op), .slice oa on oc, .int .i64 ov, .bool os, .bool oe, .slice pa pn pc] := range_kept HO1.out B13 (by have := H1.out.2.1; omega)
 have hlk : (Instr.lookup 116 (.map (some mb)) (.int .u8 (kn : Int)) false).run Tryz.prog w3 = .ok (.func (.func f) #[] #[]) w3 := by
  obtain ⟨l, hl⟩ := kTab_key HFF.out
  have h := HasMap.lookup HT keyU8 kVal_inj Tryz.underlying116 zeroFn (a := kn) hl
  rw [HFF.out] at h
  exact h
 have H3 := Lib.hid (And.intro B3 B13)
 have HM3 := Lib.hid (HM.out HB2.out.2 w3 (H1.out.1.trans (B13.mono H1.out.1.size)))
 clear B3 B3' B13 HT hmb
 refine ⟨hS3, ?_⟩
 try dsimp only
 simp only [putS]
 refine give_in 3 rfl (by kernel_rfl) (by rfl) (.func (.func f) #[] #[]) w3 (by have := hlk; go_simp <;> first | rfl | exact ⟨rfl, rfl⟩) hS3 ?_
 clear hlk
 simp only [putS]
 refine call_in 6 rfl (by kernel_rfl) (by rfl) _ _ (by have := hcf; go_simp <;> first | rfl | exact ⟨rfl, rfl⟩) ?_
 refine HM3.out.mono ?_
 rintro e w5 (⟨hx0, cnt2, c1, c2, OD⟩ | ⟨hx, rfl, B5⟩)
 rotate_left
 ·unfold panicV
  exact ⟨rfl, rfl, rfl, hx, H3.out.2.trans (B5.mono H3.out.2.size)⟩
 obtain ⟨v5, L5, ⟨ra, rn, rc, ⟨r1, r2, r3, r4, r5, r6, r7, r8⟩⟩, ka, kc, he, _⟩ := OD.ret
 subst he
 have HOD := Lib.hid OD
 have hs1 := H1.out.2.1
 have hs13 := H3.out.2.size
 have hvl : ∀ k, v.ownBlock = some k → k < w.heap.size := fun k h => (HD.out.1.row.own.lt k h).2
 have hbb := HD.out.1.tree.lt
 have hnk : ∀ k, w.heap.size ≤ k → ¬ (k = b ∨ k = d ∨ v.ownBlock = some k) := fun k hk h => by
  rcases h with h | h | h
  ·omega
  ·omega
  ·have := hvl k h; omega
 have hS5 : World.rangeAt w5 w.heap.size 0 [.int .u8 (kn : Int), .string (bs op), .slice oa on oc, .int .i64 ov, .bool os, .bool oe, .slice pa pn pc] := fun j u hu => (OD.kept.cell (p := ⟨w.heap.size, 0 + j, none⟩) (by show w.heap.size < w3.heap.size; omega) (hnk _ (Nat.le_refl _))).trans (hS3 j u hu)
 have kb3 := (H3.out.2.block (w.heap.size + 1) (by omega)).trans H1.out.2.2.2.1
 have ht5 : w5.there (w.heap.size + 1) 0 13 := there_of ((OD.kept.block (w.heap.size + 1) (by omega) (hnk _ (Nat.le_succ _))).trans kb3) (by simp)
 have HK3 := Lib.hid (And.intro kb3 ht5)
 have HNK := Lib.hid (And.intro hvl hbb)
 clear OD kb3 ht5 hs1 hs13 hvl hbb hnk
 obtain ⟨px, hpx⟩ : ∃ px, px = (opA root M at_ who ⟨okd, op, odata, over, oseq, oeph⟩).path := ⟨_, rfl⟩
 obtain ⟨kl, hkl⟩ : ∃ kl, kl = (opA root M at_ who ⟨okd, op, odata, over, oseq, oeph⟩).kids.length := ⟨_, rfl⟩
 rw [← hpx, ← hkl] at HOD
 rw [← hpx, ← hkl]
 clear hpx hkl
 unfold repCells Raw.cells Nums.cells
 try dsimp only [List.cons_append, List.nil_append]
 refine ⟨hS5, ?_⟩
 try dsimp only
 simp only [putS]
 have HON : Hid ((#[.int .i64 0, .string (bs px), .slice ra rn rc, .int .u32 r1, .int .u32 r2, .int .u32 r3, .int .i64 r4, .int .u32 r5, .int .u64 r6, .int .u64 r7, .int .u64 r8, .slice ka kl kc, .slice none 0 0] : Array Value).all (·.oneCell') = true) := Lib.hid (by simp [Value.oneCell'])
 refine sI 7 rfl 43 (.tmp 4) (.tmp 21) (w.heap.size + 1) 0 #[.int .i64 0, .string (bs px), .slice ra rn rc, .int .u32 r1, .int .u32 r2, .int .u32 r3, .int .i64 r4, .int .u32 r5, .int .u64 r6, .int .u64 r7, .int .u64 r8, .slice ka kl kc, .slice none 0 0] HK3.out.2 HSR.out HON.out (range_set hS5 (by omega)) ?_
 simp only [putS]
 refine wpAnyH_done (by kernel_rfl) ?_ _
 simp only [PanicAt]
 go_wp2_with fail
 refine door_returns rfl (World.rangeAt_setCells_same _ _ _ _ HK3.out.2) rfl (.inl ⟨hx0, cnt2, c1, c2, ?_⟩)
 exact HOD.out.box (H1.out.1.trans (H3.out.2.mono H1.out.1.size)) (Nat.le_succ _) (by have := H1.out.2.1; have := H3.out.2.size; omega) HK3.out.1 hdl HNK.out.2 HNK.out.1 HD.out.1.tree.bl.size _
end
end Go.Proofs.YtnclkfhdpkkakaaGreatDoor
namespace Go.Proofs.YtnclkfhdpkkakaaGreatDoor
set_option linter.unusedVariables false
set_option linter.unusedSimpArgs false
open Go Go.RowKit Go.Shelf Go.MapKept Go.ChangeMaps Go.Maps Go.Sort
section
variable {X : Nat → Prop} {w0 w : World} {d b : Nat} {root : Bytes} {at_ cnt : Int} {M : List (Bytes × Nd)} {who : Sess} {v : Value} {L : List RawE} {E : List Eff}
theorem opE_is {o : Opl} (hu : underB o.path root = true) : opE root M who o = if o.kind = 1 then createE root M who o else if o.kind = 2 then removeE root M o else if o.kind = 3 ∨ o.kind = 4 then verE M o else if (getA o.path M).isSome = false then 31 else 0 := by
 unfold opE
 rw [if_neg (by rw [hu]; simp)]
theorem meth_read {o : Opl} {A : Ans} {e : Ending} {w' : World} (h0 : opE root M who o = 0) (hk : 4 ≤ o.kind) (hA : opA root M at_ who o = A) (h : OpDone X w0 w d b root at_ cnt M M who v E A e w') : MethEnd X w0 w d b root at_ cnt M who v E o e w' := by
 refine .inl ⟨h0, cnt, Int.le_refl _, by omega, ?_⟩
 have e1 : opM root M at_ who o = M := by
  unfold opM
  rw [if_neg (by simpa using h0), if_neg (by omega), if_neg (by omega), if_neg (by omega)]
 have e2 : opXs root M at_ who o = [] := by
  unfold opXs opX
  rw [if_neg (by simpa using h0), if_neg (by omega), if_neg (by omega), if_neg (by omega)]
 rw [e1, e2, List.append_nil, hA]
 exact h
theorem meth_err {o : Opl} {x : Int} {e : Ending} {w' : World} (h : opE root M who o = x) (hx : x ≠ 0) (hf : OpFail w x e w') : MethEnd X w0 w d b root at_ cnt M who v E o e w' := .inr ⟨by rw [h]; exact hx, by rw [h]; exact hf⟩
theorem node_is {p : Bytes} {nd : Nd} (h : getA p M = some nd) : nodeAt M p = nd := by unfold nodeAt; rw [h]; rfl
theorem DoerAt.meth_get (D : DoerAt X w0 w d b root at_ cnt M who v L E) (r : RawO) (o : Opl) {lo : Nat → Prop} (hr : LeafO w lo r o) (hp : o.path.length ≤ 1000) (hu : underB o.path root = true) (hk : o.kind = 5) :
  Calls Tryz.prog 89 #[.pointer (some ⟨d, 0, none⟩), r.val] w (MethEnd X w0 w d b root at_ cnt M who v E o) := by
 have hE := opE_is (M := M) (who := who) hu
 rw [if_neg (by omega), if_neg (by omega), if_neg (by omega)] at hE
 cases hg : getA o.path M with
 | none => exact (D.get_none r o hr hp hg).mono fun e w' h => meth_err (by rw [hE, hg]; rfl) (by decide) h
 | some nd =>
  refine (D.get_ok r o hr hp hg).mono fun e w' h => meth_read (by rw [hE, hg]; rfl) (by omega) ?_ h
  unfold opA
  rw [if_neg (by omega), if_neg (by omega), if_neg (by omega), if_neg (by omega), node_is hg]
theorem DoerAt.meth_kids (D : DoerAt X w0 w d b root at_ cnt M who v L E) (r : RawO) (o : Opl) {lo : Nat → Prop} (hr : LeafO w lo r o) (hp : o.path.length ≤ 1000) (hu : underB o.path root = true) (hk : o.kind = 6) :
  Calls Tryz.prog 90 #[.pointer (some ⟨d, 0, none⟩), r.val] w (MethEnd X w0 w d b root at_ cnt M who v E o) := by
 have hE := opE_is (M := M) (who := who) hu
 rw [if_neg (by omega), if_neg (by omega), if_neg (by omega)] at hE
 cases hg : getA o.path M with
 | none => exact (D.kids_none r o hr hp hg).mono fun e w' h => meth_err (by rw [hE, hg]; rfl) (by decide) h
 | some nd =>
  refine (D.kids_ok r o hr hp hg).mono fun e w' h => meth_read (by rw [hE, hg]; rfl) (by omega) ?_ h
  unfold opA
  rw [if_neg (by omega), if_neg (by omega), if_neg (by omega), if_pos hk, node_is hg]
theorem DoerAt.meth_check (D : DoerAt X w0 w d b root at_ cnt M who v L E) (r : RawO) (o : Opl) {lo : Nat → Prop} (hr : LeafO w lo r o) (hp : o.path.length ≤ 1000) (hu : underB o.path root = true) (hk : o.kind = 4) :
  Calls Tryz.prog 88 #[.pointer (some ⟨d, 0, none⟩), r.val] w (MethEnd X w0 w d b root at_ cnt M who v E o) := by
 have hE := opE_is (M := M) (who := who) hu
 rw [if_neg (by omega), if_neg (by omega), if_pos (by omega)] at hE
 by_cases hv : verE M o = 0
 ·obtain ⟨nd, hg, hn⟩ := ver_there hv
  refine (D.check_ok r o hr hp hg hn).mono fun e w' h => meth_read (by rw [hE, hv]) (by omega) ?_ h
  unfold opA
  rw [if_neg (by omega), if_neg (by omega), if_neg (by omega), if_neg (by omega), node_is hg]
 ·exact (D.check_err r o hr hp rfl hv).mono fun e w' h => meth_err hE hv h
theorem DoerAt.meth_set (D : DoerAt X w0 w d b root at_ cnt M who v L E) (h0 : 0 ≤ cnt) (h1 : cnt ≤ 100000) (hsz : E.length ≤ 900) (r : RawO) (o : Opl) {lo : Nat → Prop} (hr : LeafO w lo r o) (hlo : ∀ k, lo k → v.ownBlock ≠ some k ∧ ¬ X k) (hp : o.path.length ≤ 1000) (hdl : o.data.length ≤ 1000000) (hu : underB o.path root = true) (hk : o.kind = 3) :
  Calls Tryz.prog 87 #[.pointer (some ⟨d, 0, none⟩), r.val] w (MethEnd X w0 w d b root at_ cnt M who v E o) := by
 have hE := opE_is (M := M) (who := who) hu
 rw [if_neg (by omega), if_neg (by omega), if_pos (by omega)] at hE
 by_cases hv : verE M o = 0
 ·have h0' : opE root M who o = 0 := by rw [hE, hv]
  have e1 : opM root M at_ who o = setM M at_ o := by
   unfold opM
   rw [if_neg (by simpa using h0'), if_neg (by omega), if_neg (by omega), if_pos hk]
  have e2 : opXs root M at_ who o = setX M at_ o := by
   unfold opXs opX
   rw [if_neg (by simpa using h0'), if_neg (by omega), if_neg (by omega), if_pos hk]
  have e3 : opA root M at_ who o = ⟨o.path, setN (nodeAt M o.path) o.data at_, []⟩ := by
   unfold opA
   rw [if_neg (by omega), if_neg (by omega), if_pos hk]
  refine (D.set_ok h0 h1 hsz r o hr hlo hp hdl hv).mono fun e w' h => .inl ⟨h0', cnt + 1, by omega, by omega, ?_⟩
  rw [e1, e2, e3]
  exact h
 ·exact (D.set_err r o hr hp rfl hv).mono fun e w' h => meth_err hE hv h
theorem DoerAt.meth_remove (D : DoerAt X w0 w d b root at_ cnt M who v L E) (h0 : 0 ≤ cnt) (h1 : cnt ≤ 100000) (hsz : E.length ≤ 900) (r : RawO) (o : Opl) {lo : Nat → Prop} (hr : LeafO w lo r o) (hp : o.path.length ≤ 1000) (hu : underB o.path root = true) (hk : o.kind = 2) :
  Calls Tryz.prog 86 #[.pointer (some ⟨d, 0, none⟩), r.val] w (MethEnd X w0 w d b root at_ cnt M who v E o) := by
 have hE := opE_is (M := M) (who := who) hu
 rw [if_neg (by omega), if_pos hk] at hE
 refine (D.remove_any h0 h1 hsz r o hr hp rfl).mono fun e w' h => ?_
 rcases h with ⟨hx, h⟩ | ⟨hx, h⟩
 ·have h0' : opE root M who o = 0 := by rw [hE, hx]
  have e1 : opM root M at_ who o = removeM M at_ o := by
   unfold opM
   rw [if_neg (by simpa using h0'), if_neg (by omega), if_pos hk]
  have e2 : opXs root M at_ who o = removeX M at_ o := by
   unfold opXs opX
   rw [if_neg (by simpa using h0'), if_neg (by omega), if_pos hk]
  have e3 : opA root M at_ who o = ⟨o.path, zNd, []⟩ := by
   unfold opA
   rw [if_neg (by omega), if_pos hk]
  refine .inl ⟨h0', cnt + 1, by omega, by omega, ?_⟩
  rw [e1, e2, e3]
  exact h
 ·exact meth_err hE hx h
end
end Go.Proofs.YtnclkfhdpkkakaaGreatDoor
namespace Go.Proofs.YtnclkfhdpkkakaaGreatDoor
set_option linter.unusedVariables false
set_option linter.unusedSimpArgs false
open Go Go.RowKit Go.Shelf Go.MapKept Go.ChangeMaps Go.Maps Go.Sort
theorem infoReply : (Tryz.prog.info? 43).map (fun i => (i.zero, i.size, i.bytes)) = some (some (.agg #[.int .i64 0, .string ⟨#[]⟩, .slice none 0 0, .int .u32 0, .int .u32 0, .int .u32 0, .int .i64 0, .int .u32 0, .int .u64 0, .int .u64 0, .int .u64 0, .slice none 0 0, .slice none 0 0]), 13, 152) := by kernel_rfl
structure RawR where
 e : Int
 path : Bytes
 node : Raw
 ka : Option Addr
 kn : Nat
 kc : Nat
def RawR.cells (r : RawR) : List Value := repCells r.e r.path r.node r.ka r.kn r.kc none 0 0
theorem rawR_len (r : RawR) : r.cells.length = 13 := rfl
structure ReadsR (w : World) (lo : Nat → Prop) (r : RawR) (x : Rep) : Prop where
 e : r.e = x.e
 path : r.path = x.a.path
 node : Reads w lo r.node x.a.node
 kn : r.kn = x.a.kids.length
 kids : StrLo w lo r.ka x.a.kids
theorem ReadsR.keptS {w w' : World} {lo S : Nat → Prop} {r : RawR} {x : Rep} (h : ReadsR w lo r x) (hk : Kept S w w') (hn : ∀ k, lo k → k < w.heap.size → ¬ S k) : ReadsR w' lo r x :=
 ⟨h.e, h.path, h.node.keptS hk hn, h.kn, h.kids.keptS hk hn⟩
theorem ReadsR.mono {w : World} {lo lo' : Nat → Prop} {r : RawR} {x : Rep} (h : ReadsR w lo r x) (hl : ∀ k, lo k → k < w.heap.size → lo' k) : ReadsR w lo' r x :=
 ⟨h.e, h.path, h.node.monoB hl, h.kn, h.kids.mono hl⟩
theorem flatR_at : ∀ (L : List RawR) (k : Nat) (r : RawR), L[k]? = some r → ∀ j u, r.cells[j]? = some u → (L.flatMap RawR.cells)[k * 13 + j]? = some u
 | [], k, r, h, j, u, hu => by simp at h
 | x :: L, 0, r, h, j, u, hu => by
  simp at h
  subst h
  rw [List.flatMap_cons, Nat.zero_mul, Nat.zero_add, List.getElem?_append_left (List.getElem?_eq_some_iff.1 hu).1]
  exact hu
 | x :: L, k + 1, r, h, j, u, hu => by
  have h' : L[k]? = some r := by simpa using h
  rw [List.flatMap_cons, List.getElem?_append_right (by rw [rawR_len]; omega), rawR_len, show (k + 1) * 13 + j - 13 = k * 13 + j by omega]
  exact flatR_at L k r h' j u hu
structure RepRow (w : World) (base : Nat) (lo : Nat → Prop) (v : Value) (L : List RawR) (X : List Rep) : Prop where
 own : w.ownsRow base 43 13 v L.length (L.flatMap RawR.cells)
 len : L.length = X.length
 like : ∀ (k : Nat) r x, L[k]? = some r → X[k]? = some x → ReadsR w (fun k => lo k ∧ v.ownBlock ≠ some k) r x
theorem repRow_nil (w : World) (base : Nat) (lo : Nat → Prop) : RepRow w base lo (.slice none 0 0) [] [] := ⟨World.ownsRow_nil w base 43 13, rfl, fun k r e h => by simp at h⟩
theorem RepRow.keptS {w w' : World} {base : Nat} {lo S : Nat → Prop} {v : Value} {L : List RawR} {X : List Rep} (h : RepRow w base lo v L X) (hk : Kept S w w') (hn : ∀ k, lo k → k < w.heap.size → ¬ S k) (hv : ∀ k, v.ownBlock = some k → ¬ S k) : RepRow w' base lo v L X :=
 ⟨own_kept h.own hk hv, h.len, fun k r x h1 h2 => (h.like k r x h1 h2).keptS hk (fun k hl hlt => hn k hl.1 hlt)⟩
theorem RepRow.mono {w : World} {base : Nat} {lo lo' : Nat → Prop} {v : Value} {L : List RawR} {X : List Rep} (h : RepRow w base lo v L X) (hl : ∀ k, lo k → k < w.heap.size → lo' k) : RepRow w base lo' v L X :=
 ⟨h.own, h.len, fun k r x h1 h2 => (h.like k r x h1 h2).mono (fun k hk hlt => ⟨hl k hk.1 hlt, hk.2⟩)⟩
theorem RepRow.more {w wa w' : World} {base : Nat} {lo : Nat → Prop} {v v' : Value} {L : List RawR} {X : List Rep} {r : RawR} {x : Rep} (h : RepRow w base lo v L X) (hb : Below w.heap.size w wa) (hr : ReadsR w (fun k => lo k ∧ v.ownBlock ≠ some k) r x)
  (hown : w'.ownsRow base 43 13 v' (L.length + 1) (L.flatMap RawR.cells ++ r.cells)) (hg : wa.grownBy w' v.ownBlock) (hw : ∀ k, v'.ownBlock = some k → v.ownBlock = some k ∨ wa.heap.size ≤ k) : RepRow w' base lo v' (L ++ [r]) (X ++ [x]) := by
 have hk : Kept (fun k => v.ownBlock = some k) w w' := (Kept.ofBelow hb).trans (kept_grown hg)
 have hone : ∀ {r : RawR} {x : Rep}, ReadsR w (fun k => lo k ∧ v.ownBlock ≠ some k) r x → ReadsR w' (fun k => lo k ∧ v'.ownBlock ≠ some k) r x := fun {r x} hx => by
  have h1 := hx.mono (lo' := fun k => (lo k ∧ v.ownBlock ≠ some k) ∧ k < w.heap.size) (fun k h1 h2 => ⟨h1, h2⟩)
  have h2 := h1.keptS hk (fun k h1 _ => h1.1.2)
  exact h2.mono (fun k h1 _ => ⟨h1.1.1, fun e => by
   rcases hw k e with h | h
   ·exact h1.1.2 h
   ·have := hb.size; have := h1.2; omega⟩)
 refine ⟨by rw [List.length_append, List.length_singleton, List.flatMap_append]; simpa using hown, by rw [List.length_append, List.length_append, h.len]; rfl, fun k r' x' h1 h2 => ?_⟩
 by_cases hlt : k < L.length
 ·rw [List.getElem?_append_left hlt] at h1
  rw [List.getElem?_append_left (by rw [← h.len]; exact hlt)] at h2
  exact hone (h.like k r' x' h1 h2)
 ·have hk0 : k = L.length := by have := (List.getElem?_eq_some_iff.1 h1).1; simp at this; omega
  subst hk0
  have hl := h.len
  rw [List.getElem?_append_right (Nat.le_refl _), Nat.sub_self] at h1
  rw [List.getElem?_append_right (by omega), ← hl, Nat.sub_self] at h2
  simp at h1 h2
  subst h1 h2
  exact hone hr
def RepsAt (w : World) (lo : Nat → Prop) (pa : Option Addr) (X : List Rep) : Prop := ∀ (k : Nat) x, X[k]? = some x → ∃ g off, ∃ r : RawR, pa = some ⟨g, off, none⟩ ∧ lo g ∧ g < w.heap.size ∧ w.rangeAt g (off + k * 13) r.cells ∧ ReadsR w lo r x
theorem RepsAt.nil (w : World) (lo : Nat → Prop) (pa : Option Addr) : RepsAt w lo pa [] := fun k x h => by simp at h
theorem RepsAt.keptS {w w' : World} {lo S : Nat → Prop} {pa : Option Addr} {X : List Rep} (h : RepsAt w lo pa X) (hk : Kept S w w') (hn : ∀ k, lo k → k < w.heap.size → ¬ S k) : RepsAt w' lo pa X := fun k x hx => by
 obtain ⟨g, off, r, h1, h2, h3, h4, h5⟩ := h k x hx
 exact ⟨g, off, r, h1, h2, Nat.lt_of_lt_of_le h3 hk.size, fun j u hu => (hk.cell (p := ⟨g, off + k * 13 + j, none⟩) h3 (hn g h2 h3)).trans (h4 j u hu), h5.keptS hk hn⟩
theorem RepRow.lies {w : World} {base : Nat} {lo : Nat → Prop} {v : Value} {L : List RawR} {X : List Rep} (h : RepRow w base lo v L X) {lo' : Nat → Prop} (hl : ∀ k, lo k → k < w.heap.size → lo' k) (hb : ∀ k, base ≤ k → lo' k) : ∃ pa pc, v = .slice pa X.length pc ∧ RepsAt w lo' pa X := by
 obtain ⟨a, c, hv⟩ := row_form h.own
 rw [h.len] at hv
 refine ⟨a, c, hv, fun k x hx => ?_⟩
 have hkx := (List.getElem?_eq_some_iff.1 hx).1
 obtain ⟨r, hr⟩ : ∃ r, L[k]? = some r := ⟨_, List.getElem?_eq_getElem (by rw [h.len]; exact hkx)⟩
 rcases h.own.2 with ⟨h1, h0⟩ | ⟨g, cap, cur, h1, hbg, hg, _⟩
 ·have := h.len; omega
 ·obtain rfl : a = some ⟨g, 0, none⟩ := (Value.slice.inj (hv.symm.trans h1)).1
  have hob : v.ownBlock = some g := by rw [h1]; rfl
  refine ⟨g, 0, r, rfl, hb g hbg, (h.own.lt g hob).2, fun j u hu => ?_, (h.like k r x hr hx).mono (fun k hk hlt => hl k hk.1 hlt)⟩
  have := h.own.cells (g := g) hob (k * 13 + j) u (flatR_at L k r hr j u hu)
  rw [Addr.add_lit, Nat.zero_add] at this
  rw [show 0 + k * 13 + j = k * 13 + j by omega]
  exact this
def ReplyAt (w : World) (lo : Nat → Prop) (u : Value) (x : Int) (A : Ans) (X : List Rep) : Prop :=
 ∃ (r : Raw) (ka : Option Addr) (kc : Nat) (pa : Option Addr) (pc : Nat), u = .agg (repCells x A.path r ka A.kids.length kc pa X.length pc).toArray ∧ Reads w lo r A.node ∧ StrLo w lo ka A.kids ∧ RepsAt w lo pa X
theorem ReplyAt.keptS {w w' : World} {lo S : Nat → Prop} {u : Value} {x : Int} {A : Ans} {X : List Rep} (h : ReplyAt w lo u x A X) (hk : Kept S w w') (hn : ∀ k, lo k → k < w.heap.size → ¬ S k) : ReplyAt w' lo u x A X := by
 obtain ⟨r, ka, kc, pa, pc, h1, h2, h3, h4⟩ := h
 exact ⟨r, ka, kc, pa, pc, h1, h2.keptS hk hn, h3.keptS hk hn, h4.keptS hk hn⟩
theorem RepsAt.mono {w : World} {lo lo' : Nat → Prop} {pa : Option Addr} {X : List Rep} (h : RepsAt w lo pa X) (hl : ∀ k, lo k → lo' k) : RepsAt w lo' pa X := fun k x hx => by
 obtain ⟨g, off, r, h1, h2, h3, h4, h5⟩ := h k x hx
 exact ⟨g, off, r, h1, hl g h2, h3, h4, h5.mono (fun k h _ => hl k h)⟩
theorem ReplyAt.mono {w : World} {lo lo' : Nat → Prop} {u : Value} {x : Int} {A : Ans} {X : List Rep} (h : ReplyAt w lo u x A X) (hl : ∀ k, lo k → lo' k) : ReplyAt w lo' u x A X := by
 obtain ⟨r, ka, kc, pa, pc, h1, h2, h3, h4⟩ := h
 exact ⟨r, ka, kc, pa, pc, h1, h2.mono hl, h3.mono (fun k h _ => hl k h), h4.mono hl⟩
def EffsOut (w : World) (u : Value) (E : List Eff) : Prop := ∃ a c L, u = .slice a E.length c ∧ EffsAt w w.heap.size a L ∧ LikeE w (fun _ => True) L E
theorem EffsOut.nil (w : World) : EffsOut w (.slice none 0 0) [] := ⟨none, 0, [], rfl, fun k r h => by simp at h, rfl, fun k r e h => by simp at h⟩
theorem EffsOut.below {w w' : World} {u : Value} {E : List Eff} (h : EffsOut w u E) (hb : Below w.heap.size w w') : EffsOut w' u E := by
 obtain ⟨a, c, L, h1, h2, h3⟩ := h
 exact ⟨a, c, L, h1, (h2.below hb).mono hb.size, h3.below hb⟩
theorem EffRow.out {w : World} {base : Nat} {v : Value} {L : List RawE} {E : List Eff} (h : EffRow w base v L E) : EffsOut w v E := by
 obtain ⟨a, c, hv⟩ := row_form h.own
 have hl : LikeE w (fun _ => True) L E := ⟨h.like.1, fun k r e h1 h2 => ⟨(h.like.2 k r e h1 h2).path, (h.like.2 k r e h1 h2).gone, (h.like.2 k r e h1 h2).node.mono (fun _ _ => trivial)⟩⟩
 refine ⟨a, c, L, by rw [hv, h.like.1], ?_, hl⟩
 by_cases h0 : 0 < L.length
 ·obtain ⟨g, c', h1, _, _, h4⟩ := h.lies h0
  rw [hv] at h1
  cases h1
  exact h4
 ·have : L = [] := List.eq_nil_of_length_eq_zero (by omega)
  subst this
  exact fun k r h => by simp at h
end Go.Proofs.YtnclkfhdpkkakaaGreatDoor
namespace Go.Proofs.YtnclkfhdpkkakaaGreatDoor
set_option linter.unusedVariables false
set_option linter.unusedSimpArgs false
set_option linter.unusedVariables false
set_option linter.unusedSimpArgs false
open Go Go.RowKit Go.Shelf Go.MapKept Go.ChangeMaps Go.Maps Go.Sort
structure PartI where
 kind : Int
 dn : Nat
 pn : Nat
def PartI.bad (i : PartI) : Bool := decide (i.kind < 1) || decide (7 ≤ i.kind) || decide (0 < i.pn)
def PartI.long (i : PartI) : Bool := decide (64 < i.dn)
def checkE (kind : Int) (dn : Nat) (P : List PartI) : Int :=
 if kind < 1 ∨ 7 < kind ∨ 6 < P.length ∨ (decide (kind = 7) ≠ decide (0 < P.length)) then 1
 else if P.any PartI.bad = true then 1 else if 64 < dn ∨ P.any PartI.long = true then 3 else 0
theorem checkE_early {kind : Int} {dn : Nat} {P : List PartI} (h : kind < 1 ∨ 7 < kind ∨ 6 < P.length ∨ (decide (kind = 7) ≠ decide (0 < P.length))) : checkE kind dn P = 1 := if_pos h
theorem checkE_bad {kind : Int} {dn : Nat} {P : List PartI} (h : P.any PartI.bad = true) : checkE kind dn P = 1 := by
 unfold checkE
 split
 ·rfl
 ·rfl
theorem checkE_part {kind : Int} {dn : Nat} {Q : List PartI} (hk : kind ≠ 7) : (checkE kind dn Q = 1 ∧ PartI.bad ⟨kind, dn, Q.length⟩ = true) ∨ (checkE kind dn Q = 3 ∧ PartI.bad ⟨kind, dn, Q.length⟩ = false ∧ PartI.long ⟨kind, dn, Q.length⟩ = true) ∨ (checkE kind dn Q = 0 ∧ PartI.bad ⟨kind, dn, Q.length⟩ = false ∧ PartI.long ⟨kind, dn, Q.length⟩ = false) := by
 by_cases h : kind < 1 ∨ 7 < kind ∨ 0 < Q.length
 ·refine .inl ⟨checkE_early ?_, ?_⟩
  ·rcases h with h | h | h
   ·exact .inl h
   ·exact .inr (.inl h)
   ·refine .inr (.inr (.inr ?_))
    rw [decide_eq_false hk, decide_eq_true h]
    simp
  ·unfold PartI.bad
   rcases h with h | h | h
   ·simp [h]
   ·simp [show 7 ≤ kind by omega]
   ·simp [h]
 ·have hQ : Q = [] := List.eq_nil_of_length_eq_zero (by omega)
  subst hQ
  have hb : PartI.bad ⟨kind, dn, 0⟩ = false := by
   unfold PartI.bad
   simp
   omega
  have he : checkE kind dn [] = if 64 < dn then 3 else 0 := by
   unfold checkE
   rw [if_neg, if_neg (by simp)]
   ·simp
   ·simp
    omega
  by_cases hd : 64 < dn
  ·exact .inr (.inl ⟨by rw [he, if_pos hd], hb, by simp [PartI.long, hd]⟩)
  ·exact .inr (.inr ⟨by rw [he, if_neg hd], hb, by simp [PartI.long]; omega⟩)
def OpAtN (w : World) : Nat → Option Addr → List PartI → Prop
 | 0, _, P => P = []
 | n + 1, pa, P => ∀ (k : Nat) i, P[k]? = some i → ∃ (b off : Nat) (r : RawO) (Q : List PartI), pa = some ⟨b, off, none⟩ ∧ b < w.heap.size ∧ w.rangeAt b (off + k * 7) r.cells ∧ i = ⟨r.kind, r.dn, r.pn⟩ ∧ r.pn = Q.length ∧ r.dn ≤ maxLen ∧ OpAtN w n r.pa Q
theorem OpAtN.below {w w' : World} (hb : Below w.heap.size w w') : ∀ {n : Nat} {pa : Option Addr} {P : List PartI}, OpAtN w n pa P → OpAtN w' n pa P
 | 0, _, _, h => h
 | n + 1, pa, P, h => fun k i hk => by
  obtain ⟨b, off, r, Q, h1, h2, h3, h4, h5, h6, h7⟩ := h k i hk
  exact ⟨b, off, r, Q, h1, Nat.lt_of_lt_of_le h2 hb.size, range_kept h3 hb h2, h4, h5, h6, h7.below hb⟩
def CheckIs (w : World) (x : Int) (e : Ending) (w' : World) : Prop := e = .returned (.int .i64 x) ∧ Below w.heap.size w w'
def PartsOk (w : World) (pa : Option Addr) (P : List PartI) : Prop := ∀ (k : Nat) i, P[k]? = some i → ∃ (b off : Nat) (r : RawO) (Q : List PartI), pa = some ⟨b, off, none⟩ ∧ b < w.heap.size ∧ w.rangeAt b (off + k * 7) r.cells ∧ i = ⟨r.kind, r.dn, r.pn⟩ ∧ r.pn = Q.length ∧ ∀ w', Below w.heap.size w w' → Calls Tryz.prog 22 #[r.val] w' (CheckIs w' (checkE r.kind r.dn Q))
def ChkSt (w1 : World) (P : List PartI) (k : Nat) (wr : World) : Prop := Below w1.heap.size w1 wr ∧ (P.take k).any PartI.bad = false
theorem any_succ {f : PartI → Bool} {P : List PartI} {k : Nat} {i : PartI} (h : P[k]? = some i) : (P.take (k + 1)).any f = ((P.take k).any f || f i) := by
 rw [List.take_add_one, h]
 simp
set_option maxRecDepth 100000 in
set_option maxHeartbeats 8000000 in
theorem check_step (w : World) (r : RawO) (P : List PartI) (hn : r.pn = P.length) (H : PartsOk w r.pa P) (hdn : r.dn ≤ maxLen) :
  Calls Tryz.prog 22 #[r.val] w (CheckIs w (checkE r.kind r.dn P)) := by
 obtain ⟨kind, path, da, dn, dc, ver, seq, eph, pa, pn, pc⟩ := r
 unfold RawO.val RawO.cells
 dsimp only at hn H hdn ⊢
 unfold maxLen at hdn
 obtain ⟨w1, hw1⟩ : ∃ w1, w1 = w.alloc (.cells #[.int .u8 kind, .string (bs path), .slice da dn dc, .int .i64 ver, .bool seq, .bool eph, .slice pa pn pc] 26) := ⟨_, rfl⟩
 have hb1 : Below w.heap.size w w1 := by rw [hw1]; exact belowA (Below.refl _ w) _
 have hs1 : w.heap.size < w1.heap.size := by rw [hw1]; simp
 have hbox : w1.rangeAt w.heap.size 0 [.int .u8 kind, .string (bs path), .slice da dn dc, .int .i64 ver, .bool seq, .bool eph, .slice pa pn pc] := fun j u hu => by
  rw [hw1, Nat.zero_add, cell_of_row _ _ j _ 26 (0, 0) (heap_alloc_new w _)]
  simpa using hu
 have HB1 := Lib.hid (And.intro hb1 hbox)
 have HH := Lib.hid H
 have HNP := Lib.hid hn
 clear H hb1 hbox
 obtain ⟨lg, hlg⟩ : ∃ lg, lg = decide (64 < dn) := ⟨_, rfl⟩
 have tl : decide ((64 : Int) < (dn : Int)) = lg := by rw [hlg]; simp; omega
 by_cases h1 : kind < 1
 ·have hE : checkE kind dn P = 1 := checkE_early (.inl h1)
  rw [hE]
  have t1 : decide (kind < 1) = true := by simpa using h1
  clear hE h1 hn hlg
  go_enter Tryz.func22, Tryz.ntmps22
  go_wp2
  go_ret
  rw [← hw1]
  exact ⟨rfl, HB1.out.1⟩
 have t1 : decide (kind < 1) = false := by simpa using h1
 by_cases h2 : 7 < kind
 ·have hE : checkE kind dn P = 1 := checkE_early (.inr (.inl h2))
  rw [hE]
  have t2 : decide ((7 : Int) < kind) = true := by simpa using h2
  clear hE h2 h1 hn hlg
  go_enter Tryz.func22, Tryz.ntmps22
  go_wp2
  go_ret
  rw [← hw1]
  exact ⟨rfl, HB1.out.1⟩
 have t2 : decide ((7 : Int) < kind) = false := by simpa using h2
 by_cases h3 : 6 < pn
 ·have hE : checkE kind dn P = 1 := checkE_early (.inr (.inr (.inl (by rw [← hn]; exact h3))))
  rw [hE]
  have t3 : decide ((6 : Int) < (pn : Int)) = true := by simp; omega
  clear hE h2 h1 h3 hn hlg
  go_enter Tryz.func22, Tryz.ntmps22
  go_wp2
  go_ret
  rw [← hw1]
  exact ⟨rfl, HB1.out.1⟩
 have t3 : decide ((6 : Int) < (pn : Int)) = false := by simp; omega
 obtain ⟨b7, hb7⟩ : ∃ b7, b7 = decide (kind = 7) := ⟨_, rfl⟩
 obtain ⟨b0, hb0⟩ : ∃ b0, b0 = decide (0 < pn) := ⟨_, rfl⟩
 have t4 : (kind == 7) = b7 := by rw [hb7]; by_cases h : kind = 7 <;> simp [h]
 have t5 : decide (0 < pn) = b0 := hb0.symm
 by_cases h4 : b7 = b0
 ·have hne : ¬ (kind < 1 ∨ 7 < kind ∨ 6 < P.length ∨ (decide (kind = 7) ≠ decide (0 < P.length))) := by
   rw [← hn]
   rintro (h | h | h | h)
   ·exact h1 h
   ·exact h2 h
   ·exact h3 h
   ·exact h (by rw [← hb7, ← hb0]; exact h4)
  have HNE := Lib.hid hne
  have hlgP : lg = decide (64 < dn) := hlg
  have HLG := Lib.hid hlgP
  clear hne hn hlg hlgP hb7 hb0
  subst h4
  have hpn : pn ≤ 6 := by omega
  clear h1 h2 h3
  go_enter Tryz.func22, Tryz.ntmps22
  go_wp2
  rw [← hw1]
  clear hw1
  go_loopw [3, 39] (fun lv ci wr => ∃ k : Nat, k ≤ pn ∧ ci = .int .i64 k ∧ lv = .bool (lg || (P.take k).any PartI.long) ∧ Hid (ChkSt w1 P k wr)) (fun _ ci _ => pn - (intOf ci).toNat)
  case atStart => exact ⟨0, by omega, rfl, by simp, Lib.hid ⟨Below.refl _ _, by simp⟩⟩
  case round =>
   obtain ⟨k, hk, rfl, rfl, HS⟩ := hrel
   by_cases hlt : k < pn
   ·obtain ⟨i, hi⟩ : ∃ i, P[k]? = some i := ⟨_, List.getElem?_eq_getElem (by rw [← HNP.out]; exact hlt)⟩
    obtain ⟨b, off, ⟨k', p', da', dn', dc', v', sq', ep', pa', pn', pc'⟩, Q, hpa, hbl, hrg, hie, hq, hcall⟩ := HH.out k i hi
    dsimp only at hie hq hcall
    subst hpa
    have hbig : Below w.heap.size w wr := HB1.out.1.trans (HS.out.1.mono (Nat.le_of_lt hs1))
    have hc0 : wr.cell? ⟨w.heap.size, 6, none⟩ = some (.slice (some ⟨b, off, none⟩) pn pc) := (HS.out.1.cell (p := ⟨w.heap.size, 6, none⟩) hs1).trans (HB1.out.2 6 _ rfl)
    have hr2 := range_kept hrg hbig hbl
    have HRG : Hid (wr.rangeAt b (off + k * 7) [.int .u8 k', .string (bs p'), .slice da' dn' dc', .int .i64 v', .bool sq', .bool ep', .slice pa' pn' pc']) := Lib.hid hr2
    obtain ⟨w2, hw2⟩ : ∃ w2, w2 = wr.alloc (.cells #[.int .u8 k', .string (bs p'), .slice da' dn' dc', .int .i64 v', .bool sq', .bool ep', .slice pa' pn' pc'] 26) := ⟨_, rfl⟩
    have hb2 : Below wr.heap.size wr w2 := by rw [hw2]; exact belowA (Below.refl _ wr) _
    have hx2 : w2.rangeAt wr.heap.size 0 [.int .u8 k', .string (bs p'), .slice da' dn' dc', .int .i64 v', .bool sq', .bool ep', .slice pa' pn' pc'] := fun j u hu => by
     rw [hw2, Nat.zero_add, cell_of_row _ _ j _ 26 (0, 0) (heap_alloc_new wr _)]
     simpa using hu
    have hl2 : wr.heap.size < w2.heap.size := by rw [hw2]; simp
    have hcl := hcall w2 (hbig.trans (hb2.mono hbig.size))
    unfold RawO.val RawO.cells at hcl
    dsimp only at hcl
    have HSZO : Hid ((Tryz.prog.info? 26).map (·.size) = some 7) := Lib.hid (by kernel_rfl)
    obtain ⟨x, hx⟩ : ∃ x, x = checkE k' dn' Q := ⟨_, rfl⟩
    rw [← hx] at hcl
    have HCL := Lib.hid hcl
    have HX2 := Lib.hid (And.intro hx2 (And.intro hb2 hw2))
    have HI := Lib.hid (And.intro hi (And.intro hie (And.intro hq hx)))
    have hw64 : IntKind.i64.wrap ((k : Int) + 1) = ((k + 1 : Nat) : Int) := by rw [IntWalk.i64_in _ (by omega)]; omega
    clear hi hie hq hx hcall hcl hbig hr2 hrg hb2 hx2 hw2
    have hsucc : ∀ f : PartI → Bool, (P.take (k + 1)).any f = ((P.take k).any f || f i) := fun f => any_succ HI.out.1
    have HSU := Lib.hid hsucc
    clear hsucc
    go_wp2_with (first
     | (refine wpList_load_mid rfl 26 (.tmp 41) rfl b (off + k * 7) rfl [.int .u8 k', .string (bs p'), .slice da' dn' dc', .int .i64 v', .bool sq', .bool ep', .slice pa' pn' pc'] _ HRG.out Tryz.underlying26 rfl HSZO.out ?_)
     | (rw [← HX2.out.2.2]; refine wpList_load_mid rfl 26 (.tmp 5) rfl wr.heap.size 0 rfl [.int .u8 k', .string (bs p'), .slice da' dn' dc', .int .i64 v', .bool sq', .bool ep', .slice pa' pn' pc'] _ HX2.out.1 Tryz.underlying26 rfl HSZO.out ?_))
    refine HCL.out.mono ?_
    rintro e w3 ⟨rfl, B3⟩
    have y0 : w3.cell? ⟨wr.heap.size, 0, none⟩ = some (.int .u8 k') := (B3.cell (p := ⟨wr.heap.size, 0, none⟩) hl2).trans (HX2.out.1 0 _ rfl)
    have hb3 : Below w1.heap.size w1 w3 := HS.out.1.trans ((HX2.out.2.1.trans (B3.mono HX2.out.2.1.size)).mono HS.out.1.size)
    have HB3 := Lib.hid hb3
    have hbi := HI.out.2.1
    clear B3 hb3
    by_cases h7 : k' = 7
    ·have t7 : (k' == 7) = true := by rw [h7]; rfl
     have hE : checkE kind dn P = 1 := checkE_bad (List.any_eq_true.2 ⟨i, List.mem_of_getElem? HI.out.1, by rw [hbi]; simp [PartI.bad, h7]⟩)
     have HE := Lib.hid hE
     clear hE h7 hbi
     go_wp2
     go_ret
     exact ⟨by rw [HE.out]; rfl, HB1.out.1.trans (HB3.out.mono (Nat.le_of_lt hs1))⟩
    ·have t7 : (k' == 7) = false := by simpa using h7
     have hpart := checkE_part (kind := k') (dn := dn') (Q := Q) h7
     rw [← HI.out.2.2.2, ← HI.out.2.2.1, ← hbi] at hpart
     clear h7 hbi
     rcases hpart with ⟨hx, hb⟩ | ⟨hx, hb, hl⟩ | ⟨hx, hb, hl⟩
     ·have hE : checkE kind dn P = 1 := checkE_bad (List.any_eq_true.2 ⟨i, List.mem_of_getElem? HI.out.1, hb⟩)
      have HE := Lib.hid hE
      subst hx
      clear hE hb
      go_wp2
      go_ret
      exact ⟨by rw [HE.out]; rfl, HB1.out.1.trans (HB3.out.mono (Nat.le_of_lt hs1))⟩
     ·have HBL := Lib.hid (And.intro hb hl)
      subst hx
      clear hb hl
      go_wp2
      go_roundw
      case rel => exact ⟨k + 1, by omega, by go_num, by rw [HSU.out, HBL.out.2]; simp, Lib.hid ⟨HB3.out, by rw [HSU.out, HBL.out.1, HS.out.2]; rfl⟩⟩
      case measure => simp [intOf]; omega
     ·have HBL := Lib.hid (And.intro hb hl)
      subst hx
      clear hb hl
      go_wp2
      go_roundw
      case rel => exact ⟨k + 1, by omega, by go_num, by rw [HSU.out, HBL.out.2]; simp, Lib.hid ⟨HB3.out, by rw [HSU.out, HBL.out.1, HS.out.2]; rfl⟩⟩
      case measure => simp [intOf]; omega
   ·obtain rfl : pn = k := by omega
    obtain ⟨hbe, hnb⟩ := HS.out
    rw [List.take_of_length_le (by rw [← HNP.out]; exact Nat.le_refl _)] at hnb
    obtain ⟨al, hal⟩ : ∃ al, al = (lg || (P.take pn).any PartI.long) := ⟨_, rfl⟩
    rw [← hal]
    have hE : checkE kind dn P = if al = true then 3 else 0 := by
     rw [List.take_of_length_le (by rw [← HNP.out]; exact Nat.le_refl _)] at hal
     unfold checkE
     rw [if_neg HNE.out, if_neg (by rw [hnb]; simp), hal, HLG.out]
     simp
    have HE := Lib.hid hE
    have HBE := Lib.hid hbe
    clear hE hal hnb hbe
    cases al
    all_goals
     go_wp2
     go_ret
     exact ⟨by rw [HE.out]; rfl, HB1.out.1.trans (HBE.out.mono (Nat.le_of_lt hs1))⟩
 ·have hE : checkE kind dn P = 1 := checkE_early (.inr (.inr (.inr (by rw [← hn, ← hb7, ← hb0]; exact h4))))
  rw [hE]
  have tn : (b7 != b0) = true := by simpa using h4
  have tn2 : (b7 == b0) = false := by simpa using h4
  have hb : b0 = !b7 := by cases b7 <;> cases b0 <;> simp_all
  clear hE h2 h1 h3 h4 hn hb7 hb0 hlg tn tn2
  subst hb
  go_enter Tryz.func22, Tryz.ntmps22
  go_wp2
  go_ret
  rw [← hw1]
  exact ⟨rfl, HB1.out.1⟩
theorem check_any : ∀ (n : Nat) (w : World) (r : RawO) (P : List PartI), r.pn = P.length → OpAtN w n r.pa P → r.dn ≤ maxLen → Calls Tryz.prog 22 #[r.val] w (CheckIs w (checkE r.kind r.dn P))
 | 0, w, r, P, hn, h, hd => by
  have h : P = [] := h
  subst h
  exact check_step w r [] hn (fun k i hk => by simp at hk) hd
 | n + 1, w, r, P, hn, h, hd => check_step w r P hn (fun k i hk => by
   obtain ⟨b, off, r', Q, h1, h2, h3, h4, h5, h6, h7⟩ := h k i hk
   exact ⟨b, off, r', Q, h1, h2, h3, h4, h5, fun w' hb => check_any n w' r' Q h5 (h7.below hb) h6⟩) hd
end Go.Proofs.YtnclkfhdpkkakaaGreatDoor
