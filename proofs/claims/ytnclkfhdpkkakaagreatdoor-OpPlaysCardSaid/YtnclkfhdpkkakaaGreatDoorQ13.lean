/-
  Clone, walked. A map's keys in order. all, and the two conditions that it is asked with, walked. New, walked. The laws' effects: gone, walked. slices.Equal at bytes, walked. like, walked.
-/
import Derived.Test.YtnclkfhdpkkakaaGreatDoorQ10
import Derived.Test.YtnclkfhdpkkakaaGreatDoorQ11
import Derived.Deep.RegionHeld3
import Derived.Sort.KeysCollected
import Derived.Laws.StructEq
namespace Go.Proofs.YtnclkfhdpkkakaaGreatDoor
set_option linter.unusedVariables false
set_option linter.unusedSimpArgs false
set_option linter.unusedVariables false
set_option linter.unusedSimpArgs false
open Go Go.RowKit Go.Shelf Go.MapKept Go.ChangeMaps
open Go.Maps (Keyed)
theorem cloneM {w : World} {mb : Nat} {m : List (Bytes × Raw)} (hm : HasMap Tryz.prog 9 sv Raw.val w mb m) :
  Calls Tryz.prog 41 #[.map (some mb)] w fun e w' => e = .returned (.map (some w.heap.size)) ∧ HasMap Tryz.prog 9 sv Raw.val w' w.heap.size m ∧ Below w.heap.size w w' ∧ w'.heap.size = w.heap.size + 1 := by
 obtain ⟨es, c, h1, h2, h3, h4⟩ := hm
 exact (AnyW.maps_Clone Tryz.mclone mb es c w h1).mono fun e w' ⟨he, hw⟩ => ⟨he, ⟨es, c, by rw [hw]; exact heap_alloc_new w _, h2, h3, h4⟩, by rw [hw]; exact belowA (Below.refl _ w) _, by rw [hw]; simp⟩
set_option maxRecDepth 100000 in
set_option maxHeartbeats 2000000 in
theorem TreeAt.clone_any {w : World} {lo : Nat → Prop} {b mb : Nat} {root : Bytes} {at_ : Int} {M : List (Bytes × Nd)} (T : TreeAt w lo b mb root at_ M) :
  Calls Tryz.prog 23 #[.pointer (some ⟨b, 0, none⟩)] w fun e w' => ∃ b' mb', e = .returned (.pointer (some ⟨b', 0, none⟩)) ∧ TreeAt w' lo b' mb' root at_ M ∧ w.heap.size ≤ b' ∧ w.heap.size ≤ mb' ∧ b' ≠ mb' ∧ Below w.heap.size w w' := by
 obtain ⟨m, hm, hl⟩ := T.map
 have HM := Lib.hid hm
 have HL := Lib.hid hl
 have hbl : b < w.heap.size := lt_of_block T.blk
 obtain ⟨c0, c1, c2⟩ := T.cells
 have HC := Lib.hid T.cells
 have HCM := Lib.hid (cloneM (hm.of_block (w' := w.drew) rfl))
 clear T hm hl
 go_enter Tryz.func23, Tryz.ntmps23
 go_wp2_with fail
 go_region_held3 (fun w' => w'.cell? ⟨b, 0, none⟩ = some (.string (bs root)) ∧ w'.cell? ⟨b, 1, none⟩ = some (.int .u64 at_) ∧ w'.cell? ⟨b, 2, none⟩ = some (.map (some mb))) (first | assumption | exact HC.out | go_keep) (first | (go_at_call 41; refine HCM.out.mono ?_; rintro e w5 ⟨rfl, H5, B5, Z5⟩; have ct : w5.cell? ⟨b, 0, none⟩ = some (.string (bs root)) ∧ w5.cell? ⟨b, 1, none⟩ = some (.int .u64 at_) ∧ w5.cell? ⟨b, 2, none⟩ = some (.map (some mb)) := ⟨(B5.cell (p := ⟨b, 0, none⟩) hbl).trans HC.out.1, (B5.cell (p := ⟨b, 1, none⟩) hbl).trans HC.out.2.1, (B5.cell (p := ⟨b, 2, none⟩) hbl).trans HC.out.2.2⟩))
 have Z5' : w5.heap.size = w.heap.size + 1 := Z5
 have B5' : Below w.heap.size w w5 := ⟨B5.os, B5.tape, B5.output, B5.size, B5.block⟩
 have HX := Lib.hid (And.intro H5 (And.intro B5' Z5'))
 clear H5 B5 B5' Z5 Z5' ct c0 c1 c2
 go_wp2
 go_ret
 obtain ⟨H5, B5, Z5⟩ := HX.out
 have hb6 : Below w.heap.size w (w5.alloc (.cells #[.string (bs root), .int .u64 at_, .map (some w.heap.size)] 86)) := belowA B5 _
 refine ⟨w.heap.size + 1, w.heap.size, rfl, ⟨?_, m, ?_, ?_⟩, Nat.le_succ _, Nat.le_refl _, by omega, hb6⟩
 ·have := heap_alloc_new w5 (.cells #[.string (bs root), .int .u64 at_, .map (some w.heap.size)] 86)
  rw [Z5] at this
  exact this
 ·exact HasMap.of_block H5 (heap_alloc_old _ _ H5.lt)
 ·exact HL.out.imp fun _ _ h => h.below hb6
end Go.Proofs.YtnclkfhdpkkakaaGreatDoor
namespace Go.Proofs.YtnclkfhdpkkakaaGreatDoor
set_option linter.unusedVariables false
set_option linter.unusedSimpArgs false
set_option linter.unusedVariables false
set_option linter.unusedSimpArgs false
open Go Go.RowKit Go.Shelf Go.MapKept Go.ChangeMaps Go.Maps Go.Sort Go.WideElems
theorem key_len {p : Bytes} {l : Lit} (h : keyOf Tryz.prog 9 (sv p) = some l) : p.length ≤ maxLen ∧ l = .string p := by
 by_cases hp : (bs p).size ≤ maxLen
 ·have h2 := WideMaps.keyOf_string_mk Tryz.underlying9 hp
  have : some l = some (Lit.string (bs p).data.toList) := h.symm.trans h2
  cases this
  exact ⟨by rw [← size_bs]; exact hp, by rw [data_bs]⟩
 ·exfalso
  rw [keyOf_string Tryz.underlying9] at h
  unfold sv mapKey at h
  simp [Tryz.underlying9, hp] at h
def anyR : Value → Option (DataW Unit × List MemPlace) := fun _ => some (.nil, [])
theorem owns_of {ν : Type} {fv : ν → Value} {w : World} {mb : Nat} {m : List (Bytes × ν)} (hm : HasMap Tryz.prog 9 sv fv w mb m) (hl : m.length ≤ 1000) :
  ∃ D0 : DataW Unit, w.ownsMap Tryz.prog 9 anyR mb m.length D0 ∧ (strKeys D0).Perm (m.map (·.1)) := by
 obtain ⟨es, c, h1, h2, h3, h4⟩ := hm
 have hs : es.size = m.length := by
  have := congrArg List.length h4
  simpa using this
 have hrd : ∀ x ∈ es.toList, ∀ l, keyOf Tryz.prog 9 x.key = some l → WideElems.rd Tryz.prog 9 anyR x = some (l, .nil) := fun x hx l hk => by
  unfold WideElems.rd
  rw [hk]
  rfl
 refine ⟨_, ⟨es, c, h1, ⟨by rw [hs]; unfold maxLen; omega, h2, fun x hx => ?_⟩, by omega, rfl⟩, ?_⟩
 ·obtain ⟨l, hk⟩ := h3 x hx
  exact ⟨_, hrd x hx l hk⟩
 ·have hp := WideShapes.sorted_perm (es.toList.map (WideElems.rg Tryz.prog 9 anyR))
  have hk : (es.toList.map (WideElems.rg Tryz.prog 9 anyR)).map (fun p => strOf p.1) = m.map (·.1) := by
   rw [List.map_map]
   have h5 : es.toList.map (·.key) = m.map (fun p => sv p.1) := by
    have := congrArg (List.map Prod.fst) h4
    simpa [List.map_map, Function.comp_def] using this
   apply List.ext_getElem?
   intro i
   have h6 := congrArg (fun l => l[i]?) h5
   simp only [List.getElem?_map] at h6 ⊢
   cases hx : es.toList[i]? with
   | none =>
    rw [hx] at h6
    cases hy : m[i]? with
    | none => rfl
    | some y => rw [hy] at h6; simp at h6
   | some x =>
    rw [hx] at h6
    cases hy : m[i]? with
    | none => rw [hy] at h6; simp at h6
    | some y =>
     rw [hy] at h6
     simp only [Option.map_some, Option.some.injEq] at h6
     obtain ⟨l, hk⟩ := h3 x (List.mem_of_getElem? hx)
     have hr := hrd x (List.mem_of_getElem? hx) l hk
     rw [h6] at hk
     obtain ⟨_, rfl⟩ := key_len hk
     simp [WideElems.rg, hr, strOf]
  have := hp.map (fun p : Lit × DataW Unit => strOf p.1)
  rw [hk] at this
  exact this
end Go.Proofs.YtnclkfhdpkkakaaGreatDoor
namespace Go.Proofs.YtnclkfhdpkkakaaGreatDoor
set_option linter.unusedVariables false
set_option linter.unusedSimpArgs false
set_option linter.unusedVariables false
set_option linter.unusedSimpArgs false
open Go Go.RowKit Go.Shelf Go.MapKept Go.ChangeMaps
theorem eq_bs (a b : Bytes) : ((bs a).toList == (bs b).toList) = decide (a = b) := by
 rw [toList_bs, toList_bs]
 by_cases h : a = b
 ·subst h; simp
 ·simp [h]
def Always (w : World) (n : Nat) (args : Array Value) (r : Value) : Prop := ∀ W, Below w.heap.size w W → Calls Tryz.prog n args W fun e w' => e = .returned r ∧ Below W.heap.size W w'
theorem Always.ext {w w2 : World} {n : Nat} {args : Array Value} {r : Value} (h : Always w n args r) (h2 : Below w.heap.size w w2) : ∀ o, Calls Tryz.prog n args (Wext w2 o) fun e w' => e = .returned r ∧ ∃ o', w' = Wext w2 o' :=
 fun o => (h _ (h2.trans ((Wext.below w2 o).mono h2.size))).mono fun _ _ ⟨he, hb⟩ => ⟨he, below_ext ((Wext.below w2 o).trans (hb.mono (Wext.below w2 o).size))⟩
theorem always_parent {w : World} (hm : MaxInt w) (l : Bytes) (hl : l.length ≤ 1000) : Always w 47 #[.string (bs l)] (.string (bs (parentL l))) := fun W hW => later_parent W (hm.kept hW) l hl W (Below.refl _ _)
theorem always_under {w : World} (hm : MaxInt w) (p q : Bytes) (hp : p.length ≤ 1000) (hq : q.length ≤ 1000) : Always w 21 #[.string (bs p), .string (bs q)] (.bool (underB p q)) := fun W hW => later_under W (hm.kept hW) p q hp hq W (Below.refl _ _)
theorem always_base {w : World} (hm : MaxInt w) (l : Bytes) (hl : l.length ≤ 1000) : Always w 48 #[.string (bs l)] (.string (bs (baseL l))) := fun W hW => later_base W (hm.kept hW) l hl W (Below.refl _ _)
theorem always_check {w : World} (hm : MaxInt w) (l : Bytes) (hl : l.length ≤ 1000) : Always w 45 #[.string (bs l)] (.int .i64 (checkV l)) := fun W hW => later_check W (hm.kept hW) l hl W (Below.refl _ _)
theorem all_any (t v : Value) (w : World) (ht : t.oneCell' = true) (hv : v.oneCell' = true) : Calls Tryz.prog 43 #[t, v] w fun e w' => e = .returned (.func (.func 69) #[] #[.pointer (some ⟨w.heap.size, 0, none⟩), .pointer (some ⟨w.heap.size + 1, 0, none⟩)]) ∧ w' = (w.alloc (.cells #[t] 33)).alloc (.cells #[v] 99) := by
 go_enter Tryz.func43, Tryz.ntmps43
 go_wp2
 go_ret
 exact ⟨rfl, rfl⟩
theorem yes_any (q : Bytes) (w : World) : Calls Tryz.prog 44 #[.string (bs q)] w fun e w' => e = .returned (.bool true) ∧ w' = w := by
 go_enter Tryz.func44, Tryz.ntmps44
 go_wp2
 go_ret
 exact ⟨rfl, rfl⟩
def kidB (root p q : Bytes) : Bool := !decide (q = p) && !decide (q = root) && decide (parentL q = p)
set_option maxRecDepth 100000 in
set_option maxHeartbeats 2000000 in
theorem kid_any (root p q : Bytes) (bp bt b : Nat) (w : World) (hm : MaxInt w) (hq : q.length ≤ 1000) (h1 : w.cell? ⟨bp, 0, none⟩ = some (.string (bs p))) (h2 : w.cell? ⟨bt, 0, none⟩ = some (.pointer (some ⟨b, 0, none⟩))) (h3 : w.cell? ⟨b, 0, none⟩ = some (.string (bs root))) :
  Calls Tryz.prog 46 #[.string (bs q), .pointer (some ⟨bp, 0, none⟩), .pointer (some ⟨bt, 0, none⟩)] w fun e w' => e = .returned (.bool (kidB root p q)) ∧ Below w.heap.size w w' := by
 have f1 : ∀ o, (Wext w o).cell? ⟨bp, 0, none⟩ = some (.string (bs p)) := fun o => ((Wext.below w o).cell (p := ⟨bp, 0, none⟩) (World.block_lt_of_cell? _ _ h1)).trans h1
 have f2 : ∀ o, (Wext w o).cell? ⟨bt, 0, none⟩ = some (.pointer (some ⟨b, 0, none⟩)) := fun o => ((Wext.below w o).cell (p := ⟨bt, 0, none⟩) (World.block_lt_of_cell? _ _ h2)).trans h2
 have f3 : ∀ o, (Wext w o).cell? ⟨b, 0, none⟩ = some (.string (bs root)) := fun o => ((Wext.below w o).cell (p := ⟨b, 0, none⟩) (World.block_lt_of_cell? _ _ h3)).trans h3
 have KP := Lib.hid ((always_parent hm q hq).ext (Below.refl _ w))
 have t1 := eq_bs q p
 have t2 := eq_bs q root
 have t3 := eq_bs (parentL q) p
 have s1 : (!((bs q).toList == (bs p).toList)) = !decide (q = p) := by rw [t1]
 have s2 : (!((bs q).toList == (bs root).toList)) = !decide (q = root) := by rw [t2]
 unfold kidB
 clear h1 h2 h3 hm hq
 generalize bs (parentL q) = u at *
 cases b1 : decide (q = p) <;> cases b2 : decide (q = root) <;> cases b3 : decide (parentL q = p)
 all_goals
  rw [b1] at t1 s1
  rw [b2] at t2 s2
  rw [b3] at t3
  simp only [Bool.not_true, Bool.not_false] at s1 s2 ⊢
  clear b1 b2 b3
  go_enter Tryz.func46, Tryz.ntmps46
  go_wp2_with fail
  refine wp_region_ext (by kernel_rfl) (by kernel_rfl) ?_
  repeat (go_big_quiet_step (first | (go_at_call 47; exact KP.out _)))
  refine wpQuiet_nil ?_
  intro w' hw'
  obtain ⟨oq, hw''⟩ := hw'
  subst hw''
  go_wp2
  go_ret
  exact ⟨rfl, Wext.below w oq⟩
end Go.Proofs.YtnclkfhdpkkakaaGreatDoor
namespace Go.Proofs.YtnclkfhdpkkakaaGreatDoor
set_option linter.unusedVariables false
set_option linter.unusedSimpArgs false
set_option linter.unusedVariables false
set_option linter.unusedSimpArgs false
open Go Go.RowKit Go.Shelf Go.MapKept Go.ChangeMaps
set_option maxRecDepth 100000 in
theorem new_no (root : Bytes) (w : World) (hm : MaxInt w) (hl : root.length ≤ 1000) (h : (partsL root).isSome = false) : Calls Tryz.prog 27 #[.string (bs root)] w fun e w' => e = .returned (.tuple #[.pointer none, .int .i64 30]) ∧ Below w.heap.size w w' := by
 have ck := always_check hm root hl w (Below.refl _ _)
 unfold checkV at ck
 rw [h] at ck
 have CK := Lib.hid ck
 clear ck h
 go_enter Tryz.func27, Tryz.ntmps27
 go_wp2_with fail
 refine CK.out.mono ?_
 rintro e w1 ⟨rfl, B1⟩
 have HB := Lib.hid B1
 clear B1
 go_wp2
 refine bodyPost_ret (results_tmp2 rfl _ _ _) rfl ?_
 exact ⟨rfl, HB.out⟩
set_option maxRecDepth 100000 in
set_option maxHeartbeats 2000000 in
theorem new_yes (root : Bytes) (w : World) (hm : MaxInt w) (hl : root.length ≤ 1000) (h : (partsL root).isSome = true) : Calls Tryz.prog 27 #[.string (bs root)] w fun e w' => ∃ b mb, e = .returned (.tuple #[.pointer (some ⟨b, 0, none⟩), .int .i64 0]) ∧ TreeAt w' (From w.heap.size) b mb root 0 [(root, zNd)] ∧ w.heap.size ≤ b ∧ w.heap.size ≤ mb ∧ b ≠ mb ∧ Below w.heap.size w w' := by
 have ck := always_check hm root hl w (Below.refl _ _)
 unfold checkV at ck
 rw [h] at ck
 have CK := Lib.hid ck
 have hmm := @run_makeMap Tryz.prog
 clear ck h
 go_enter Tryz.func27, Tryz.ntmps27
 go_wp2_with fail
 refine CK.out.mono ?_
 rintro e w1 ⟨rfl, B1⟩
 have HB := Lib.hid B1
 clear B1
 have hm0 := HasMap.made (κ := Bytes) (ν := Raw) Tryz.prog 9 sv Raw.val w1
 obtain ⟨lk, hlk⟩ := sv_key (p := root) (by unfold maxLen; omega)
 obtain ⟨o, ho⟩ := hm0.update keyStr sv_inj Tryz.underlying84 zRaw hlk
 obtain ⟨g1, g2⟩ := ho (w1.alloc (.map #[] 0)) rfl
 have g1 : (Instr.mapUpdate 84 (.map (some w1.heap.size)) (.string (bs root)) (.agg #[.slice none 0 0, .int .u32 0, .int .u32 0, .int .u32 0, .int .i64 0, .int .u32 0, .int .u64 0, .int .u64 0, .int .u64 0])).run Tryz.prog (w1.alloc (.map #[] 0)) = .ok () (setBlock (w1.alloc (.map #[] 0)) w1.heap.size o) := g1
 have hs : (setBlock (w1.alloc (.map #[] 0)) w1.heap.size o).heap.size = w1.heap.size + 1 := by simp [setBlock]
 have hk : Kept (· = w1.heap.size) (w1.alloc (.map #[] 0)) (setBlock (w1.alloc (.map #[] 0)) w1.heap.size o) := kept_setBlock (by simp) o
 have hb2 : Below w1.heap.size w1 (setBlock (w1.alloc (.map #[] 0)) w1.heap.size o) := by
  have h1 : Below w1.heap.size w1 (w1.alloc (.map #[] 0)) := belowA (Below.refl _ w1) _
  exact h1.trans (hk.below (by simp) (fun k h => by omega))
 have HG := Lib.hid (And.intro g2 (And.intro hs hb2))
 clear ho g2 hs hb2 hk hm0 hlk
 go_wp2
 refine bodyPost_ret (results_tmp2 rfl _ _ _) rfl ?_
 obtain ⟨g2, hs, hb2⟩ := HG.out
 have hb3 : Below w.heap.size w ((setBlock (w1.alloc (.map #[] 0)) w1.heap.size o).alloc (.cells #[.string (bs root), .int .u64 0, .map (some w1.heap.size)] 86)) := (HB.out.trans (hb2.mono HB.out.size)).trans ((belowA (Below.refl _ _) _).mono (by have := HB.out.size; rw [hs]; omega))
 have hw1 := HB.out.size
 refine ⟨(setBlock (w1.alloc (.map #[] 0)) w1.heap.size o).heap.size, w1.heap.size, rfl, ⟨heap_alloc_new _ _, _, g2.of_block (heap_alloc_old _ _ (by omega)), ?_⟩, by omega, hw1, by omega, hb3⟩
 exact ⟨⟨rfl, zReads _ _⟩, trivial⟩
end Go.Proofs.YtnclkfhdpkkakaaGreatDoor
namespace Go.Proofs.YtnclkfhdpkkakaaGreatDoor
set_option linter.unusedVariables false
set_option linter.unusedSimpArgs false
set_option linter.unusedVariables false
set_option linter.unusedSimpArgs false
open Go Go.RowKit Go.Shelf Go.MapKept Go.ChangeMaps
structure RawE where
 path : Bytes
 gone : Bool
 node : Raw
def RawE.cells (e : RawE) : List Value := .string (bs e.path) :: .bool e.gone :: e.node.cells
def RawE.val (e : RawE) : Value := .agg e.cells.toArray
end Go.Proofs.YtnclkfhdpkkakaaGreatDoor
namespace Go.Proofs.YtnclkfhdpkkakaaGreatDoor
set_option linter.unusedVariables false
set_option linter.unusedSimpArgs false
set_option linter.unusedVariables false
set_option linter.unusedSimpArgs false
open Go Go.RowKit Go.Shelf
theorem take_stepB (L M : Bytes) (k : Nat) (x y : UInt8) (hx : L[k]? = some x) (hy : M[k]? = some y) (hk : L.take k = M.take k) : (L.take (k + 1) = M.take (k + 1)) ↔ x = y := by
 rw [List.take_add_one, List.take_add_one, hx, hy, hk]
 simp
set_option maxRecDepth 100000 in
set_option maxHeartbeats 2000000 in
theorem equalB_any (a b : Option Addr) (c d B1 B2 : Nat) (lo1 lo2 : Nat → Prop) (L M : Bytes) (w : World) (hl : L.length ≤ 1000000) (hm : M.length ≤ 1000000) (S1 : ByteSl w lo1 B1 a L) (S2 : ByteSl w lo2 B2 b M) :
  Calls Tryz.prog 81 #[.slice a L.length c, .slice b M.length d] w fun e w' => e = .returned (.bool (decide (L = M))) ∧ ∃ q, w' = w.drewN q := by
 obtain ⟨R, hR⟩ : ∃ R, R = decide (L = M) := ⟨_, rfl⟩
 rw [← hR]
 have HR := Lib.hid hR
 have X1 := Lib.hid S1
 have X2 := Lib.hid S2
 clear hR S1 S2
 obtain ⟨n, hn⟩ : ∃ n, n = L.length := ⟨_, rfl⟩
 obtain ⟨k, hk⟩ : ∃ k, k = M.length := ⟨_, rfl⟩
 have HN := Lib.hid hn
 have HK := Lib.hid hk
 rw [← hn] at hl ⊢
 rw [← hk] at hm ⊢
 clear hn hk
 by_cases hle : n = k
 ·have HE := Lib.hid hle
  have t0 : ((n : Int) != (k : Int)) = false := by rw [hle]; simp
  clear hle
  go_enter Tryz.func81, Tryz.ntmps81
  go_wp2
  go_loopw [5, 13] (fun _ i wr => ∃ m : Nat, m ≤ n ∧ i = .int .i64 m ∧ Hid (L.take m = M.take m) ∧ ∃ q, wr = w.drewN q) (fun _ i _ => n - (intOf i).toNat)
  case atStart => exact ⟨0, by omega, rfl, Lib.hid rfl, 0, rfl⟩
  case round =>
   obtain ⟨m, hm, rfl, HT0, q, rfl⟩ := hrel
   by_cases hlt : m < n
   ·have hlt2 : m < k := by rw [← HE.out]; exact hlt
    obtain ⟨x, hx⟩ : ∃ x, L[m]? = some x := ⟨_, List.getElem?_eq_getElem (by rw [← HN.out]; exact hlt)⟩
    obtain ⟨y, hy⟩ : ∃ y, M[m]? = some y := ⟨_, List.getElem?_eq_getElem (by rw [← HK.out]; exact hlt2)⟩
    obtain ⟨g, off, rfl, _, _, hc1⟩ := X1.out m x hx
    obtain ⟨g2, off2, rfl, _, _, hc2⟩ := X2.out m y hy
    have HT := Lib.hid (take_stepB L M m x y hx hy HT0.out)
    by_cases hxy : x = y
    ·subst hxy
     have HE2 := Lib.hid (HT.out.2 rfl)
     have ht : (((x.toNat : Nat) : Int) != ((x.toNat : Nat) : Int)) = false := by simp
     clear hx hy HT
     go_wp2
     go_quiet (fail)
     go_wp2
     go_roundw
     case rel => exact ⟨m + 1, by omega, by go_num, HE2, _, rfl⟩
     case measure => simp [intOf]; omega
    ·have ht : (((x.toNat : Nat) : Int) != ((y.toNat : Nat) : Int)) = true := by
      have : x.toNat ≠ y.toNat := fun e => hxy (UInt8.toNat_inj.1 e)
      simp
      omega
     have hrf : R = false := by
      rw [HR.out]
      have : ¬ L = M := fun e => by
       apply hxy
       rw [e, hy] at hx
       exact (Option.some.inj hx).symm
      simp [this]
     subst hrf
     clear hx hy HT hxy
     go_wp2
     go_quiet (fail)
     go_wp2
     go_ret
     exact ⟨rfl, _, World.drewN_drewN _ _ _⟩
   ·obtain rfl : m = n := by omega
    have hrt : R = true := by
     rw [HR.out]
     have h1 := HT0.out
     rw [HN.out, List.take_length, ← HN.out, HE.out, HK.out, List.take_length] at h1
     simp [h1]
    subst hrt
    go_wp2
    go_ret
    exact ⟨rfl, _, rfl⟩
 ·have t0 : ((n : Int) != (k : Int)) = true := by
   rw [bne_iff_ne]
   omega
  have hrf : R = false := by
   rw [HR.out]
   have : ¬ L = M := fun e => hle (by rw [HN.out, HK.out, e])
   simp [this]
  subst hrf
  clear hle
  go_enter Tryz.func81, Tryz.ntmps81
  go_wp2
  go_ret
  exact ⟨rfl, 0, rfl⟩
end Go.Proofs.YtnclkfhdpkkakaaGreatDoor
namespace Go.Proofs.YtnclkfhdpkkakaaGreatDoor
set_option linter.unusedVariables false
set_option linter.unusedSimpArgs false
set_option linter.unusedVariables false
set_option linter.unusedSimpArgs false
open Go Go.RowKit Go.Shelf Go.MapKept Go.ChangeMaps
theorem fieldsS : (Tryz.prog.fieldsOf 29).toList = [⟨"Site", 3, 0, false, "", "", 0⟩, ⟨"N", 27, 1, false, "", "", 8⟩] := by kernel_rfl
theorem eqSess (s n s' n' : Int) (w : World) : (_root_.Go.binOp BinOp.eql 29 (.agg #[.int .i64 s, .int .u32 n]) (.agg #[.int .i64 s', .int .u32 n']) : Sem Value).run Tryz.prog w = Result.ok (Value.bool (decide (s = s' ∧ n = n'))) w := by
 rw [run_eql_struct, run_equalIn_agg _ _ _ _ _ (by kernel_rfl) (by kernel_rfl), fieldsS]
 have e3 := fun w : World => run_equalIn_int (P := Tryz.prog) w 9998 3 .i64 .i64 s s' Tryz.underlying3
 have e4 := fun w : World => run_equalIn_int (P := Tryz.prog) w 9998 27 .u32 .u32 n n' Tryz.underlying27
 simp [Op.eqFields, Sem.run_bind, part, e3, e4]
 by_cases h1 : s = s' <;> by_cases h2 : n = n' <;> simp [h1, h2]
set_option maxRecDepth 100000 in
set_option maxHeartbeats 8000000 in
theorem like_any (w : World) (lo1 lo2 : Nat → Prop) (r s : Raw) (d e : Nd) (h1 : Reads w lo1 r d) (h2 : Reads w lo2 s e) (hl1 : d.data.length ≤ 1000000) (hl2 : e.data.length ≤ 1000000) :
  Calls Tryz.prog 55 #[r.val, s.val] w fun en w' => en = .returned (.bool (decide (d = e))) ∧ Below w.heap.size w w' := by
 obtain ⟨a, n, c, u⟩ := r
 obtain ⟨D, u'⟩ := d
 obtain ⟨p1, p2, p3, p4⟩ := h1
 obtain ⟨a2, n2, cx, y⟩ := s
 obtain ⟨E, y'⟩ := e
 obtain ⟨q1, q2, q3, q4⟩ := h2
 dsimp only at p1 p2 p3 p4 q1 q2 q3 q4 hl1 hl2
 subst p1 q1
 obtain ⟨v1, v2, v3, v4, v5, v6, v7, v8⟩ := u
 obtain ⟨x1, x2, x3, x4, x5, x6, x7, x8⟩ := y
 unfold Raw.val Raw.cells Nums.cells
 dsimp only
 subst p2 q2
 obtain ⟨R, hR⟩ : ∃ R, R = decide ((⟨D, ⟨v1, v2, v3, v4, v5, v6, v7, v8⟩⟩ : Nd) = ⟨E, ⟨x1, x2, x3, x4, x5, x6, x7, x8⟩⟩) := ⟨_, rfl⟩
 rw [← hR]
 have HR := Lib.hid hR
 clear hR
 obtain ⟨w2, hw2⟩ : ∃ w2, w2 = (w.alloc (.cells #[.slice a D.length c, .int .u32 v1, .int .u32 v2, .int .u32 v3, .int .i64 v4, .int .u32 v5, .int .u64 v6, .int .u64 v7, .int .u64 v8] 39)).alloc (.cells #[.slice a2 E.length cx, .int .u32 x1, .int .u32 x2, .int .u32 x3, .int .i64 x4, .int .u32 x5, .int .u64 x6, .int .u64 x7, .int .u64 x8] 39) := ⟨_, rfl⟩
 have hb2 : Below w.heap.size w w2 := by rw [hw2]; exact belowA (belowA (Below.refl _ w) _) _
 have hc := equalB_any a a2 c cx w2.heap.size w2.heap.size lo1 lo2 D E w2 hl1 hl2 ((p3.below hb2).mono (fun _ h => h) hb2.size) ((q3.below hb2).mono (fun _ h => h) hb2.size)
 have hs := eqSess v4 v5 x4 x5
 have HB2 := Lib.hid hb2
 obtain ⟨N, hN⟩ : ∃ N, N = D.length := ⟨_, rfl⟩
 obtain ⟨M, hM⟩ : ∃ M, M = E.length := ⟨_, rfl⟩
 rw [← hN, ← hM] at hc hw2 ⊢
 clear p3 p4 q3 q4 hb2 hN hM hl1 hl2
 have k1 : ∀ i v, (#[.slice a N c, .int .u32 v1, .int .u32 v2, .int .u32 v3, .int .i64 v4, .int .u32 v5, .int .u64 v6, .int .u64 v7, .int .u64 v8] : Array Value)[i]? = some v → w2.cell? ⟨w.heap.size, i, none⟩ = some v := fun i v hv => by
  rw [hw2]
  exact (cell_of_row _ _ i _ 39 (0, 0) ((heap_alloc_old _ _ (by simp)).trans (heap_alloc_new w _))).trans hv
 have k2 : ∀ i v, (#[.slice a2 M cx, .int .u32 x1, .int .u32 x2, .int .u32 x3, .int .i64 x4, .int .u32 x5, .int .u64 x6, .int .u64 x7, .int .u64 x8] : Array Value)[i]? = some v → w2.cell? ⟨w.heap.size + 1, i, none⟩ = some v := fun i v hv => by
  have h := heap_alloc_new (w.alloc (.cells #[.slice a N c, .int .u32 v1, .int .u32 v2, .int .u32 v3, .int .i64 v4, .int .u32 v5, .int .u64 v6, .int .u64 v7, .int .u64 v8] 39)) (.cells #[.slice a2 M cx, .int .u32 x1, .int .u32 x2, .int .u32 x3, .int .i64 x4, .int .u32 x5, .int .u64 x6, .int .u64 x7, .int .u64 x8] 39)
  rw [World.size_alloc] at h
  rw [hw2]
  exact (cell_of_row _ _ i _ 39 (0, 0) h).trans hv
 have fa1 : ∀ q, (w2.drewN q).cell? ⟨w.heap.size, 1, none⟩ = some (.int .u32 v1) := fun q => k1 1 _ rfl
 have fb1 : ∀ q, (w2.drewN q).cell? ⟨w.heap.size + 1, 1, none⟩ = some (.int .u32 x1) := fun q => k2 1 _ rfl
 have fa2 : ∀ q, (w2.drewN q).cell? ⟨w.heap.size, 2, none⟩ = some (.int .u32 v2) := fun q => k1 2 _ rfl
 have fb2 : ∀ q, (w2.drewN q).cell? ⟨w.heap.size + 1, 2, none⟩ = some (.int .u32 x2) := fun q => k2 2 _ rfl
 have fa3 : ∀ q, (w2.drewN q).cell? ⟨w.heap.size, 3, none⟩ = some (.int .u32 v3) := fun q => k1 3 _ rfl
 have fb3 : ∀ q, (w2.drewN q).cell? ⟨w.heap.size + 1, 3, none⟩ = some (.int .u32 x3) := fun q => k2 3 _ rfl
 have fa4 : ∀ q, (w2.drewN q).cell? ⟨w.heap.size, 4, none⟩ = some (.int .i64 v4) := fun q => k1 4 _ rfl
 have fb4 : ∀ q, (w2.drewN q).cell? ⟨w.heap.size + 1, 4, none⟩ = some (.int .i64 x4) := fun q => k2 4 _ rfl
 have fa5 : ∀ q, (w2.drewN q).cell? ⟨w.heap.size, 5, none⟩ = some (.int .u32 v5) := fun q => k1 5 _ rfl
 have fb5 : ∀ q, (w2.drewN q).cell? ⟨w.heap.size + 1, 5, none⟩ = some (.int .u32 x5) := fun q => k2 5 _ rfl
 have fa6 : ∀ q, (w2.drewN q).cell? ⟨w.heap.size, 6, none⟩ = some (.int .u64 v6) := fun q => k1 6 _ rfl
 have fb6 : ∀ q, (w2.drewN q).cell? ⟨w.heap.size + 1, 6, none⟩ = some (.int .u64 x6) := fun q => k2 6 _ rfl
 have fa7 : ∀ q, (w2.drewN q).cell? ⟨w.heap.size, 7, none⟩ = some (.int .u64 v7) := fun q => k1 7 _ rfl
 have fb7 : ∀ q, (w2.drewN q).cell? ⟨w.heap.size + 1, 7, none⟩ = some (.int .u64 x7) := fun q => k2 7 _ rfl
 have fa8 : ∀ q, (w2.drewN q).cell? ⟨w.heap.size, 8, none⟩ = some (.int .u64 v8) := fun q => k1 8 _ rfl
 have fb8 : ∀ q, (w2.drewN q).cell? ⟨w.heap.size + 1, 8, none⟩ = some (.int .u64 x8) := fun q => k2 8 _ rfl
 have HW2 := Lib.hid hw2
 clear k1 k2 hw2
 by_cases gD : D = E
 ·rw [decide_eq_true gD] at hc
  by_cases g1 : v1 = x1
  ·have f1 : (v1 == x1) = true := by simpa using g1
   by_cases g2 : v2 = x2
   ·have f2 : (v2 == x2) = true := by simpa using g2
    by_cases g3 : v3 = x3
    ·have f3 : (v3 == x3) = true := by simpa using g3
     by_cases g4 : v4 = x4 ∧ v5 = x5
     ·rw [show (decide (v4 = x4 ∧ v5 = x5)) = true from decide_eq_true g4] at hs
      by_cases g5 : v6 = x6
      ·have f5 : (v6 == x6) = true := by simpa using g5
       by_cases g6 : v7 = x7
       ·have f6 : (v7 == x7) = true := by simpa using g6
        by_cases g7 : v8 = x8
        ·have f7 : (v8 == x8) = true := by simpa using g7
         have hv : R = true := by rw [HR.out]; simp [gD, g1, g2, g3, g4, g5, g6, g7]
         subst hv
         have HC := Lib.hid hc
         clear hc
         clear gD g1 g2 g3 g4 g5 g6 g7
         go_enter Tryz.func55, Tryz.ntmps55
         go_wp2_with fail
         rw [← HW2.out]
         refine HC.out.mono ?_
         rintro en w3 ⟨rfl, qn, rfl⟩
         go_wp2
         go_ret
         exact ⟨rfl, HB2.out.trans ⟨rfl, rfl, rfl, Nat.le_refl _, fun _ _ => rfl⟩⟩
        ·have f7 : (v8 == x8) = false := by simpa using g7
         have hv : R = false := by
          rw [HR.out]
          refine decide_eq_false (fun h => ?_)
          simp only [Nd.mk.injEq, Nums.mk.injEq] at h
          obtain ⟨h0, h1, h2, h3, h4a, h4b, h5, h6, h7⟩ := h
          exact g7 h7
         subst hv
         have HC := Lib.hid hc
         clear hc
         clear gD g1 g2 g3 g4 g5 g6 g7
         go_enter Tryz.func55, Tryz.ntmps55
         go_wp2_with fail
         rw [← HW2.out]
         refine HC.out.mono ?_
         rintro en w3 ⟨rfl, qn, rfl⟩
         go_wp2
         go_ret
         exact ⟨rfl, HB2.out.trans ⟨rfl, rfl, rfl, Nat.le_refl _, fun _ _ => rfl⟩⟩
       ·have f6 : (v7 == x7) = false := by simpa using g6
        have hv : R = false := by
         rw [HR.out]
         refine decide_eq_false (fun h => ?_)
         simp only [Nd.mk.injEq, Nums.mk.injEq] at h
         obtain ⟨h0, h1, h2, h3, h4a, h4b, h5, h6, h7⟩ := h
         exact g6 h6
        subst hv
        have HC := Lib.hid hc
        clear hc
        clear gD g1 g2 g3 g4 g5 g6
        go_enter Tryz.func55, Tryz.ntmps55
        go_wp2_with fail
        rw [← HW2.out]
        refine HC.out.mono ?_
        rintro en w3 ⟨rfl, qn, rfl⟩
        go_wp2
        go_ret
        exact ⟨rfl, HB2.out.trans ⟨rfl, rfl, rfl, Nat.le_refl _, fun _ _ => rfl⟩⟩
      ·have f5 : (v6 == x6) = false := by simpa using g5
       have hv : R = false := by
        rw [HR.out]
        refine decide_eq_false (fun h => ?_)
        simp only [Nd.mk.injEq, Nums.mk.injEq] at h
        obtain ⟨h0, h1, h2, h3, h4a, h4b, h5, h6, h7⟩ := h
        exact g5 h5
       subst hv
       have HC := Lib.hid hc
       clear hc
       clear gD g1 g2 g3 g4 g5
       go_enter Tryz.func55, Tryz.ntmps55
       go_wp2_with fail
       rw [← HW2.out]
       refine HC.out.mono ?_
       rintro en w3 ⟨rfl, qn, rfl⟩
       go_wp2
       go_ret
       exact ⟨rfl, HB2.out.trans ⟨rfl, rfl, rfl, Nat.le_refl _, fun _ _ => rfl⟩⟩
     ·rw [show (decide (v4 = x4 ∧ v5 = x5)) = false from decide_eq_false g4] at hs
      have hv : R = false := by
       rw [HR.out]
       refine decide_eq_false (fun h => ?_)
       simp only [Nd.mk.injEq, Nums.mk.injEq] at h
       obtain ⟨h0, h1, h2, h3, h4a, h4b, h5, h6, h7⟩ := h
       exact g4 ⟨h4a, h4b⟩
      subst hv
      have HC := Lib.hid hc
      clear hc
      clear gD g1 g2 g3 g4
      go_enter Tryz.func55, Tryz.ntmps55
      go_wp2_with fail
      rw [← HW2.out]
      refine HC.out.mono ?_
      rintro en w3 ⟨rfl, qn, rfl⟩
      go_wp2
      go_ret
      exact ⟨rfl, HB2.out.trans ⟨rfl, rfl, rfl, Nat.le_refl _, fun _ _ => rfl⟩⟩
    ·have f3 : (v3 == x3) = false := by simpa using g3
     have hv : R = false := by
      rw [HR.out]
      refine decide_eq_false (fun h => ?_)
      simp only [Nd.mk.injEq, Nums.mk.injEq] at h
      obtain ⟨h0, h1, h2, h3, h4a, h4b, h5, h6, h7⟩ := h
      exact g3 h3
     subst hv
     have HC := Lib.hid hc
     clear hc
     clear gD g1 g2 g3
     go_enter Tryz.func55, Tryz.ntmps55
     go_wp2_with fail
     rw [← HW2.out]
     refine HC.out.mono ?_
     rintro en w3 ⟨rfl, qn, rfl⟩
     go_wp2
     go_ret
     exact ⟨rfl, HB2.out.trans ⟨rfl, rfl, rfl, Nat.le_refl _, fun _ _ => rfl⟩⟩
   ·have f2 : (v2 == x2) = false := by simpa using g2
    have hv : R = false := by
     rw [HR.out]
     refine decide_eq_false (fun h => ?_)
     simp only [Nd.mk.injEq, Nums.mk.injEq] at h
     obtain ⟨h0, h1, h2, h3, h4a, h4b, h5, h6, h7⟩ := h
     exact g2 h2
    subst hv
    have HC := Lib.hid hc
    clear hc
    clear gD g1 g2
    go_enter Tryz.func55, Tryz.ntmps55
    go_wp2_with fail
    rw [← HW2.out]
    refine HC.out.mono ?_
    rintro en w3 ⟨rfl, qn, rfl⟩
    go_wp2
    go_ret
    exact ⟨rfl, HB2.out.trans ⟨rfl, rfl, rfl, Nat.le_refl _, fun _ _ => rfl⟩⟩
  ·have f1 : (v1 == x1) = false := by simpa using g1
   have hv : R = false := by
    rw [HR.out]
    refine decide_eq_false (fun h => ?_)
    simp only [Nd.mk.injEq, Nums.mk.injEq] at h
    obtain ⟨h0, h1, h2, h3, h4a, h4b, h5, h6, h7⟩ := h
    exact g1 h1
   subst hv
   have HC := Lib.hid hc
   clear hc
   clear gD g1
   go_enter Tryz.func55, Tryz.ntmps55
   go_wp2_with fail
   rw [← HW2.out]
   refine HC.out.mono ?_
   rintro en w3 ⟨rfl, qn, rfl⟩
   go_wp2
   go_ret
   exact ⟨rfl, HB2.out.trans ⟨rfl, rfl, rfl, Nat.le_refl _, fun _ _ => rfl⟩⟩
 ·rw [decide_eq_false gD] at hc
  have hv : R = false := by
   rw [HR.out]
   refine decide_eq_false (fun h => ?_)
   simp only [Nd.mk.injEq, Nums.mk.injEq] at h
   obtain ⟨h0, h1, h2, h3, h4a, h4b, h5, h6, h7⟩ := h
   exact gD h0
  subst hv
  have HC := Lib.hid hc
  clear hc
  clear gD
  go_enter Tryz.func55, Tryz.ntmps55
  go_wp2_with fail
  rw [← HW2.out]
  refine HC.out.mono ?_
  rintro en w3 ⟨rfl, qn, rfl⟩
  go_wp2
  go_ret
  exact ⟨rfl, HB2.out.trans ⟨rfl, rfl, rfl, Nat.le_refl _, fun _ _ => rfl⟩⟩
end Go.Proofs.YtnclkfhdpkkakaaGreatDoor
