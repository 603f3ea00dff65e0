/-
  Clone, walked.
  A map's keys in order.
  all, and the two conditions that it is asked with, walked.
  New, walked.
  The laws' effects: gone, walked.
-/
import Derived.Test.YtnclkfhdpkkakaaGreatDoorTr3
import Derived.Test.YtnclkfhdpkkakaaGreatDoorIter
import Derived.Deep.RegionHeld3
import Derived.Sort.KeysCollected
namespace Go.Proofs.YtnclkfhdpkkakaaGreatDoor
set_option linter.unusedVariables false
set_option linter.unusedSimpArgs false
set_option linter.unusedVariables false
set_option linter.unusedSimpArgs false
open Go Go.RowKit Go.Shelf Go.MapKept Go.ChangeMaps
open Go.Maps (Keyed)

theorem cloneM {w : World} {mb : Nat} {m : List (Bytes × Raw)} (hm : HasMap Tryz.prog 9 sv Raw.val w mb m) :
    Calls Tryz.prog 41 #[.map (some mb)] w fun e w' => e = .returned (.map (some w.heap.size)) ∧ HasMap Tryz.prog 9 sv Raw.val w' w.heap.size m ∧ Below w.heap.size w w' ∧ w'.heap.size = w.heap.size + 1 := by
  obtain ⟨es, c, h1, h2, h3, h4⟩ := hm
  exact (AnyW.maps_Clone Tryz.mclone mb es c w h1).mono fun e w' ⟨he, hw⟩ => ⟨he, ⟨es, c, by rw [hw]; exact heap_alloc_new w _, h2, h3, h4⟩, by rw [hw]; exact belowA (Below.refl _ w) _, by rw [hw]; simp⟩
set_option maxRecDepth 100000 in
theorem cloneNil (w : World) : Calls Tryz.prog 23 #[.pointer none] w fun e w' => e = .returned (.pointer none) ∧ w' = w := by
  go_enter Tryz.func23, Tryz.ntmps23
  go_wp2
  go_ret
  exact ⟨rfl, rfl⟩
set_option maxRecDepth 100000 in
set_option maxHeartbeats 2000000 in
theorem TreeAt.clone_any {w : World} {lo : Nat → Prop} {b mb : Nat} {root : Bytes} {at_ : Int} {M : List (Bytes × Nd)} (T : TreeAt w lo b mb root at_ M) :
    Calls Tryz.prog 23 #[.pointer (some ⟨b, 0, none⟩)] w fun e w' => ∃ b' mb', e = .returned (.pointer (some ⟨b', 0, none⟩)) ∧ TreeAt w' lo b' mb' root at_ M ∧ w.heap.size ≤ b' ∧ w.heap.size ≤ mb' ∧ b' ≠ mb' ∧ Below w.heap.size w w' := by
  obtain ⟨m, hm, hl⟩ := T.map
  have HM := Lib.hid hm
  have HL := Lib.hid hl
  have hbl : b < w.heap.size := lt_of_block T.blk
  obtain ⟨c0, c1, c2⟩ := T.cells
  have HC := Lib.hid T.cells
  have HCM := Lib.hid (cloneM (hm.of_block (w' := w.drew) rfl))
  clear T hm hl
  go_enter Tryz.func23, Tryz.ntmps23
  go_wp2_with fail
  go_region_held3 (fun w' => w'.cell? ⟨b, 0, none⟩ = some (.string (bs root)) ∧ w'.cell? ⟨b, 1, none⟩ = some (.int .u64 at_) ∧ w'.cell? ⟨b, 2, none⟩ = some (.map (some mb))) (first | assumption | exact HC.out | go_keep) (first | (go_at_call 41; refine HCM.out.mono ?_; rintro e w5 ⟨rfl, H5, B5, Z5⟩; have ct : w5.cell? ⟨b, 0, none⟩ = some (.string (bs root)) ∧ w5.cell? ⟨b, 1, none⟩ = some (.int .u64 at_) ∧ w5.cell? ⟨b, 2, none⟩ = some (.map (some mb)) := ⟨(B5.cell (p := ⟨b, 0, none⟩) hbl).trans HC.out.1, (B5.cell (p := ⟨b, 1, none⟩) hbl).trans HC.out.2.1, (B5.cell (p := ⟨b, 2, none⟩) hbl).trans HC.out.2.2⟩))
  have Z5' : w5.heap.size = w.heap.size + 1 := Z5
  have B5' : Below w.heap.size w w5 := ⟨B5.os, B5.tape, B5.output, B5.size, B5.block⟩
  have HX := Lib.hid (And.intro H5 (And.intro B5' Z5'))
  clear H5 B5 B5' Z5 Z5' ct c0 c1 c2
  go_wp2
  go_ret
  obtain ⟨H5, B5, Z5⟩ := HX.out
  have hb6 : Below w.heap.size w (w5.alloc (.cells #[.string (bs root), .int .u64 at_, .map (some w.heap.size)] 86)) := belowA B5 _
  refine ⟨w.heap.size + 1, w.heap.size, rfl, ⟨?_, m, ?_, ?_⟩, Nat.le_succ _, Nat.le_refl _, by omega, hb6⟩
  · have := heap_alloc_new w5 (.cells #[.string (bs root), .int .u64 at_, .map (some w.heap.size)] 86)
    rw [Z5] at this
    exact this
  · exact HasMap.of_block H5 (heap_alloc_old _ _ H5.lt)
  · exact HL.out.imp fun _ _ h => h.below hb6
end Go.Proofs.YtnclkfhdpkkakaaGreatDoor

namespace Go.Proofs.YtnclkfhdpkkakaaGreatDoor
set_option linter.unusedVariables false
set_option linter.unusedSimpArgs false
set_option linter.unusedVariables false
set_option linter.unusedSimpArgs false
open Go Go.RowKit Go.Shelf Go.MapKept Go.ChangeMaps Go.Maps Go.Sort Go.WideElems

theorem key_len {p : Bytes} {l : Lit} (h : keyOf Tryz.prog 9 (sv p) = some l) : p.length ≤ maxLen ∧ l = .string p := by
  by_cases hp : (bs p).size ≤ maxLen
  · have h2 := WideMaps.keyOf_string_mk Tryz.underlying9 hp
    have : some l = some (Lit.string (bs p).data.toList) := h.symm.trans h2
    cases this
    exact ⟨by rw [← size_bs]; exact hp, by rw [data_bs]⟩
  · exfalso
    rw [keyOf_string Tryz.underlying9] at h
    unfold sv mapKey at h
    simp [Tryz.underlying9, hp] at h
def anyR : Value → Option (DataW Unit × List MemPlace) := fun _ => some (.nil, [])
theorem owns_of {ν : Type} {fv : ν → Value} {w : World} {mb : Nat} {m : List (Bytes × ν)} (hm : HasMap Tryz.prog 9 sv fv w mb m) (hl : m.length ≤ 1000) :
    ∃ D0 : DataW Unit, w.ownsMap Tryz.prog 9 anyR mb m.length D0 ∧ (strKeys D0).Perm (m.map (·.1)) := by
  obtain ⟨es, c, h1, h2, h3, h4⟩ := hm
  have hs : es.size = m.length := by
    have := congrArg List.length h4
    simpa using this
  have hrd : ∀ x ∈ es.toList, ∀ l, keyOf Tryz.prog 9 x.key = some l → WideElems.rd Tryz.prog 9 anyR x = some (l, .nil) := fun x hx l hk => by
    unfold WideElems.rd
    rw [hk]
    rfl
  refine ⟨_, ⟨es, c, h1, ⟨by rw [hs]; unfold maxLen; omega, h2, fun x hx => ?_⟩, by omega, rfl⟩, ?_⟩
  · obtain ⟨l, hk⟩ := h3 x hx
    exact ⟨_, hrd x hx l hk⟩
  · have hp := WideShapes.sorted_perm (es.toList.map (WideElems.rg Tryz.prog 9 anyR))
    have hk : (es.toList.map (WideElems.rg Tryz.prog 9 anyR)).map (fun p => strOf p.1) = m.map (·.1) := by
      rw [List.map_map]
      have h5 : es.toList.map (·.key) = m.map (fun p => sv p.1) := by
        have := congrArg (List.map Prod.fst) h4
        simpa [List.map_map, Function.comp_def] using this
      apply List.ext_getElem?
      intro i
      have h6 := congrArg (fun l => l[i]?) h5
      simp only [List.getElem?_map] at h6 ⊢
      cases hx : es.toList[i]? with
      | none =>
        rw [hx] at h6
        cases hy : m[i]? with
        | none => rfl
        | some y => rw [hy] at h6; simp at h6
      | some x =>
        rw [hx] at h6
        cases hy : m[i]? with
        | none => rw [hy] at h6; simp at h6
        | some y =>
          rw [hy] at h6
          simp only [Option.map_some, Option.some.injEq] at h6
          obtain ⟨l, hk⟩ := h3 x (List.mem_of_getElem? hx)
          have hr := hrd x (List.mem_of_getElem? hx) l hk
          rw [h6] at hk
          obtain ⟨_, rfl⟩ := key_len hk
          simp [WideElems.rg, hr, strOf]
    have := hp.map (fun p : Lit × DataW Unit => strOf p.1)
    rw [hk] at this
    exact this
end Go.Proofs.YtnclkfhdpkkakaaGreatDoor

namespace Go.Proofs.YtnclkfhdpkkakaaGreatDoor
set_option linter.unusedVariables false
set_option linter.unusedSimpArgs false
set_option linter.unusedVariables false
set_option linter.unusedSimpArgs false
open Go Go.RowKit Go.Shelf Go.MapKept Go.ChangeMaps

theorem eq_bs (a b : Bytes) : ((bs a).toList == (bs b).toList) = decide (a = b) := by
  rw [toList_bs, toList_bs]
  by_cases h : a = b
  · subst h; simp
  · simp [h]
/-- In whatever later world: it answers r, and adds blocks alone. -/
def Always (w : World) (n : Nat) (args : Array Value) (r : Value) : Prop := ∀ W, Below w.heap.size w W → Calls Tryz.prog n args W fun e w' => e = .returned r ∧ Below W.heap.size W w'
theorem Always.ext {w w2 : World} {n : Nat} {args : Array Value} {r : Value} (h : Always w n args r) (h2 : Below w.heap.size w w2) : ∀ o, Calls Tryz.prog n args (Wext w2 o) fun e w' => e = .returned r ∧ ∃ o', w' = Wext w2 o' :=
  fun o => (h _ (h2.trans ((Wext.below w2 o).mono h2.size))).mono fun _ _ ⟨he, hb⟩ => ⟨he, below_ext ((Wext.below w2 o).trans (hb.mono (Wext.below w2 o).size))⟩
theorem always_parent {w : World} (hm : MaxInt w) (l : Bytes) (hl : l.length ≤ 1000) : Always w 47 #[.string (bs l)] (.string (bs (parentL l))) := fun W hW => later_parent W (hm.kept hW) l hl W (Below.refl _ _)
theorem always_under {w : World} (hm : MaxInt w) (p q : Bytes) (hp : p.length ≤ 1000) (hq : q.length ≤ 1000) : Always w 21 #[.string (bs p), .string (bs q)] (.bool (underB p q)) := fun W hW => later_under W (hm.kept hW) p q hp hq W (Below.refl _ _)
theorem always_base {w : World} (hm : MaxInt w) (l : Bytes) (hl : l.length ≤ 1000) : Always w 48 #[.string (bs l)] (.string (bs (baseL l))) := fun W hW => later_base W (hm.kept hW) l hl W (Below.refl _ _)
theorem always_check {w : World} (hm : MaxInt w) (l : Bytes) (hl : l.length ≤ 1000) : Always w 45 #[.string (bs l)] (.int .i64 (checkV l)) := fun W hW => later_check W (hm.kept hW) l hl W (Below.refl _ _)

theorem all_any (t v : Value) (w : World) (ht : t.oneCell' = true) (hv : v.oneCell' = true) : Calls Tryz.prog 43 #[t, v] w fun e w' => e = .returned (.func (.func 69) #[] #[.pointer (some ⟨w.heap.size, 0, none⟩), .pointer (some ⟨w.heap.size + 1, 0, none⟩)]) ∧ w' = (w.alloc (.cells #[t] 33)).alloc (.cells #[v] 99) := by
  go_enter Tryz.func43, Tryz.ntmps43
  go_wp2
  go_ret
  exact ⟨rfl, rfl⟩
theorem yes_any (q : Bytes) (w : World) : Calls Tryz.prog 44 #[.string (bs q)] w fun e w' => e = .returned (.bool true) ∧ w' = w := by
  go_enter Tryz.func44, Tryz.ntmps44
  go_wp2
  go_ret
  exact ⟨rfl, rfl⟩
/-- Is q a child of p? -/
def kidB (root p q : Bytes) : Bool := !decide (q = p) && !decide (q = root) && decide (parentL q = p)
set_option maxRecDepth 100000 in
set_option maxHeartbeats 2000000 in
theorem kid_any (root p q : Bytes) (bp bt b : Nat) (w : World) (hm : MaxInt w) (hq : q.length ≤ 1000) (h1 : w.cell? ⟨bp, 0, none⟩ = some (.string (bs p))) (h2 : w.cell? ⟨bt, 0, none⟩ = some (.pointer (some ⟨b, 0, none⟩))) (h3 : w.cell? ⟨b, 0, none⟩ = some (.string (bs root))) :
    Calls Tryz.prog 46 #[.string (bs q), .pointer (some ⟨bp, 0, none⟩), .pointer (some ⟨bt, 0, none⟩)] w fun e w' => e = .returned (.bool (kidB root p q)) ∧ Below w.heap.size w w' := by
  have f1 : ∀ o, (Wext w o).cell? ⟨bp, 0, none⟩ = some (.string (bs p)) := fun o => ((Wext.below w o).cell (p := ⟨bp, 0, none⟩) (World.block_lt_of_cell? _ _ h1)).trans h1
  have f2 : ∀ o, (Wext w o).cell? ⟨bt, 0, none⟩ = some (.pointer (some ⟨b, 0, none⟩)) := fun o => ((Wext.below w o).cell (p := ⟨bt, 0, none⟩) (World.block_lt_of_cell? _ _ h2)).trans h2
  have f3 : ∀ o, (Wext w o).cell? ⟨b, 0, none⟩ = some (.string (bs root)) := fun o => ((Wext.below w o).cell (p := ⟨b, 0, none⟩) (World.block_lt_of_cell? _ _ h3)).trans h3
  have KP := Lib.hid ((always_parent hm q hq).ext (Below.refl _ w))
  have t1 := eq_bs q p
  have t2 := eq_bs q root
  have t3 := eq_bs (parentL q) p
  have s1 : (!((bs q).toList == (bs p).toList)) = !decide (q = p) := by rw [t1]
  have s2 : (!((bs q).toList == (bs root).toList)) = !decide (q = root) := by rw [t2]
  unfold kidB
  clear h1 h2 h3 hm hq
  generalize bs (parentL q) = u at *
  cases b1 : decide (q = p) <;> cases b2 : decide (q = root) <;> cases b3 : decide (parentL q = p)
  all_goals
    rw [b1] at t1 s1
    rw [b2] at t2 s2
    rw [b3] at t3
    simp only [Bool.not_true, Bool.not_false] at s1 s2 ⊢
    clear b1 b2 b3
    go_enter Tryz.func46, Tryz.ntmps46
    go_wp2_with fail
    refine wp_region_ext (by kernel_rfl) (by kernel_rfl) ?_
    repeat (go_big_quiet_step (first | (go_at_call 47; exact KP.out _)))
    refine wpQuiet_nil ?_
    intro w' hw'
    obtain ⟨oq, hw''⟩ := hw'
    subst hw''
    go_wp2
    go_ret
    exact ⟨rfl, Wext.below w oq⟩
end Go.Proofs.YtnclkfhdpkkakaaGreatDoor

namespace Go.Proofs.YtnclkfhdpkkakaaGreatDoor
set_option linter.unusedVariables false
set_option linter.unusedSimpArgs false
set_option linter.unusedVariables false
set_option linter.unusedSimpArgs false
open Go Go.RowKit Go.Shelf Go.MapKept Go.ChangeMaps

set_option maxRecDepth 100000 in
theorem new_no (root : Bytes) (w : World) (hm : MaxInt w) (hl : root.length ≤ 1000) (h : (partsL root).isSome = false) : Calls Tryz.prog 27 #[.string (bs root)] w fun e w' => e = .returned (.tuple #[.pointer none, .int .i64 30]) ∧ Below w.heap.size w w' := by
  have ck := always_check hm root hl w (Below.refl _ _)
  unfold checkV at ck
  rw [h] at ck
  have CK := Lib.hid ck
  clear ck h
  go_enter Tryz.func27, Tryz.ntmps27
  go_wp2_with fail
  refine CK.out.mono ?_
  rintro e w1 ⟨rfl, B1⟩
  have HB := Lib.hid B1
  clear B1
  go_wp2
  refine bodyPost_ret (results_tmp2 rfl _ _ _) rfl ?_
  exact ⟨rfl, HB.out⟩
set_option maxRecDepth 100000 in
set_option maxHeartbeats 2000000 in
theorem new_yes (root : Bytes) (w : World) (hm : MaxInt w) (hl : root.length ≤ 1000) (h : (partsL root).isSome = true) : Calls Tryz.prog 27 #[.string (bs root)] w fun e w' => ∃ b mb, e = .returned (.tuple #[.pointer (some ⟨b, 0, none⟩), .int .i64 0]) ∧ TreeAt w' (From w.heap.size) b mb root 0 [(root, zNd)] ∧ w.heap.size ≤ b ∧ w.heap.size ≤ mb ∧ b ≠ mb ∧ Below w.heap.size w w' := by
  have ck := always_check hm root hl w (Below.refl _ _)
  unfold checkV at ck
  rw [h] at ck
  have CK := Lib.hid ck
  have hmm := @run_makeMap Tryz.prog
  clear ck h
  go_enter Tryz.func27, Tryz.ntmps27
  go_wp2_with fail
  refine CK.out.mono ?_
  rintro e w1 ⟨rfl, B1⟩
  have HB := Lib.hid B1
  clear B1
  have hm0 := HasMap.made (κ := Bytes) (ν := Raw) Tryz.prog 9 sv Raw.val w1
  obtain ⟨lk, hlk⟩ := sv_key (p := root) (by unfold maxLen; omega)
  obtain ⟨o, ho⟩ := hm0.update keyStr sv_inj Tryz.underlying84 zRaw hlk
  obtain ⟨g1, g2⟩ := ho (w1.alloc (.map #[] 0)) rfl
  have g1 : (Instr.mapUpdate 84 (.map (some w1.heap.size)) (.string (bs root)) (.agg #[.slice none 0 0, .int .u32 0, .int .u32 0, .int .u32 0, .int .i64 0, .int .u32 0, .int .u64 0, .int .u64 0, .int .u64 0])).run Tryz.prog (w1.alloc (.map #[] 0)) = .ok () (setBlock (w1.alloc (.map #[] 0)) w1.heap.size o) := g1
  have hs : (setBlock (w1.alloc (.map #[] 0)) w1.heap.size o).heap.size = w1.heap.size + 1 := by simp [setBlock]
  have hk : Kept (· = w1.heap.size) (w1.alloc (.map #[] 0)) (setBlock (w1.alloc (.map #[] 0)) w1.heap.size o) := kept_setBlock (by simp) o
  have hb2 : Below w1.heap.size w1 (setBlock (w1.alloc (.map #[] 0)) w1.heap.size o) := by
    have h1 : Below w1.heap.size w1 (w1.alloc (.map #[] 0)) := belowA (Below.refl _ w1) _
    exact h1.trans (hk.below (by simp) (fun k h => by omega))
  have HG := Lib.hid (And.intro g2 (And.intro hs hb2))
  clear ho g2 hs hb2 hk hm0 hlk
  go_wp2
  refine bodyPost_ret (results_tmp2 rfl _ _ _) rfl ?_
  obtain ⟨g2, hs, hb2⟩ := HG.out
  have hb3 : Below w.heap.size w ((setBlock (w1.alloc (.map #[] 0)) w1.heap.size o).alloc (.cells #[.string (bs root), .int .u64 0, .map (some w1.heap.size)] 86)) := (HB.out.trans (hb2.mono HB.out.size)).trans ((belowA (Below.refl _ _) _).mono (by have := HB.out.size; rw [hs]; omega))
  have hw1 := HB.out.size
  refine ⟨(setBlock (w1.alloc (.map #[] 0)) w1.heap.size o).heap.size, w1.heap.size, rfl, ⟨heap_alloc_new _ _, _, g2.of_block (heap_alloc_old _ _ (by omega)), ?_⟩, by omega, hw1, by omega, hb3⟩
  exact ⟨⟨rfl, zReads _ _⟩, trivial⟩
end Go.Proofs.YtnclkfhdpkkakaaGreatDoor

namespace Go.Proofs.YtnclkfhdpkkakaaGreatDoor
set_option linter.unusedVariables false
set_option linter.unusedSimpArgs false
set_option linter.unusedVariables false
set_option linter.unusedSimpArgs false
open Go Go.RowKit Go.Shelf Go.MapKept Go.ChangeMaps

/-- An effect: its path, whether it goes, its node as it lies. -/
structure RawE where
  path : Bytes
  gone : Bool
  node : Raw
def RawE.cells (e : RawE) : List Value := .string (bs e.path) :: .bool e.gone :: e.node.cells
def RawE.val (e : RawE) : Value := .agg e.cells.toArray
end Go.Proofs.YtnclkfhdpkkakaaGreatDoor
