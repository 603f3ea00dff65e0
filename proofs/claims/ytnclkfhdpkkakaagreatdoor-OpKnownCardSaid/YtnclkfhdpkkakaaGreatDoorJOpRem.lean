/-
  The doer's remove, walked.
-/
import Derived.Test.YtnclkfhdpkkakaaGreatDoorJOp8k
namespace Go.Proofs.YtnclkfhdpkkakaaGreatDoor
set_option linter.unusedVariables false
set_option linter.unusedSimpArgs false
open Go Go.RowKit Go.Shelf Go.MapKept Go.ChangeMaps Go.Maps Go.Sort
theorem must_any (t : Bool) (x : Int) (w : World) : Calls Tryz.prog 58 #[.bool t, .int .i64 x] w fun e w' => w = w' ∧ (t = true ∧ e = .returned (.tuple #[]) ∨ t = false ∧ e = panicV x) := by
  cases t
  · exact (must_no x w).mono fun e w' ⟨h1, h2⟩ => ⟨h2.symm, .inr ⟨rfl, h1⟩⟩
  · exact (must_yes x w).mono fun e w' ⟨h1, h2⟩ => ⟨h2.symm, .inl ⟨rfl, h1⟩⟩
section
variable {X : Nat → Prop} {w0 w : World} {d b : Nat} {root : Bytes} {at_ cnt : Int} {M : List (Bytes × Nd)} {who : Sess} {v : Value} {L : List RawE} {E : List Eff}
theorem Fit.node (h : Fit M) {p : Bytes} {nd : Nd} (hg : getA p M = some nd) : nd.data.length ≤ 1000000 := by
  obtain ⟨x, hx, rfl⟩ := getA_mem hg
  exact h.data x hx
theorem Fit.key (h : Fit M) {p : Bytes} {nd : Nd} (hg : getA p M = some nd) : p.length ≤ 1000 := by
  have := getA_some.1 (show (getA p M).isSome = true by rw [hg]; rfl)
  obtain ⟨x, hx, rfl⟩ := List.mem_map.1 this
  exact h.path x hx
theorem DoerAt.ver_any (D : DoerAt X w0 w d b root at_ cnt M who v L E) (r : RawO) (o : Opl) (h1 : r.path = o.path) (h2 : r.ver = o.ver) (hp : o.path.length ≤ 1000) :
    Calls Tryz.prog 115 #[.pointer (some ⟨d, 0, none⟩), r.val] w fun e w' => (verE M o = 0 ∧ (∃ r' : Raw, e = .returned r'.val) ∧ Below w.heap.size w w') ∨ (verE M o ≠ 0 ∧ e = panicV (verE M o) ∧ Below w.heap.size w w') := by
  by_cases h : verE M o = 0
  · obtain ⟨nd, hnd, hver⟩ := ver_there h
    refine (D.ver_ok (nd := nd) r (by rw [h1]; exact hp) (by rw [h1]; exact hnd) (by rw [h2]; exact hver)).mono fun e w' hh => ?_
    obtain ⟨r', g1, _, g3, _⟩ := hh
    exact .inl ⟨h, ⟨r', g1⟩, g3⟩
  · exact (D.ver_err r o h1 h2 hp rfl h).mono fun e w' ⟨h1, h3⟩ => .inr ⟨h, h1, h3⟩
set_option maxRecDepth 100000 in
set_option maxHeartbeats 16000000 in
theorem DoerAt.remove_any (D : DoerAt X w0 w d b root at_ cnt M who v L E) (h0 : 0 ≤ cnt) (h1 : cnt ≤ 100000) (hsz : E.length ≤ 900) (r : RawO) (o : Opl) {lo : Nat → Prop} (hr : LeafO w lo r o) (hp : o.path.length ≤ 1000) {x : Int} (hx : removeE root M o = x) :
    Calls Tryz.prog 86 #[.pointer (some ⟨d, 0, none⟩), r.val] w fun e w' => (x = 0 ∧ OpDone X w0 w d b root at_ (cnt + 1) M (removeM M at_ o) who v (E ++ removeX M at_ o) ⟨o.path, zNd, []⟩ e w') ∨ (x ≠ 0 ∧ OpFail w x e w') := by
  obtain ⟨ok, op, oa, on, oc, ov, os, oe, pa, pn, pc⟩ := r
  obtain ⟨okd, opp, odata, over, oseq, oeph⟩ := o
  obtain ⟨q1, q2, q3, q4, q5, q6, q7, q8⟩ := hr
  clear q6 q7 q8
  dsimp only at q1 q2 q3 q4 q5 hp
  subst q1 q2 q3 q4 q5
  unfold RawO.val RawO.cells
  try dsimp only
  obtain ⟨w1, hw1, hb1, hs1, k0, k1, ho1⟩ := op_boxes w ok op oa on oc ov os oe pa pn pc
  have HSO : Hid ((Tryz.prog.info? 26).map (·.size) = some 7) := Lib.hid (by kernel_rfl)
  have HSR : Hid ((Tryz.prog.info? 43).map (·.size) = some 13) := Lib.hid (by kernel_rfl)
  have D1 := D.below hb1
  have y1 : ∀ w', Below w1.heap.size w1 w' → w'.cell? ⟨w.heap.size, 1, none⟩ = some (.string (bs op)) := fun w' hb => (hb.cell (p := ⟨w.heap.size, 1, none⟩) (by show w.heap.size < w1.heap.size; omega)).trans (ho1 1 _ rfl)
  have y0 : ∀ w', Below w1.heap.size w1 w' → w'.cell? ⟨d, 0, none⟩ = some (.pointer (some ⟨b, 0, none⟩)) := fun w' hb => (hb.cell (p := ⟨d, 0, none⟩) D1.lt).trans D1.c0
  have HRT : Hid (∀ w', Below w1.heap.size w1 w' → Calls Tryz.prog 59 #[.pointer (some ⟨b, 0, none⟩)] w' fun e w'' => e = .returned (.string (bs root)) ∧ w'' = w') := Lib.hid fun w' hb => by
    obtain ⟨lo, mb, T⟩ := (D1.below hb).tree.tree
    exact T.root_any
  have hv := fun (w' : World) (hb : Below w1.heap.size w1 w') => (D1.below hb).ver_any ⟨ok, op, oa, on, oc, ov, os, oe, pa, pn, pc⟩ ⟨ok, op, odata, ov, os, oe⟩ rfl rfl hp
  unfold RawO.val RawO.cells at hv
  dsimp only at hv
  have HV := Lib.hid hv
  have HX := Lib.hid hx
  obtain ⟨t1, ht1⟩ : ∃ t1, t1 = decide (op = root) := ⟨_, rfl⟩
  have te := (neq_of ht1.symm).1
  have HT1 := Lib.hid ht1
  have HD := Lib.hid (And.intro D (And.intro D1 (And.intro h0 (And.intro h1 hsz))))
  have hdl := D.lt
  have HO1 := Lib.hid ho1
  have H1 := Lib.hid (And.intro hb1 (And.intro hs1 (And.intro k0 (And.intro k1 hw1))))
  clear D D1 hx hv ht1 h0 h1 hsz hb1 hs1 k0 k1 hw1 ho1
  go_enter Tryz.func86, Tryz.ntmps86
  go_wp2_with fail
  rw [← H1.out.2.2.2.2]
  -- the path is not the root
  refine wp_region_held_drew (S := Below w1.heap.size w1) (by kernel_rfl) (Below.refl _ w1).drew (fun hS => ?_)
  refine took_in 0 rfl (by kernel_rfl) (by kernel_rfl) (by kernel_rfl) (by rfl) hS (fun w' hS' => by go_simp <;> rfl) (fun _ _ _ h => h) ?_
  simp only [Act.put, List.setIfInBounds_toArray, List.set_cons_zero, List.set_cons_succ]
  refine took_in 1 rfl (by kernel_rfl) (by kernel_rfl) (by kernel_rfl) (by rfl) hS (fun w' hS' => by have := y1 w' hS'; go_simp <;> rfl) (fun _ _ _ h => h) ?_
  simp only [Act.put, List.setIfInBounds_toArray, List.set_cons_zero, List.set_cons_succ]
  refine took_in 2 rfl (by kernel_rfl) (by kernel_rfl) (by kernel_rfl) (by rfl) hS (fun w' hS' => by go_simp <;> rfl) (fun _ _ _ h => h) ?_
  simp only [Act.put, List.setIfInBounds_toArray, List.set_cons_zero, List.set_cons_succ]
  refine took_in 3 rfl (by kernel_rfl) (by kernel_rfl) (by kernel_rfl) (by rfl) hS (fun w' hS' => by go_simp <;> rfl) (fun _ _ _ h => h) ?_
  simp only [Act.put, List.setIfInBounds_toArray, List.set_cons_zero, List.set_cons_succ]
  refine took_in 4 rfl (by kernel_rfl) (by kernel_rfl) (by kernel_rfl) (by rfl) hS (fun w' hS' => by go_simp <;> rfl) (fun _ _ _ h => h) ?_
  simp only [Act.put, List.setIfInBounds_toArray, List.set_cons_zero, List.set_cons_succ]
  refine took_in 5 rfl (by kernel_rfl) (by kernel_rfl) (by kernel_rfl) (by rfl) hS (fun w' hS' => by have := y0 w' hS'; go_simp <;> rfl) (fun _ _ _ h => h) ?_
  simp only [Act.put, List.setIfInBounds_toArray, List.set_cons_zero, List.set_cons_succ]
  refine call_in 6 rfl (by kernel_rfl) (by rfl) _ _ (by go_simp <;> first | rfl | exact ⟨rfl, rfl⟩) ?_
  refine (HRT.out _ hS).mono ?_
  rintro e w2 ⟨rfl, rfl⟩
  refine ⟨hS, ?_⟩
  try dsimp only
  simp only [Act.put, List.setIfInBounds_toArray, List.set_cons_zero, List.set_cons_succ]
  refine took_in 7 rfl (by kernel_rfl) (by kernel_rfl) (by kernel_rfl) (by rfl) hS (fun w' hS' => by go_simp <;> rfl) (fun _ _ _ h => h) ?_
  simp only [Act.put, List.setIfInBounds_toArray, List.set_cons_zero, List.set_cons_succ]
  refine call_in 8 rfl (by kernel_rfl) (by rfl) _ _ (by go_simp <;> first | rfl | exact ⟨rfl, rfl⟩) ?_
  refine (must_any _ _ _).mono ?_
  rintro e w2 ⟨rfl, (⟨ht, rfl⟩ | ⟨ht, rfl⟩)⟩
  rotate_left
  · have HS := Lib.hid hS
    have HT := Lib.hid ht
    clear hS ht
    unfold panicV
    try dsimp only
    go_wp2_with fail
    have e1 : t1 = true := by simpa using HT.out
    have e2 : op = root := by have := HT1.out; rw [e1] at this; simpa using this.symm
    have e3 : x = 30 := by rw [← HX.out]; unfold removeE; rw [if_pos e2]
    subst e3
    exact ⟨rfl, .inr ⟨by decide, rfl, H1.out.1.trans (HS.out.mono H1.out.1.size)⟩⟩
  refine ⟨hS, ?_⟩
  have HT := Lib.hid ht
  clear ht
  try dsimp only
  simp only [Act.put, List.setIfInBounds_toArray, List.set_cons_zero, List.set_cons_succ]
  refine wpAnyH_done (by kernel_rfl) ?_ _
  have hne : Hid (op ≠ root) := Lib.hid (by
    have e1 : t1 = false := by simpa using HT.out
    have := HT1.out
    rw [e1] at this
    simpa using this.symm)
  have HR1 : Hid (World.rangeAt w1.drew w.heap.size 0 [.int .u8 ok, .string (bs op), .slice oa on oc, .int .i64 ov, .bool os, .bool oe, .slice pa pn pc]) := Lib.hid HO1.out
  clear te HT HT1
  -- its version is the one that is asked for
  have HS1 := Lib.hid hS
  clear hS
  go_wp2_with (refine wpList_load_mid rfl 26 (.tmp 3) rfl w.heap.size 0 rfl [.int .u8 ok, .string (bs op), .slice oa on oc, .int .i64 ov, .bool os, .bool oe, .slice pa pn pc] _ HR1.out Tryz.underlying26 rfl HSO.out ?_)
  refine (HV.out _ HS1.out).mono ?_
  rintro e w3 (⟨hv0, ⟨r', rfl⟩, B3'⟩ | ⟨hv0, rfl, B3'⟩)
  rotate_left
  · have HS := Lib.hid (And.intro hv0 (HS1.out.trans B3'))
    clear hv0 B3'
    unfold panicV
    go_wp2_with fail
    have e3 : x = verE M ⟨ok, op, odata, ov, os, oe⟩ := by rw [← HX.out]; unfold removeE; rw [if_neg hne.out, if_pos HS.out.1]
    exact ⟨rfl, .inr ⟨by rw [e3]; exact HS.out.1, by rw [e3]; rfl, H1.out.1.trans (HS.out.2.mono H1.out.1.size)⟩⟩
  have B3 : Below w1.heap.size w1 w3 := HS1.out.trans B3'
  have HB3 := Lib.hid B3
  have HV0 := Lib.hid hv0
  clear B3 B3' hv0
  -- it has no children
  obtain ⟨kn, hkn⟩ : ∃ kn, kn = (kidsS root M op).length := ⟨_, rfl⟩
  obtain ⟨t2, ht2⟩ : ∃ t2, t2 = decide (kn = 0) := ⟨_, rfl⟩
  have tk : ((kn : Int) == 0) = t2 := by rw [ht2]; by_cases h : kn = 0 <;> simp [h]
  have tk2 : (kn == 0) = t2 := by rw [ht2]; by_cases h : kn = 0 <;> simp [h]
  have tk3 : decide (kn = 0) = t2 := ht2.symm
  have tk4 : decide ((kn : Int) = 0) = t2 := by rw [ht2]; by_cases h : kn = 0 <;> simp [h]
  have HKN := Lib.hid (And.intro hkn ht2)
  have HKC : Hid (∀ w', Below w1.heap.size w1 w' → Calls Tryz.prog 28 #[.pointer (some ⟨b, 0, none⟩), .string (bs op)] w' fun e w'' => ∃ a c, e = .returned (.slice a kn c) ∧ Below w1.heap.size w1 w'') := Lib.hid fun w' hb => ((HD.out.2.1.below hb).kidsC op).mono fun e w'' ⟨a, c, h1, _, h3⟩ => ⟨a, c, by rw [HKN.out.1]; exact h1, hb.trans (h3.mono hb.size)⟩
  clear hkn ht2
  go_wp2_with fail
  refine wp_region_held_drew (S := Below w1.heap.size w1) (by kernel_rfl) HB3.out.drew (fun hS => ?_)
  refine took_in 0 rfl (by kernel_rfl) (by kernel_rfl) (by kernel_rfl) (by rfl) hS (fun w' hS' => by go_simp <;> rfl) (fun _ _ _ h => h) ?_
  simp only [Act.put, List.setIfInBounds_toArray, List.set_cons_zero, List.set_cons_succ]
  refine took_in 1 rfl (by kernel_rfl) (by kernel_rfl) (by kernel_rfl) (by rfl) hS (fun w' hS' => by go_simp <;> rfl) (fun _ _ _ h => h) ?_
  simp only [Act.put, List.setIfInBounds_toArray, List.set_cons_zero, List.set_cons_succ]
  refine took_in 2 rfl (by kernel_rfl) (by kernel_rfl) (by kernel_rfl) (by rfl) hS (fun w' hS' => by go_simp <;> rfl) (fun _ _ _ h => h) ?_
  simp only [Act.put, List.setIfInBounds_toArray, List.set_cons_zero, List.set_cons_succ]
  refine took_in 3 rfl (by kernel_rfl) (by kernel_rfl) (by kernel_rfl) (by rfl) hS (fun w' hS' => by have := y0 w' hS'; go_simp <;> rfl) (fun _ _ _ h => h) ?_
  simp only [Act.put, List.setIfInBounds_toArray, List.set_cons_zero, List.set_cons_succ]
  refine took_in 4 rfl (by kernel_rfl) (by kernel_rfl) (by kernel_rfl) (by rfl) hS (fun w' hS' => by go_simp <;> rfl) (fun _ _ _ h => h) ?_
  simp only [Act.put, List.setIfInBounds_toArray, List.set_cons_zero, List.set_cons_succ]
  refine took_in 5 rfl (by kernel_rfl) (by kernel_rfl) (by kernel_rfl) (by rfl) hS (fun w' hS' => by have := y1 w' hS'; go_simp <;> rfl) (fun _ _ _ h => h) ?_
  simp only [Act.put, List.setIfInBounds_toArray, List.set_cons_zero, List.set_cons_succ]
  refine call_in 6 rfl (by kernel_rfl) (by rfl) _ _ (by go_simp <;> first | rfl | exact ⟨rfl, rfl⟩) ?_
  refine (HKC.out _ hS).mono ?_
  rintro e w4 ⟨ka, kc, rfl, B4⟩
  refine ⟨B4, ?_⟩
  try dsimp only
  simp only [Act.put, List.setIfInBounds_toArray, List.set_cons_zero, List.set_cons_succ]
  refine took_in 7 rfl (by kernel_rfl) (by kernel_rfl) (by kernel_rfl) (by rfl) B4 (fun w' hS' => by go_simp <;> rfl) (fun _ _ _ h => h) ?_
  simp only [Act.put, List.setIfInBounds_toArray, List.set_cons_zero, List.set_cons_succ]
  refine took_in 8 rfl (by kernel_rfl) (by kernel_rfl) (by kernel_rfl) (by rfl) B4 (fun w' hS' => by go_simp <;> rfl) (fun _ _ _ h => h) ?_
  simp only [Act.put, List.setIfInBounds_toArray, List.set_cons_zero, List.set_cons_succ]
  refine call_in 9 rfl (by kernel_rfl) (by rfl) _ _ (by go_simp <;> first | rfl | exact ⟨rfl, rfl⟩) ?_
  refine (must_any _ _ _).mono ?_
  rintro e w5 ⟨rfl, (⟨ht, rfl⟩ | ⟨ht, rfl⟩)⟩
  rotate_left
  · have HS := Lib.hid (And.intro B4 ht)
    clear hS ht B4
    unfold panicV
    try dsimp only
    go_wp2_with fail
    have e1 : t2 = false := by simpa using HS.out.2
    have e2 : ¬ kn = 0 := by have := HKN.out.2; rw [e1] at this; simpa using this.symm
    have e3 : x = 33 := by rw [← HX.out]; unfold removeE; rw [if_neg hne.out, if_neg (by simpa using HV0.out), if_pos (by have := HKN.out.1; dsimp only; omega)]
    subst e3
    exact ⟨rfl, .inr ⟨by decide, rfl, H1.out.1.trans (HS.out.1.mono H1.out.1.size)⟩⟩
  refine ⟨B4, ?_⟩
  have HS4 := Lib.hid (And.intro B4 ht)
  clear ht tk tk2 tk3 tk4 hS
  try dsimp only
  simp only [Act.put, List.setIfInBounds_toArray, List.set_cons_zero, List.set_cons_succ]
  refine wpAnyH_done (by kernel_rfl) ?_ _
  have hx0 : Hid (x = 0 ∧ removeE root M ⟨ok, op, odata, ov, os, oe⟩ = 0) := Lib.hid (by
    have e1 : t2 = true := by simpa using HS4.out.2
    have e2 : kn = 0 := by have := HKN.out.2; rw [e1] at this; simpa using this.symm
    have e3 : removeE root M ⟨ok, op, odata, ov, os, oe⟩ = 0 := by unfold removeE; rw [if_neg hne.out, if_neg (by simpa using HV0.out), if_neg (by have := HKN.out.1; dsimp only; omega)]
    exact ⟨by rw [← HX.out]; exact e3, e3⟩)
  -- the effects
  obtain ⟨nd, hnd, _⟩ := ver_there HV0.out
  dsimp only at hnd
  have hpath : op ∈ M.map (·.1) := getA_some.1 (show (getA op M).isSome = true by rw [hnd]; rfl)
  have hund := HD.out.1.inv.under op hpath
  have hpar := HD.out.1.inv.parent op hpath hne.out
  obtain ⟨u, hu⟩ : ∃ u, getA (parentL op) M = some u := Option.isSome_iff_exists.1 (getA_some.2 hpar)
  have HTO := Lib.hid (fun (w' : World) (hb : Below w1.heap.size w1 w') => (HD.out.2.1.below hb).touched_some (HD.out.2.1.below hb).tree.max op hp hu)
  have HFX := Lib.hid (And.intro (remove_fits (at_ := at_) HD.out.1.inv hund hx0.out.2) (And.intro hu (And.intro (HD.out.1.tree.fit.key hu) (HD.out.1.tree.fit.node hu))))
  have yp : ∀ w', (fun w' : World => w'.cell? ⟨w.heap.size, 1, none⟩ = some (.string (bs op))) w' → w'.cell? ⟨w.heap.size, 1, none⟩ = some (.string (bs op)) := fun w' h => h
  have HYP : Hid (w4.drew.cell? ⟨w.heap.size, 1, none⟩ = some (.string (bs op))) := Lib.hid (y1 _ B4.drew)
  clear hnd hpath hund hpar hu y0 B4
  go_wp2_with fail
  refine wp_region_held_drew (S := fun w' => w'.cell? ⟨w.heap.size, 1, none⟩ = some (.string (bs op))) (by kernel_rfl) HYP.out (fun hS => ?_)
  refine took_in 0 rfl (by kernel_rfl) (by kernel_rfl) (by kernel_rfl) (by rfl) hS (fun w' hS' => by go_simp <;> rfl) (fun _ _ _ h => h) ?_
  simp only [Act.put, List.setIfInBounds_toArray, List.set_cons_zero, List.set_cons_succ]
  refine took_in 1 rfl (by kernel_rfl) (by kernel_rfl) (by kernel_rfl) (by rfl) hS (fun w' hS' => by go_simp <;> rfl) (fun _ _ _ h => h) ?_
  simp only [Act.put, List.setIfInBounds_toArray, List.set_cons_zero, List.set_cons_succ]
  refine took_in 2 rfl (by kernel_rfl) (by kernel_rfl) (by kernel_rfl) (by rfl) hS (fun w' hS' => by have := yp w' hS'; go_simp <;> rfl) (fun _ _ _ h => h) ?_
  simp only [Act.put, List.setIfInBounds_toArray, List.set_cons_zero, List.set_cons_succ]
  refine took_in 3 rfl (by kernel_rfl) (by kernel_rfl) (by kernel_rfl) (by rfl) hS (fun w' hS' => by go_simp <;> rfl) (fun _ _ _ h => h) ?_
  simp only [Act.put, List.setIfInBounds_toArray, List.set_cons_zero, List.set_cons_succ]
  refine took_in 4 rfl (by kernel_rfl) (by kernel_rfl) (by kernel_rfl) (by rfl) hS (fun w' hS' => by go_simp <;> rfl) (fun _ _ _ h => h) ?_
  simp only [Act.put, List.setIfInBounds_toArray, List.set_cons_zero, List.set_cons_succ]
  refine took_in 5 rfl (by kernel_rfl) (by kernel_rfl) (by kernel_rfl) (by rfl) hS (fun w' hS' => by go_simp <;> rfl) (fun _ _ _ h => h) ?_
  simp only [Act.put, List.setIfInBounds_toArray, List.set_cons_zero, List.set_cons_succ]
  refine took_in 6 rfl (by kernel_rfl) (by kernel_rfl) (by kernel_rfl) (by rfl) hS (fun w' hS' => by have := yp w' hS'; go_simp <;> rfl) (fun _ _ _ h => h) ?_
  simp only [Act.put, List.setIfInBounds_toArray, List.set_cons_zero, List.set_cons_succ]
  refine call_in 7 rfl (by kernel_rfl) (by rfl) _ _ (by go_simp <;> first | rfl | exact ⟨rfl, rfl⟩) ?_
  refine (HTO.out _ HS4.out.1.drew).mono ?_
  rintro e w5 ⟨⟨ra, rn, rc, ⟨r1, r2, r3, r4, r5, r6, r7, r8⟩⟩, rfl, hrd, B5', hfree⟩
  have B5 : Below w1.heap.size w1 w5 := HS4.out.1.drew.trans (B5'.mono HS4.out.1.size)
  have hS5 := y1 _ B5
  unfold RawE.val RawE.cells Raw.cells Nums.cells
  dsimp only [List.cons_append, List.nil_append]
  refine ⟨hS5, ?_⟩
  try dsimp only
  simp only [Act.put, List.setIfInBounds_toArray, List.set_cons_zero, List.set_cons_succ]
  obtain ⟨w6, hw6⟩ : ∃ w6, w6 = w5.alloc (.cells #[.string (bs op), .bool true, .slice none 0 0, .int .u32 0, .int .u32 0, .int .u32 0, .int .i64 0, .int .u32 0, .int .u64 0, .int .u64 0, .int .u64 0, .string (bs (parentL op)), .bool false, .slice ra rn rc, .int .u32 r1, .int .u32 r2, .int .u32 r3, .int .i64 r4, .int .u32 r5, .int .u64 r6, .int .u64 r7, .int .u64 r8] 88) := ⟨_, rfl⟩
  have B6' : Below w5.heap.size w5 w6 := by rw [hw6]; exact belowA (Below.refl _ w5) _
  have B6 : Below w1.heap.size w1 w6 := B5.trans (B6'.mono B5.size)
  have hS6 := y1 _ B6
  have hs6 : w6.heap.size = w5.heap.size + 1 := by rw [hw6]; simp
  have hEA : EffsAt w6 w6.heap.size (some ⟨w5.heap.size, 0, none⟩) [⟨op, true, zRaw⟩, ⟨parentL op, false, ⟨ra, rn, rc, ⟨r1, r2, r3, r4, r5, r6, r7, r8⟩⟩⟩] := by rw [hw6]; exact effs_two w5 ⟨op, true, zRaw⟩ ⟨parentL op, false, ⟨ra, rn, rc, ⟨r1, r2, r3, r4, r5, r6, r7, r8⟩⟩⟩
  have hEL : LikeE w6 (From w4.heap.size) [⟨op, true, zRaw⟩, ⟨parentL op, false, ⟨ra, rn, rc, ⟨r1, r2, r3, r4, r5, r6, r7, r8⟩⟩⟩] (removeX M at_ ⟨ok, op, odata, ov, os, oe⟩) := by
    unfold removeX
    try dsimp only
    rw [HFX.out.2.1]
    exact like_two (r := ⟨op, true, zRaw⟩) ⟨rfl, rfl, zReads _ _⟩ ⟨rfl, rfl, hrd.below B6'⟩
  have D6 := HD.out.2.1.below B6
  have hef := D6.effects HD.out.2.2.1 HD.out.2.2.2.1 (gb := w5.heap.size) (go_ := 0) (n := 2) (c := 2) (Lx := [⟨op, true, zRaw⟩, ⟨parentL op, false, ⟨ra, rn, rc, ⟨r1, r2, r3, r4, r5, r6, r7, r8⟩⟩⟩]) (Ex := removeX M at_ ⟨ok, op, odata, ov, os, oe⟩) rfl hEA (by have h2 := HD.out.1.tree.lt; have h3 := B5.size; have := H1.out.2.1; omega) hEL
    (by intro k hk; have hk : w4.heap.size ≤ k := hk; have := HS4.out.1.size; have := H1.out.2.1; exact ⟨fun e => by have := (HD.out.1.row.own.lt k e).2; omega, fun e => by have := HD.out.1.old k e; omega⟩)
    (by
      intro y hy
      simp [removeX] at hy
      rcases hy with rfl | rfl
      · exact ⟨hp, by show zNd.data.length ≤ 1000000; simp [zNd]⟩
      · refine ⟨HFX.out.2.2.1, ?_⟩
        show (upN _ at_).data.length ≤ 1000000
        rw [HFX.out.2.1]
        exact HFX.out.2.2.2) HFX.out.1 (by have := HD.out.1.len; have := HD.out.2.2.2.2; omega)
  have HEF := Lib.hid hef
  have H6 := Lib.hid (And.intro B6 hs6)
  have HW6 := Lib.hid hw6
  clear hrd B5' hfree hEA hEL D6 hef B6' B6 hs6 B5
  refine give_in 8 rfl (by kernel_rfl) (by rfl) (.slice (some ⟨w5.heap.size, 0, none⟩) 2 2) w6 (by rw [HW6.out]; go_simp <;> first | rfl | exact ⟨rfl, rfl⟩) hS6 ?_
  clear hw6 hS5 hS
  simp only [Act.put, List.setIfInBounds_toArray, List.set_cons_zero, List.set_cons_succ]
  refine call_in 9 rfl (by kernel_rfl) (by rfl) _ _ (by go_simp <;> first | rfl | exact ⟨rfl, rfl⟩) ?_
  refine HEF.out.mono ?_
  rintro e w8 ⟨rfl, ⟨v8, D8, G8⟩, K8⟩
  have hbb : b < w.heap.size := HD.out.1.tree.lt
  have hvl : ∀ k, v.ownBlock = some k → k < w.heap.size := fun k h => (HD.out.1.row.own.lt k h).2
  have hnk : ∀ k, w.heap.size ≤ k → ¬ (k = b ∨ k = d ∨ v.ownBlock = some k) := fun k hk h => by
    rcases h with h | h | h
    · omega
    · omega
    · have := hvl k h; omega
  have hs16 := H6.out.1.size
  have hs1 := H1.out.2.1
  have hS8 : w8.cell? ⟨w.heap.size, 1, none⟩ = some (.string (bs op)) := (K8.cell (p := ⟨w.heap.size, 1, none⟩) (by show w.heap.size < w6.heap.size; omega) (hnk _ (Nat.le_refl _))).trans hS6
  have k8 := (K8.block (w.heap.size + 1) (by omega) (hnk _ (Nat.le_succ _))).trans ((H6.out.1.block (w.heap.size + 1) (by omega)).trans H1.out.2.2.2.1)
  have ht8 : w8.there (w.heap.size + 1) 0 13 := there_of k8 (by simp)
  have H8 := Lib.hid (And.intro D8 (And.intro K8 (And.intro k8 (And.intro hnk (And.intro G8 ht8)))))
  clear D8 K8 k8 hnk G8 ht8 hs16 hs1 hbb hvl
  refine ⟨hS8, ?_⟩
  clear hS6
  try dsimp only
  simp only [Act.put, List.setIfInBounds_toArray, List.set_cons_zero, List.set_cons_succ]
  refine wpAnyH_done (by kernel_rfl) ?_ _
  have HON : Hid ((#[.int .i64 0, .string (bs op), .slice none 0 0, .int .u32 0, .int .u32 0, .int .u32 0, .int .i64 0, .int .u32 0, .int .u64 0, .int .u64 0, .int .u64 0, .slice none 0 0, .slice none 0 0] : Array Value).all (·.oneCell') = true) := Lib.hid (by simp [Value.oneCell'])
  go_wp2_with (refine wpList_store_mid rfl 43 (.tmp 4) (.tmp 39) rfl (w.heap.size + 1) 0 #[.int .i64 0, .string (bs op), .slice none 0 0, .int .u32 0, .int .u32 0, .int .u32 0, .int .i64 0, .int .u32 0, .int .u64 0, .int .u64 0, .int .u64 0, .slice none 0 0, .slice none 0 0] rfl rfl H8.out.2.2.2.2.2 HSR.out HON.out ?_)
  refine bodyPost_ret (results_cell_mid rfl _ _ (w.heap.size + 1) 0 [.int .i64 0, .string (bs op), .slice none 0 0, .int .u32 0, .int .u32 0, .int .u32 0, .int .i64 0, .int .u32 0, .int .u64 0, .int .u64 0, .int .u64 0, .slice none 0 0, .slice none 0 0] _ rfl (World.rangeAt_setCells_same _ _ _ _ H8.out.2.2.2.2.2) Tryz.underlying43 rfl HSR.out) rfl ?_
  obtain ⟨hb1, hs1, k0, k1, _⟩ := H1.out
  obtain ⟨D8, K8, k8, hnk, G8, ht8⟩ := H8.out
  have s6 := H6.out.1.size
  have s8 := K8.size
  have K9 : Kept (· = w.heap.size + 1) w8 (w8.setCells (w.heap.size + 1) 0 [.int .i64 0, .string (bs op), .slice none 0 0, .int .u32 0, .int .u32 0, .int .u32 0, .int .i64 0, .int .u32 0, .int .u64 0, .int .u64 0, .int .u64 0, .slice none 0 0, .slice none 0 0]) := Kept.setCells (S := (· = w.heap.size + 1)) (p := w.heap.size + 1) rfl _ 0 (Kept.refl _ w8)
  have D9 := D8.turn k8 zr_free (by decide) (by decide) (by decide) (by have := HD.out.1.tree.bl.size; omega) K9
  have hb6 : Below w.heap.size w w6 := hb1.trans (H6.out.1.mono hb1.size)
  have q8 : Kept (fun k => k = b ∨ k = d ∨ v.ownBlock = some k) w w8 := (Kept.ofBelow hb6).trans K8
  refine .inl ⟨hx0.out.1, ⟨v8, _, zRaw, none, 0, rfl, D9, ?_, zReads _ _, StrLo.nil _ _ _⟩, q8.newK K9 (by omega)⟩
  intro k hk
  rcases G8 k hk with h | h
  · exact .inl h
  · exact .inr (by omega)
end
end Go.Proofs.YtnclkfhdpkkakaaGreatDoor
