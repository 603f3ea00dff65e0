/-
  The document's tree: one effect, walked. The document's tree: Apply, walked. The document's tree: other blocks may be turned from now on.
-/
import Derived.Test.YtnclkfhdpkkakaaGreatDoorQ23
import Derived.Test.YtnclkfhdpkkakaaGreatDoorQ21
import Derived.Test.YtnclkfhdpkkakaaGreatDoorQ7
namespace Go.Proofs.YtnclkfhdpkkakaaGreatDoor
set_option linter.unusedVariables false
set_option linter.unusedSimpArgs false
set_option linter.unusedVariables false
set_option linter.unusedSimpArgs false
open Go Go.RowKit Go.Shelf Go.MapKept Go.ChangeMaps Go.Maps Go.Sort
theorem find_one {L : List (Bytes × Nd)} (hn : (L.map (·.1)).Nodup) {p : Bytes} {i j : Int} (h1 : FindIs L p i) (h2 : FindIs L p j) : i = j := by
 rcases h1 with ⟨rfl, h1⟩ | ⟨k, x, rfl, hk, hx⟩
 ·rcases h2 with ⟨rfl, _⟩ | ⟨k, x, rfl, hk, hx⟩
  ·rfl
  ·exact absurd hx (h1 x (List.mem_of_getElem? hk))
 ·rcases h2 with ⟨rfl, h2⟩ | ⟨k', x', rfl, hk', hx'⟩
  ·exact absurd hx (h2 x (List.mem_of_getElem? hk))
  ·have e1 : (L.map (·.1))[k]? = some p := by rw [List.getElem?_map, hk, ← hx]; rfl
   have e2 : (L.map (·.1))[k']? = some p := by rw [List.getElem?_map, hk', ← hx']; rfl
   obtain ⟨g1, g2⟩ := List.getElem?_eq_some_iff.1 e1
   obtain ⟨g3, g4⟩ := List.getElem?_eq_some_iff.1 e2
   have := (List.getElem_inj hn).1 (g2.trans g4.symm)
   rw [this]
theorem find_ex (L : List (Bytes × Nd)) (p : Bytes) : ∃ j, FindIs L p j := by
 by_cases h : ∃ x ∈ L, x.1 = p
 ·obtain ⟨x, hx, hp⟩ := h
  obtain ⟨k, hk⟩ := List.getElem?_of_mem hx
  exact ⟨k, .inr ⟨k, x, rfl, hk, hp⟩⟩
 ·exact ⟨-1, .inl ⟨rfl, fun x hx hp => h ⟨x, hx, hp⟩⟩⟩
theorem flatA_inv : ∀ (R : List RawA) (j : Nat) (u : Value), (R.flatMap RawA.cells)[j]? = some u → ∃ k r i, R[k]? = some r ∧ r.cells[i]? = some u ∧ j = k * 10 + i
 | [], j, u, h => by simp at h
 | x :: R, j, u, h => by
  rw [List.flatMap_cons] at h
  by_cases hj : j < 10
  ·rw [List.getElem?_append_left (by rw [rawA_len]; exact hj)] at h
   exact ⟨0, x, j, rfl, h, by omega⟩
  ·rw [List.getElem?_append_right (by rw [rawA_len]; omega), rawA_len] at h
   obtain ⟨k, r, i, h1, h2, h3⟩ := flatA_inv R (j - 10) u h
   exact ⟨k + 1, r, i, by simpa using h1, h2, by omega⟩
theorem flatA_len : ∀ R : List RawA, (R.flatMap RawA.cells).length = R.length * 10
 | [] => rfl
 | x :: R => by
  rw [List.flatMap_cons, List.length_append, rawA_len, flatA_len R, List.length_cons]
  omega
theorem flatA_plain (R : List RawA) : ∀ u ∈ R.flatMap RawA.cells, u.oneCell' = true := fun u hu => by
 obtain ⟨r, _, h⟩ := List.mem_flatMap.1 hu
 obtain ⟨p, a, n, c, v1, v2, v3, v4, v5, v6, v7, v8⟩ := r
 simp [RawA.cells, Raw.cells, Nums.cells] at h
 rcases h with rfl | rfl | rfl | rfl | rfl | rfl | rfl | rfl | rfl | rfl <;> rfl
theorem AtsAt.cells {w : World} {B : Nat} {Z : Nat → Prop} {b off : Nat} {R : List RawA} (h : AtsAt w B Z (some ⟨b, off, none⟩) R) (s : Nat) {R' : List RawA} (hs : ∀ k r, R'[k]? = some r → R[s + k]? = some r) :
  ∀ j u, (R'.flatMap RawA.cells)[j]? = some u → w.cell? ((⟨b, off + s * 10, none⟩ : Addr).add j) = some u := fun j u hu => by
 obtain ⟨k, r, i, h1, h2, rfl⟩ := flatA_inv R' j u hu
 obtain ⟨b', off', e, _, _, h4⟩ := h (s + k) r (hs k r h1)
 cases e
 rw [Addr.add_mid, show off + s * 10 + (k * 10 + i) = off + (s + k) * 10 + i by rw [Nat.add_mul]; omega]
 exact h4 i u h2
theorem likeA_cut {w : World} {Z : Nat → Prop} {R : List RawA} {L : List (Bytes × Nd)} (h : LikeA w Z R L) (k : Nat) : LikeA w Z (R.take k ++ R.drop (k + 1)) (L.take k ++ L.drop (k + 1)) := by
 have hl := h.1
 refine ⟨by simp [hl], fun j r x h1 h2 => ?_⟩
 rw [← List.eraseIdx_eq_take_drop_succ] at h1 h2
 rw [List.getElem?_eraseIdx] at h1 h2
 split at h1
 ·rename_i hj
  rw [if_pos hj] at h2
  exact h.2 j r x h1 h2
 ·rename_i hj
  rw [if_neg hj] at h2
  exact h.2 (j + 1) r x h1 h2
theorem own_form {w : World} {base size n : Nat} {e : TypeId} {v : Value} {xs : List Value} (h : w.ownsRow base e size v n xs) : ∃ a m c, v = .slice a m c := by
 rcases h.2 with ⟨h1, _⟩ | ⟨g, cap, cur, h1, _⟩
 ·exact ⟨_, _, _, h1⟩
 ·exact ⟨_, _, _, h1⟩
theorem cut_own {w : World} {base k m : Nat} {v : Value} {A B : List RawA} (h1 : A.length = k) (h2 : B.length = m) (h : w.ownsRow base 103 10 v (0 + k + m) (A.flatMap RawA.cells ++ B.flatMap RawA.cells)) : w.ownsRow base 103 10 v (A ++ B).length ((A ++ B).flatMap RawA.cells) := by
 subst h1 h2
 rw [List.length_append, List.flatMap_append]
 rw [Nat.zero_add] at h
 exact h
section
variable {w : World} {Z : Nat → Prop} {rb : Nat} {root : Bytes} {cnt : Int} {ao : Option Addr} {c0 : Nat} {R : List RawA} {M L : List (Bytes × Nd)} {p : Bytes}
theorem RefAt.findX (T : RefAt w Z rb root cnt ao c0 R L) (hl : R.length ≤ 1000) (hn : (L.map (·.1)).Nodup) {p : Bytes} {j : Int} (hj : FindIs L p j) :
  Calls Tryz.prog 82 #[.pointer (some ⟨rb, 0, none⟩), .string (bs p)] w fun e w' => e = .returned (.int .i64 j) ∧ w' = w :=
 (T.find hl p).mono fun e w' ⟨h1, i, h2, h3⟩ => by
  rw [find_one hn h3 hj] at h2
  exact ⟨h2, h1⟩
theorem RefAt.kidsX (T : RefAt w Z rb root cnt ao c0 R L) (hl : R.length ≤ 1000) (H : Rel M L) (I : Inv root M) (F : Fit M) (p : Bytes) :
  Calls Tryz.prog 79 #[.pointer (some ⟨rb, 0, none⟩), .string (bs p)] w fun e w' => ∃ a c, e = .returned (.slice a (kidsS root M p).length c) ∧ StrSl w' w'.heap.size a (kidsS root M p) ∧ Below w.heap.size w w' :=
 (T.kids hl (H.paths I F) p).mono fun e w' ⟨a, c, K, h1, h2, h3, h4, h5⟩ => by
  have hk : K = kidsS root M p := H.kids I.nodup root p h3 (by
   unfold kidsTo at h4
   rw [List.take_of_length_le (Nat.le_refl _)] at h4
   exact h4)
  subst hk
  exact ⟨a, c, h1, h2.sl, h5⟩
theorem RefAt.kidsN (T : RefAt w Z rb root cnt ao c0 R L) (hl : R.length ≤ 1000) (H : Rel M L) (I : Inv root M) (F : Fit M) (p : Bytes) :
  Calls Tryz.prog 79 #[.pointer (some ⟨rb, 0, none⟩), .string (bs p)] w fun e w' => ∃ a c, e = .returned (.slice a (kidsS root M p).length c) ∧ StrNew w.heap.size w' a (kidsS root M p) ∧ Below w.heap.size w w' :=
 (T.kids hl (H.paths I F) p).mono fun e w' ⟨a, c, K, h1, h2, h3, h4, h5⟩ => by
  have hk : K = kidsS root M p := H.kids I.nodup root p h3 (by
   unfold kidsTo at h4
   rw [List.take_of_length_le (Nat.le_refl _)] at h4
   exact h4)
  subst hk
  exact ⟨a, c, h1, h2, h5⟩
def RfOneEnd (w : World) (Z : Nat → Prop) (rb : Nat) (root : Bytes) (cnt : Int) (M : List (Bytes × Nd)) (e : Eff) (en : Ending) (w' : World) : Prop :=
 en = .returned (.int .i64 (oneE root M e)) ∧ (∃ ao' c' R' L', RefAt w' Z rb root cnt ao' c' R' L' ∧ Rel (oneM root M e) L') ∧ Kept (· = rb) w w'
theorem RfOneEnd.same {e : Eff} {x : Int} {w' : World} (T : RefAt w Z rb root cnt ao c0 R L) (H : Rel M L) (h : oneE root M e = x ∧ oneM root M e = M) (hb : Below w.heap.size w w') : RfOneEnd w Z rb root cnt M e (.returned (.int .i64 x)) w' := by
 obtain ⟨h1, h2⟩ := h
 subst h1
 refine ⟨rfl, ⟨_, _, _, _, T.below hb, ?_⟩, Kept.ofBelow hb⟩
 rw [h2]
 exact H
theorem one_none (hu : underB p root = true) {d : Nd} (hr : p ≠ root) (h : (getA p M).isSome = false) : oneE root M ⟨p, true, d⟩ = 31 ∧ oneM root M ⟨p, true, d⟩ = M := by
 have h0 := one_gone (M := M) (e := ⟨p, true, d⟩) hu rfl
 have hg : goneE root M p = 31 := by unfold goneE; rw [if_neg hr, if_pos h]
 dsimp only at h0
 rw [h0.1, h0.2]
 unfold goneM
 rw [hg]
 exact ⟨rfl, rfl⟩
theorem one_kids (hu : underB p root = true) {d : Nd} (hr : p ≠ root) (h : (getA p M).isSome = true) (hk : 0 < (kidsS root M p).length) : oneE root M ⟨p, true, d⟩ = 33 ∧ oneM root M ⟨p, true, d⟩ = M := by
 have h0 := one_gone (M := M) (e := ⟨p, true, d⟩) hu rfl
 have hg : goneE root M p = 33 := by unfold goneE; rw [if_neg hr, if_neg (by rw [h]; simp), if_pos hk]
 dsimp only at h0
 rw [h0.1, h0.2]
 unfold goneM
 rw [hg]
 exact ⟨rfl, rfl⟩
theorem one_del (hu : underB p root = true) {d : Nd} (hr : p ≠ root) (h : (getA p M).isSome = true) (hk : (kidsS root M p).length = 0) : oneE root M ⟨p, true, d⟩ = 0 ∧ oneM root M ⟨p, true, d⟩ = delA p M := by
 have h0 := one_gone (M := M) (e := ⟨p, true, d⟩) hu rfl
 have hg : goneE root M p = 0 := by unfold goneE; rw [if_neg hr, if_neg (by rw [h]; simp), if_neg (by omega)]
 dsimp only at h0
 rw [h0.1, h0.2]
 unfold goneM
 rw [hg]
 exact ⟨rfl, rfl⟩
theorem one_up (hu : underB p root = true) {d : Nd} (hr : p ≠ root) (h : (getA (parentL p) M).isSome = false) : oneE root M ⟨p, false, d⟩ = 31 ∧ oneM root M ⟨p, false, d⟩ = M := by
 have h0 := one_put (M := M) (e := ⟨p, false, d⟩) hu rfl
 have hg : putE root M p = 31 := by unfold putE; rw [if_pos ⟨hr, h⟩]
 dsimp only at h0
 rw [h0.1, h0.2]
 unfold putM
 rw [hg]
 exact ⟨rfl, rfl⟩
theorem one_full (hu : underB p root = true) {d : Nd} (hr : p = root ∨ (getA (parentL p) M).isSome = true) (h : (getA p M).isSome = false) (hl : 48 ≤ M.length) : oneE root M ⟨p, false, d⟩ = 36 ∧ oneM root M ⟨p, false, d⟩ = M := by
 have h0 := one_put (M := M) (e := ⟨p, false, d⟩) hu rfl
 have hg : putE root M p = 36 := by
  unfold putE
  rw [if_neg, if_pos ⟨h, hl⟩]
  rintro ⟨h1, h2⟩
  rcases hr with h3 | h3
  ·exact h1 h3
  ·rw [h3] at h2; cases h2
 dsimp only at h0
 rw [h0.1, h0.2]
 unfold putM
 rw [hg]
 exact ⟨rfl, rfl⟩
theorem one_made (hu : underB p root = true) {d : Nd} (hr : p = root ∨ (getA (parentL p) M).isSome = true) (h : (getA p M).isSome = true ∨ M.length < 48) : oneE root M ⟨p, false, d⟩ = 0 ∧ oneM root M ⟨p, false, d⟩ = putA p d M := by
 have h0 := one_put (M := M) (e := ⟨p, false, d⟩) hu rfl
 have hg : putE root M p = 0 := by
  unfold putE
  rw [if_neg, if_neg]
  ·rintro ⟨h1, h2⟩
   rcases h with h3 | h3
   ·rw [h3] at h1; cases h1
   ·omega
  ·rintro ⟨h1, h2⟩
   rcases hr with h3 | h3
   ·exact h1 h3
   ·rw [h3] at h2; cases h2
 dsimp only at h0
 rw [h0.1, h0.2]
 unfold putM
 rw [hg]
 exact ⟨rfl, rfl⟩
set_option maxRecDepth 100000 in
set_option maxHeartbeats 8000000 in
theorem RefAt.onePath (T : RefAt w Z rb root cnt ao c0 R L) (H : Rel M L) (I : Inv root M) (F : Fit M) (hrl : root.length ≤ 1000) (p : Bytes) (r0 : Raw) (d : Nd) (hr : Reads w (fun k => ¬ Z k) r0 d) (hp : p.length ≤ 1000) (hZ : ∀ k, w.heap.size ≤ k → ¬ Z k) (hzr : Z rb) {g : Bool} (hu : underB p root = false) :
  Calls Tryz.prog 56 #[.pointer (some ⟨rb, 0, none⟩), RawE.val ⟨p, g, r0⟩] w (RfOneEnd w Z rb root cnt M ⟨p, g, d⟩) := by
 obtain ⟨a, n, c, ⟨v1, v2, v3, v4, v5, v6, v7, v8⟩⟩ := r0
 unfold RawE.val RawE.cells Raw.cells Nums.cells
 dsimp only
 obtain ⟨w1, hw1⟩ : ∃ w1, w1 = w.alloc (.cells #[.string (bs p), .bool g, .slice a n c, .int .u32 v1, .int .u32 v2, .int .u32 v3, .int .i64 v4, .int .u32 v5, .int .u64 v6, .int .u64 v7, .int .u64 v8] 88) := ⟨_, rfl⟩
 have hb1 : Below w.heap.size w w1 := by rw [hw1]; exact belowA (Below.refl _ w) _
 have hs1 : w1.heap.size = w.heap.size + 1 := by rw [hw1]; simp
 have hbox : w1.rangeAt w.heap.size 0 [.string (bs p), .bool g, .slice a n c, .int .u32 v1, .int .u32 v2, .int .u32 v3, .int .i64 v4, .int .u32 v5, .int .u64 v6, .int .u64 v7, .int .u64 v8] := fun j u hu => by
  rw [hw1, Nat.zero_add, cell_of_row _ _ j _ 88 (0, 0) (heap_alloc_new w _)]
  simpa using hu
 have hwl : w.heap.size < w1.heap.size := by omega
 have T1 := T.below hb1
 have hRl : R.length ≤ 1000 := by
  have h1 := T.like.1
  have h2 := H.len I.nodup
  have h3 := F.len
  omega
 have z0 : ∀ o, (Wext w1 o).cell? ⟨w.heap.size, 0, none⟩ = some (.string (bs p)) := fun o => ((Wext.below w1 o).cell (p := ⟨w.heap.size, 0, none⟩) hwl).trans (hbox 0 _ rfl)
 have z1 : ∀ o, (Wext w1 o).cell? ⟨w.heap.size, 1, none⟩ = some (.bool g) := fun o => ((Wext.below w1 o).cell (p := ⟨w.heap.size, 1, none⟩) hwl).trans (hbox 1 _ rfl)
 have z2 : ∀ o, (Wext w1 o).cell? ⟨rb, 0, none⟩ = some (.string (bs root)) := fun o => (T1.below (Wext.below w1 o)).c0
 have HT := Lib.hid (And.intro T (And.intro hb1 (And.intro hs1 hbox)))
 have HP := Lib.hid (And.intro H (And.intro I (And.intro F (And.intro hr (And.intro hZ hzr)))))
 have HRL := Lib.hid hRl
 have KU := Lib.hid (later_ext (later_refUnder w1 p root hp hrl))
 rw [hu] at KU
 have HU := Lib.hid hu
 clear T T1 H I F hr hZ hzr hb1 hs1 hbox hRl hu
 go_enter Tryz.func56, Tryz.ntmps56
 go_wp2_with fail
 rw [← hw1]
 clear hw1
 refine wp_region_ext (by kernel_rfl) (by kernel_rfl) ?_
 repeat (go_big_quiet_step (first | (go_at_call 76; exact KU.out _)))
 refine wpQuiet_nil ?_
 intro w' hw'
 obtain ⟨oq, hw''⟩ := hw'
 obtain ⟨w2, hw2⟩ : ∃ w2, w2 = Wext w1 oq := ⟨_, rfl⟩
 rw [← hw2] at hw''
 subst hw''
 have hb2 : Below w.heap.size w w' := by rw [hw2]; exact HT.out.2.1.trans ((Wext.below w1 oq).mono (Nat.le_of_lt hwl))
 have y0 : w'.cell? ⟨w.heap.size, 0, none⟩ = some (.string (bs p)) := by rw [hw2]; exact z0 oq
 have HB2 := Lib.hid hb2
 clear hb2 hw2 z0 z1 z2
 go_wp2
 go_ret
 exact RfOneEnd.same HT.out.1 HP.out.1 (one_under HU.out) HB2.out
set_option maxRecDepth 100000 in
set_option maxHeartbeats 8000000 in
theorem RefAt.oneRoot (T : RefAt w Z rb root cnt ao c0 R L) (H : Rel M L) (I : Inv root M) (F : Fit M) (hrl : root.length ≤ 1000) (p : Bytes) (r0 : Raw) (d : Nd) (hr : Reads w (fun k => ¬ Z k) r0 d) (hp : p.length ≤ 1000) (hZ : ∀ k, w.heap.size ≤ k → ¬ Z k) (hzr : Z rb) (hu : underB p root = true) (he : p = root) :
  Calls Tryz.prog 56 #[.pointer (some ⟨rb, 0, none⟩), RawE.val ⟨p, true, r0⟩] w (RfOneEnd w Z rb root cnt M ⟨p, true, d⟩) := by
 obtain ⟨a, n, c, ⟨v1, v2, v3, v4, v5, v6, v7, v8⟩⟩ := r0
 unfold RawE.val RawE.cells Raw.cells Nums.cells
 dsimp only
 obtain ⟨w1, hw1⟩ : ∃ w1, w1 = w.alloc (.cells #[.string (bs p), .bool true, .slice a n c, .int .u32 v1, .int .u32 v2, .int .u32 v3, .int .i64 v4, .int .u32 v5, .int .u64 v6, .int .u64 v7, .int .u64 v8] 88) := ⟨_, rfl⟩
 have hb1 : Below w.heap.size w w1 := by rw [hw1]; exact belowA (Below.refl _ w) _
 have hs1 : w1.heap.size = w.heap.size + 1 := by rw [hw1]; simp
 have hbox : w1.rangeAt w.heap.size 0 [.string (bs p), .bool true, .slice a n c, .int .u32 v1, .int .u32 v2, .int .u32 v3, .int .i64 v4, .int .u32 v5, .int .u64 v6, .int .u64 v7, .int .u64 v8] := fun j u hu => by
  rw [hw1, Nat.zero_add, cell_of_row _ _ j _ 88 (0, 0) (heap_alloc_new w _)]
  simpa using hu
 have hwl : w.heap.size < w1.heap.size := by omega
 have T1 := T.below hb1
 have hRl : R.length ≤ 1000 := by
  have h1 := T.like.1
  have h2 := H.len I.nodup
  have h3 := F.len
  omega
 have z0 : ∀ o, (Wext w1 o).cell? ⟨w.heap.size, 0, none⟩ = some (.string (bs p)) := fun o => ((Wext.below w1 o).cell (p := ⟨w.heap.size, 0, none⟩) hwl).trans (hbox 0 _ rfl)
 have z1 : ∀ o, (Wext w1 o).cell? ⟨w.heap.size, 1, none⟩ = some (.bool true) := fun o => ((Wext.below w1 o).cell (p := ⟨w.heap.size, 1, none⟩) hwl).trans (hbox 1 _ rfl)
 have z2 : ∀ o, (Wext w1 o).cell? ⟨rb, 0, none⟩ = some (.string (bs root)) := fun o => (T1.below (Wext.below w1 o)).c0
 have HT := Lib.hid (And.intro T (And.intro hb1 (And.intro hs1 hbox)))
 have HP := Lib.hid (And.intro H (And.intro I (And.intro F (And.intro hr (And.intro hZ hzr)))))
 have HRL := Lib.hid hRl
 have te : ((bs p).toList == (bs root).toList) = true := by rw [he]; simp
 have HE := Lib.hid he
 clear he
 have KU := Lib.hid (later_ext (later_refUnder w1 p root hp hrl))
 rw [hu] at KU
 have HU := Lib.hid hu
 clear T T1 H I F hr hZ hzr hb1 hs1 hbox hRl hu
 go_enter Tryz.func56, Tryz.ntmps56
 go_wp2_with fail
 rw [← hw1]
 clear hw1
 refine wp_region_ext (by kernel_rfl) (by kernel_rfl) ?_
 repeat (go_big_quiet_step (first | (go_at_call 76; exact KU.out _)))
 refine wpQuiet_nil ?_
 intro w' hw'
 obtain ⟨oq, hw''⟩ := hw'
 obtain ⟨w2, hw2⟩ : ∃ w2, w2 = Wext w1 oq := ⟨_, rfl⟩
 rw [← hw2] at hw''
 subst hw''
 have hb2 : Below w.heap.size w w' := by rw [hw2]; exact HT.out.2.1.trans ((Wext.below w1 oq).mono (Nat.le_of_lt hwl))
 have y0 : w'.cell? ⟨w.heap.size, 0, none⟩ = some (.string (bs p)) := by rw [hw2]; exact z0 oq
 have HB2 := Lib.hid hb2
 clear hb2 hw2 z0 z1 z2 te
 go_wp2
 go_ret
 exact RfOneEnd.same HT.out.1 HP.out.1 (one_root (e := ⟨p, true, d⟩) rfl HE.out) HB2.out
set_option maxRecDepth 100000 in
set_option maxHeartbeats 8000000 in
theorem RefAt.oneGone (T : RefAt w Z rb root cnt ao c0 R L) (H : Rel M L) (I : Inv root M) (F : Fit M) (hrl : root.length ≤ 1000) (p : Bytes) (r0 : Raw) (d : Nd) (hr : Reads w (fun k => ¬ Z k) r0 d) (hp : p.length ≤ 1000) (hZ : ∀ k, w.heap.size ≤ k → ¬ Z k) (hzr : Z rb) (hu : underB p root = true) (he : p ≠ root) :
  Calls Tryz.prog 56 #[.pointer (some ⟨rb, 0, none⟩), RawE.val ⟨p, true, r0⟩] w (RfOneEnd w Z rb root cnt M ⟨p, true, d⟩) := by
 obtain ⟨a, n, c, ⟨v1, v2, v3, v4, v5, v6, v7, v8⟩⟩ := r0
 unfold RawE.val RawE.cells Raw.cells Nums.cells
 dsimp only
 obtain ⟨w1, hw1⟩ : ∃ w1, w1 = w.alloc (.cells #[.string (bs p), .bool true, .slice a n c, .int .u32 v1, .int .u32 v2, .int .u32 v3, .int .i64 v4, .int .u32 v5, .int .u64 v6, .int .u64 v7, .int .u64 v8] 88) := ⟨_, rfl⟩
 have hb1 : Below w.heap.size w w1 := by rw [hw1]; exact belowA (Below.refl _ w) _
 have hs1 : w1.heap.size = w.heap.size + 1 := by rw [hw1]; simp
 have hbox : w1.rangeAt w.heap.size 0 [.string (bs p), .bool true, .slice a n c, .int .u32 v1, .int .u32 v2, .int .u32 v3, .int .i64 v4, .int .u32 v5, .int .u64 v6, .int .u64 v7, .int .u64 v8] := fun j u hu => by
  rw [hw1, Nat.zero_add, cell_of_row _ _ j _ 88 (0, 0) (heap_alloc_new w _)]
  simpa using hu
 have hwl : w.heap.size < w1.heap.size := by omega
 have T1 := T.below hb1
 have hRl : R.length ≤ 1000 := by
  have h1 := T.like.1
  have h2 := H.len I.nodup
  have h3 := F.len
  omega
 have z0 : ∀ o, (Wext w1 o).cell? ⟨w.heap.size, 0, none⟩ = some (.string (bs p)) := fun o => ((Wext.below w1 o).cell (p := ⟨w.heap.size, 0, none⟩) hwl).trans (hbox 0 _ rfl)
 have z1 : ∀ o, (Wext w1 o).cell? ⟨w.heap.size, 1, none⟩ = some (.bool true) := fun o => ((Wext.below w1 o).cell (p := ⟨w.heap.size, 1, none⟩) hwl).trans (hbox 1 _ rfl)
 have z2 : ∀ o, (Wext w1 o).cell? ⟨rb, 0, none⟩ = some (.string (bs root)) := fun o => (T1.below (Wext.below w1 o)).c0
 have HT := Lib.hid (And.intro T (And.intro hb1 (And.intro hs1 hbox)))
 have HP := Lib.hid (And.intro H (And.intro I (And.intro F (And.intro hr (And.intro hZ hzr)))))
 have HRL := Lib.hid hRl
 have te : ((bs p).toList == (bs root).toList) = false := by
  rw [toList_bs, toList_bs]
  simpa using he
 have HE := Lib.hid he
 clear he
 have KU := Lib.hid (later_ext (later_refUnder w1 p root hp hrl))
 rw [hu] at KU
 have HU := Lib.hid hu
 clear T T1 H I F hr hZ hzr hb1 hs1 hbox hRl hu
 go_enter Tryz.func56, Tryz.ntmps56
 go_wp2_with fail
 rw [← hw1]
 clear hw1
 refine wp_region_ext (by kernel_rfl) (by kernel_rfl) ?_
 repeat (go_big_quiet_step (first | (go_at_call 76; exact KU.out _)))
 refine wpQuiet_nil ?_
 intro w' hw'
 obtain ⟨oq, hw''⟩ := hw'
 obtain ⟨w2, hw2⟩ : ∃ w2, w2 = Wext w1 oq := ⟨_, rfl⟩
 rw [← hw2] at hw''
 subst hw''
 have hb2 : Below w.heap.size w w' := by rw [hw2]; exact HT.out.2.1.trans ((Wext.below w1 oq).mono (Nat.le_of_lt hwl))
 have y0 : w'.cell? ⟨w.heap.size, 0, none⟩ = some (.string (bs p)) := by rw [hw2]; exact z0 oq
 have y1 : w'.cell? ⟨w.heap.size, 1, none⟩ = some (.bool true) := by rw [hw2]; exact z1 oq
 have HB2 := Lib.hid hb2
 have T2 := HT.out.1.below hb2
 obtain ⟨j, hj⟩ := find_ex L p
 have HF := Lib.hid (T2.findX HRL.out HP.out.1.nodup hj)
 have HK := Lib.hid (T2.kidsX HRL.out HP.out.1 HP.out.2.1 HP.out.2.2.1 p)
 have HT2 := Lib.hid T2
 have hwl2 : w.heap.size < w'.heap.size := Nat.lt_of_lt_of_le hwl (by rw [hw2]; exact (Wext.below w1 oq).size)
 clear hb2 hw2 z0 z1 z2 te
 rcases HP.out.1.find hj with ⟨rfl, hn⟩ | ⟨k, dd, rfl, hk, hg⟩
 ·have HN := Lib.hid hn
  clear hn hj T2
  go_wp2_with fail
  refine HF.out.mono ?_
  rintro e w3 ⟨rfl, rfl⟩
  go_wp2
  go_ret
  exact RfOneEnd.same HT.out.1 HP.out.1 (one_none HU.out HE.out HN.out) HB2.out
 ·have HN := Lib.hid (And.intro hk (And.intro hg hj))
  have t5 : decide ((k : Int) < 0) = false := by simp
  clear hk hg hj T2
  go_wp2_with fail
  refine HF.out.mono ?_
  rintro e w3 ⟨rfl, rfl⟩
  go_wp2_with fail
  refine HK.out.mono ?_
  rintro e w4 ⟨ak, ck, rfl, _, B4⟩
  have HB4 := Lib.hid (HB2.out.trans (B4.mono (Nat.le_of_lt hwl2)))
  clear B4
  obtain ⟨nk, hnk⟩ : ∃ nk, nk = (kidsS root M p).length := ⟨_, rfl⟩
  rw [← hnk]
  by_cases h0 : 0 < nk
  ·have t6 : decide ((0 : Int) < (nk : Int)) = true := by simpa using h0
   have HNK := Lib.hid hnk
   clear hnk
   go_wp2
   go_ret
   exact RfOneEnd.same HT.out.1 HP.out.1 (one_kids HU.out HE.out (by rw [HN.out.2.1]; rfl) (by rw [← HNK.out]; exact h0)) HB4.out
  ·have t6 : decide ((0 : Int) < (nk : Int)) = false := by simpa using h0
   obtain rfl : nk = 0 := by omega
   have HNK := Lib.hid hnk
   have T4 := HT.out.1.below HB4.out
   obtain ⟨N, hN⟩ : ∃ N, N = R.length := ⟨_, rfl⟩
   have hkN : k < N := by
    rw [hN, T4.like.1]
    exact (List.getElem?_eq_some_iff.1 HN.out.1).1
   obtain ⟨r, x, b, off, _, _, hao, hbl, _, _, _, _⟩ := T4.node (i := k) (by rw [← hN]; exact hkN)
   subst hao
   have q2 := T4.c2
   rw [← hN] at q2
   have hcap := T4.cap
   rw [← hN] at hcap
   have hNL : N ≤ 1000 := by rw [hN]; exact HRL.out
   have hkc : k ≤ c0 := Nat.le_trans (Nat.le_of_lt hkN) hcap
   have hk1c : k + 1 ≤ c0 := Nat.le_trans hkN hcap
   have hkc1 : k + 1 ≤ N := hkN
   have hm1 : 0 + k ≤ maxLen := by unfold maxLen; omega
   have hm2 : (0 + k) * 96 ≤ 140737488355328 := by omega
   have hm3 : 0 + k + (N - (k + 1)) ≤ maxLen := by unfold maxLen; omega
   have hm4 : (0 + k + (N - (k + 1))) * 96 ≤ 140737488355328 := by omega
   have hm5 : ¬ c0 = 0 := by omega
   have HT4 := Lib.hid T4
   have HNN := Lib.hid hN
   have hkt : (R.take k).length = k := by rw [List.length_take]; omega
   have hdt : (R.drop (k + 1)).length = N - (k + 1) := by rw [List.length_drop]; omega
   have hl1 : ((R.take k).flatMap RawA.cells).length = k * 10 := by rw [flatA_len, hkt]
   have hl2 : ((R.drop (k + 1)).flatMap RawA.cells).length = (N - (k + 1)) * 10 := by rw [flatA_len, hdt]
   have hc1 := T4.at_.cells 0 (R' := R.take k) (fun j q hq => by rw [Nat.zero_add]; rw [List.getElem?_take] at hq; split at hq; exact hq; cases hq)
   rw [Nat.zero_mul, Nat.add_zero] at hc1
   have hw5 : ∀ _ : True, wrap64 ((k : Int) + 1) = ((k + 1 : Nat) : Int) := fun _ => by
    unfold wrap64
    omega
   have HL := Lib.hid (And.intro hkt (And.intro hdt (And.intro hl1 (And.intro hl2 hc1))))
   have hfz : w4.frozen? ⟨rb, 2, none⟩ = false := by simp [World.frozen?, T4.blk]
   clear T4 hN hnk hkt hdt hl1 hl2 hc1
   obtain ⟨i0, hi0, hz0, hz1, hz2⟩ := info_parts infoAt
   have hb4s : w.heap.size ≤ w4.heap.size := HB4.out.size
   by_cases hck : c0 = k + 1
   ·subst hck
    have hN1 : N = k + 1 := Nat.le_antisymm hcap hkN
    have hm0 : N - (k + 1) = 0 := by omega
    have hdz : (R.drop (k + 1)).flatMap RawA.cells = [] := List.eq_nil_of_length_eq_zero (by rw [HL.out.2.2.2.1, hm0])
    have HM0 := Lib.hid (And.intro hm0 hdz)
    clear hm0 hdz hN1
    go_wp2_with (first
     | (at_builtin; refine wpList_append_new rfl (.tmp 42) (.tmp 48) 104 rfl w4.heap.size 103 i0 (.agg #[.string ⟨#[]⟩, .slice none 0 0, .int .u32 0, .int .u32 0, .int .u32 0, .int .i64 0, .int .u32 0, .int .u64 0, .int .u64 0, .int .u64 0]) 10 96 Tryz.underlying104 hi0 hz0 hz1 hz2 rfl (by decide) (.slice none 0 0) 0 [] rfl (World.ownsRow_nil _ _ _ _) ⟨b, off, none⟩ k (k + 1) ((R.take k).flatMap RawA.cells) rfl HL.out.2.2.1 HL.out.2.2.2.2 (flatA_plain _) hm1 hm2 (Nat.le_refl _) ?_; intro vq5 w5 hown5 hgrow5 hwh5; have B5 : Below w4.heap.size w4 w5 := (Below.refl _ w4).grown hgrow5 (Nat.le_refl _) (fun g hg => by cases hg); have T5 := HT4.out.below B5; have q25 := T5.c2; rw [← HNN.out] at q25; have hfz5 : w5.frozen? ⟨rb, 2, none⟩ = false := (by simp [World.frozen?, T5.blk]); have hc5 := T5.at_.cells (k + 1) (R' := R.drop (k + 1)) (fun j q hq => by rw [List.getElem?_drop] at hq; exact hq); rw [List.nil_append] at hown5; have H5 := Lib.hid (And.intro hown5 (And.intro B5 (And.intro T5 hc5))); clear hown5 hgrow5 hwh5 T5 hc5; have hs5 := B5.size; clear B5)
     | (at_builtin; (refine wpList_append_new rfl (.tmp 51) (.tmp 58) 104 rfl w4.heap.size 103 i0 (.agg #[.string ⟨#[]⟩, .slice none 0 0, .int .u32 0, .int .u32 0, .int .u32 0, .int .i64 0, .int .u32 0, .int .u64 0, .int .u64 0, .int .u64 0]) 10 96 Tryz.underlying104 hi0 hz0 hz1 hz2 rfl (by decide) vq5 (0 + k) ((R.take k).flatMap RawA.cells) rfl H5.out.1 ⟨b, off, none⟩ 0 0 ((R.drop (k + 1)).flatMap RawA.cells) rfl (by rw [HM0.out.2]; rfl) (by rw [HM0.out.2]; intro j u hu; simp at hu) (flatA_plain _) hm1 hm2 hs5 ?_; intro vq6 w6 hown6 hgrow6 hwh6; have B6 : Below w4.heap.size w5 w6 := (Below.refl w4.heap.size w5).grown hgrow6 hs5 (fun g hg => (H5.out.1.lt g hg).1); have B46 := H5.out.2.1.trans B6; have T6 := HT4.out.below B46; have q26 := T6.c2; rw [← HNN.out] at q26; have hfz6 : w6.frozen? ⟨rb, 2, none⟩ = false := (by simp [World.frozen?, T6.blk]); obtain ⟨ao1, n1, c1, hv1⟩ := own_form hown6; subst hv1; have H6 := Lib.hid (And.intro (cut_own HL.out.1 (HL.out.2.1.trans HM0.out.1) hown6) (And.intro B46 T6)); clear hown6 hgrow6 hwh6 B6 B46 T6)))
    go_wp2
    go_ret
    have hone := one_del (d := d) HU.out HE.out (by rw [HN.out.2.1]; rfl) HNK.out.symm
    unfold RfOneEnd
    rw [hone.1, hone.2]
    have hf := put_fin H6.out.2.2 (HB4.out.trans (H6.out.2.1.mono (hb4s))) H6.out.1 hb4s HP.out.2.2.2.2.1 HP.out.2.2.2.2.2 (likeA_cut HT.out.1.like k)
    obtain ⟨⟨ao', c', R', h1⟩, h2⟩ := hf
    exact ⟨rfl, ⟨ao', c', R', _, h1, HP.out.1.del HP.out.2.1.nodup HN.out.1⟩, h2⟩
   ·go_wp2_with (first
     | (at_builtin; refine wpList_append_new rfl (.tmp 42) (.tmp 48) 104 rfl w4.heap.size 103 i0 (.agg #[.string ⟨#[]⟩, .slice none 0 0, .int .u32 0, .int .u32 0, .int .u32 0, .int .i64 0, .int .u32 0, .int .u64 0, .int .u64 0, .int .u64 0]) 10 96 Tryz.underlying104 hi0 hz0 hz1 hz2 rfl (by decide) (.slice none 0 0) 0 [] rfl (World.ownsRow_nil _ _ _ _) ⟨b, off, none⟩ k c0 ((R.take k).flatMap RawA.cells) rfl HL.out.2.2.1 HL.out.2.2.2.2 (flatA_plain _) hm1 hm2 (Nat.le_refl _) ?_; intro vq5 w5 hown5 hgrow5 hwh5; have B5 : Below w4.heap.size w4 w5 := (Below.refl _ w4).grown hgrow5 (Nat.le_refl _) (fun g hg => by cases hg); have T5 := HT4.out.below B5; have q25 := T5.c2; rw [← HNN.out] at q25; have hfz5 : w5.frozen? ⟨rb, 2, none⟩ = false := (by simp [World.frozen?, T5.blk]); have hc5 := T5.at_.cells (k + 1) (R' := R.drop (k + 1)) (fun j q hq => by rw [List.getElem?_drop] at hq; exact hq); rw [List.nil_append] at hown5; have H5 := Lib.hid (And.intro hown5 (And.intro B5 (And.intro T5 hc5))); clear hown5 hgrow5 hwh5 T5 hc5; have hs5 := B5.size; clear B5)
     | (at_builtin; (refine wpList_append_new rfl (.tmp 51) (.tmp 58) 104 rfl w4.heap.size 103 i0 (.agg #[.string ⟨#[]⟩, .slice none 0 0, .int .u32 0, .int .u32 0, .int .u32 0, .int .i64 0, .int .u32 0, .int .u64 0, .int .u64 0, .int .u64 0]) 10 96 Tryz.underlying104 hi0 hz0 hz1 hz2 rfl (by decide) vq5 (0 + k) ((R.take k).flatMap RawA.cells) rfl H5.out.1 ⟨b, off + (k + 1) * 10, none⟩ (N - (k + 1)) (c0 - (k + 1)) ((R.drop (k + 1)).flatMap RawA.cells) rfl HL.out.2.2.2.1 H5.out.2.2.2 (flatA_plain _) hm3 hm4 hs5 ?_; intro vq6 w6 hown6 hgrow6 hwh6; have B6 : Below w4.heap.size w5 w6 := (Below.refl w4.heap.size w5).grown hgrow6 hs5 (fun g hg => (H5.out.1.lt g hg).1); have B46 := H5.out.2.1.trans B6; have T6 := HT4.out.below B46; have q26 := T6.c2; rw [← HNN.out] at q26; have hfz6 : w6.frozen? ⟨rb, 2, none⟩ = false := (by simp [World.frozen?, T6.blk]); obtain ⟨ao1, n1, c1, hv1⟩ := own_form hown6; subst hv1; have H6 := Lib.hid (And.intro (cut_own HL.out.1 HL.out.2.1 hown6) (And.intro B46 T6)); clear hown6 hgrow6 hwh6 B6 B46 T6)))
    go_wp2
    go_ret
    have hone := one_del (d := d) HU.out HE.out (by rw [HN.out.2.1]; rfl) HNK.out.symm
    unfold RfOneEnd
    rw [hone.1, hone.2]
    have hf := put_fin H6.out.2.2 (HB4.out.trans (H6.out.2.1.mono (hb4s))) H6.out.1 hb4s HP.out.2.2.2.2.1 HP.out.2.2.2.2.2 (likeA_cut HT.out.1.like k)
    obtain ⟨⟨ao', c', R', h1⟩, h2⟩ := hf
    exact ⟨rfl, ⟨ao', c', R', _, h1, HP.out.1.del HP.out.2.1.nodup HN.out.1⟩, h2⟩
set_option maxRecDepth 100000 in
set_option maxHeartbeats 8000000 in
theorem RefAt.onePut (T : RefAt w Z rb root cnt ao c0 R L) (H : Rel M L) (I : Inv root M) (F : Fit M) (hrl : root.length ≤ 1000) (p : Bytes) (r0 : Raw) (d : Nd) (hr : Reads w (fun k => ¬ Z k) r0 d) (hp : p.length ≤ 1000) (hZ : ∀ k, w.heap.size ≤ k → ¬ Z k) (hzr : Z rb) (hu : underB p root = true) :
  Calls Tryz.prog 56 #[.pointer (some ⟨rb, 0, none⟩), RawE.val ⟨p, false, r0⟩] w (RfOneEnd w Z rb root cnt M ⟨p, false, d⟩) := by
 obtain ⟨a, n, c, ⟨v1, v2, v3, v4, v5, v6, v7, v8⟩⟩ := r0
 unfold RawE.val RawE.cells Raw.cells Nums.cells
 dsimp only
 obtain ⟨w1, hw1⟩ : ∃ w1, w1 = w.alloc (.cells #[.string (bs p), .bool false, .slice a n c, .int .u32 v1, .int .u32 v2, .int .u32 v3, .int .i64 v4, .int .u32 v5, .int .u64 v6, .int .u64 v7, .int .u64 v8] 88) := ⟨_, rfl⟩
 have hb1 : Below w.heap.size w w1 := by rw [hw1]; exact belowA (Below.refl _ w) _
 have hs1 : w1.heap.size = w.heap.size + 1 := by rw [hw1]; simp
 have hbox : w1.rangeAt w.heap.size 0 [.string (bs p), .bool false, .slice a n c, .int .u32 v1, .int .u32 v2, .int .u32 v3, .int .i64 v4, .int .u32 v5, .int .u64 v6, .int .u64 v7, .int .u64 v8] := fun j u hu => by
  rw [hw1, Nat.zero_add, cell_of_row _ _ j _ 88 (0, 0) (heap_alloc_new w _)]
  simpa using hu
 have hwl : w.heap.size < w1.heap.size := by omega
 have T1 := T.below hb1
 have hRl : R.length ≤ 1000 := by
  have h1 := T.like.1
  have h2 := H.len I.nodup
  have h3 := F.len
  omega
 have z0 : ∀ o, (Wext w1 o).cell? ⟨w.heap.size, 0, none⟩ = some (.string (bs p)) := fun o => ((Wext.below w1 o).cell (p := ⟨w.heap.size, 0, none⟩) hwl).trans (hbox 0 _ rfl)
 have z1 : ∀ o, (Wext w1 o).cell? ⟨w.heap.size, 1, none⟩ = some (.bool false) := fun o => ((Wext.below w1 o).cell (p := ⟨w.heap.size, 1, none⟩) hwl).trans (hbox 1 _ rfl)
 have z2 : ∀ o, (Wext w1 o).cell? ⟨rb, 0, none⟩ = some (.string (bs root)) := fun o => (T1.below (Wext.below w1 o)).c0
 have HT := Lib.hid (And.intro T (And.intro hb1 (And.intro hs1 hbox)))
 have HP := Lib.hid (And.intro H (And.intro I (And.intro F (And.intro hr (And.intro hZ hzr)))))
 have HRL := Lib.hid hRl
 have HSZN : Hid ((Tryz.prog.info? 39).map (·.size) = some 9) := Lib.hid (by kernel_rfl)
 have hbn : w1.rangeAt w.heap.size 2 [.slice a n c, .int .u32 v1, .int .u32 v2, .int .u32 v3, .int .i64 v4, .int .u32 v5, .int .u64 v6, .int .u64 v7, .int .u64 v8] := fun j u hu => by
  have := hbox (2 + j) u (by rw [Nat.add_comm]; exact hu)
  rw [Nat.zero_add] at this
  exact this
 have HBN1 := Lib.hid hbn
 clear hbn
 have KU := Lib.hid (later_ext (later_refUnder w1 p root hp hrl))
 rw [hu] at KU
 have HU := Lib.hid hu
 clear T T1 H I F hr hZ hzr hb1 hs1 hbox hRl hu
 go_enter Tryz.func56, Tryz.ntmps56
 go_wp2_with fail
 rw [← hw1]
 clear hw1
 refine wp_region_ext (by kernel_rfl) (by kernel_rfl) ?_
 repeat (go_big_quiet_step (first | (go_at_call 76; exact KU.out _)))
 refine wpQuiet_nil ?_
 intro w' hw'
 obtain ⟨oq, hw''⟩ := hw'
 obtain ⟨w2, hw2⟩ : ∃ w2, w2 = Wext w1 oq := ⟨_, rfl⟩
 rw [← hw2] at hw''
 subst hw''
 have hb2 : Below w.heap.size w w' := by rw [hw2]; exact HT.out.2.1.trans ((Wext.below w1 oq).mono (Nat.le_of_lt hwl))
 have y0 : w'.cell? ⟨w.heap.size, 0, none⟩ = some (.string (bs p)) := by rw [hw2]; exact z0 oq
 have hwl2 : w.heap.size < w'.heap.size := Nat.lt_of_lt_of_le hwl (by rw [hw2]; exact (Wext.below w1 oq).size)
 have y1 : w'.cell? ⟨w.heap.size, 1, none⟩ = some (.bool false) := by rw [hw2]; exact z1 oq
 have hbn : w'.rangeAt w.heap.size 2 [.slice a n c, .int .u32 v1, .int .u32 v2, .int .u32 v3, .int .i64 v4, .int .u32 v5, .int .u64 v6, .int .u64 v7, .int .u64 v8] := by rw [hw2]; exact range_kept HBN1.out (Wext.below w1 oq) hwl
 have x0' : ∀ o, (Wext w' o).cell? ⟨w.heap.size, 0, none⟩ = some (.string (bs p)) := fun o => ((Wext.below w' o).cell (p := ⟨w.heap.size, 0, none⟩) hwl2).trans y0
 have T2 := HT.out.1.below hb2
 have x2' : ∀ o, (Wext w' o).cell? ⟨rb, 0, none⟩ = some (.string (bs root)) := fun o => (T2.below (Wext.below w' o)).c0
 have HBN := Lib.hid hbn
 have HB2 := Lib.hid hb2
 obtain ⟨j, hj⟩ := find_ex L p
 obtain ⟨jp, hjp⟩ := find_ex L (parentL p)
 have HF := Lib.hid (T2.findX HRL.out HP.out.1.nodup hj)
 obtain ⟨P, _, hP, _⟩ := under_of HU.out
 have KP := Lib.hid (later_ext (later_below (w := w') (fun W => rfParent_any p P hP hp W)))
 have KF : Hid (∀ o, Calls Tryz.prog 82 #[.pointer (some ⟨rb, 0, none⟩), .string (bs (parentL p))] (Wext w' o) fun e w'' => e = .returned (.int .i64 jp) ∧ ∃ o', w'' = Wext w' o') := Lib.hid fun o => ((T2.below (Wext.below w' o)).findX HRL.out HP.out.1.nodup hjp).mono fun e w'' ⟨h1, h2⟩ => ⟨h1, o, h2⟩
 obtain ⟨N, hN⟩ : ∃ N, N = R.length := ⟨_, rfl⟩
 have HNN := Lib.hid hN
 have hNM : N = M.length := by rw [hN, T2.like.1, HP.out.1.len HP.out.2.1.nodup]
 have HNM := Lib.hid hNM
 have HJ := Lib.hid (HP.out.1.find hj)
 have HJP := Lib.hid (HP.out.1.find hjp)
 clear hb2 hw2 z0 z1 z2 hbn T2 hj hjp hP hN hNM
 go_wp2_with fail
 refine HF.out.mono ?_
 rintro e w3 ⟨rfl, rfl⟩
 by_cases he : p = root
 ·have te : ((bs p).toList == (bs root).toList) = true := by rw [he]; simp
  have HE := Lib.hid he
  clear he
  rcases HJ.out with ⟨rfl, hn⟩ | ⟨k, dd, rfl, hk, hg⟩
  ·exfalso
   have := getA_some.2 HP.out.2.1.has
   rw [← HE.out, hn] at this
   cases this
  ·have HG := Lib.hid hg
   have t5 : decide ((k : Int) < 0) = false := by simp
   clear hk hg
   go_wp2_with fail
   refine wp_region_ext (by kernel_rfl) (by kernel_rfl) ?_
   repeat (go_big_quiet_step (first | fail))
   refine wpQuiet_nil ?_
   intro w9 hw9
   obtain ⟨oq2, hw92⟩ := hw9
   obtain ⟨w5, hw5⟩ : ∃ w5, w5 = Wext w3 oq2 := ⟨_, rfl⟩
   rw [← hw5] at hw92
   subst hw92
   have hb5 : Below w.heap.size w w9 := by rw [hw5]; exact HB2.out.trans ((Wext.below w3 oq2).mono (Nat.le_of_lt hwl2))
   have x0 : w9.cell? ⟨w.heap.size, 0, none⟩ = some (.string (bs p)) := by rw [hw5]; exact x0' oq2
   have hbn : w9.rangeAt w.heap.size 2 [.slice a n c, .int .u32 v1, .int .u32 v2, .int .u32 v3, .int .i64 v4, .int .u32 v5, .int .u64 v6, .int .u64 v7, .int .u64 v8] := by rw [hw5]; exact range_kept HBN.out (Wext.below w3 oq2) hwl2
   have T5 := HT.out.1.below hb5
   have q2 := T5.c2
   rw [← HNN.out] at q2
   have HT5 := Lib.hid (And.intro T5 (And.intro hb5 hbn))
   clear hw5 T5 hb5 hbn x0' x2'
   have hput := HT5.out.1.put HRL.out p ⟨a, n, c, ⟨v1, v2, v3, v4, v5, v6, v7, v8⟩⟩ d (HP.out.2.2.2.1.below HT5.out.2.1) (fun k hk => HP.out.2.2.2.2.1 k (Nat.le_trans HT5.out.2.1.size hk)) HP.out.2.2.2.2.2
   unfold Raw.val Raw.cells Nums.cells at hput
   dsimp only at hput
   have HPUT := Lib.hid hput
   clear hput
   go_wp2_with (first | (refine wpList_load_mid rfl 39 (.tmp 90) rfl w.heap.size 2 rfl [.slice a n c, .int .u32 v1, .int .u32 v2, .int .u32 v3, .int .i64 v4, .int .u32 v5, .int .u64 v6, .int .u64 v7, .int .u64 v8] _ HT5.out.2.2 Tryz.underlying39 rfl HSZN.out ?_))
   refine HPUT.out.mono ?_
   rintro en w6 ⟨rfl, ⟨ao', c', R', h1⟩, h2⟩
   have H6 := Lib.hid (And.intro h1 h2)
   clear h1 h2
   (try go_end0)
   go_wp2
   go_ret
   have hone := one_made (d := d) HU.out (.inl HE.out) (.inl (by rw [HG.out]; rfl))
   unfold RfOneEnd
   rw [hone.1, hone.2]
   exact ⟨rfl, ⟨_, _, _, _, H6.out.1, HP.out.1.put p d⟩, (Kept.ofBelow HT5.out.2.1).trans H6.out.2⟩
 ·have te : ((bs p).toList == (bs root).toList) = false := by
   rw [toList_bs, toList_bs]
   simpa using he
  have HE := Lib.hid he
  clear he
  rcases HJP.out with ⟨rfl, hn⟩ | ⟨kp, dp, rfl, hkp, hgp⟩
  ·have HNP := Lib.hid hn
   clear hn
   go_wp2_with fail
   refine wp_region_ext (by kernel_rfl) (by kernel_rfl) ?_
   repeat (go_big_quiet_step (first | (go_at_call 83; exact KP.out _) | (go_at_call 82; exact KF.out _)))
   refine wpQuiet_nil ?_
   intro w9 hw9
   obtain ⟨oq2, hw92⟩ := hw9
   obtain ⟨w5, hw5⟩ : ∃ w5, w5 = Wext w3 oq2 := ⟨_, rfl⟩
   rw [← hw5] at hw92
   subst hw92
   have hb5 : Below w.heap.size w w9 := by rw [hw5]; exact HB2.out.trans ((Wext.below w3 oq2).mono (Nat.le_of_lt hwl2))
   have x0 : w9.cell? ⟨w.heap.size, 0, none⟩ = some (.string (bs p)) := by rw [hw5]; exact x0' oq2
   have hbn : w9.rangeAt w.heap.size 2 [.slice a n c, .int .u32 v1, .int .u32 v2, .int .u32 v3, .int .i64 v4, .int .u32 v5, .int .u64 v6, .int .u64 v7, .int .u64 v8] := by rw [hw5]; exact range_kept HBN.out (Wext.below w3 oq2) hwl2
   have T5 := HT.out.1.below hb5
   have q2 := T5.c2
   rw [← HNN.out] at q2
   have HT5 := Lib.hid (And.intro T5 (And.intro hb5 hbn))
   clear hw5 T5 hb5 hbn x0' x2'
   go_wp2
   go_ret
   exact RfOneEnd.same HT.out.1 HP.out.1 (one_up HU.out HE.out HNP.out) HT5.out.2.1
  ·have HGP := Lib.hid hgp
   have t6 : decide ((kp : Int) < 0) = false := by simp
   clear hkp hgp
   rcases HJ.out with ⟨rfl, hn⟩ | ⟨k, dd, rfl, hk, hg⟩
   ·have HNG := Lib.hid hn
    clear hn
    by_cases hful : 48 ≤ N
    ·have t7 : decide ((48 : Int) ≤ (N : Int)) = true := by simpa using (by omega : (48 : Int) ≤ (N : Int))
     go_wp2_with fail
     refine wp_region_ext (by kernel_rfl) (by kernel_rfl) ?_
     repeat (go_big_quiet_step (first | (go_at_call 83; exact KP.out _) | (go_at_call 82; exact KF.out _)))
     refine wpQuiet_nil ?_
     intro w9 hw9
     obtain ⟨oq2, hw92⟩ := hw9
     obtain ⟨w5, hw5⟩ : ∃ w5, w5 = Wext w3 oq2 := ⟨_, rfl⟩
     rw [← hw5] at hw92
     subst hw92
     have hb5 : Below w.heap.size w w9 := by rw [hw5]; exact HB2.out.trans ((Wext.below w3 oq2).mono (Nat.le_of_lt hwl2))
     have x0 : w9.cell? ⟨w.heap.size, 0, none⟩ = some (.string (bs p)) := by rw [hw5]; exact x0' oq2
     have hbn : w9.rangeAt w.heap.size 2 [.slice a n c, .int .u32 v1, .int .u32 v2, .int .u32 v3, .int .i64 v4, .int .u32 v5, .int .u64 v6, .int .u64 v7, .int .u64 v8] := by rw [hw5]; exact range_kept HBN.out (Wext.below w3 oq2) hwl2
     have T5 := HT.out.1.below hb5
     have q2 := T5.c2
     rw [← HNN.out] at q2
     have HT5 := Lib.hid (And.intro T5 (And.intro hb5 hbn))
     clear hw5 T5 hb5 hbn x0' x2'
     go_wp2
     go_ret
     exact RfOneEnd.same HT.out.1 HP.out.1 (one_full HU.out (.inr (by rw [HGP.out]; rfl)) HNG.out (by rw [← HNM.out]; exact hful)) HT5.out.2.1
    ·have t7 : decide ((48 : Int) ≤ (N : Int)) = false := by simpa using (by omega : ¬ (48 : Int) ≤ (N : Int))
     go_wp2_with fail
     refine wp_region_ext (by kernel_rfl) (by kernel_rfl) ?_
     repeat (go_big_quiet_step (first | (go_at_call 83; exact KP.out _) | (go_at_call 82; exact KF.out _)))
     refine wpQuiet_nil ?_
     intro w9 hw9
     obtain ⟨oq2, hw92⟩ := hw9
     obtain ⟨w5, hw5⟩ : ∃ w5, w5 = Wext w3 oq2 := ⟨_, rfl⟩
     rw [← hw5] at hw92
     subst hw92
     have hb5 : Below w.heap.size w w9 := by rw [hw5]; exact HB2.out.trans ((Wext.below w3 oq2).mono (Nat.le_of_lt hwl2))
     have x0 : w9.cell? ⟨w.heap.size, 0, none⟩ = some (.string (bs p)) := by rw [hw5]; exact x0' oq2
     have hbn : w9.rangeAt w.heap.size 2 [.slice a n c, .int .u32 v1, .int .u32 v2, .int .u32 v3, .int .i64 v4, .int .u32 v5, .int .u64 v6, .int .u64 v7, .int .u64 v8] := by rw [hw5]; exact range_kept HBN.out (Wext.below w3 oq2) hwl2
     have T5 := HT.out.1.below hb5
     have q2 := T5.c2
     rw [← HNN.out] at q2
     have HT5 := Lib.hid (And.intro T5 (And.intro hb5 hbn))
     clear hw5 T5 hb5 hbn x0' x2'
     have hput := HT5.out.1.put HRL.out p ⟨a, n, c, ⟨v1, v2, v3, v4, v5, v6, v7, v8⟩⟩ d (HP.out.2.2.2.1.below HT5.out.2.1) (fun k hk => HP.out.2.2.2.2.1 k (Nat.le_trans HT5.out.2.1.size hk)) HP.out.2.2.2.2.2
     unfold Raw.val Raw.cells Nums.cells at hput
     dsimp only at hput
     have HPUT := Lib.hid hput
     clear hput
     go_wp2_with (first | (refine wpList_load_mid rfl 39 (.tmp 90) rfl w.heap.size 2 rfl [.slice a n c, .int .u32 v1, .int .u32 v2, .int .u32 v3, .int .i64 v4, .int .u32 v5, .int .u64 v6, .int .u64 v7, .int .u64 v8] _ HT5.out.2.2 Tryz.underlying39 rfl HSZN.out ?_))
     refine HPUT.out.mono ?_
     rintro en w6 ⟨rfl, ⟨ao', c', R', h1⟩, h2⟩
     have H6 := Lib.hid (And.intro h1 h2)
     clear h1 h2
     (try go_end0)
     go_wp2
     go_ret
     have hone := one_made (d := d) HU.out (.inr (by rw [HGP.out]; rfl)) (.inr (by rw [← HNM.out]; omega))
     unfold RfOneEnd
     rw [hone.1, hone.2]
     exact ⟨rfl, ⟨_, _, _, _, H6.out.1, HP.out.1.put p d⟩, (Kept.ofBelow HT5.out.2.1).trans H6.out.2⟩
   ·have HG := Lib.hid hg
    have t5 : decide ((k : Int) < 0) = false := by simp
    clear hk hg
    go_wp2_with fail
    refine wp_region_ext (by kernel_rfl) (by kernel_rfl) ?_
    repeat (go_big_quiet_step (first | (go_at_call 83; exact KP.out _) | (go_at_call 82; exact KF.out _)))
    refine wpQuiet_nil ?_
    intro w9 hw9
    obtain ⟨oq2, hw92⟩ := hw9
    obtain ⟨w5, hw5⟩ : ∃ w5, w5 = Wext w3 oq2 := ⟨_, rfl⟩
    rw [← hw5] at hw92
    subst hw92
    have hb5 : Below w.heap.size w w9 := by rw [hw5]; exact HB2.out.trans ((Wext.below w3 oq2).mono (Nat.le_of_lt hwl2))
    have x0 : w9.cell? ⟨w.heap.size, 0, none⟩ = some (.string (bs p)) := by rw [hw5]; exact x0' oq2
    have hbn : w9.rangeAt w.heap.size 2 [.slice a n c, .int .u32 v1, .int .u32 v2, .int .u32 v3, .int .i64 v4, .int .u32 v5, .int .u64 v6, .int .u64 v7, .int .u64 v8] := by rw [hw5]; exact range_kept HBN.out (Wext.below w3 oq2) hwl2
    have T5 := HT.out.1.below hb5
    have q2 := T5.c2
    rw [← HNN.out] at q2
    have HT5 := Lib.hid (And.intro T5 (And.intro hb5 hbn))
    clear hw5 T5 hb5 hbn x0' x2'
    have hput := HT5.out.1.put HRL.out p ⟨a, n, c, ⟨v1, v2, v3, v4, v5, v6, v7, v8⟩⟩ d (HP.out.2.2.2.1.below HT5.out.2.1) (fun k hk => HP.out.2.2.2.2.1 k (Nat.le_trans HT5.out.2.1.size hk)) HP.out.2.2.2.2.2
    unfold Raw.val Raw.cells Nums.cells at hput
    dsimp only at hput
    have HPUT := Lib.hid hput
    clear hput
    go_wp2_with (first | (refine wpList_load_mid rfl 39 (.tmp 90) rfl w.heap.size 2 rfl [.slice a n c, .int .u32 v1, .int .u32 v2, .int .u32 v3, .int .i64 v4, .int .u32 v5, .int .u64 v6, .int .u64 v7, .int .u64 v8] _ HT5.out.2.2 Tryz.underlying39 rfl HSZN.out ?_))
    refine HPUT.out.mono ?_
    rintro en w6 ⟨rfl, ⟨ao', c', R', h1⟩, h2⟩
    have H6 := Lib.hid (And.intro h1 h2)
    clear h1 h2
    (try go_end0)
    go_wp2
    go_ret
    have hone := one_made (d := d) HU.out (.inr (by rw [HGP.out]; rfl)) (.inl (by rw [HG.out]; rfl))
    unfold RfOneEnd
    rw [hone.1, hone.2]
    exact ⟨rfl, ⟨_, _, _, _, H6.out.1, HP.out.1.put p d⟩, (Kept.ofBelow HT5.out.2.1).trans H6.out.2⟩
theorem RefAt.one (T : RefAt w Z rb root cnt ao c0 R L) (H : Rel M L) (I : Inv root M) (F : Fit M) (hrl : root.length ≤ 1000) (r : RawE) (e : Eff) (hr : ReadsE w (fun k => ¬ Z k) r e) (he : FitE e) (hZ : ∀ k, w.heap.size ≤ k → ¬ Z k) (hzr : Z rb) :
  Calls Tryz.prog 56 #[.pointer (some ⟨rb, 0, none⟩), r.val] w (RfOneEnd w Z rb root cnt M e) := by
 obtain ⟨rp, rg, rn⟩ := r
 obtain ⟨p, g, d⟩ := e
 obtain ⟨h1, h2, h3⟩ := hr
 dsimp only at h1 h2 h3
 subst h1 h2
 cases hu : underB rp root with
 | false => exact T.onePath H I F hrl rp rn d h3 he.path hZ hzr hu
 | true =>
  cases rg with
  | true =>
   by_cases hp : rp = root
   ·exact T.oneRoot H I F hrl rp rn d h3 he.path hZ hzr hu hp
   ·exact T.oneGone H I F hrl rp rn d h3 he.path hZ hzr hu hp
  | false => exact T.onePut H I F hrl rp rn d h3 he.path hZ hzr hu
end
end Go.Proofs.YtnclkfhdpkkakaaGreatDoor
namespace Go.Proofs.YtnclkfhdpkkakaaGreatDoor
set_option linter.unusedVariables false
set_option linter.unusedSimpArgs false
set_option linter.unusedVariables false
set_option linter.unusedSimpArgs false
open Go Go.RowKit Go.Shelf Go.MapKept Go.ChangeMaps Go.Maps Go.Sort
section
variable {w : World} {Z : Nat → Prop} {rb : Nat} {root : Bytes} {cnt : Int} {ao : Option Addr} {c0 : Nat} {R : List RawA} {M L : List (Bytes × Nd)}
def ApEnd (w : World) (Z : Nat → Prop) (rb : Nat) (root : Bytes) (cnt : Int) (M : List (Bytes × Nd)) (E : List Eff) (en : Ending) (w' : World) : Prop :=
 en = .returned (.int .i64 (applyA root M E).1) ∧ (∃ ao' c' R' L', RefAt w' Z rb root (atA root cnt M E) ao' c' R' L' ∧ Rel (nodesA root M E) L') ∧ Kept (· = rb) w w'
def RfSt (w w1 : World) (Z : Nat → Prop) (rb : Nat) (root : Bytes) (cnt : Int) (M : List (Bytes × Nd)) (E : List Eff) (i : Nat) (wr : World) : Prop :=
 (applyA root M (E.take i)).1 = 0 ∧ (∃ ao' c' R' L', RefAt wr Z rb root cnt ao' c' R' L' ∧ Rel (applyA root M (E.take i)).2 L') ∧ Kept (· = rb) w1 wr
theorem EffsAt.kept {w w' : World} {S : Nat → Prop} {B : Nat} {ao : Option Addr} {L : List RawE} (h : EffsAt w B ao L) (hk : Kept S w w') (hB : B ≤ w.heap.size) (hn : ∀ b off, ao = some ⟨b, off, none⟩ → ¬ S b) : EffsAt w' B ao L := fun k r hr => by
 obtain ⟨b, off, h1, h2, h3⟩ := h k r hr
 exact ⟨b, off, h1, h2, fun j v hv => (hk.cell (p := ⟨b, off + k * 11 + j, none⟩) (Nat.lt_of_lt_of_le h2 hB) (hn b off h1)).trans (h3 j v hv)⟩
theorem LikeE.kept {w w' : World} {S lo : Nat → Prop} {L : List RawE} {E : List Eff} (h : LikeE w lo L E) (hk : Kept S w w') (hn : ∀ b, lo b → ¬ S b) : LikeE w' lo L E := ⟨h.1, fun k r e h1 h2 => by
 obtain ⟨g1, g2, g3⟩ := h.2 k r e h1 h2
 exact ⟨g1, g2, g3.num, g3.len, (g3.data.kept hk (Nat.le_refl _) (fun b hb _ _ => hn b hb)).mono (fun _ h => h) hk.size, g3.nil⟩⟩
theorem RefAt.back {wr : World} {ao1 : Option Addr} {c1 : Nat} {R1 : List RawA} {L1 : List (Bytes × Nd)} {v : Value} {aw : Option Addr} {cw : Nat} {RW : List RawA} {LW : List (Bytes × Nd)} (T : RefAt wr Z rb root cnt ao1 c1 R1 L1) (hv : v = .slice aw RW.length cw) (hat : AtsAt wr wr.heap.size Z aw RW) (hl : LikeA wr Z RW LW) (hc : RW.length ≤ cw) (hzr : Z rb) :
  RefAt (wr.setCell ⟨rb, 2, none⟩ v) Z rb root cnt aw cw RW LW ∧ Kept (· = rb) wr (wr.setCell ⟨rb, 2, none⟩ v) := by
 subst hv
 have hk : Kept (· = rb) wr (wr.setCell ⟨rb, 2, none⟩ (.slice aw RW.length cw)) := Kept.setCell (S := (· = rb)) (p := ⟨rb, 2, none⟩) (Kept.refl _ wr) rfl _
 have hz : ∀ k, k = rb → Z k := fun k e => by rw [e]; exact hzr
 refine ⟨⟨?_, hat.kept hk hz, hl.kept hk hz, hc⟩, hk⟩
 simp [World.setCell, Array.getElem?_modify, T.blk]
theorem RefAt.count (T : RefAt w Z rb root cnt ao c0 R L) (hzr : Z rb) : RefAt (w.setCell ⟨rb, 1, none⟩ (.int .u64 (cnt + 1))) Z rb root (cnt + 1) ao c0 R L ∧ Kept (· = rb) w (w.setCell ⟨rb, 1, none⟩ (.int .u64 (cnt + 1))) := by
 have hk : Kept (· = rb) w (w.setCell ⟨rb, 1, none⟩ (.int .u64 (cnt + 1))) := Kept.setCell (S := (· = rb)) (p := ⟨rb, 1, none⟩) (Kept.refl _ w) rfl _
 have hz : ∀ k, k = rb → Z k := fun k e => by rw [e]; exact hzr
 refine ⟨⟨?_, T.at_.kept hk hz, T.like.kept hk hz, T.cap⟩, hk⟩
 simp [World.setCell, Array.getElem?_modify, T.blk]
set_option maxRecDepth 100000 in
set_option maxHeartbeats 8000000 in
theorem RefAt.apply (T : RefAt w Z rb root cnt ao c0 R L) (H : Rel M L) (I : Inv root M) (F : Fit M) (hrl : root.length ≤ 1000) (h0 : 0 ≤ cnt) (h1 : cnt ≤ 1000000000) (le : Option Addr) (cap : Nat) (LE : List RawE) (E : List Eff)
  (hL : LikeE w (fun k => ¬ Z k) LE E) {B : Nat} (hA : EffsAt w B le LE) (hB : B ≤ w.heap.size) (hle : ∀ b off, le = some ⟨b, off, none⟩ → b ≠ rb) (hE : ∀ e ∈ E, FitE e) (hbig : LE.length ≤ 1000000) (hZ : ∀ k, w.heap.size ≤ k → ¬ Z k) (hzr : Z rb) (n : Nat) (hn : n = LE.length) :
  Calls Tryz.prog 34 #[.pointer (some ⟨rb, 0, none⟩), .slice le n cap] w (ApEnd w Z rb root cnt M E) := by
 obtain ⟨i0, hi0, hz0, hz1, hz2⟩ := info_parts infoAt
 obtain ⟨NR, hNR⟩ : ∃ NR, NR = R.length := ⟨_, rfl⟩
 have q2 := T.c2
 have hNL : R.length = M.length := by rw [T.like.1, H.len I.nodup]
 have hR1 : R.length ≤ 48 := by rw [hNL]; exact F.len
 have hR0 : 0 < R.length := by rw [T.like.1]; exact H.pos I
 obtain ⟨r0, x0, b, off, _, _, hao, hbl, hnz, _, _, _⟩ := T.node (i := 0) hR0
 subst hao
 have hcs := T.at_.cells 0 (R' := R) (fun k r h => by rw [Nat.zero_add]; exact h)
 rw [Nat.zero_mul, Nat.add_zero] at hcs
 rw [← hNR] at q2 hR1 hR0
 have hm1 : 0 + NR ≤ maxLen := by unfold maxLen; omega
 have hm2 : (0 + NR) * 96 ≤ 140737488355328 := by omega
 have HT := Lib.hid T
 have HM := Lib.hid (And.intro H (And.intro I (And.intro F (And.intro hZ hzr))))
 have HIN := Lib.hid (And.intro hL (And.intro hA (And.intro hle (And.intro hE hn))))
 have HR := Lib.hid (And.intro hcs hNR)
 have hfl : (R.flatMap RawA.cells).length = NR * 10 := by rw [flatA_len, hNR]
 have HFL := Lib.hid hfl
 rw [← hn] at hbig
 clear T H I F hZ hzr hL hA hle hE hn hcs hNR hNL hfl
 go_enter Tryz.func34, Tryz.ntmps34
 go_wp2_with (first
  | (at_builtin; (refine wpList_append_new rfl (.tmp 8) (.tmp 12) 104 rfl w.heap.size 103 i0 (.agg #[.string ⟨#[]⟩, .slice none 0 0, .int .u32 0, .int .u32 0, .int .u32 0, .int .i64 0, .int .u32 0, .int .u64 0, .int .u64 0, .int .u64 0]) 10 96 Tryz.underlying104 hi0 hz0 hz1 hz2 rfl (by decide) (.slice none 0 0) 0 [] rfl (World.ownsRow_nil _ _ _ _) ⟨b, off, none⟩ NR c0 (R.flatMap RawA.cells) rfl HFL.out HR.out.1 (flatA_plain _) hm1 hm2 (Nat.le_refl _) ?_; intro vq5 w1 hown5 hgrow5 hwh5; have B1 : Below w.heap.size w w1 := (Below.refl _ w).grown hgrow5 (Nat.le_refl _) (fun g hg => by cases hg); rw [List.nil_append] at hown5; have HW := Lib.hid (And.intro hown5 B1); clear hown5 hgrow5 hwh5 B1)))
 have hst : RfSt w w1 Z rb root cnt M E 0 w1 := ⟨by simp [applyA], ⟨_, _, _, _, HT.out.below HW.out.2, by simpa [applyA] using HM.out.1⟩, Kept.refl _ _⟩
 have HST := Lib.hid hst
 obtain ⟨aw, cw, hvw, hatw, hcw⟩ := atRow_lies (R := R) (Z := Z) (by rw [← HR.out.2]; have := HW.out.1; rw [Nat.zero_add] at this; exact this) HM.out.2.2.2.1
 rw [← HR.out.2] at hvw
 subst hvw
 have HV := Lib.hid (And.intro hatw hcw)
 clear hst hatw hcw
 go_loopw [6, 7] (fun ci _ wr => ∃ i : Nat, i ≤ n ∧ ci = .int .i64 i ∧ Hid (RfSt w w1 Z rb root cnt M E i wr)) (fun ci _ _ => n - (intOf ci).toNat)
 case atStart => exact ⟨0, by omega, rfl, HST⟩
 case round =>
  obtain ⟨i, hi, rfl, HS⟩ := hrel
  obtain ⟨hok, ⟨ao1, c1, R1, L1, T1, H1⟩, hk1⟩ := HS.out
  have HT1 := Lib.hid (And.intro T1 (And.intro H1 (And.intro hk1 hok)))
  have hkw : Kept (· = rb) w wr := (Kept.ofBelow (S := (· = rb)) HW.out.2).trans hk1
  have HKW := Lib.hid hkw
  clear T1 H1 hk1 hok HS
  by_cases hlt : i < n
  ·have hlen : i < LE.length := by rw [← HIN.out.2.2.2.2]; exact hlt
   obtain ⟨re, hre⟩ : ∃ re, LE[i]? = some re := ⟨_, List.getElem?_eq_getElem hlen⟩
   obtain ⟨e, he⟩ : ∃ e, E[i]? = some e := ⟨_, List.getElem?_eq_getElem (by rw [← HIN.out.1.1]; exact hlen)⟩
   have hbew : ∀ b : Nat, b < B → b < wr.heap.size := fun b h => Nat.lt_of_lt_of_le (Nat.lt_of_lt_of_le h hB) HKW.out.size
   have hA2 := HIN.out.2.1.kept HKW.out hB HIN.out.2.2.1
   obtain ⟨be, oe, rfl, hbe0, hrg⟩ := hA2 i re hre
   have hbe := hbew be hbe0
   clear hbew hbe0
   have hrd := (HIN.out.1.kept HKW.out (fun b hb hs => hb (by rw [hs]; exact HM.out.2.2.2.2))).2 i re e hre he
   have hone := HT1.out.1.one HT1.out.2.1 (HM.out.2.1.all) (HM.out.2.2.1.all (fun x hx => HIN.out.2.2.2.1 x (List.mem_of_mem_take hx))) hrl re e hrd (HIN.out.2.2.2.1 e (List.mem_of_getElem? he)) (fun k hk => HM.out.2.2.2.1 k (Nat.le_trans HKW.out.size hk)) HM.out.2.2.2.2
   have hap := applyA_at HT1.out.2.2.2 he
   obtain ⟨x, hx⟩ : ∃ x, x = oneE root (applyA root M (E.take i)).2 e := ⟨_, rfl⟩
   unfold RfOneEnd at hone
   rw [← hx] at hone hap
   obtain ⟨pp, gg, ⟨aa, nn, cc, ⟨v1, v2, v3, v4, v5, v6, v7, v8⟩⟩⟩ := re
   unfold RawE.val RawE.cells Raw.cells Nums.cells at hone
   dsimp only at hone
   have HONE := Lib.hid hone
   have HAP := Lib.hid hap
   have HRG : Hid (wr.rangeAt be (oe + i * 11) [.string (bs pp), .bool gg, .slice aa nn cc, .int .u32 v1, .int .u32 v2, .int .u32 v3, .int .i64 v4, .int .u32 v5, .int .u64 v6, .int .u64 v7, .int .u64 v8]) := Lib.hid hrg
   have HSZE : Hid ((Tryz.prog.info? 88).map (·.size) = some 11) := Lib.hid (by kernel_rfl)
   clear hone hap hrg hrd hA2 hre he hlen hkw hx
   go_wp2_with (first | ((refine wpList_load_mid rfl 88 (.tmp 23) rfl be (oe + i * 11) rfl [.string (bs pp), .bool gg, .slice aa nn cc, .int .u32 v1, .int .u32 v2, .int .u32 v3, .int .i64 v4, .int .u32 v5, .int .u64 v6, .int .u64 v7, .int .u64 v8] _ HRG.out Tryz.underlying88 rfl HSZE.out ?_)))
   refine HONE.out.mono ?_
   rintro en w2 ⟨rfl, ⟨ao2, c2, R2, L2, T2, H2⟩, hk2⟩
   have q22 := T2.c2
   have hfz2 : w2.frozen? ⟨rb, 2, none⟩ = false := by simp [World.frozen?, T2.blk]
   have HT2 := Lib.hid (And.intro T2 (And.intro H2 hk2))
   clear T2 H2 hk2
   by_cases hx0 : x = 0
   ·subst hx0
    have hs := HAP.out.2 rfl
    have HS2 : Hid (RfSt w w1 Z rb root cnt M E (i + 1) w2) := Lib.hid (by
     unfold RfSt
     rw [hs]
     exact ⟨rfl, ⟨_, _, _, _, HT2.out.1, HT2.out.2.1⟩, HT1.out.2.2.1.trans HT2.out.2.2⟩)
    clear hs
    go_wp2
    go_roundw
    case rel => exact ⟨i + 1, by omega, by go_num, HS2⟩
    case measure => simp [intOf]; omega
   ·have tx : (x == 0) = false := (neq_int hx0).1
    have hs := HAP.out.1 hx0
    have HX := Lib.hid (And.intro hx0 hs)
    clear hx0 hs
    go_wp2
    go_ret
    have hk12 := HT1.out.2.2.1.trans HT2.out.2.2
    have hz : ∀ k, k = rb → Z k := fun k e => by rw [e]; exact HM.out.2.2.2.2
    have hB1 : Kept (· = rb) w w1 := Kept.ofBelow HW.out.2
    obtain ⟨hb1, hb2⟩ := HT2.out.1.back (v := .slice aw NR cw) (by rw [HR.out.2]) (HV.out.1.kept hk12 hz) ((HT.out.like.kept hB1 hz).kept hk12 hz) HV.out.2 HM.out.2.2.2.2
    refine ⟨by rw [HX.out.2]; rfl, ⟨aw, cw, R, L, ?_, ?_⟩, (hB1.trans hk12).trans hb2⟩
    ·have : atA root cnt M E = cnt := by unfold atA; rw [HX.out.2]; exact if_neg HX.out.1
     rw [this]
     exact hb1
    ·have : nodesA root M E = M := by unfold nodesA; rw [HX.out.2]; exact if_neg HX.out.1
     rw [this]
     exact HM.out.1
  ·obtain rfl : n = i := by omega
   have hte : E.take n = E := List.take_of_length_le (by rw [← HIN.out.1.1, ← HIN.out.2.2.2.2]; exact Nat.le_refl _)
   have HTE := Lib.hid hte
   have q21 := HT1.out.1.c1
   have hfz1 : wr.frozen? ⟨rb, 1, none⟩ = false := by simp [World.frozen?, HT1.out.1.blk]
   have hwc : ∀ _ : True, IntKind.u64.wrap (cnt + 1) = cnt + 1 := fun _ => by
    simp [IntKind.wrap, IntKind.bits, IntKind.signed]
    omega
   clear hte hkw
   go_wp2
   go_ret
   obtain ⟨hc1, hc2⟩ := HT1.out.1.count HM.out.2.2.2.2
   have hok := HT1.out.2.2.2
   have hrl2 := HT1.out.2.1
   rw [HTE.out] at hok hrl2
   refine ⟨by rw [hok]; rfl, ⟨ao1, c1, R1, L1, ?_, ?_⟩, HKW.out.trans hc2⟩
   ·have : atA root cnt M E = cnt + 1 := by unfold atA; rw [if_pos hok]
    rw [this]
    exact hc1
   ·have : nodesA root M E = (applyA root M E).2 := by unfold nodesA; rw [if_pos hok]
    rw [this]
    exact hrl2
end
end Go.Proofs.YtnclkfhdpkkakaaGreatDoor
namespace Go.Proofs.YtnclkfhdpkkakaaGreatDoor
set_option linter.unusedVariables false
set_option linter.unusedSimpArgs false
open Go Go.RowKit Go.Shelf Go.MapKept Go.ChangeMaps Go.Maps Go.Sort
section
variable {w : World} {Z : Nat → Prop} {rb : Nat} {root : Bytes} {cnt : Int} {ao : Option Addr} {c0 : Nat} {R : List RawA} {M L : List (Bytes × Nd)}
theorem RefAt.blk_cell (T : RefAt w Z rb root cnt ao c0 R L) {j : Nat} {v : Value} (h : w.cell? ⟨rb, j, none⟩ = some v) : j < 3 ∧ ∀ x, v ≠ .int .u8 x := by
 rw [cell_of_row _ _ j _ 106 (0, 0) T.blk] at h
 rcases (show j = 0 ∨ j = 1 ∨ j = 2 ∨ 3 ≤ j by omega) with rfl | rfl | rfl | h3
 ·simp at h; subst h; exact ⟨by omega, fun x e => by cases e⟩
 ·simp at h; subst h; exact ⟨by omega, fun x e => by cases e⟩
 ·simp at h; subst h; exact ⟨by omega, fun x e => by cases e⟩
 ·rw [Array.getElem?_eq_none (by simpa using h3)] at h
  cases h
theorem RefAt.rez (T : RefAt w Z rb root cnt ao c0 R L) {Z' : Nat → Prop} (h : ∀ k, k < w.heap.size → Z' k → k = rb) : RefAt w Z' rb root cnt ao c0 R L := by
 refine ⟨T.blk, fun k r hr => ?_, ⟨T.like.1, fun k r x h1 h2 => ?_⟩, T.cap⟩
 ·obtain ⟨b, off, e, _, hb, hc⟩ := T.at_ k r hr
  refine ⟨b, off, e, fun hz => ?_, hb, hc⟩
  have hbr := h b hb hz
  subst hbr
  have h9 : r.cells[9]? = some (.int .u64 r.node.num.tch) := rfl
  have := (T.blk_cell (hc 9 _ h9)).1
  omega
 ·obtain ⟨g1, g2⟩ := T.like.2 k r x h1 h2
  refine ⟨g1, g2.num, g2.len, fun j c hj => ?_, g2.nil⟩
  obtain ⟨b, off, e, _, hb, hc⟩ := g2.data j c hj
  refine ⟨b, off, e, fun hz => ?_, hb, hc⟩
  have hbr := h b hb hz
  subst hbr
  exact (T.blk_cell hc).2 _ rfl
end
end Go.Proofs.YtnclkfhdpkkakaaGreatDoor
