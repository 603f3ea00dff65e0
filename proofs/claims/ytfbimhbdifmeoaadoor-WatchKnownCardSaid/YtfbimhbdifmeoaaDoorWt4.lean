/-
  Touch, walked.
-/
import Derived.Test.YtfbimhbdifmeoaaDoorWt3
import Derived.RangeFuncNested
import Derived.Deep.Onto
namespace Go.Proofs.YtfbimhbdifmeoaaDoor
set_option linter.unusedVariables false
set_option linter.unusedSimpArgs false
open Go.RowKit Go.Shelf

attribute [local go_sem] Oper.semAt_some
theorem run_store_func (P : Program) (w : World) (a : Addr) (f : Fn) (x y : Array Value) (m : Mode) :
    (store a (.func f x y) m).run P w = match w.cell? a with
      | some _ => if w.frozen? a then .halt (.unsupported (.unsafePointer "a write to bytes that a string shares")) w else .ok () (w.setCell a (.func f x y))
      | none => match w.farStore P a (.func f x y) (m == .atomic) with
        | .ok (w', _) => .ok () w'
        | .error h => .halt h w := run_store P w a _ m rfl
attribute [local go_sem] run_store_func

theorem those_make (p : Option Addr) (f : Value) (w : World) :
    Calls Tryd.prog 23 #[.pointer p, .func (.func 20) #[] #[f]] w fun e w' => e = .returned (.func (.func 31) #[] #[.pointer (some ⟨w.heap.size, 0, none⟩), .pointer (some ⟨w.heap.size + 1, 0, none⟩)]) ∧
      w' = (w.alloc (.cells #[.pointer p] 24)).alloc (.cells #[.func (.func 20) #[] #[f]] 65) := by
  go_enter Tryd.func23, Tryd.ntmps23
  go_wp2
  go_ret
  exact ⟨rfl, rfl⟩
theorem those_make2 (p : Option Addr) (f : Value) (w : World) :
    Calls Tryd.prog 23 #[.pointer p, .func (.func 24) #[] #[f]] w fun e w' => e = .returned (.func (.func 31) #[] #[.pointer (some ⟨w.heap.size, 0, none⟩), .pointer (some ⟨w.heap.size + 1, 0, none⟩)]) ∧
      w' = (w.alloc (.cells #[.pointer p] 24)).alloc (.cells #[.func (.func 24) #[] #[f]] 65) := by
  go_enter Tryd.func23, Tryd.ntmps23
  go_wp2
  go_ret
  exact ⟨rfl, rfl⟩

def evZero : Value := .agg #[.int .i64 0, .int .u32 0, .string ByteArray.empty, .bool false]
theorem infoEv : (Tryd.prog.info? 44).map (fun i => (i.zero, i.size, i.bytes)) = some (some evZero, 4, 40) := by kernel_rfl
def flat (L : List Ev) : List Value := L.flatMap Ev.cells

/-! ## aids -/
theorem keepT_to_below {n OB B : Nat} {W W' : World} (h : KeepT n OB W W') (h1 : B ≤ n) (h2 : B ≤ OB) : Below B W W' := ⟨h.os, h.tape, h.output, h.size, fun k hk => h.block k (by omega) (by omega)⟩
theorem boxed_keepT {n OB B : Nat} {t : TypeId} {v : Value} {W W' : World} (h : Boxed W B t v) (hk : KeepT n OB W W') (h1 : B < n) (h2 : B ≠ OB) : Boxed W' B t v := (hk.block B h1 h2).trans h
theorem boxed_below {n B : Nat} {t : TypeId} {v : Value} {W W' : World} (h : Boxed W B t v) (hk : Below n W W') (h1 : B < n) : Boxed W' B t v := (hk.block B h1).trans h
theorem ownFrom_keepT {β : Type} {n OB B : Nat} {w₀ : World} (hn : n ≤ w₀.heap.size) (hB : n ≤ B) : OwnFrom B (fun (_ : β) W => KeepT n OB w₀ W) := by
  intro s W W' row h hg hr
  refine keepT_t h ⟨hg.os, hg.tape, hg.output, hg.size, fun k hk hn' => hg.block k (Nat.lt_of_lt_of_le (Nat.lt_of_lt_of_le hk hn) h.size) (fun e => ?_)⟩
  have := (hr k e.symm).1
  omega
theorem flat_snoc (L : List Ev) (x : Ev) : flat (L ++ [x]) = flat L ++ x.cells := by simp [flat]
theorem flat_at : ∀ (L : List Ev) (k : Nat) (e : Ev) (j : Nat) (v : Value), L[k]? = some e → e.cells[j]? = some v → (flat L)[k * 4 + j]? = some v
  | [], k, e, j, v, h, _ => by simp at h
  | x :: L, 0, e, j, v, h, hv => by
    simp at h
    subst h
    have hj : j < x.cells.length := (List.getElem?_eq_some_iff.1 hv).1
    simp only [flat, List.flatMap_cons, Nat.zero_mul, Nat.zero_add]
    rw [List.getElem?_append_left hj]
    exact hv
  | x :: L, k + 1, e, j, v, h, hv => by
    have hx : x.cells.length = 4 := rfl
    simp only [flat, List.flatMap_cons]
    rw [List.getElem?_append_right (by rw [hx]; omega), hx, show (k + 1) * 4 + j - 4 = k * 4 + j by omega]
    exact flat_at L k e j v (by simpa using h) hv
theorem evs_of_row {w : World} {base OB : Nat} {v : Value} {L : List Ev} (h : w.ownsRow base 44 4 v L.length (flat L)) (hO : w.heap.size ≤ OB) : ∃ ao c, v = .slice ao L.length c ∧ EvsAt w w.heap.size OB ao L := by
  rcases h.2 with ⟨rfl, h0⟩ | ⟨g, cap, cur, rfl, hbg, hg, hnc, hcm, hsz, htk⟩
  · exact ⟨none, 0, by rw [h0], fun k e hk => by rw [List.eq_nil_of_length_eq_zero h0] at hk; simp at hk⟩
  · have hlt : g < w.heap.size := (Array.getElem?_eq_some_iff.1 hg).1
    refine ⟨some ⟨g, 0, none⟩, cap, rfl, fun k e hk => ⟨g, 0, rfl, hlt, by omega, fun j v hv => ?_⟩⟩
    have := h.cells (g := g) rfl (k * 4 + j) v (flat_at L k e j v hk hv)
    rw [Addr.add_lit] at this
    rw [Nat.zero_add]
    rw [Nat.zero_add] at this
    exact this
theorem EvsAt.later {w w' : World} {n n' OB : Nat} {ao : Option Addr} {L : List Ev} (h : EvsAt w n OB ao L) (hb : Below n w w') (hn : n ≤ n') : EvsAt w' n' OB ao L := fun k e hk => by
  obtain ⟨b, off, h1, h2, h3, h4⟩ := h k e hk
  exact ⟨b, off, h1, by omega, h3, range_kept h4 hb h2⟩
theorem EvsAt.other {w : World} {n OB OB' : Nat} {ao : Option Addr} {L : List Ev} (h : EvsAt w n OB ao L) (hO : n ≤ OB') : EvsAt w n OB' ao L := fun k e hk => by
  obtain ⟨b, off, h1, h2, h3, h4⟩ := h k e hk
  exact ⟨b, off, h1, h2, by omega, h4⟩
theorem cells_new (w : World) (cs : List Value) (t : TypeId) : ∀ j u, cs[j]? = some u → (w.alloc (.cells cs.toArray t)).cell? ((⟨w.heap.size, 0, none⟩ : Addr).add j) = some u := by
  intro j u hu
  have hadd : (⟨w.heap.size, 0, none⟩ : Addr).add j = ⟨w.heap.size, j, none⟩ := by unfold Addr.add; split <;> simp_all
  rw [hadd, cell_of_row _ _ j cs.toArray t (0, 0) (heap_alloc_new w _)]
  simpa using hu
theorem appendedT {W w1 : World} {n OB base : Nat} {t e : TypeId} {size : Nat} {v v' : Value} {k m : Nat} {xs ys : List Value} {tmp : Obj}
    (hv : Boxed W OB t v) (hte : t ≠ e) (hrow : W.ownsRow base e size v k xs) (hn : n ≤ W.heap.size) (hb : n ≤ base)
    (hown' : w1.ownsRow base e size v' m ys) (hgrow : (W.alloc tmp).grownBy w1 v.ownBlock) :
    Boxed w1 OB t v ∧ Boxed (w1.setCell ⟨OB, 0, none⟩ v') OB t v' ∧ (w1.setCell ⟨OB, 0, none⟩ v').ownsRow base e size v' m ys ∧ KeepsOthers W (w1.setCell ⟨OB, 0, none⟩ v') ∧ KeepT n OB W (w1.setCell ⟨OB, 0, none⟩ v') := by
  obtain ⟨h1, h2, h3, h4, _⟩ := Boxed.appended (n₀ := 0) (tmp := tmp) hv hte (hrow.mono (Nat.zero_le _)) (Nat.zero_le _) (Nat.zero_le _) (hown'.mono (Nat.zero_le _)) hgrow
  refine ⟨h1, h2, hown'.kept (grownBy_setCell' w1 OB v') (.inr (h1.not_row hte hown').symm), h4, ?_⟩
  refine ⟨hgrow.os, hgrow.tape, hgrow.output, ?_, fun k hk hne => ?_⟩
  · have := hgrow.size
    have h5 := (grownBy_setCell' w1 OB v').size
    simp at this
    omega
  · rw [(grownBy_setCell' w1 OB v').block k (by have := hgrow.size; simp at this; omega) (by simpa using hne), hgrow.block k (by simp; omega) (fun e => ?_)]
    · exact Below.heap_alloc _ _ _ (by omega)
    · rcases hrow.2 with ⟨rfl, _⟩ | ⟨g, cap, cur, rfl, hbg, _⟩
      · simp [Value.ownBlock] at e
      · have : k = g := by simpa [Value.ownBlock] using e
        omega
/-- What Touch leaves behind. -/
def TouchPost (b : Nat) (w : World) (out left : List Ev) (e : Ending) (w' : World) : Prop :=
  ∃ a c a2 c2, e = .returned (.slice a out.length c) ∧ w'.ownsRow w.heap.size 44 4 (.slice a out.length c) out.length (flat out) ∧ Boxed w' b 58 (.slice a2 left.length c2) ∧
    w'.ownsRow w.heap.size 44 4 (.slice a2 left.length c2) left.length (flat left) ∧ (∀ g, (Value.slice a out.length c).ownBlock = some g → (Value.slice a2 left.length c2).ownBlock ≠ some g) ∧ KeepT w.heap.size b w w'
theorem row_kept {w w' : World} {base base' : Nat} {e : TypeId} {size : Nat} {v : Value} {n : Nat} {xs : List Value} (h : w.ownsRow base e size v n xs) (hb : base' ≤ base) (hk : ∀ g cs fr, v.ownBlock = some g → base ≤ g → w.heap[g]? = some (.cells cs e fr) → w'.heap[g]? = w.heap[g]?) : w'.ownsRow base' e size v n xs := by
  refine ⟨h.1, ?_⟩
  rcases h.2 with hn | ⟨g, cap, cur, rfl, hbg, hg, rest⟩
  · exact .inl hn
  · exact .inr ⟨g, cap, cur, rfl, by omega, (hk g cur (0, 0) rfl hbg hg).trans hg, rest⟩
theorem row_form {w : World} {base : Nat} {e : TypeId} {size : Nat} {v : Value} {n : Nat} {xs : List Value} (h : w.ownsRow base e size v n xs) : ∃ a c, v = .slice a n c := by
  rcases h.2 with ⟨rfl, rfl⟩ | ⟨g, cap, cur, rfl, _⟩
  · exact ⟨none, 0, rfl⟩
  · exact ⟨_, _, rfl⟩
theorem two_boxes (w : World) (a1 a2 : Value) (t1 t2 : TypeId) (W : World) (h : W = (w.alloc (.cells #[a1] t1)).alloc (.cells #[a2] t2)) :
    Below w.heap.size w W ∧ W.heap.size = w.heap.size + 2 ∧ Boxed W w.heap.size t1 a1 ∧ Boxed W (w.heap.size + 1) t2 a2 := by
  subst h
  have b1 := Boxed.new w t1 a1
  have b2 := Boxed.new (w.alloc (.cells #[a1] t1)) t2 a2
  simp only [World.size_alloc] at b2
  exact ⟨((Below.refl _ w).alloc (Nat.le_refl _) _).alloc (by simp) _, by simp, b1.alloc _, b2⟩
theorem six_boxes (w : World) (a1 a2 a3 a4 a5 a6 : Value) (t1 t2 t3 t4 t5 t6 : TypeId) (W : World)
    (h : W = (((((w.alloc (.cells #[a1] t1)).alloc (.cells #[a2] t2)).alloc (.cells #[a3] t3)).alloc (.cells #[a4] t4)).alloc (.cells #[a5] t5)).alloc (.cells #[a6] t6)) :
    Below w.heap.size w W ∧ W.heap.size = w.heap.size + 6 ∧ Boxed W w.heap.size t1 a1 ∧ Boxed W (w.heap.size + 1) t2 a2 ∧ Boxed W (w.heap.size + 1 + 1) t3 a3 ∧ Boxed W (w.heap.size + 1 + 1 + 1) t4 a4 ∧
      Boxed W (w.heap.size + 1 + 1 + 1 + 1) t5 a5 ∧ Boxed W (w.heap.size + 1 + 1 + 1 + 1 + 1) t6 a6 := by
  subst h
  have b1 := Boxed.new w t1 a1
  have b2 := Boxed.new (w.alloc (.cells #[a1] t1)) t2 a2
  have b3 := Boxed.new ((w.alloc (.cells #[a1] t1)).alloc (.cells #[a2] t2)) t3 a3
  have b4 := Boxed.new (((w.alloc (.cells #[a1] t1)).alloc (.cells #[a2] t2)).alloc (.cells #[a3] t3)) t4 a4
  have b5 := Boxed.new ((((w.alloc (.cells #[a1] t1)).alloc (.cells #[a2] t2)).alloc (.cells #[a3] t3)).alloc (.cells #[a4] t4)) t5 a5
  have b6 := Boxed.new (((((w.alloc (.cells #[a1] t1)).alloc (.cells #[a2] t2)).alloc (.cells #[a3] t3)).alloc (.cells #[a4] t4)).alloc (.cells #[a5] t5)) t6 a6
  simp only [World.size_alloc] at b2 b3 b4 b5 b6
  refine ⟨?_, by simp, ((((b1.alloc _).alloc _).alloc _).alloc _).alloc _, (((b2.alloc _).alloc _).alloc _).alloc _, ((b3.alloc _).alloc _).alloc _, (b4.alloc _).alloc _, b5.alloc _, b6⟩
  exact (((((((Below.refl _ w).alloc (Nat.le_refl _) _).alloc (by simp) _).alloc (by simp; omega) _).alloc (by simp; omega) _).alloc (by simp; omega) _).alloc (by simp; omega) _)

set_option maxRecDepth 100000 in
set_option maxHeartbeats 8000000 in
theorem touch_any (b base : Nat) (v : Value) (L : List Ev) (ao : Option Addr) (c : Nat) (P : List Bytes) (w : World) (hm : MaxInt w) (hbig : P.length ≤ 4000) (hp : ∀ p ∈ P, p.length ≤ 1000)
    (hE : EffsAt w w.heap.size ao P) (hv : Boxed w b 58 v) (hrow : w.ownsRow base 44 4 v L.length (flat L)) (hL : L.length ≤ 16) :
    Calls Tryd.prog 12 #[.pointer (some ⟨b, 0, none⟩), .slice ao P.length c] w (TouchPost b w (L.filter fun e => P.any (touchB e)) (L.filter fun e => !P.any (touchB e))) := by
  obtain ⟨i0, hi, hz0, hz1, hz2⟩ := info_parts infoEv
  have hblt := hv.lt
  obtain ⟨so, sc, rfl, hEv⟩ := evs_of_row (OB := w.heap.size + 1 + 1) hrow (by omega)
  have HT := Lib.hid hv
  have HEv := Lib.hid hEv
  have HM := Lib.hid hm
  have HE := Lib.hid hE
  have HP := Lib.hid hp
  clear hEv hm hE hp hv hrow
  refine (callsIn_wide (n := 2)).1 ?_
  refine callsIn_of_wp_marks Tryd.func12 rfl trivial ?_ rfl
  simp only [Tryd.ntmps12, List.size_toArray, List.length_cons, List.length_nil, Nat.reduceAdd, Nat.reduceSub, Array.replicate_succ, Array.replicate_zero, List.push_toArray, List.append_toArray, List.nil_append, List.cons_append]
  gi_wp2_with fail
  refine ⟨trivial, ?_⟩
  refine (callsIn_wide.2 (those_make _ _ _)).mono ?_
  rintro e w' ⟨rfl, rfl⟩
  gi_wp2
  obtain ⟨W1, hW1⟩ : ∃ W1, W1 = (((((w.alloc (.cells #[.slice ao P.length c] 35)).alloc (.cells #[.func (.func 20) #[] #[.pointer (some ⟨w.heap.size, 0, none⟩)]] 65)).alloc (.cells #[.slice none 0 0] 41)).alloc (.cells #[.slice none 0 0] 41)).alloc
    (.cells #[.pointer (some ⟨b, 0, none⟩)] 24)).alloc (.cells #[.func (.func 20) #[] #[.pointer (some ⟨w.heap.size, 0, none⟩)]] 65) := ⟨_, rfl⟩
  obtain ⟨hB1, hs1, bl, bk, bo, bf, bt, bw⟩ := six_boxes w _ _ _ _ _ _ _ _ _ _ _ _ W1 hW1
  rw [← hW1]
  clear hW1
  have HS := Lib.hid hs1
  clear hs1
  have HB1 := Lib.hid hB1
  have HBL := Lib.hid bl
  have HBK := Lib.hid bk
  have HBO := Lib.hid bo
  have HBF := Lib.hid bf
  have HBT := Lib.hid bt
  have HBW := Lib.hid bw
  clear hB1 bl bk bo bf bt bw
  have hlt1 : w.heap.size + 5 < W1.heap.size := by rw [HS.out]; omega
  have want : ∀ W', Below w.heap.size w W' → W'.cell? ⟨w.heap.size, 0, none⟩ = some (.slice ao P.length c) → ∀ e : Ev, Calls Tryd.prog 20 #[e.val, .pointer (some ⟨w.heap.size, 0, none⟩)] W' fun en w' => en = .returned (.bool (P.any (touchB e))) ∧ Below W'.heap.size W' w' := fun W' hB hc e =>
    isTouched e w.heap.size ao c P W' (HM.out.kept hB) hbig HP.out ((HE.out.kept hB).mono hB.size) hc
  have HWANT := Lib.hid want
  clear want
  have want2 : ∀ W', Below w.heap.size w W' → W'.cell? ⟨w.heap.size, 0, none⟩ = some (.slice ao P.length c) → W'.cell? ⟨w.heap.size + 1, 0, none⟩ = some (.func (.func 20) #[] #[.pointer (some ⟨w.heap.size, 0, none⟩)]) → ∀ e : Ev, Calls Tryd.prog 24 #[e.val, .pointer (some ⟨w.heap.size + 1, 0, none⟩)] W' fun en w' => en = .returned (.bool (!P.any (touchB e))) ∧ Below W'.heap.size W' w' := fun W' hB hc hc2 e =>
    notTouched e (w.heap.size + 1) w.heap.size ao c P W' (HM.out.kept hB) hbig HP.out ((HE.out.kept hB).mono hB.size) hc hc2
  have HWANT2 := Lib.hid want2
  clear want2
  refine wpIn_rangeFunc_ownH (α := Ev) rfl (by omega) (gf := 31) (lb := #[.pointer (some ⟨w.heap.size + 1 + 1 + 1 + 1, 0, none⟩), .pointer (some ⟨w.heap.size + 1 + 1 + 1 + 1 + 1, 0, none⟩)]) rfl trivial (enters_of Tryd.func31 (by kernel_rfl) rfl)
    (encs := fun x : Ev => #[x.val]) (Kp := KeepT W1.heap.size (w.heap.size + 1 + 1)) (S := fun ys => ys = L.filter fun e => P.any (touchB e)) (Sp := fun pre => pre <+: L.filter fun e => P.any (touchB e)) (N := 16) (w0 := W1)
    ?seq keepT_t (keepT_b (Nat.le_refl _)) (Below.refl _ _) (fun _ => rfl)
    (fun pre W => (∃ v, Boxed W (w.heap.size + 1 + 1) 41 v ∧ W.ownsRow W1.heap.size 44 4 v pre.length (flat pre) ∧ True) ∧ KeepT W1.heap.size (w.heap.size + 1 + 1) W1 W)
    (fun _ _ _ => False)
    (OwnFrom.and (Own.from (holdsRow_own W1.heap.size (w.heap.size + 1 + 1) 41 44 4 (fun pre : List Ev => pre.length) flat (fun _ _ => True)) _) (ownFrom_keepT (Nat.le_refl _) (Nat.le_refl _)))
    (fun _ _ _ _ _ hs _ _ => hs)
    ⟨⟨_, HBO.out, World.ownsRow_nil _ _ _ _, trivial⟩, keepT_refl _ _ _⟩
    (fun x a' W => ∃ bx, W1.heap.size ≤ bx ∧ W.heap[bx]? = some (.cells x.cells.toArray 44 (0, 0)) ∧ a' = (⟨#[Value.pointer (some { block := b, off := 0 }), Value.slice ao P.length c, undef,
          Value.pointer (some { block := w.heap.size, off := 0 }), Value.slice none 0 0,
          Value.pointer (some { block := w.heap.size + 1, off := 0 }),
          Value.pointer (some { block := w.heap.size + 1 + 1, off := 0 }),
          Value.pointer (some { block := w.heap.size + 1 + 1 + 1, off := 0 }), Value.pointer (some ⟨bx, 0, none⟩), undef,
          Value.pointer (some { block := b, off := 0 }), Value.bool false,
          Value.func (Fn.func 20) #[] #[Value.pointer (some { block := w.heap.size, off := 0 })],
          Value.pointer (some { block := b, off := 0 }),
          Value.func (Fn.func 20) #[] #[Value.pointer (some { block := w.heap.size, off := 0 })],
          Value.func (Fn.func 31) #[]
            #[Value.pointer (some { block := w.heap.size + 1 + 1 + 1 + 1, off := 0 }),
              Value.pointer (some { block := w.heap.size + 1 + 1 + 1 + 1 + 1, off := 0 })],
          x.val, undef, undef, undef, undef, undef, undef, undef, undef, undef, undef, undef, undef, undef, undef, undef, undef, undef], []⟩ : Act))
    ?own ?assign ?body ?done ?stop
  case seq =>
    intro l J Jx W hW hJ _ hY h0
    have hb1 := boxed_below HBT.out hW (by omega)
    have hb2 := boxed_below HBW.out hW (by omega)
    refine seq_any20 1 l _ _ w.heap.size W1.heap.size (w.heap.size + 1 + 1) b sc _ so L hL J Jx hY W hJ hW.size (by omega) (by omega) (by omega) (by omega) (by omega) (by omega) hb1.cell hb2.cell ?_ ?_ ?_ h0
    · exact (boxed_below (boxed_below (HT.out) HB1.out hblt) hW (by omega)).cell
    · exact (HEv.out.later HB1.out (by omega)).later hW (Nat.le_refl _)
    · intro W' hk e
      have hk2 := keepT_t (keepT_below (OB := w.heap.size + 1 + 1) hW (Nat.le_refl _)) hk
      exact HWANT.out W' (HB1.out.trans (keepT_to_below hk2 (by omega) (by omega))) (boxed_keepT HBL.out hk2 (by omega) (by omega)).cell e
  case own =>
    intro x a' s W W' row ⟨bx, h1, h2, h3⟩ hg hr
    refine ⟨bx, h1, (hg.block bx (Array.getElem?_eq_some_iff.1 h2).1 (fun e => ?_)).trans h2, h3⟩
    obtain ⟨_, o, ho, hc⟩ := hr bx e.symm
    rw [h2] at ho
    cases ho
    cases hc
  case assign =>
    rintro l pre x W K ⟨⟨v, hv, hrow, _⟩, hB⟩ hK
    have HK := Lib.hid hK
    have HV := Lib.hid hv
    have HR := Lib.hid hrow
    have HBB := Lib.hid hB
    clear hK hv hrow hB
    have hxv : x.val = .agg #[.int .i64 x.site, .int .u32 x.num, .string (bs x.path), .bool x.kids] := rfl
    rw [hxv] at *
    clear hxv
    gi_wp2
    exact HK.out _ _ (KeepsFrom.of_grownBy (World.grownBy_alloc W _ none) (by simp)) (keepT_below ((Below.refl W.heap.size W).alloc (Nat.le_refl _) _) HBB.out.size)
      ⟨⟨v, HV.out.alloc _, HR.out.alloc _, trivial⟩, keepT_t HBB.out (keepT_below ((Below.refl W.heap.size W).alloc (Nat.le_refl _) _) HBB.out.size)⟩ ⟨W.heap.size, HBB.out.size, heap_alloc_new W _, rfl⟩
  case body =>
    rintro l pre x a' W hl hloop ⟨⟨v, hv, hrow, _⟩, hB⟩ ⟨bx, hbx, hbc, rfl⟩ hlt
    have hxv : x.val = .agg #[.int .i64 x.site, .int .u32 x.num, .string (bs x.path), .bool x.kids] := rfl
    rw [hxv]
    clear hxv
    have hc := hv.cell
    have hbl := (Array.getElem?_eq_some_iff.1 hbc).1
    have g0 : W.cell? ⟨bx, 0, none⟩ = some (.int .i64 x.site) := cell_of_row _ _ 0 _ 44 (0, 0) hbc
    have g1 : W.cell? ⟨bx, 1, none⟩ = some (.int .u32 x.num) := cell_of_row _ _ 1 _ 44 (0, 0) hbc
    have g2 : W.cell? ⟨bx, 2, none⟩ = some (.string (bs x.path)) := cell_of_row _ _ 2 _ 44 (0, 0) hbc
    have g3 : W.cell? ⟨bx, 3, none⟩ = some (.bool x.kids) := cell_of_row _ _ 3 _ 44 (0, 0) hbc
    have HBC := Lib.hid hbc
    have HBB := Lib.hid hB
    have hsz := hB.size
    clear hbc hB hloop
    gi_wp2_with (gi_at_builtin; refine wpListIn_append_own _ rfl _ _ 41 rfl W1.heap.size 44 i0 evZero 4 40 Tryd.underlying41 hi hz0 hz1 hz2 rfl (by decide) _ _ _ rfl (hrow.alloc _) ⟨W.heap.size, 0, none⟩ 1 1 x.cells rfl rfl (cells_new W x.cells 44) (by intro u hu; simp [Ev.cells] at hu; rcases hu with rfl | rfl | rfl | rfl <;> rfl) (by unfold maxLen; omega) (by omega) (by simp; omega) ?_; intro v' w1 hown' hgrow _; obtain ⟨g', cap', rfl⟩ := ownsRow_succ hown'; obtain ⟨hv1, hv2, hr2, hk2, hb2⟩ := appendedT hv (by decide) hrow hsz (Nat.le_refl _) hown' hgrow; have hc1 := hv1.cell; have hf1 := hv1.frozen)
    exact ⟨hk2.from _, hb2, ⟨_, hv2, by rw [List.length_append, flat_snoc]; exact hr2, trivial⟩, keepT_t HBB.out hb2⟩
  case done =>
    rintro D ys W hD rfl ⟨⟨v, hv, hrow, _⟩, hB⟩ hK
    have HV := Lib.hid hv
    have HR := Lib.hid hrow
    have HBB := Lib.hid hB
    have HD := Lib.hid hK
    clear hv hrow hB hK
    have hkc := (boxed_keepT HBK.out HBB.out (by omega) (by omega)).cell
    have hsz := HBB.out.size
    gi_wp2_with fail
    refine ⟨trivial, ?_⟩
    refine (callsIn_wide.2 (those_make2 _ _ _)).mono ?_
    rintro e w' ⟨rfl, rfl⟩
    gi_wp2
    obtain ⟨W2, hW2⟩ : ∃ W2, W2 = (W.alloc (.cells #[.pointer (some ⟨b, 0, none⟩)] 24)).alloc (.cells #[.func (.func 24) #[] #[.pointer (some ⟨w.heap.size + 1, 0, none⟩)]] 65) := ⟨_, rfl⟩
    obtain ⟨hBW2, hs2, ct, cw⟩ := two_boxes W _ _ _ _ W2 hW2
    rw [← hW2]
    clear hW2
    have HS2 := Lib.hid hs2
    clear hs2
    have HBW2 := Lib.hid hBW2
    have HCT := Lib.hid ct
    have HCW := Lib.hid cw
    clear hBW2 ct cw
    have hlt2 : W.heap.size + 1 < W2.heap.size := by rw [HS2.out]; omega
    have XL := Lib.hid (boxed_below (boxed_keepT HBL.out HBB.out (by omega) (by omega)) HBW2.out (by omega))
    have XK := Lib.hid (boxed_below (boxed_keepT HBK.out HBB.out (by omega) (by omega)) HBW2.out (by omega))
    have XF := Lib.hid (boxed_below (boxed_keepT HBF.out HBB.out (by omega) (by omega)) HBW2.out (by omega))
    have XO := Lib.hid (boxed_below HV.out HBW2.out (by omega))
    have XT := Lib.hid (boxed_below (boxed_keepT (boxed_below HT.out HB1.out hblt) HBB.out (by omega) (by omega)) HBW2.out (by omega))
    have XB := Lib.hid ((HB1.out.trans (keepT_to_below HBB.out (by omega) (by omega))).trans (HBW2.out.mono (by omega)))
    have XE := Lib.hid (((((HEv.out.other (OB' := w.heap.size + 1 + 1 + 1) (by omega)).later HB1.out (n' := w.heap.size) (Nat.le_refl _)).later (keepT_to_below HBB.out (B := w.heap.size) (by omega) (by omega)) (Nat.le_refl _)).later (HBW2.out.mono (by omega)) (n' := W2.heap.size) (by omega)))
    refine wpIn_rangeFunc_ownH (α := Ev) rfl (by omega) (gf := 31) (lb := #[.pointer (some ⟨W.heap.size, 0, none⟩), .pointer (some ⟨W.heap.size + 1, 0, none⟩)]) rfl trivial (enters_of Tryd.func31 (by kernel_rfl) rfl)
      (encs := fun x : Ev => #[x.val]) (Kp := KeepT W2.heap.size (w.heap.size + 1 + 1 + 1)) (S := fun ys => ys = L.filter fun e => !P.any (touchB e)) (Sp := fun pre => pre <+: L.filter fun e => !P.any (touchB e)) (N := 16) (w0 := W2)
      ?seq2 keepT_t (keepT_b (Nat.le_refl _)) (Below.refl _ _) (fun _ => rfl)
      (fun pre W => (∃ v, Boxed W (w.heap.size + 1 + 1 + 1) 41 v ∧ W.ownsRow W2.heap.size 44 4 v pre.length (flat pre) ∧ True) ∧ KeepT W2.heap.size (w.heap.size + 1 + 1 + 1) W2 W)
      (fun _ _ _ => False)
      (OwnFrom.and (Own.from (holdsRow_own W2.heap.size (w.heap.size + 1 + 1 + 1) 41 44 4 (fun pre : List Ev => pre.length) flat (fun _ _ => True)) _) (ownFrom_keepT (Nat.le_refl _) (Nat.le_refl _)))
      (fun _ _ _ _ _ hs _ _ => hs)
      ⟨⟨_, XF.out, World.ownsRow_nil _ _ _ _, trivial⟩, keepT_refl _ _ _⟩
      (fun x a' W' => ∃ bx, W2.heap.size ≤ bx ∧ W'.heap[bx]? = some (.cells x.cells.toArray 44 (0, 0)) ∧ a' = (⟨#[Value.pointer (some { block := b, off := 0 }), Value.slice ao P.length c, undef,
                Value.pointer (some { block := w.heap.size, off := 0 }), Value.slice none 0 0,
                Value.pointer (some { block := w.heap.size + 1, off := 0 }),
                Value.pointer (some { block := w.heap.size + 1 + 1, off := 0 }),
                Value.pointer (some { block := w.heap.size + 1 + 1 + 1, off := 0 }), undef, Value.pointer (some ⟨bx, 0, none⟩),
                Value.pointer (some { block := b, off := 0 }), Value.bool false,
                Value.func (Fn.func 20) #[] #[Value.pointer (some { block := w.heap.size, off := 0 })],
                Value.pointer (some { block := b, off := 0 }),
                Value.func (Fn.func 20) #[] #[Value.pointer (some { block := w.heap.size, off := 0 })],
                Value.func (Fn.func 31) #[]
                  #[Value.pointer (some { block := w.heap.size + 1 + 1 + 1 + 1, off := 0 }),
                    Value.pointer (some { block := w.heap.size + 1 + 1 + 1 + 1 + 1, off := 0 })],
                undef, undef, undef, undef, undef, Value.pointer (some { block := b, off := 0 }),
                Value.func (Fn.func 24) #[] #[Value.pointer (some { block := w.heap.size + 1, off := 0 })],
                Value.func (Fn.func 31) #[] #[Value.pointer (some ⟨W.heap.size, 0, none⟩), Value.pointer (some ⟨W.heap.size + 1, 0, none⟩)], x.val,
                undef, undef, undef, undef, undef, undef, undef, undef, undef], []⟩ : Act))
      ?own2 ?assign2 ?body2 ?done2 ?stop2
    case seq2 =>
      intro l J Jx W3 hW hJ _ hY h0
      have hb1 := boxed_below HCT.out hW (by omega)
      have hb2 := boxed_below HCW.out hW (by omega)
      refine seq_any24 1 l _ _ (w.heap.size + 1) W2.heap.size (w.heap.size + 1 + 1 + 1) b sc _ so L hL J Jx hY W3 hJ hW.size (by omega) (by omega) (by omega) (by omega) (by omega) (by omega) hb1.cell hb2.cell ?_ ?_ ?_ h0
      · exact (boxed_below XT.out hW (by omega)).cell
      · exact XE.out.later hW (Nat.le_refl _)
      · intro W' hk e
        have hk2 := keepT_t (keepT_below (OB := w.heap.size + 1 + 1 + 1) hW (Nat.le_refl _)) hk
        exact HWANT2.out W' (XB.out.trans (keepT_to_below hk2 (by omega) (by omega))) (boxed_keepT XL.out hk2 (by omega) (by omega)).cell (boxed_keepT XK.out hk2 (by omega) (by omega)).cell e
    case own2 =>
      intro x a' s W W' row ⟨bx, h1, h2, h3⟩ hg hr
      refine ⟨bx, h1, (hg.block bx (Array.getElem?_eq_some_iff.1 h2).1 (fun e => ?_)).trans h2, h3⟩
      obtain ⟨_, o, ho, hc⟩ := hr bx e.symm
      rw [h2] at ho
      cases ho
      cases hc
    case assign2 =>
      rintro l pre x W K ⟨⟨v, hv, hrow, _⟩, hB⟩ hK
      have HK := Lib.hid hK
      have HV := Lib.hid hv
      have HR := Lib.hid hrow
      have HBB := Lib.hid hB
      clear hK hv hrow hB
      have hxv : x.val = .agg #[.int .i64 x.site, .int .u32 x.num, .string (bs x.path), .bool x.kids] := rfl
      rw [hxv] at *
      clear hxv
      gi_wp2
      exact HK.out _ _ (KeepsFrom.of_grownBy (World.grownBy_alloc W _ none) (by simp)) (keepT_below ((Below.refl W.heap.size W).alloc (Nat.le_refl _) _) HBB.out.size)
        ⟨⟨v, HV.out.alloc _, HR.out.alloc _, trivial⟩, keepT_t HBB.out (keepT_below ((Below.refl W.heap.size W).alloc (Nat.le_refl _) _) HBB.out.size)⟩ ⟨W.heap.size, HBB.out.size, heap_alloc_new W _, rfl⟩
    case body2 =>
      rintro l pre x a' W hl hloop ⟨⟨v, hv, hrow, _⟩, hB⟩ ⟨bx, hbx, hbc, rfl⟩ hlt
      have hxv : x.val = .agg #[.int .i64 x.site, .int .u32 x.num, .string (bs x.path), .bool x.kids] := rfl
      rw [hxv]
      clear hxv
      have hc := hv.cell
      have hbl := (Array.getElem?_eq_some_iff.1 hbc).1
      have g0 : W.cell? ⟨bx, 0, none⟩ = some (.int .i64 x.site) := cell_of_row _ _ 0 _ 44 (0, 0) hbc
      have g1 : W.cell? ⟨bx, 1, none⟩ = some (.int .u32 x.num) := cell_of_row _ _ 1 _ 44 (0, 0) hbc
      have g2 : W.cell? ⟨bx, 2, none⟩ = some (.string (bs x.path)) := cell_of_row _ _ 2 _ 44 (0, 0) hbc
      have g3 : W.cell? ⟨bx, 3, none⟩ = some (.bool x.kids) := cell_of_row _ _ 3 _ 44 (0, 0) hbc
      have HBC := Lib.hid hbc
      have HBB := Lib.hid hB
      have hsz := hB.size
      clear hbc hB hloop
      gi_wp2_with (gi_at_builtin; refine wpListIn_append_own _ rfl _ _ 41 rfl W2.heap.size 44 i0 evZero 4 40 Tryd.underlying41 hi hz0 hz1 hz2 rfl (by decide) _ _ _ rfl (hrow.alloc _) ⟨W.heap.size, 0, none⟩ 1 1 x.cells rfl rfl (cells_new W x.cells 44) (by intro u hu; simp [Ev.cells] at hu; rcases hu with rfl | rfl | rfl | rfl <;> rfl) (by unfold maxLen; omega) (by omega) (by simp; omega) ?_; intro v' w1 hown' hgrow _; obtain ⟨g', cap', rfl⟩ := ownsRow_succ hown'; obtain ⟨hv1, hv2, hr2, hk2, hb2⟩ := appendedT hv (by decide) hrow hsz (Nat.le_refl _) hown' hgrow; have hc1 := hv1.cell; have hf1 := hv1.frozen)
      exact ⟨hk2.from _, hb2, ⟨_, hv2, by rw [List.length_append, flat_snoc]; exact hr2, trivial⟩, keepT_t HBB.out hb2⟩
    case done2 =>
      rintro D2 ys W3 hD2 rfl ⟨⟨v2, hv2, hrow2, _⟩, hB2⟩ hK2
      have HV2 := Lib.hid hv2
      have HB2 := Lib.hid hB2
      have hsz2 := hB2.size
      have hvO := (boxed_keepT XO.out hB2 (by omega) (by omega)).cell
      have hvT := boxed_keepT XT.out hB2 (by omega) (by omega)
      have hT := hvT.cell
      have hTf := hvT.frozen
      have hF := hv2.cell
      obtain ⟨a2, c2, rfl⟩ := row_form hrow2
      obtain ⟨a1, c1, rfl⟩ := row_form HR.out
      have HR2 := Lib.hid hrow2
      have HK2 := Lib.hid hK2
      have HVT := Lib.hid hvT
      clear hv2 hB2 hK2 hrow2 hvT
      have hbD2 : b ≠ D2 := by omega
      have hbD : b ≠ D := by omega
      have hDW : D < W.heap.size := (Array.getElem?_eq_some_iff.1 HD.out).1
      have hDD : D ≠ D2 := by omega
      gi_wp2
      have hd2 : (W3.setCell ⟨b, 0, none⟩ (Value.slice a2 (List.filter (fun e => !P.any (touchB e)) L).length c2)).heap[D2]? = some (.deferred (some [])) := (Below.heap_setCell _ _ _ D2 (fun e => hbD2 e.symm)).trans HK2.out
      have hd1 : ((W3.setCell ⟨b, 0, none⟩ (Value.slice a2 (List.filter (fun e => !P.any (touchB e)) L).length c2)).putObj D2 (.deferred none)).heap[D]? = some (.deferred (some [])) :=
        (World.putObj_heap_other hDD).trans ((Below.heap_setCell _ _ _ D (fun e => hbD e.symm)).trans ((HB2.out.block D (by omega) (by omega)).trans ((HBW2.out.block D hDW).trans HD.out)))
      refine ⟨by simp, .inl ⟨_, _, rfl, run_takeDeferred hd2, by simp, .inl ⟨_, _, rfl, run_takeDeferred hd1, ?_⟩⟩⟩
      have chain : ∀ g, g ≠ D → g ≠ D2 → g ≠ b → (((W3.setCell ⟨b, 0, none⟩ (Value.slice a2 (List.filter (fun e => !P.any (touchB e)) L).length c2)).putObj D2 (.deferred none)).putObj D (.deferred none)).heap[g]? = W3.heap[g]? := fun g h1 h2 h3 =>
        (World.putObj_heap_other h1).trans ((World.putObj_heap_other h2).trans (Below.heap_setCell _ _ _ g h3))
      refine ⟨_, results_tmp rfl _ _ _, a1, c1, a2, c2, rfl, ?_, ?_, ?_, ?_, ?_⟩
      · refine row_kept HR.out (by omega) (fun g cs fr hg hbg hgo => ?_)
        have hgl : g < W.heap.size := (Array.getElem?_eq_some_iff.1 hgo).1
        rw [chain g (fun e => by subst e; rw [HD.out] at hgo; cases hgo) (by omega) (by omega), HB2.out.block g (by omega) (by omega), HBW2.out.block g hgl]
      · exact (World.putObj_heap_other hbD).trans ((World.putObj_heap_other hbD2).trans (HVT.out.set _))
      · refine row_kept HR2.out (by omega) (fun g cs fr hg hbg hgo => ?_)
        rw [chain g (by omega) (fun e => by subst e; rw [HK2.out] at hgo; cases hgo) (by omega)]
      · intro g h1 h2
        have l1 := HR.out.lt g h1
        have l2 := HR2.out.lt g h2
        omega
      · refine ⟨?_, ?_, ?_, ?_, fun k hk hne => ?_⟩
        · exact HB2.out.os.trans XB.out.os
        · exact HB2.out.tape.trans XB.out.tape
        · exact HB2.out.output.trans XB.out.output
        · have h1 := (grownBy_setCell' W3 b (Value.slice a2 (List.filter (fun e => !P.any (touchB e)) L).length c2)).size
          have h2 := XB.out.size
          simp only [World.putObj, Array.size_set!, Array.size_setIfInBounds]
          omega
        · rw [chain k (by omega) (by omega) hne, HB2.out.block k (by omega) (by omega)]
          exact XB.out.block k hk
    case stop2 => 
      rintro D c pre W _ _ h _
      exact h.elim
  case stop => 
    rintro D c pre W _ _ h _
    exact h.elim
end Go.Proofs.YtfbimhbdifmeoaaDoor
