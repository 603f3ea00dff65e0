/-
  Slices of a row of operations.
  A drawn region whose operations only make memory, in whatever order: each new block's number is any number; what a block holds is known. (Orders are not branched over: seven allocations whose order is free would come to 1260 orders.)
  OpKnown's table and states, in plain words.
  OpKnown's table, as it lies: each row is an operation that came in.
  OpKnown's last seven operations, in plain words.
  OpKnown's multi of two parts, as it comes in; Do of no tree.
  OpKnown, walked.
  OpKnown: it takes no argument.
-/
import Derived.Test.YtnclkfhdpkkakaaGreatDoorJOpGrow
import Derived.Laws.AppendOwnNone
import Derived.Test.YtnclkfhdpkkakaaGreatDoorJOp8k
import Derived.Test.YtnclkfhdpkkakaaGreatDoorJOpFitP
import Derived.Test.YtnclkfhdpkkakaaGreatDoorShaped
import Derived.ChangeMaps5
namespace Go.Proofs.YtnclkfhdpkkakaaGreatDoor
set_option linter.unusedVariables false
set_option linter.unusedSimpArgs false
open Go Go.RowKit Go.Shelf Go.MapKept Go.ChangeMaps Go.Maps Go.Sort
theorem elemOps : Tryz.prog.underlying 24 = some (.slice (Tryz.prog.elem 24)) := by kernel_rfl
theorem sizeOps (W : World) : (sizeOf (Tryz.prog.elem 24)).run Tryz.prog W = .ok 7 W := by kernel_rfl
theorem slice_hi (W : World) (g c n k : Nat) (h : k ≤ c) : (Instr.slice 24 (.slice (some ⟨g, 0, none⟩) n c) none (some (.int .i64 (k : Int))) none).run Tryz.prog W = .ok (.slice (some ⟨g, 0, none⟩) k c) W := by
  rw [run_slice_h W 24 (some ⟨g, 0, none⟩) n c elemOps .i64 (k : Int) (by omega) (by omega), sizeOps]
  simp only [Result.andThen, sliced, Int.toNat_natCast, Nat.zero_mul, Nat.sub_zero, Option.map_some, Addr.add_lit, Nat.zero_add]
  by_cases hc : c = 0
  · rw [if_pos hc]
  · rw [if_neg hc]
theorem slice_lo (W : World) (g c n k : Nat) (h : k ≤ n) (hc : n ≤ c) : (Instr.slice 24 (.slice (some ⟨g, 0, none⟩) n c) (some (.int .i64 (k : Int))) none none).run Tryz.prog W = .ok (.slice (some (if c = k then ⟨g, 0, none⟩ else ⟨g, k * 7, none⟩)) (n - k) (c - k)) W := by
  rw [run_slice_l W 24 (some ⟨g, 0, none⟩) n c elemOps .i64 (k : Int) (by omega) (by omega), sizeOps]
  simp only [Result.andThen, sliced, Int.toNat_natCast, Option.map_some, Addr.add_lit, Nat.zero_add]
  by_cases hk : c = k
  · rw [if_pos hk, if_pos hk]
  · rw [if_neg hk, if_neg hk]
theorem slice_none_hi (W : World) : (Instr.slice 24 (.slice none 0 0) none (some (.int .i64 ((0 : Nat) : Int))) none).run Tryz.prog W = .ok (.slice none 0 0) W := by
  rw [run_slice_h W 24 none 0 0 elemOps .i64 ((0 : Nat) : Int) (by omega) (by omega), sizeOps]
  rfl
theorem slice_none_lo (W : World) : (Instr.slice 24 (.slice none 0 0) (some (.int .i64 ((0 : Nat) : Int))) none none).run Tryz.prog W = .ok (.slice none 0 0) W := by
  rw [run_slice_l W 24 none 0 0 elemOps .i64 ((0 : Nat) : Int) (by omega) (by omega), sizeOps]
  rfl
def flatO (Q : List RawO) : List Value := Q.flatMap RawO.cells
theorem flatO_len : ∀ Q : List RawO, (flatO Q).length = Q.length * 7
  | [] => rfl
  | q :: Q => by
    unfold flatO
    rw [List.flatMap_cons, List.length_append]
    have := flatO_len Q
    unfold flatO at this
    rw [this, List.length_cons]
    show 7 + _ = _
    omega
theorem flatO_append (Q R : List RawO) : flatO (Q ++ R) = flatO Q ++ flatO R := by unfold flatO; rw [List.flatMap_append]
theorem flatO_at : ∀ (L : List RawO) (k : Nat) (r : RawO), L[k]? = some r → ∀ j u, r.cells[j]? = some u → (flatO L)[k * 7 + j]? = some u
  | [], k, r, h, j, u, hu => by simp at h
  | x :: L, 0, r, h, j, u, hu => by
    simp at h
    subst h
    unfold flatO
    rw [List.flatMap_cons, Nat.zero_mul, Nat.zero_add, List.getElem?_append_left (List.getElem?_eq_some_iff.1 hu).1]
    exact hu
  | x :: L, k + 1, r, h, j, u, hu => by
    have h' : L[k]? = some r := by simpa using h
    have ih := flatO_at L k r h' j u hu
    unfold flatO at ih ⊢
    rw [List.flatMap_cons, List.getElem?_append_right (by show 7 ≤ _; omega), show (k + 1) * 7 + j - x.cells.length = k * 7 + j by show (k + 1) * 7 + j - 7 = _; omega]
    exact ih
/-- A row's two slices at k. -/
theorem row_slices {W5 : World} {base n k : Nat} {v : Value} {Q : List RawO} (own : W5.ownsRow base 26 7 v n (flatO Q)) (hn : n = Q.length) (hv0 : n = 0 → v = .slice none 0 0) (hk : k ≤ n) :
    ∃ (x1 : Option Addr) (c1 : Nat) (x2 : Option Addr) (c2 : Nat), (∀ W, (Instr.slice 24 v none (some (.int .i64 (k : Int))) none).run Tryz.prog W = .ok (.slice x1 k c1) W) ∧ (x1 = none → k = 0 ∧ c1 = 0) ∧ (∀ ad, x1 = some ad → ∀ W, Below W5.heap.size W5 W → ∀ j u, (flatO (Q.take k))[j]? = some u → W.cell? (ad.add j) = some u)
      ∧ (∀ W, (Instr.slice 24 v (some (.int .i64 (k : Int))) none none).run Tryz.prog W = .ok (.slice x2 (n - k) c2) W) ∧ (x2 = none → n - k = 0 ∧ c2 = 0) ∧ (∀ ad, x2 = some ad → ∀ W, Below W5.heap.size W5 W → ∀ j u, (flatO (Q.drop k))[j]? = some u → W.cell? (ad.add j) = some u) := by
  by_cases h0 : n = 0
  · have hv := hv0 h0
    subst hv
    obtain rfl : k = 0 := by omega
    rw [h0]
    exact ⟨none, 0, none, 0, slice_none_hi, fun _ => ⟨rfl, rfl⟩, fun ad h => (by cases h), slice_none_lo, fun _ => ⟨rfl, rfl⟩, fun ad h => (by cases h)⟩
  · have hcells := fun g (hg : v.ownBlock = some g) => own.cells hg
    have hlt := fun g (hg : v.ownBlock = some g) => (own.lt g hg).2
    rcases own.2 with ⟨_, h1⟩ | ⟨g, cap, cur, rfl, _, _, hnc, _⟩
    · exact absurd h1 h0
    · have hcell := hcells g rfl
      have hg := hlt g rfl
      have hW : ∀ W, Below W5.heap.size W5 W → ∀ j u, (flatO Q)[j]? = some u → W.cell? ⟨g, j, none⟩ = some u := fun W hb j u hu => by
        have := hcell j u hu
        rw [Addr.add_lit, Nat.zero_add] at this
        exact (hb.cell (p := ⟨g, j, none⟩) hg).trans this
      have hsp : flatO Q = flatO (Q.take k) ++ flatO (Q.drop k) := by rw [← flatO_append, List.take_append_drop]
      have htl : (flatO (Q.take k)).length = k * 7 := by rw [flatO_len, List.length_take]; congr 1; omega
      refine ⟨some ⟨g, 0, none⟩, cap, _, cap - k, fun W => slice_hi W g cap n k (by omega), fun h => (by cases h), fun ad h W hb j u hu => ?_, fun W => slice_lo W g cap n k hk hnc, fun h => (by cases h), fun ad h W hb j u hu => ?_⟩
      · cases h
        rw [Addr.add_lit, Nat.zero_add]
        refine hW W hb j u ?_
        rw [hsp, List.getElem?_append_left (List.getElem?_eq_some_iff.1 hu).1]
        exact hu
      · by_cases hc : cap = k
        · have : Q.drop k = [] := List.drop_eq_nil_of_le (by omega)
          rw [this] at hu
          simp [flatO] at hu
        · rw [if_neg hc] at h
          cases h
          rw [Addr.add_lit]
          refine hW W hb (k * 7 + j) u ?_
          rw [hsp, List.getElem?_append_right (by omega), htl, show k * 7 + j - k * 7 = j by omega]
          exact hu
theorem OpsAt.mono {w : World} {n m : Nat} {pa : Option Addr} {R : List RawO} (h : OpsAt w n pa R) (hle : n ≤ m) : OpsAt w m pa R := by
  induction hle with
  | refl => exact h
  | step _ ih => exact ih.up
/-- A new row of operations, as a check sees it. -/
theorem row_opAt {W w : World} {base n : Nat} {v : Value} {R : List RawO} {D : Nat} (own : W.ownsRow base 26 7 v n (flatO R)) (hn : n = R.length) (hb : Below w.heap.size w W) (hR : ∀ r ∈ R, r.dn ≤ maxLen ∧ ∃ Q, r.pn = Q.length ∧ OpsAt w D r.pa Q) :
    ∃ na nc, v = .slice na n nc ∧ OpAtN W (D + 1) na (R.map RawO.info) := by
  obtain ⟨na, nc, hv⟩ := row_form own
  refine ⟨na, nc, hv, fun k i hk => ?_⟩
  rw [List.getElem?_map] at hk
  obtain ⟨r, hr, rfl⟩ := Option.map_eq_some_iff.1 hk
  obtain ⟨h1, Q, h2, h3⟩ := hR r (List.mem_of_getElem? hr)
  have hkl := (List.getElem?_eq_some_iff.1 hr).1
  rcases own.2 with ⟨_, h0⟩ | ⟨g, cap, cur, he, _, _, _, _⟩
  · omega
  · obtain rfl : na = some ⟨g, 0, none⟩ := (Value.slice.inj (hv.symm.trans he)).1
    have hob : v.ownBlock = some g := by rw [he]; rfl
    refine ⟨g, 0, r, Q.map RawO.info, rfl, (own.lt g hob).2, fun j u hu => ?_, rfl, by rw [List.length_map]; exact h2, h1, OpAtN.below hb h3.chk⟩
    have := own.cells (g := g) hob (k * 7 + j) u (flatO_at R k r hr j u hu)
    rw [Addr.add_lit, Nat.zero_add] at this
    rw [show 0 + k * 7 + j = k * 7 + j by omega]
    exact this
section
variable {P : Program} {l : List Oper} {Q : Exit → Act → World → Prop} {md : Region.Mode} {S : World → Prop}
/-- Two operations may come up. -/
theorem alt_in (i j : Nat) {oi oj : Oper} {r r' : List Oper} {fuel : Nat} {listed : Array Bool} {a : Act} {w : World} (hi : l.drop i = oi :: r) (hj : l.drop j = oj :: r')
    (hr : Region.ready md l.toArray listed = [i, j]) (hwi : Region.wanted oi (yielded l.toArray a.tmps) = true) (hwj : Region.wanted oj (yielded l.toArray a.tmps) = true)
    (h1 : Oper.wp P oi a w (fun a' w' => S w' ∧ wpAnyH P md l.toArray Q S fuel (listed.setIfInBounds i true) a' w') Q)
    (h2 : Oper.wp P oj a w (fun a' w' => S w' ∧ wpAnyH P md l.toArray Q S fuel (listed.setIfInBounds j true) a' w') Q) : wpAnyH P md l.toArray Q S (fuel + 1) listed a w := by
  refine wpAnyH_all hr (by simp) fun k hk => ?_
  rcases (show k = i ∨ k = j by simpa using hk) with rfl | rfl
  · unfold wpOp
    rw [drop_get hi]
    dsimp only
    rw [if_pos hwi]
    exact .inl h1
  · unfold wpOp
    rw [drop_get hj]
    dsimp only
    rw [if_pos hwj]
    exact .inl h2
theorem wp_gives {o : Oper} {a : Act} {w w' : World} {v : Value} {K : Act → World → Prop} (hx : (execOp a.eval o).run P w = .ok (.value v) w') (h : K (a.put o.dst v) w') : Oper.wp P o a w K Q := by
  unfold Oper.wp
  rw [hx, Oper.upon_value]
  exact h
end
/-- append, of a slice that may be nil. -/
theorem wp_append_any {P : Program} {w : World} {o : Oper} {a : Act} {K : Act → World → Prop} {Q : Exit → Act → World → Prop} (s x : Operand) (t : TypeId)
    (ho : o.op = .call { callee := .builtin .append, args := #[s, x], argTypes := #[t, t] })
    (base : Nat) (e : TypeId) (i : TypeInfo) (z : Value) (size bytes : Nat) (ht : P.underlying t = some (.slice e)) (hi : P.info? e = some i) (hz : i.zero = some z)
    (hsize : i.size = size) (hby : i.bytes = bytes) (hzs : z.cells.size = size) (hsz : 0 < size)
    (v : Value) (n : Nat) (xs : List Value) (hs : a.eval s = v) (hown : w.ownsRow base e size v n xs)
    (xo : Option Addr) (m c : Nat) (news : List Value) (hx : a.eval x = .slice xo m c) (hno : xo = none → m = 0 ∧ c = 0) (hl : news.length = m * size) (hnews : ∀ ad, xo = some ad → ∀ j u, news[j]? = some u → w.cell? (ad.add j) = some u) (h1 : ∀ u ∈ news, u.oneCell' = true)
    (h63 : n + m ≤ maxLen) (hbytes : (n + m) * bytes ≤ 140737488355328) (hbase : base ≤ w.heap.size)
    (h : ∀ v' w', w'.ownsRow base e size v' (n + m) (xs ++ news) → w.grownBy w' v.ownBlock → (∀ k, v'.ownBlock = some k → v.ownBlock = some k ∨ w.heap.size ≤ k) → K (a.put o.dst v') w') : o.wp P a w K Q := by
  cases xo with
  | some ad => exact wp_append_new s x t ho base e i z size bytes ht hi hz hsize hby hzs hsz v n xs hs hown ad m c news hx hl (hnews ad rfl) h1 h63 hbytes hbase h
  | none =>
    obtain ⟨rfl, rfl⟩ := hno rfl
    obtain rfl : news = [] := List.eq_nil_of_length_eq_zero (by omega)
    have hrun := run_append_owned_none (P := P) (w := w) base t o.type e i size ht hi v n xs hown
    unfold Oper.wp
    simp [execOp, ho, resolve, invoke, builtin, hs, hx, hrun, Result.andThen]
    exact h v w (by simpa using hown) ⟨rfl, rfl, rfl, Nat.le_refl _, fun _ _ _ => rfl⟩ (fun k hk => .inl hk)
end Go.Proofs.YtnclkfhdpkkakaaGreatDoor

namespace Go.Proofs.YtnclkfhdpkkakaaGreatDoor
set_option linter.unusedVariables false
set_option linter.unusedSimpArgs false
open Go Go.RowKit Go.Shelf Go.MapKept Go.ChangeMaps Go.Maps Go.Sort
section
variable {P : Program} {ops : Array Oper} {Q : Exit → Act → World → Prop} {md : Region.Mode}
/-- In some world the operation left v; this world is a later one. -/
def NewOf (P : Program) (o : Oper) (a : Act) (v : Value) (w : World) : Prop := ∃ w1 w2, (execOp a.eval o).run P w1 = .ok (.value v) w2 ∧ Below w2.heap.size w2 w
/-- In whatever world: it leaves a value, and only adds blocks. -/
def Makes (P : Program) (o : Oper) (a : Act) : Prop := ∀ w, ∃ v w', (execOp a.eval o).run P w = .ok (.value v) w' ∧ Below w.heap.size w w'
def wpFree (P : Program) (md : Region.Mode) (ops : Array Oper) (Q : Exit → Act → World → Prop) : Nat → Array Bool → Act → (World → Prop) → Prop
  | 0, listed, a, Φ => Region.ready md ops listed = [] ∧ ∀ w, Φ w → Q .normal a w
  | f + 1, listed, a, Φ => (Region.ready md ops listed = [] → ∀ w, Φ w → Q .normal a w) ∧
    ∀ i ∈ Region.ready md ops listed, ∃ o, ops[i]? = some o ∧ Region.wanted o (yielded ops a.tmps) = true ∧ Makes P o a ∧ ∀ v, (∃ w, NewOf P o a v w) → wpFree P md ops Q f (listed.setIfInBounds i true) (a.put o.dst v) (fun w => Φ w ∧ NewOf P o a v w)
theorem wpFree_mono : ∀ (f : Nat) {listed : Array Bool} {a : Act} {Φ Ψ : World → Prop}, (∀ w, Ψ w → Φ w) → wpFree P md ops Q f listed a Φ → wpFree P md ops Q f listed a Ψ
  | 0, _, _, _, _, hh, h => ⟨h.1, fun w hw => h.2 w (hh w hw)⟩
  | f + 1, _, _, _, _, hh, h => ⟨fun hr w hw => h.1 hr w (hh w hw), fun i hi => by
    obtain ⟨o, h1, h2, h3, h4⟩ := h.2 i hi
    exact ⟨o, h1, h2, h3, fun v hv => wpFree_mono f (fun w hw => ⟨hh w hw.1, hw.2⟩) (h4 v hv)⟩⟩
theorem newOf_put {oj : Oper} (hsj : ∀ cs b, oj.op ≠ .select cs b) {a : Act} {dst : Option Tmp} {v : Value} (h : ∀ d, dst = some d → d ∉ oj.looksAt ops) (u : Value) (w : World) : NewOf P oj (a.put dst v) u w ↔ NewOf P oj a u w := by
  unfold NewOf
  rw [execOp_put oj hsj a dst v h]
theorem makes_put {oj : Oper} (hsj : ∀ cs b, oj.op ≠ .select cs b) {a : Act} {dst : Option Tmp} {v : Value} (h : ∀ d, dst = some d → d ∉ oj.looksAt ops) : Makes P oj (a.put dst v) ↔ Makes P oj a := by
  unfold Makes
  rw [execOp_put oj hsj a dst v h]
theorem wpFree_first {i : Nat} {oi : Oper} (w00 : World) (hi : ops[i]? = some oi) (hsel : ∀ (j : Nat) (o : Oper) cs b, ops[j]? = some o → o.op ≠ .select cs b) :
    ∀ (fuel : Nat) (listed : Array Bool) (a : Act) (Φ : World → Prop),
      (∀ j oj, ops[j]? = some oj → j ≠ i → listed.getD j true = false → (∀ e ∈ oj.after, Region.binds md e = true → e.on ≠ i) → oi.apart ops oj = true) →
      i ∈ Region.ready md ops listed → Region.wanted oi (yielded ops a.tmps) = true → Makes P oi a →
      (∀ v, (∃ w, NewOf P oi a v w) → wpFree P md ops Q fuel (listed.setIfInBounds i true) (a.put oi.dst v) (fun w => Φ w ∧ NewOf P oi a v w)) → wpFree P md ops Q (fuel + 1) listed a Φ := by
  intro fuel
  induction fuel with
  | zero =>
    intro listed a Φ _ hr hw hM H
    refine ⟨fun h => (by rw [h] at hr; cases hr), fun j hj => ?_⟩
    by_cases hji : j = i
    · subst hji; exact ⟨oi, hi, hw, hM, H⟩
    · obtain ⟨v, w', h1, h2⟩ := hM w00
      have := ready_mono hj hji
      rw [(H v ⟨w', w00, w', h1, Below.refl _ _⟩).1] at this
      cases this
  | succ fuel ih =>
    intro listed a Φ hfree hr hw hM H
    refine ⟨fun h => (by rw [h] at hr; cases hr), fun j hj => ?_⟩
    by_cases hji : j = i
    · subst hji; exact ⟨oi, hi, hw, hM, H⟩
    · obtain ⟨v0, w0', h01, h02⟩ := hM w00
      obtain ⟨oj, hoj, hwj, hMj, _⟩ := (H v0 ⟨w0', w00, w0', h01, Below.refl _ _⟩).2 j (ready_mono hj hji)
      obtain ⟨hjun, oj', hoj', hall⟩ := mem_ready.1 hj
      obtain rfl : oj = oj' := by rw [hoj] at hoj'; exact Option.some.inj hoj'
      have hnot : ∀ e ∈ oj.after, Region.binds md e = true → e.on ≠ i := fun e he hb heq => by
        have h1 := hall e he hb
        have h0 := (mem_ready.1 hr).1
        rw [heq] at h1
        rcases Nat.lt_or_ge i listed.size with h' | h'
        · simp [h'] at h0 h1; rw [h0] at h1; cases h1
        · simp [Array.getElem?_eq_none h'] at h1
      have hsi := fun cs b => hsel i oi cs b hi
      have hsj := fun cs b => hsel j oj cs b hoj
      obtain ⟨a1, a2, a3⟩ := Oper.apart_spec (hfree j oj hoj hji hjun hnot)
      have hfree' : ∀ k ok, ops[k]? = some ok → k ≠ i → (listed.setIfInBounds j true).getD k true = false →
          (∀ e ∈ ok.after, Region.binds md e = true → e.on ≠ i) → oi.apart ops ok = true := fun k ok hk hki hun hno => by
        refine hfree k ok hk hki ?_ hno
        by_cases hjk : j = k
        · subst hjk; exact hjun
        · rw [getD_set_ne true hjk] at hun; exact hun
      refine ⟨oj, hoj, by rw [wanted_put oj a oi.dst v0 a1] at hwj; exact hwj, (makes_put hsj a1).1 hMj, fun vj hvj => ?_⟩
      refine ih (listed.setIfInBounds j true) (a.put oj.dst vj) _ hfree' (ready_mono hr (Ne.symm hji)) (by rw [wanted_put oi a oj.dst vj a3]; exact hw) ((makes_put hsi a3).2 hM) (fun v hv => ?_)
      have hv' : ∃ w, NewOf P oi a v w := hv.imp fun w h => (newOf_put hsi a3 v w).1 h
      obtain ⟨oj', hoj', _, _, Hj⟩ := (H v hv').2 j (ready_mono hj hji)
      obtain rfl : oj = oj' := by rw [hoj] at hoj'; exact Option.some.inj hoj'
      have h := Hj vj (hvj.imp fun w h => (newOf_put hsj a1 vj w).2 h)
      rw [Array.setIfInBounds_comm _ _ hji, ← Act.put_comm a v vj a2]
      exact wpFree_mono fuel (fun w hw => ⟨⟨hw.1.1, (newOf_put hsi a3 v w).1 hw.2⟩, (newOf_put hsj a1 vj w).2 hw.1.2⟩) h
theorem wpAny_of_free : ∀ (f : Nat) {listed : Array Bool} {a : Act} {Φ : World → Prop}, (∀ w w', Φ w → Below w.heap.size w w' → Φ w') → wpFree P md ops Q f listed a Φ → ∀ w, Φ w → wpAny P md ops Q f listed a w
  | 0, _, _, _, _, h, w, hw => ⟨h.1, h.2 w hw⟩
  | f + 1, _, a, Φ, hp, h, w, hw => ⟨fun hr => h.1 hr w hw, fun i hi => by
    obtain ⟨o, h1, h2, h3, h4⟩ := h.2 i hi
    obtain ⟨v, w', h5, h6⟩ := h3 w
    unfold wpOp
    rw [h1]
    dsimp only
    rw [if_pos h2]
    refine .inl ?_
    unfold Oper.wp
    rw [h5, Oper.upon_value]
    have hn : NewOf P o a v w' := ⟨w, w', h5, Below.refl _ _⟩
    refine wpAny_of_free f (fun u u' hu hb => ⟨hp u u' hu.1 hb, ?_⟩) (h4 v ⟨w', hn⟩) w' ⟨hp w w' hw h6, hn⟩
    obtain ⟨w1, w2, e1, e2⟩ := hu.2
    exact ⟨w1, w2, e1, e2.trans (hb.mono e2.size)⟩⟩
end
section
variable {P : Program} {l : List Oper} {Q : Exit → Act → World → Prop} {md : Region.Mode}
/-- An operation that is the same in whatever world is taken. -/
theorem free_pure (i : Nat) {oi : Oper} {r : List Oper} {v : Value} {fuel : Nat} {listed : Array Bool} {a : Act} {Φ : World → Prop} (w00 : World) (hi : l.drop i = oi :: r)
    (hs : Region.noSelect l.toArray = true) (hf : Region.free md l.toArray listed i = true) (hr : (Region.ready md l.toArray listed).contains i = true)
    (hw : Region.wanted oi (yielded l.toArray a.tmps) = true) (hy : ∀ w', (execOp a.eval oi).run P w' = .ok (.value v) w')
    (h : wpFree P md l.toArray Q fuel (listed.setIfInBounds i true) (a.put oi.dst v) Φ) : wpFree P md l.toArray Q (fuel + 1) listed a Φ := by
  refine wpFree_first w00 (drop_get hi) (Region.noSelect_spec hs) fuel listed a Φ (Region.free_spec (drop_get hi) hf) (by simpa using hr) hw (fun w => ⟨v, w, hy w, Below.refl _ _⟩) (fun v' hv' => ?_)
  obtain ⟨_, w1, w2, e1, _⟩ := hv'
  rw [hy w1] at e1
  cases e1
  exact wpFree_mono fuel (fun w hw => hw.1) h
/-- An operation that makes a block is taken: the block has any number. -/
theorem free_new (i : Nat) {oi : Oper} {r : List Oper} {fuel : Nat} {listed : Array Bool} {a : Act} {Φ : World → Prop} (w00 : World) (hi : l.drop i = oi :: r)
    (hs : Region.noSelect l.toArray = true) (hf : Region.free md l.toArray listed i = true) (hr : (Region.ready md l.toArray listed).contains i = true)
    (hw : Region.wanted oi (yielded l.toArray a.tmps) = true) (val : Nat → Value) (hinj : ∀ b b', val b = val b' → b = b') (obj : Obj) (hy : ∀ w', (execOp a.eval oi).run P w' = .ok (.value (val w'.heap.size)) (w'.alloc obj))
    (h : ∀ b, wpFree P md l.toArray Q fuel (listed.setIfInBounds i true) (a.put oi.dst (val b)) (fun w => Φ w ∧ w.heap[b]? = some obj)) : wpFree P md l.toArray Q (fuel + 1) listed a Φ := by
  refine wpFree_first w00 (drop_get hi) (Region.noSelect_spec hs) fuel listed a Φ (Region.free_spec (drop_get hi) hf) (by simpa using hr) hw (fun w => ⟨_, _, hy w, belowA (Below.refl _ w) _⟩) (fun v' hv' => ?_)
  obtain ⟨_, w1, w2, e1, _⟩ := id hv'
  have e2 := e1
  rw [hy w1] at e2
  injection e2 with e3 e4
  injection e3 with e3
  subst e3 e4
  refine wpFree_mono fuel (fun w hw => ⟨hw.1, ?_⟩) (h w1.heap.size)
  obtain ⟨u1, u2, g1, g2⟩ := hw.2
  rw [hy u1] at g1
  injection g1 with g3 g4
  injection g3 with g3
  have g5 := hinj _ _ g3
  subst g4
  rw [← g5]
  exact (g2.block _ (by rw [World.size_alloc]; omega)).trans (heap_alloc_new u1 obj)
theorem free_done {listed : Array Bool} {a : Act} {Φ : World → Prop} (hr : Region.ready md l.toArray listed = []) (h : ∀ w, Φ w → Q .normal a w) : ∀ fuel, wpFree P md l.toArray Q fuel listed a Φ
  | 0 => ⟨hr, h⟩
  | _ + 1 => ⟨fun _ => h, by rw [hr]; simp⟩
theorem region_free {id : Nat} {a : Act} {w : World} (hm : P.follows .mixedOrders = true) (h : wpFree P .any l.toArray Q l.toArray.size (Array.replicate l.toArray.size false) a (fun w' => Below w.heap.size w w')) : (Code.region id l.toArray true).wp P Q a w :=
  wp_region_any hm (wpAny_of_free _ (fun u u' h1 h2 => h1.trans (h2.mono h1.size)) h _ (Below.refl _ w).drew)
end
end Go.Proofs.YtnclkfhdpkkakaaGreatDoor

namespace Go.Proofs.YtnclkfhdpkkakaaGreatDoor
set_option linter.unusedVariables false
set_option linter.unusedSimpArgs false
open Go Go.RowKit Go.Shelf Go.MapKept Go.ChangeMaps Go.Maps Go.Sort
/-- A row of the table: the operation as it lies, what it says, its parts, the error that is wanted. -/
structure KnRow where
  r : RawO
  o : Opl
  Q : List RawO
  ps : List Opl
  x : Int
def kr (kind : Int) (path : Bytes) (ver : Int) (seq eph : Bool) (x : Int) : KnRow := ⟨⟨kind, path, none, 0, 0, ver, seq, eph, none, 0, 0⟩, ⟨kind, path, [], ver, seq, eph⟩, [], [], x⟩
def zR : RawO := ⟨0, [], none, 0, 0, 0, false, false, none, 0, 0⟩
def zO : Opl := ⟨0, [], [], 0, false, false⟩
def knRows (b50 b53 b76 b78 b81 b84 b86 : Nat) : List KnRow := [kr 5 [47, 114, 47, 97] (0) false false 31,
  kr 3 [47, 120] (0) false false 30,
  kr 2 [47, 114] (-1) false false 30,
  kr 1 [47, 114, 47, 98, 47, 99] (0) false false 31,
  kr 1 [47, 114] (0) false false 32,
  kr 1 [47, 114] (0) true false 30,
  kr 0 [] (0) false false 1,
  kr 8 [] (0) false false 1,
  kr 7 [] (0) false false 1,
  ⟨⟨5, [47, 114], none, 0, 0, 0, false, false, some ⟨b50, 0, none⟩, 1, 1⟩, ⟨5, [47, 114], [], 0, false, false⟩, [zR], [zO], 1⟩,
  ⟨⟨3, [47, 114], some ⟨b53, 0, none⟩, 65, 65, 0, false, false, none, 0, 0⟩, ⟨3, [47, 114], List.replicate 65 0, 0, false, false⟩, [], [], 3⟩,
  kr 1 [47, 114, 47, 101] (0) false true 0,
  kr 1 [47, 114, 47, 101, 47, 120] (0) false false 34,
  kr 1 [47, 114, 47, 101] (0) false false 32,
  kr 1 [47, 114, 47, 100] (0) false false 0,
  kr 1 [47, 114, 47, 100, 47, 120] (0) false false 0,
  kr 2 [47, 114, 47, 100] (1) false false 35,
  kr 2 [47, 114, 47, 100] (0) false false 33,
  kr 6 [47, 114] (0) false false 0,
  kr 6 [47, 114, 47, 122] (0) false false 31,
  kr 4 [47, 114, 47, 100] (1) false false 35,
  ⟨⟨7, [], none, 0, 0, 0, false, false, some ⟨b78, 0, none⟩, 1, 1⟩, ⟨7, [], [], 0, false, false⟩, [⟨7, [], none, 0, 0, 0, false, false, some ⟨b76, 0, none⟩, 1, 1⟩], [⟨7, [], [], 0, false, false⟩], 1⟩,
  ⟨⟨7, [], none, 0, 0, 0, false, false, some ⟨b81, 0, none⟩, 7, 7⟩, ⟨7, [], [], 0, false, false⟩, List.replicate 7 zR, List.replicate 7 zO, 1⟩,
  ⟨⟨7, [], none, 0, 0, 0, false, false, some ⟨b86, 0, none⟩, 1, 1⟩, ⟨7, [], [], 0, false, false⟩, [⟨3, [47, 114], some ⟨b84, 0, none⟩, 65, 65, 0, false, false, none, 0, 0⟩], [⟨3, [47, 114], List.replicate 65 0, 0, false, false⟩], 3⟩]
def KnRow.cells (x : KnRow) : List Value := [.int .u8 x.r.kind, .string (bs x.r.path), .slice x.r.da x.r.dn x.r.dc, .int .i64 x.r.ver, .bool x.r.seq, .bool x.r.eph, .slice x.r.pa x.r.pn x.r.pc, .int .i64 x.x]
def KnRow.v (x : KnRow) : OpV := ⟨x.o, x.ps⟩
def KnRow.ce (x : KnRow) : Int := ceOf x.r x.Q
theorem kn_len (b50 b53 b76 b78 b81 b84 b86 : Nat) : (knRows b50 b53 b76 b78 b81 b84 b86).length = 24 := rfl
theorem flatK_at : ∀ (L : List KnRow) (k : Nat) (r : KnRow), L[k]? = some r → ∀ j u, r.cells[j]? = some u → (L.flatMap KnRow.cells)[k * 8 + j]? = some u
  | [], k, r, h, j, u, hu => by simp at h
  | x :: L, 0, r, h, j, u, hu => by
    simp at h
    subst h
    rw [List.flatMap_cons, Nat.zero_mul, Nat.zero_add, List.getElem?_append_left (List.getElem?_eq_some_iff.1 hu).1]
    exact hu
  | x :: L, k + 1, r, h, j, u, hu => by
    have h' : L[k]? = some r := by simpa using h
    have hl : x.cells.length = 8 := rfl
    rw [List.flatMap_cons, List.getElem?_append_right (by rw [hl]; omega), hl, show (k + 1) * 8 + j - 8 = k * 8 + j by omega]
    exact flatK_at L k r h' j u hu
/-! ### the states -/
def kw : Sess := ⟨1, 2⟩
def kE : Opl := ⟨1, [47, 114, 47, 101], [], 0, false, true⟩
def kD : Opl := ⟨1, [47, 114, 47, 100], [], 0, false, false⟩
def kX : Opl := ⟨1, [47, 114, 47, 100, 47, 120], [], 0, false, false⟩
def kM0 : List (Bytes × Nd) := [(pR, zNd)]
def kM1 : List (Bytes × Nd) := opMC pR kM0 1 kw kE
def kM2 : List (Bytes × Nd) := opMC pR kM1 2 kw kD
def kM3 : List (Bytes × Nd) := opMC pR kM2 3 kw kX
def knM (k : Nat) : List (Bytes × Nd) := if k ≤ 11 then kM0 else if k ≤ 14 then kM1 else if k ≤ 15 then kM2 else kM3
def knA (k : Nat) : Int := if k ≤ 11 then 0 else if k ≤ 14 then 1 else if k ≤ 15 then 2 else 3
/-- What a row comes to. -/
def KnStep (M : List (Bytes × Nd)) (at_ : Int) (x : KnRow) (M' : List (Bytes × Nd)) (at' : Int) : Prop := doE pR M at_ kw x.ce x.v = x.x ∧ doM pR M at_ kw x.ce x.v = M' ∧ (if doX pR M at_ kw x.ce x.v = [] then at_ else at_ + 1) = at'
theorem kn_bad {M : List (Bytes × Nd)} {at_ : Int} {x : KnRow} (h : doE pR M at_ kw x.ce x.v = x.x) (hx : x.x ≠ 0) : KnStep M at_ x M at_ := by
  refine ⟨h, ?_, ?_⟩
  · unfold doM
    rw [if_pos (by rw [h]; exact hx)]
  · have hX : doX pR M at_ kw x.ce x.v = [] := by
      unfold doX
      rw [if_pos (by rw [h]; exact hx)]
    rw [hX, if_pos rfl]
theorem kn_ce {M : List (Bytes × Nd)} {at_ : Int} {x : KnRow} (h : x.ce = x.x) (hx : x.x ≠ 0) : KnStep M at_ x M at_ := kn_bad (by unfold doE; rw [if_pos (by rw [h]; exact hx), h]) hx
theorem kn_leaf {M : List (Bytes × Nd)} {at_ : Int} {x : KnRow} (hn : Nice M) (hc : x.ce = 0) (h7 : x.o.kind ≠ 7) (hE : opEC pR M kw x.o = x.x) (hx : x.x ≠ 0) : KnStep M at_ x M at_ := kn_bad (by
  rw [hc, (do_one (root := pR) (M := M) (at_ := at_) (who := kw) (o := x.v) h7).1]
  exact (opE_eq hn).trans hE) hx
theorem kn_write {M M' : List (Bytes × Nd)} {at_ : Int} {x : KnRow} (I : Inv pR M) (hn : Nice M) (hc : x.ce = 0) (hk : 1 ≤ x.o.kind ∧ x.o.kind ≤ 3) (hE : opEC pR M kw x.o = 0) (hx : x.x = 0) (hM : opMC pR M (at_ + 1) kw x.o = M') : KnStep M at_ x M' (at_ + 1) := by
  have h7 : x.v.leaf.kind ≠ 7 := show x.o.kind ≠ 7 by omega
  obtain ⟨g1, _, g3, g4⟩ := good_op (at_ := at_ + 1) hn hk hE hM rfl
  have hD : doE pR M at_ kw 0 x.v = 0 := by
    rw [(do_one (root := pR) (M := M) (at_ := at_) (who := kw) (o := x.v) h7).1]
    exact g1
  obtain ⟨_, _, e3, e4⟩ := leaf_all (at_ := at_) (who := kw) I h7 hD
  refine ⟨by rw [hc, hD, hx], by rw [hc, e3]; exact g3, ?_⟩
  rw [hc, e4]
  exact if_neg g4
theorem kn_read {M : List (Bytes × Nd)} {at_ : Int} {x : KnRow} (I : Inv pR M) (hn : Nice M) (hc : x.ce = 0) (hk : x.o.kind = 6) (hE : opEC pR M kw x.o = 0) (hx : x.x = 0) : KnStep M at_ x M at_ := by
  have h7 : x.v.leaf.kind ≠ 7 := show x.o.kind ≠ 7 by omega
  have hD : doE pR M at_ kw 0 x.v = 0 := by
    rw [(do_one (root := pR) (M := M) (at_ := at_) (who := kw) (o := x.v) h7).1, opE_eq hn]
    exact hE
  obtain ⟨_, _, e3, e4⟩ := leaf_all (at_ := at_) (who := kw) I h7 hD
  have hX : opXs pR M (at_ + 1) kw x.v.leaf = [] := by
    have hk : x.v.leaf.kind = 6 := hk
    unfold opXs opX
    split
    · rfl
    · rw [if_neg (by omega), if_neg (by omega), if_neg (by omega)]
  have hM : opM pR M (at_ + 1) kw x.v.leaf = M := by
    have hk : x.v.leaf.kind = 6 := hk
    unfold opM
    split
    · rfl
    · rw [if_neg (by omega), if_neg (by omega), if_neg (by omega)]
  refine ⟨by rw [hc, hD, hx], by rw [hc, e3]; exact hM, ?_⟩
  rw [hc, e4, hX, if_pos rfl]
set_option maxRecDepth 100000 in
theorem kn_steps (b50 b53 b76 b78 b81 b84 b86 : Nat) {x : KnRow} : ∀ (k : Nat), (knRows b50 b53 b76 b78 b81 b84 b86)[k]? = some x → Inv pR (knM k) → Nice (knM k) → KnStep (knM k) (knA k) x (knM (k + 1)) (knA (k + 1))
  | 0, h, I, N => by
    have h := Option.some.inj h
    have I : Inv pR kM0 := I
    have N : Nice kM0 := N
    subst h
    show KnStep kM0 0 _ kM0 0
    exact kn_leaf N rfl (by decide) (by decide +kernel) (by decide)
  | 1, h, I, N => by
    have h := Option.some.inj h
    have I : Inv pR kM0 := I
    have N : Nice kM0 := N
    subst h
    show KnStep kM0 0 _ kM0 0
    exact kn_leaf N rfl (by decide) (by decide +kernel) (by decide)
  | 2, h, I, N => by
    have h := Option.some.inj h
    have I : Inv pR kM0 := I
    have N : Nice kM0 := N
    subst h
    show KnStep kM0 0 _ kM0 0
    exact kn_leaf N rfl (by decide) (by decide +kernel) (by decide)
  | 3, h, I, N => by
    have h := Option.some.inj h
    have I : Inv pR kM0 := I
    have N : Nice kM0 := N
    subst h
    show KnStep kM0 0 _ kM0 0
    exact kn_leaf N rfl (by decide) (by decide +kernel) (by decide)
  | 4, h, I, N => by
    have h := Option.some.inj h
    have I : Inv pR kM0 := I
    have N : Nice kM0 := N
    subst h
    show KnStep kM0 0 _ kM0 0
    exact kn_leaf N rfl (by decide) (by decide +kernel) (by decide)
  | 5, h, I, N => by
    have h := Option.some.inj h
    have I : Inv pR kM0 := I
    have N : Nice kM0 := N
    subst h
    show KnStep kM0 0 _ kM0 0
    exact kn_leaf N rfl (by decide) (by decide +kernel) (by decide)
  | 6, h, I, N => by
    have h := Option.some.inj h
    have I : Inv pR kM0 := I
    have N : Nice kM0 := N
    subst h
    show KnStep kM0 0 _ kM0 0
    exact kn_ce rfl (show (1 : Int) ≠ 0 by decide)
  | 7, h, I, N => by
    have h := Option.some.inj h
    have I : Inv pR kM0 := I
    have N : Nice kM0 := N
    subst h
    show KnStep kM0 0 _ kM0 0
    exact kn_ce rfl (show (1 : Int) ≠ 0 by decide)
  | 8, h, I, N => by
    have h := Option.some.inj h
    have I : Inv pR kM0 := I
    have N : Nice kM0 := N
    subst h
    show KnStep kM0 0 _ kM0 0
    exact kn_ce rfl (show (1 : Int) ≠ 0 by decide)
  | 9, h, I, N => by
    have h := Option.some.inj h
    have I : Inv pR kM0 := I
    have N : Nice kM0 := N
    subst h
    show KnStep kM0 0 _ kM0 0
    exact kn_ce rfl (show (1 : Int) ≠ 0 by decide)
  | 10, h, I, N => by
    have h := Option.some.inj h
    have I : Inv pR kM0 := I
    have N : Nice kM0 := N
    subst h
    show KnStep kM0 0 _ kM0 0
    exact kn_ce rfl (show (3 : Int) ≠ 0 by decide)
  | 11, h, I, N => by
    have h := Option.some.inj h
    have I : Inv pR kM0 := I
    have N : Nice kM0 := N
    subst h
    show KnStep kM0 0 _ kM1 1
    exact kn_write I N rfl (by decide) (by decide +kernel) rfl rfl
  | 12, h, I, N => by
    have h := Option.some.inj h
    have I : Inv pR kM1 := I
    have N : Nice kM1 := N
    subst h
    show KnStep kM1 1 _ kM1 1
    exact kn_leaf N rfl (by decide) (by decide +kernel) (by decide)
  | 13, h, I, N => by
    have h := Option.some.inj h
    have I : Inv pR kM1 := I
    have N : Nice kM1 := N
    subst h
    show KnStep kM1 1 _ kM1 1
    exact kn_leaf N rfl (by decide) (by decide +kernel) (by decide)
  | 14, h, I, N => by
    have h := Option.some.inj h
    have I : Inv pR kM1 := I
    have N : Nice kM1 := N
    subst h
    show KnStep kM1 1 _ kM2 2
    exact kn_write I N rfl (by decide) (by decide +kernel) rfl rfl
  | 15, h, I, N => by
    have h := Option.some.inj h
    have I : Inv pR kM2 := I
    have N : Nice kM2 := N
    subst h
    show KnStep kM2 2 _ kM3 3
    exact kn_write I N rfl (by decide) (by decide +kernel) rfl rfl
  | 16, h, I, N => by
    have h := Option.some.inj h
    have I : Inv pR kM3 := I
    have N : Nice kM3 := N
    subst h
    show KnStep kM3 3 _ kM3 3
    exact kn_leaf N rfl (by decide) (by decide +kernel) (by decide)
  | 17, h, I, N => by
    have h := Option.some.inj h
    have I : Inv pR kM3 := I
    have N : Nice kM3 := N
    subst h
    show KnStep kM3 3 _ kM3 3
    exact kn_leaf N rfl (by decide) (by decide +kernel) (by decide)
  | 18, h, I, N => by
    have h := Option.some.inj h
    have I : Inv pR kM3 := I
    have N : Nice kM3 := N
    subst h
    show KnStep kM3 3 _ kM3 3
    exact kn_read I N rfl rfl (by decide +kernel) rfl
  | 19, h, I, N => by
    have h := Option.some.inj h
    have I : Inv pR kM3 := I
    have N : Nice kM3 := N
    subst h
    show KnStep kM3 3 _ kM3 3
    exact kn_leaf N rfl (by decide) (by decide +kernel) (by decide)
  | 20, h, I, N => by
    have h := Option.some.inj h
    have I : Inv pR kM3 := I
    have N : Nice kM3 := N
    subst h
    show KnStep kM3 3 _ kM3 3
    exact kn_leaf N rfl (by decide) (by decide +kernel) (by decide)
  | 21, h, I, N => by
    have h := Option.some.inj h
    have I : Inv pR kM3 := I
    have N : Nice kM3 := N
    subst h
    show KnStep kM3 3 _ kM3 3
    exact kn_ce rfl (show (1 : Int) ≠ 0 by decide)
  | 22, h, I, N => by
    have h := Option.some.inj h
    have I : Inv pR kM3 := I
    have N : Nice kM3 := N
    subst h
    show KnStep kM3 3 _ kM3 3
    exact kn_ce rfl (show (1 : Int) ≠ 0 by decide)
  | 23, h, I, N => by
    have h := Option.some.inj h
    have I : Inv pR kM3 := I
    have N : Nice kM3 := N
    subst h
    show KnStep kM3 3 _ kM3 3
    exact kn_ce rfl (show (3 : Int) ≠ 0 by decide)
  | n + 24, h, _, _ => by
    have h1 := (List.getElem?_eq_some_iff.1 h).1
    rw [kn_len] at h1
    omega
end Go.Proofs.YtnclkfhdpkkakaaGreatDoor

namespace Go.Proofs.YtnclkfhdpkkakaaGreatDoor
set_option linter.unusedVariables false
set_option linter.unusedSimpArgs false
open Go Go.RowKit Go.Shelf Go.MapKept Go.ChangeMaps Go.Maps Go.Sort
/-- The table, as it lies. -/
structure KnAt (w1 : World) (b50 b53 b76 b78 b81 b84 b86 b89 : Nat) (wc : World) : Prop where
  who : wc.heap[w1.heap.size]? = some (.cells #[.int .i64 1, .int .u32 2] 29 (0, 0))
  k50 : wc.heap[b50]? = some (.cells #[.int .u8 0, .string ⟨#[]⟩, .slice none 0 0, .int .i64 0, .bool false, .bool false, .slice none 0 0] 26 (0, 0))
  k53 : wc.heap[b53]? = some (.cells (List.replicate 65 (.int .u8 0)).toArray 5 (0, 0))
  k76 : wc.heap[b76]? = some (.cells #[.int .u8 0, .string ⟨#[]⟩, .slice none 0 0, .int .i64 0, .bool false, .bool false, .slice none 0 0] 26 (0, 0))
  k78 : wc.heap[b78]? = some (.cells #[.int .u8 7, .string ⟨#[]⟩, .slice none 0 0, .int .i64 0, .bool false, .bool false, .slice (some ⟨b76, 0, none⟩) 1 1] 26 (0, 0))
  k81 : wc.heap[b81]? = some (.cells ((List.replicate 7 zR).flatMap RawO.cells).toArray 26 (0, 0))
  k84 : wc.heap[b84]? = some (.cells (List.replicate 65 (.int .u8 0)).toArray 5 (0, 0))
  k86 : wc.heap[b86]? = some (.cells #[.int .u8 3, .string ⟨#[47, 114]⟩, .slice (some ⟨b84, 0, none⟩) 65 65, .int .i64 0, .bool false, .bool false, .slice none 0 0] 26 (0, 0))
  k89 : wc.heap[b89]? = some (.cells ((knRows b50 b53 b76 b78 b81 b84 b86).flatMap KnRow.cells).toArray 67 (0, 0))
theorem zeros_at {w : World} {b : Nat} {lo : Nat → Prop} (h : w.heap[b]? = some (.cells (List.replicate 65 (.int .u8 0)).toArray 5 (0, 0))) (hl : lo b) : ByteSl w lo w.heap.size (some ⟨b, 0, none⟩) (List.replicate 65 0) := fun j x hj => by
  rw [List.getElem?_replicate] at hj
  split at hj
  case isFalse => cases hj
  rename_i hj1
  cases hj
  refine ⟨b, 0, rfl, hl, lt_of_block h, ?_⟩
  rw [Nat.zero_add]
  rw [cell_of_row _ _ j _ 5 (0, 0) h, List.getElem?_toArray, List.getElem?_replicate, if_pos hj1]
  rfl
theorem zero_ok (w : World) : OpOk w zR zO := ⟨⟨rfl, rfl, rfl, rfl, rfl, rfl, bytes_none _ _ _ _, fun _ => ⟨rfl, rfl⟩⟩, ⟨show (0 : Int) ≤ 0 by decide, show (0 : Int) ≤ 255 by decide⟩, by unfold I64; exact ⟨show (-9223372036854775808 : Int) ≤ 0 by decide, show (0 : Int) < 9223372036854775808 by decide⟩, Nat.zero_le _, Nat.zero_le _, Nat.le_refl _, Nat.zero_le _⟩
theorem plain_in (w : World) (kind : Int) (path : Bytes) (ver : Int) (seq eph : Bool) (x : Int) (hk : 0 ≤ kind ∧ kind ≤ 255) (hv : I64 ver) (hp : path.length ≤ 900) : OpIn w (kr kind path ver seq eph x).r (kr kind path ver seq eph x).v (kr kind path ver seq eph x).ce :=
  opIn_of (n := 0) (r := (kr kind path ver seq eph x).r) (Q := []) (ps := []) ⟨⟨rfl, rfl, rfl, rfl, rfl, rfl, bytes_none _ _ _ _, fun _ => ⟨rfl, rfl⟩⟩, hk, hv, Nat.le_trans hp (by unfold maxLen; decide), Nat.zero_le _, Nat.le_refl _, Nat.zero_le _⟩ rfl rfl rfl (fun k q h => by simp at h) hp (fun p h => by simp at h)
theorem leafy_ok {w : World} {r : RawO} {o : Opl} (h : LeafO w (fun k => k < w.heap.size) r o) (hk : 0 ≤ r.kind ∧ r.kind ≤ 255) (hv : r.ver = 0) (hp : o.path.length ≤ 900) (hd : r.dn ≤ 65) (hc : r.dn ≤ r.dc) (hn : r.pn ≤ 7) : OpOk w r o :=
  ⟨h, hk, by rw [hv]; unfold I64; decide, Nat.le_trans hp (by unfold maxLen; decide), Nat.le_trans hd (by unfold maxLen; decide), hc, Nat.le_trans hn (by unfold maxLen; decide)⟩
section
variable {w1 wc : World} {b50 b53 b76 b78 b81 b84 b86 b89 : Nat}
theorem kn_k9 (K : KnAt w1 b50 b53 b76 b78 b81 b84 b86 b89 wc) : OpIn wc ⟨5, [47, 114], none, 0, 0, 0, false, false, some ⟨b50, 0, none⟩, 1, 1⟩ ⟨⟨5, [47, 114], [], 0, false, false⟩, [zO]⟩ (ceOf ⟨5, [47, 114], none, 0, 0, 0, false, false, some ⟨b50, 0, none⟩, 1, 1⟩ [zR]) := by
  have hat : OpsAt wc 1 (some ⟨b50, 0, none⟩) [zR] := fun k r hk => by
    have hk0 : k = 0 := by have := (List.getElem?_eq_some_iff.1 hk).1; simp at this; exact this
    subst hk0
    simp at hk
    subst hk
    exact ⟨b50, 0, zO, [], rfl, lt_of_block K.k50, range_blk K.k50, zero_ok wc, rfl, rfl⟩
  refine opIn_of (n := 1) (leafy_ok ⟨rfl, rfl, rfl, rfl, rfl, rfl, bytes_none _ _ _ _, fun _ => ⟨rfl, rfl⟩⟩ ⟨by show (0 : Int) ≤ 5; decide, by show (5 : Int) ≤ 255; decide⟩ rfl (by decide) (Nat.zero_le _) (Nat.zero_le _) (show 1 ≤ 7 by decide)) rfl hat rfl (fun k q hk => ?_) (by decide) (by decide)
  have hk0 : k = 0 := by have := (List.getElem?_eq_some_iff.1 hk).1; simp at this; exact this
  subst hk0
  simp at hk
  subst hk
  exact ⟨zO, rfl, zero_ok wc, b50, 0, rfl, lt_of_block K.k50, range_blk K.k50⟩
theorem kn_k10 (K : KnAt w1 b50 b53 b76 b78 b81 b84 b86 b89 wc) : OpIn wc ⟨3, [47, 114], some ⟨b53, 0, none⟩, 65, 65, 0, false, false, none, 0, 0⟩ ⟨⟨3, [47, 114], List.replicate 65 0, 0, false, false⟩, []⟩ (ceOf ⟨3, [47, 114], some ⟨b53, 0, none⟩, 65, 65, 0, false, false, none, 0, 0⟩ []) :=
  opIn_of (n := 0) (leafy_ok ⟨rfl, rfl, rfl, rfl, rfl, rfl, zeros_at K.k53 (lt_of_block K.k53), fun h => by cases h⟩ ⟨by show (0 : Int) ≤ 3; decide, by show (3 : Int) ≤ 255; decide⟩ rfl (by decide) (Nat.le_refl _) (Nat.le_refl _) (Nat.zero_le _)) rfl rfl rfl (fun k q hk => by simp at hk) (by decide) (fun p h => by simp at h)
theorem kn_k21 (K : KnAt w1 b50 b53 b76 b78 b81 b84 b86 b89 wc) : OpIn wc ⟨7, [], none, 0, 0, 0, false, false, some ⟨b78, 0, none⟩, 1, 1⟩ ⟨⟨7, [], [], 0, false, false⟩, [⟨7, [], [], 0, false, false⟩]⟩ (ceOf ⟨7, [], none, 0, 0, 0, false, false, some ⟨b78, 0, none⟩, 1, 1⟩ [⟨7, [], none, 0, 0, 0, false, false, some ⟨b76, 0, none⟩, 1, 1⟩]) := by
  have h76 : OpsAt wc 1 (some ⟨b76, 0, none⟩) [zR] := fun k r hk => by
    have hk0 : k = 0 := by have := (List.getElem?_eq_some_iff.1 hk).1; simp at this; exact this
    subst hk0
    simp at hk
    subst hk
    exact ⟨b76, 0, zO, [], rfl, lt_of_block K.k76, range_blk K.k76, zero_ok wc, rfl, rfl⟩
  have ok7 : OpOk wc ⟨7, [], none, 0, 0, 0, false, false, some ⟨b76, 0, none⟩, 1, 1⟩ ⟨7, [], [], 0, false, false⟩ := leafy_ok ⟨rfl, rfl, rfl, rfl, rfl, rfl, bytes_none _ _ _ _, fun _ => ⟨rfl, rfl⟩⟩ ⟨by show (0 : Int) ≤ 7; decide, by show (7 : Int) ≤ 255; decide⟩ rfl (by decide) (Nat.zero_le _) (Nat.le_refl _) (show 1 ≤ 7 by decide)
  have hat : OpsAt wc 2 (some ⟨b78, 0, none⟩) [⟨7, [], none, 0, 0, 0, false, false, some ⟨b76, 0, none⟩, 1, 1⟩] := fun k r hk => by
    have hk0 : k = 0 := by have := (List.getElem?_eq_some_iff.1 hk).1; simp at this; exact this
    subst hk0
    simp at hk
    subst hk
    exact ⟨b78, 0, _, [zR], rfl, lt_of_block K.k78, range_blk K.k78, ok7, rfl, h76⟩
  refine opIn_of (n := 2) (leafy_ok ⟨rfl, rfl, rfl, rfl, rfl, rfl, bytes_none _ _ _ _, fun _ => ⟨rfl, rfl⟩⟩ ⟨by show (0 : Int) ≤ 7; decide, by show (7 : Int) ≤ 255; decide⟩ rfl (by decide) (Nat.zero_le _) (Nat.le_refl _) (show 1 ≤ 7 by decide)) rfl hat rfl (fun k q hk => ?_) (by decide) (by decide)
  have hk0 : k = 0 := by have := (List.getElem?_eq_some_iff.1 hk).1; simp at this; exact this
  subst hk0
  simp at hk
  subst hk
  exact ⟨_, rfl, ok7, b78, 0, rfl, lt_of_block K.k78, range_blk K.k78⟩
theorem kn_k22 (K : KnAt w1 b50 b53 b76 b78 b81 b84 b86 b89 wc) : OpIn wc ⟨7, [], none, 0, 0, 0, false, false, some ⟨b81, 0, none⟩, 7, 7⟩ ⟨⟨7, [], [], 0, false, false⟩, List.replicate 7 zO⟩ (ceOf ⟨7, [], none, 0, 0, 0, false, false, some ⟨b81, 0, none⟩, 7, 7⟩ (List.replicate 7 zR)) := by
  have hrow : ∀ (k : Nat) r, (List.replicate 7 zR)[k]? = some r → r = zR ∧ k < 7 ∧ wc.rangeAt b81 (0 + k * 7) zR.cells := fun k r hk => by
    rw [List.getElem?_replicate] at hk
    split at hk
    case isFalse => cases hk
    rename_i hk7
    cases hk
    refine ⟨rfl, hk7, mid_range (k * 7) (o := 0) (range_blk K.k81) (fun j v hv => ?_)⟩
    exact flatO_at (List.replicate 7 zR) k zR (by rw [List.getElem?_replicate, if_pos hk7]) j v hv
  have hat : OpsAt wc 1 (some ⟨b81, 0, none⟩) (List.replicate 7 zR) := fun k r hk => by
    obtain ⟨rfl, _, h⟩ := hrow k r hk
    exact ⟨b81, 0, zO, [], rfl, lt_of_block K.k81, h, zero_ok wc, rfl, rfl⟩
  refine opIn_of (n := 1) (leafy_ok ⟨rfl, rfl, rfl, rfl, rfl, rfl, bytes_none _ _ _ _, fun _ => ⟨rfl, rfl⟩⟩ ⟨by show (0 : Int) ≤ 7; decide, by show (7 : Int) ≤ 255; decide⟩ rfl (by decide) (Nat.zero_le _) (Nat.le_refl _) (Nat.le_refl _)) rfl hat rfl (fun k q hk => ?_) (by decide) (by decide)
  obtain ⟨rfl, h7, h⟩ := hrow k q hk
  exact ⟨zO, by rw [List.getElem?_replicate, if_pos h7], zero_ok wc, b81, 0, rfl, lt_of_block K.k81, h⟩
theorem kn_k23 (K : KnAt w1 b50 b53 b76 b78 b81 b84 b86 b89 wc) : OpIn wc ⟨7, [], none, 0, 0, 0, false, false, some ⟨b86, 0, none⟩, 1, 1⟩ ⟨⟨7, [], [], 0, false, false⟩, [⟨3, [47, 114], List.replicate 65 0, 0, false, false⟩]⟩ (ceOf ⟨7, [], none, 0, 0, 0, false, false, some ⟨b86, 0, none⟩, 1, 1⟩ [⟨3, [47, 114], some ⟨b84, 0, none⟩, 65, 65, 0, false, false, none, 0, 0⟩]) := by
  have ok3 : OpOk wc ⟨3, [47, 114], some ⟨b84, 0, none⟩, 65, 65, 0, false, false, none, 0, 0⟩ ⟨3, [47, 114], List.replicate 65 0, 0, false, false⟩ := leafy_ok ⟨rfl, rfl, rfl, rfl, rfl, rfl, zeros_at K.k84 (lt_of_block K.k84), fun h => by cases h⟩ ⟨by show (0 : Int) ≤ 3; decide, by show (3 : Int) ≤ 255; decide⟩ rfl (by decide) (Nat.le_refl _) (Nat.le_refl _) (Nat.zero_le _)
  have hat : OpsAt wc 1 (some ⟨b86, 0, none⟩) [⟨3, [47, 114], some ⟨b84, 0, none⟩, 65, 65, 0, false, false, none, 0, 0⟩] := fun k r hk => by
    have hk0 : k = 0 := by have := (List.getElem?_eq_some_iff.1 hk).1; simp at this; exact this
    subst hk0
    simp at hk
    subst hk
    exact ⟨b86, 0, _, [], rfl, lt_of_block K.k86, range_blk K.k86, ok3, rfl, rfl⟩
  refine opIn_of (n := 1) (leafy_ok ⟨rfl, rfl, rfl, rfl, rfl, rfl, bytes_none _ _ _ _, fun _ => ⟨rfl, rfl⟩⟩ ⟨by show (0 : Int) ≤ 7; decide, by show (7 : Int) ≤ 255; decide⟩ rfl (by decide) (Nat.zero_le _) (Nat.le_refl _) (show 1 ≤ 7 by decide)) rfl hat rfl (fun k q hk => ?_) (by decide) (by decide)
  have hk0 : k = 0 := by have := (List.getElem?_eq_some_iff.1 hk).1; simp at this; exact this
  subst hk0
  simp at hk
  subst hk
  exact ⟨_, rfl, ok3, b86, 0, rfl, lt_of_block K.k86, range_blk K.k86⟩
set_option maxRecDepth 100000 in
theorem kn_in (K : KnAt w1 b50 b53 b76 b78 b81 b84 b86 b89 wc) {x : KnRow} : ∀ (k : Nat), (knRows b50 b53 b76 b78 b81 b84 b86)[k]? = some x → OpIn wc x.r x.v x.ce
  | 0, h => by
    have h := Option.some.inj h
    subst h
    exact plain_in _ _ _ _ _ _ _ (by decide) (by unfold I64; decide) (by decide)
  | 1, h => by
    have h := Option.some.inj h
    subst h
    exact plain_in _ _ _ _ _ _ _ (by decide) (by unfold I64; decide) (by decide)
  | 2, h => by
    have h := Option.some.inj h
    subst h
    exact plain_in _ _ _ _ _ _ _ (by decide) (by unfold I64; decide) (by decide)
  | 3, h => by
    have h := Option.some.inj h
    subst h
    exact plain_in _ _ _ _ _ _ _ (by decide) (by unfold I64; decide) (by decide)
  | 4, h => by
    have h := Option.some.inj h
    subst h
    exact plain_in _ _ _ _ _ _ _ (by decide) (by unfold I64; decide) (by decide)
  | 5, h => by
    have h := Option.some.inj h
    subst h
    exact plain_in _ _ _ _ _ _ _ (by decide) (by unfold I64; decide) (by decide)
  | 6, h => by
    have h := Option.some.inj h
    subst h
    exact plain_in _ _ _ _ _ _ _ (by decide) (by unfold I64; decide) (by decide)
  | 7, h => by
    have h := Option.some.inj h
    subst h
    exact plain_in _ _ _ _ _ _ _ (by decide) (by unfold I64; decide) (by decide)
  | 8, h => by
    have h := Option.some.inj h
    subst h
    exact plain_in _ _ _ _ _ _ _ (by decide) (by unfold I64; decide) (by decide)
  | 9, h => by
    have h := Option.some.inj h
    subst h
    exact kn_k9 K
  | 10, h => by
    have h := Option.some.inj h
    subst h
    exact kn_k10 K
  | 11, h => by
    have h := Option.some.inj h
    subst h
    exact plain_in _ _ _ _ _ _ _ (by decide) (by unfold I64; decide) (by decide)
  | 12, h => by
    have h := Option.some.inj h
    subst h
    exact plain_in _ _ _ _ _ _ _ (by decide) (by unfold I64; decide) (by decide)
  | 13, h => by
    have h := Option.some.inj h
    subst h
    exact plain_in _ _ _ _ _ _ _ (by decide) (by unfold I64; decide) (by decide)
  | 14, h => by
    have h := Option.some.inj h
    subst h
    exact plain_in _ _ _ _ _ _ _ (by decide) (by unfold I64; decide) (by decide)
  | 15, h => by
    have h := Option.some.inj h
    subst h
    exact plain_in _ _ _ _ _ _ _ (by decide) (by unfold I64; decide) (by decide)
  | 16, h => by
    have h := Option.some.inj h
    subst h
    exact plain_in _ _ _ _ _ _ _ (by decide) (by unfold I64; decide) (by decide)
  | 17, h => by
    have h := Option.some.inj h
    subst h
    exact plain_in _ _ _ _ _ _ _ (by decide) (by unfold I64; decide) (by decide)
  | 18, h => by
    have h := Option.some.inj h
    subst h
    exact plain_in _ _ _ _ _ _ _ (by decide) (by unfold I64; decide) (by decide)
  | 19, h => by
    have h := Option.some.inj h
    subst h
    exact plain_in _ _ _ _ _ _ _ (by decide) (by unfold I64; decide) (by decide)
  | 20, h => by
    have h := Option.some.inj h
    subst h
    exact plain_in _ _ _ _ _ _ _ (by decide) (by unfold I64; decide) (by decide)
  | 21, h => by
    have h := Option.some.inj h
    subst h
    exact kn_k21 K
  | 22, h => by
    have h := Option.some.inj h
    subst h
    exact kn_k22 K
  | 23, h => by
    have h := Option.some.inj h
    subst h
    exact kn_k23 K
  | n + 24, h => by
    have h1 := (List.getElem?_eq_some_iff.1 h).1
    rw [kn_len] at h1
    omega
end
theorem TR.blk {w0 w : World} {b : Nat} {root : Bytes} {at_ : Int} {M : List (Bytes × Nd)} (R : TR w0 w b root at_ M) : ∃ cs, w.heap[b]? = some (.cells cs 86 (0, 0)) := by
  obtain ⟨lo, mb, T⟩ := R.tree
  exact ⟨_, T.blk⟩
theorem keep_row {w w' : World} {b B : Nat} {cs ds : Array Value} {t : TypeId} {fr : Nat × Nat} (hT : w.heap[b]? = some (.cells cs 86 (0, 0))) (h : w.heap[B]? = some (.cells ds t fr)) (ht : t ≠ 86) (hk : Kept (· = b) w w') : w'.heap[B]? = some (.cells ds t fr) :=
  (hk.block B (lt_of_block h) (fun e => by
    have e : B = b := e
    subst e
    rw [h] at hT
    injection hT with hT
    injection hT with _ h2
    exact ht h2)).trans h
theorem KnAt.kept {w1 wc wr : World} {b50 b53 b76 b78 b81 b84 b86 b89 b : Nat} (K : KnAt w1 b50 b53 b76 b78 b81 b84 b86 b89 wc) (hT : ∃ cs, wc.heap[b]? = some (.cells cs 86 (0, 0))) (hk : Kept (· = b) wc wr) : KnAt w1 b50 b53 b76 b78 b81 b84 b86 b89 wr := by
  obtain ⟨cs, hT⟩ := hT
  exact ⟨keep_row hT K.who (by decide) hk, keep_row hT K.k50 (by decide) hk, keep_row hT K.k53 (by decide) hk, keep_row hT K.k76 (by decide) hk, keep_row hT K.k78 (by decide) hk, keep_row hT K.k81 (by decide) hk, keep_row hT K.k84 (by decide) hk, keep_row hT K.k86 (by decide) hk, keep_row hT K.k89 (by decide) hk⟩
end Go.Proofs.YtnclkfhdpkkakaaGreatDoor

namespace Go.Proofs.YtnclkfhdpkkakaaGreatDoor
set_option linter.unusedVariables false
set_option linter.unusedSimpArgs false
open Go Go.RowKit Go.Shelf Go.MapKept Go.ChangeMaps Go.Maps Go.Sort
def k0 : Sess := ⟨0, 0⟩
def kF : Opl := ⟨1, [47, 114, 47, 102], [], 0, false, true⟩
def kA : Opl := ⟨1, [47, 114, 47, 97], [], 0, false, false⟩
def kS : Opl := ⟨3, [47, 114, 47, 97], [], 1, false, false⟩
def kG : Opl := ⟨5, [47, 114, 47, 97], [], 0, false, false⟩
def kK : Opl := ⟨6, [47, 114], [], 0, false, false⟩
def longK (n : Nat) : Bytes := [47, 114, 47] ++ List.replicate n 120
def kL : Opl := ⟨1, longK 52, [], 0, true, false⟩
def kMul (ps : List Opl) : OpV := ⟨⟨7, [], [], 0, false, false⟩, ps⟩
theorem longK_len (n : Nat) : (longK n).length = 3 + n := by unfold longK; simp; omega
theorem longK_succ (n : Nat) : longK (n + 1) = longK n ++ [120] := by unfold longK; rw [List.replicate_succ']; rfl
theorem kn_f (N : Nice kM3) : doE pR kM3 3 k0 0 ⟨kF, []⟩ = 63 := by
  rw [(do_one (root := pR) (M := kM3) (at_ := 3) (who := k0) (o := ⟨kF, []⟩) (by decide)).1, opE_eq N]
  decide +kernel
theorem kn_l (N : Nice kM3) : doE pR kM3 3 kw 0 ⟨kL, []⟩ = 30 := by
  rw [(do_one (root := pR) (M := kM3) (at_ := 3) (who := kw) (o := ⟨kL, []⟩) (by decide)).1, opE_eq N]
  decide +kernel
theorem kn_k (N : Nice kM3) : doE pR kM3 3 kw 0 ⟨kK, []⟩ = 0 := by
  rw [(do_one (root := pR) (M := kM3) (at_ := 3) (who := kw) (o := ⟨kK, []⟩) (by decide)).1, opE_eq N]
  decide +kernel
theorem kn_kids : kidsS pR kM3 pR = [[100], [101]] := by
  unfold kidsS
  refine sortS_is (by decide) ?_
  have h1 : ((keysS kM3).filter (kidB pR pR)).Perm ((kM3.map (·.1)).filter (kidB pR pR)) := (sortS_perm _).filter _
  have h2 := h1.map baseL
  have h3 : (((kM3.map (·.1)).filter (kidB pR pR)).map baseL) = [[101], [100]] := by
    have e1 : kidB pR pR = kidC pR pR := by funext q; exact kidB_eq _ _ _
    have e2 : baseL = baseC := by funext q; exact baseL_eq _
    rw [e1, e2]
    decide +kernel
  rw [h3] at h2
  exact (h2.trans (List.Perm.swap _ _ _)).symm
theorem kn_ka (N : Nice kM3) : (doA pR kM3 3 kw 0 ⟨kK, []⟩).kids = [[100], [101]] ∧ (doA pR kM3 3 kw 0 ⟨kK, []⟩).node.num.kin = 2 := by
  have hE := kn_k N
  have h := do_one (root := pR) (M := kM3) (at_ := 3) (who := kw) (o := ⟨kK, []⟩) (by decide)
  rw [h.2.2.1]
  rw [h.1] at hE
  unfold opR
  rw [if_neg (by rw [hE]; simp)]
  exact ⟨kn_kids, by show (nodeAt kM3 pR).num.kin = 2; decide +kernel⟩
theorem kn_e : ((getA [47, 114, 47, 101] kM3).getD zNd).num.os = 1 ∧ ((getA [47, 114, 47, 101] kM3).getD zNd).num.on = 2 := by decide +kernel
theorem kn_x (N : Nice kM3) : doE pR kM3 3 kw 0 (kMul [kA, kS]) = 35 ∧ doX pR kM3 3 kw 0 (kMul [kA, kS]) = [] ∧ ∃ a r, doR pR kM3 3 kw 0 (kMul [kA, kS]) = [⟨0, a⟩, r] := by
  have h1 : opE pR kM3 kw kA = 0 := by rw [opE_eq N]; decide +kernel
  have N2 : Nice (opM pR kM3 (3 + 1) kw kA) := N.op kA
  have h2 : opE pR (opM pR kM3 (3 + 1) kw kA) kw kS = 35 := by rw [opE_eq N2, opM_eq N]; decide +kernel
  have hE : doE pR kM3 3 kw 0 (kMul [kA, kS]) = 35 := by
    unfold doE
    rw [if_neg (by decide)]
    show runE pR (3 + 1) kw kM3 [kA, kS] = 35
    unfold runE
    rw [if_pos h1]
    unfold runE
    rw [if_neg (by rw [h2]; decide)]
    exact h2
  refine ⟨hE, doX_none (by rw [hE]; decide), ?_⟩
  have hR : doR pR kM3 3 kw 0 (kMul [kA, kS]) = runR pR (3 + 1) kw kM3 [kA, kS] := by
    unfold doR
    exact if_pos ⟨rfl, rfl⟩
  rw [hR]
  unfold runR
  rw [if_pos h1]
  unfold runR
  rw [if_neg (by rw [h2]; decide)]
  have hr1 : opR pR kM3 (3 + 1) kw kA = ⟨0, opA pR kM3 (3 + 1) kw kA⟩ := by
    unfold opR
    rw [if_neg (by rw [h1]; decide)]
  rw [hr1]
  exact ⟨_, _, rfl⟩
theorem kn_y (N : Nice kM3) : doE pR kM3 3 kw 0 (kMul [kA, kG]) = 0 ∧ (doX pR kM3 3 kw 0 (kMul [kA, kG])).length = 2 ∧ ∃ r s, doR pR kM3 3 kw 0 (kMul [kA, kG]) = [r, s] ∧ s.a.node.num.made = 4 := by
  have h1 : opE pR kM3 kw kA = 0 := by rw [opE_eq N]; decide +kernel
  have N2 : Nice (opM pR kM3 (3 + 1) kw kA) := N.op kA
  have h2 : opE pR (opM pR kM3 (3 + 1) kw kA) kw kG = 0 := by rw [opE_eq N2, opM_eq N]; decide +kernel
  have hE : doE pR kM3 3 kw 0 (kMul [kA, kG]) = 0 := by
    unfold doE
    rw [if_neg (by decide)]
    show runE pR (3 + 1) kw kM3 [kA, kG] = 0
    unfold runE
    rw [if_pos h1]
    unfold runE
    rw [if_pos h2]
    rfl
  refine ⟨hE, ?_, ?_⟩
  · unfold doX
    rw [if_neg (by rw [hE]; decide)]
    show (runX pR (3 + 1) kw kM3 [kA, kG]).length = 2
    unfold runX
    rw [if_pos h1]
    unfold runX
    rw [if_pos h2]
    unfold opXs
    rw [if_neg (by rw [h1]; decide), if_neg (by rw [h2]; decide)]
    rfl
  · have hR : doR pR kM3 3 kw 0 (kMul [kA, kG]) = runR pR (3 + 1) kw kM3 [kA, kG] := by
      unfold doR
      exact if_pos ⟨rfl, rfl⟩
    rw [hR]
    unfold runR
    rw [if_pos h1]
    unfold runR
    rw [if_pos h2]
    refine ⟨_, _, rfl, ?_⟩
    unfold opR
    rw [if_neg (by rw [h2]; decide), opA_eq N2 (by decide), opM_eq N]
    decide +kernel
end Go.Proofs.YtnclkfhdpkkakaaGreatDoor

namespace Go.Proofs.YtnclkfhdpkkakaaGreatDoor
set_option linter.unusedVariables false
set_option linter.unusedSimpArgs false
open Go Go.RowKit Go.Shelf Go.MapKept Go.ChangeMaps Go.Maps Go.Sort
theorem mul_in {w : World} {g : Nat} {q1 q2 : RawO} {p1 p2 : Opl} (hg : w.heap[g]? = some (.cells (q1.cells ++ q2.cells).toArray 26 (0, 0))) (h1 : OpOk w q1 p1) (h2 : OpOk w q2 p2) (n1 : q1.pn = 0) (n2 : q2.pn = 0) (l1 : p1.path.length ≤ 900) (l2 : p2.path.length ≤ 900) :
    OpIn w ⟨7, [], none, 0, 0, 0, false, false, some ⟨g, 0, none⟩, 2, 2⟩ (kMul [p1, p2]) (ceOf ⟨7, [], none, 0, 0, 0, false, false, some ⟨g, 0, none⟩, 2, 2⟩ [q1, q2]) := by
  have e : q1.cells ++ q2.cells = [q1, q2].flatMap RawO.cells := by simp [List.flatMap_cons]
  rw [e] at hg
  have hrow : ∀ (k : Nat) r, [q1, q2][k]? = some r → w.rangeAt g (0 + k * 7) r.cells := fun k r hk => mid_range (k * 7) (o := 0) (range_blk hg) (fun j v hv => flatO_at [q1, q2] k r hk j v hv)
  have hat : OpsAt w 1 (some ⟨g, 0, none⟩) [q1, q2] := fun k r hk => by
    match k, hk with
    | 0, hk => cases hk; exact ⟨g, 0, p1, [], rfl, lt_of_block hg, hrow 0 _ rfl, h1, n1, rfl⟩
    | 1, hk => cases hk; exact ⟨g, 0, p2, [], rfl, lt_of_block hg, hrow 1 _ rfl, h2, n2, rfl⟩
    | k + 2, hk => simp at hk
  refine opIn_of (n := 1) (leafy_ok ⟨rfl, rfl, rfl, rfl, rfl, rfl, bytes_none _ _ _ _, fun _ => ⟨rfl, rfl⟩⟩ ⟨by show (0 : Int) ≤ 7; decide, by show (7 : Int) ≤ 255; decide⟩ rfl (Nat.zero_le _) (Nat.zero_le _) (Nat.le_refl _) (show 2 ≤ 7 by decide)) rfl hat rfl (fun k q hk => ?_) (Nat.zero_le _) (fun p hp => ?_)
  · match k, hk with
    | 0, hk => cases hk; exact ⟨p1, rfl, h1, g, 0, rfl, lt_of_block hg, hrow 0 _ rfl⟩
    | 1, hk => cases hk; exact ⟨p2, rfl, h2, g, 0, rfl, lt_of_block hg, hrow 1 _ rfl⟩
    | k + 2, hk => simp at hk
  · simp only [List.mem_cons, List.not_mem_nil, or_false] at hp
    rcases hp with rfl | rfl
    · exact l1
    · exact l2
theorem plain_ok (w : World) (kind : Int) (path : Bytes) (ver : Int) (seq eph : Bool) (hk : 0 ≤ kind ∧ kind ≤ 255) (hv : I64 ver) (hp : path.length ≤ 900) : OpOk w (kr kind path ver seq eph 0).r (kr kind path ver seq eph 0).o :=
  ⟨⟨rfl, rfl, rfl, rfl, rfl, rfl, bytes_none _ _ _ _, fun _ => ⟨rfl, rfl⟩⟩, hk, hv, Nat.le_trans hp (by unfold maxLen; decide), Nat.zero_le _, Nat.le_refl _, Nat.zero_le _⟩
set_option maxRecDepth 100000 in
set_option maxHeartbeats 8000000 in
theorem do_nil (w : World) (ok : Int) (op : Bytes) (oa : Option Addr) (on oc : Nat) (ov : Int) (os oe : Bool) (qa : Option Addr) (qn qc : Nat) (s n : Int) :
    Calls Tryz.prog 14 #[.pointer none, .agg #[.int .u8 ok, .string (bs op), .slice oa on oc, .int .i64 ov, .bool os, .bool oe, .slice qa qn qc], .agg #[.int .i64 s, .int .u32 n]] w fun e w' => e = .returned (.tuple #[.slice none 0 0, .agg #[.int .i64 8, .string ⟨#[]⟩, .slice none 0 0, .int .u32 0, .int .u32 0, .int .u32 0, .int .i64 0, .int .u32 0, .int .u64 0, .int .u64 0, .int .u64 0, .slice none 0 0, .slice none 0 0]]) ∧ Below w.heap.size w w' := by
  obtain ⟨w1, hw1, hb1, hs1, k0, k1, k2⟩ := do_boxes w ok op oa on oc ov os oe qa qn qc s n
  have HSR : Hid ((Tryz.prog.info? 43).map (·.size) = some 13) := Lib.hid infoReply13
  have ht2 : w1.there (w.heap.size + 2) 0 13 := there_of k2 (by simp)
  have H1 := Lib.hid (And.intro hb1 (And.intro ht2 hw1))
  clear hb1 hs1 k0 k1 k2 ht2 hw1
  have HON : Hid ((#[.int .i64 8, .string ⟨#[]⟩, .slice none 0 0, .int .u32 0, .int .u32 0, .int .u32 0, .int .i64 0, .int .u32 0, .int .u64 0, .int .u64 0, .int .u64 0, .slice none 0 0, .slice none 0 0] : Array Value).all (·.oneCell') = true) := Lib.hid (by simp [Value.oneCell'])
  go_enter Tryz.func14, Tryz.ntmps14
  go_upto_region 2 with fail
  rw [← H1.out.2.2]
  go_wp2_with (refine wpList_store_mid rfl 43 (.tmp 7) (.tmp 16) rfl (w.heap.size + 2) 0 #[.int .i64 8, .string ⟨#[]⟩, .slice none 0 0, .int .u32 0, .int .u32 0, .int .u32 0, .int .i64 0, .int .u32 0, .int .u64 0, .int .u64 0, .int .u64 0, .slice none 0 0, .slice none 0 0] rfl rfl H1.out.2.1 HSR.out HON.out ?_)
  refine bodyPost_ret (results_tmp_cell_mid rfl _ _ (w.heap.size + 2) 0 [.int .i64 8, .string ⟨#[]⟩, .slice none 0 0, .int .u32 0, .int .u32 0, .int .u32 0, .int .i64 0, .int .u32 0, .int .u64 0, .int .u64 0, .int .u64 0, .slice none 0 0, .slice none 0 0] _ rfl (World.rangeAt_setCells_same _ _ _ _ H1.out.2.1) Tryz.underlying43 rfl HSR.out) rfl ?_
  exact ⟨rfl, H1.out.1.trans ((Kept.setCells (S := (· = w.heap.size + 2)) (p := w.heap.size + 2) rfl _ 0 (Kept.refl _ _)).below H1.out.1.size (fun k e => by have e : k = w.heap.size + 2 := e; omega))⟩
section
variable {w0 w : World} {b : Nat}
theorem St.knDo_f (S : St w0 w b pR 3 kM3) : Calls Tryz.prog 14 #[.pointer (some ⟨b, 0, none⟩), .agg #[.int .u8 1, .string ⟨#[47, 114, 47, 102]⟩, .slice none 0 0, .int .i64 0, .bool false, .bool true, .slice none 0 0], .agg #[.int .i64 0, .int .u32 0]] w fun e w' => ∃ xa xn xc px ra ka kn kc pa pn pc, e = .returned (.tuple #[.slice xa xn xc, .agg (repCells 63 px ra ka kn kc pa pn pc).toArray]) ∧ Below w.heap.size w w' := by
  have h : Calls Tryz.prog 14 #[.pointer (some ⟨b, 0, none⟩), .agg #[.int .u8 1, .string ⟨#[47, 114, 47, 102]⟩, .slice none 0 0, .int .i64 0, .bool false, .bool true, .slice none 0 0], .agg #[.int .i64 0, .int .u32 0]] w (DoEnd w pR kM3 3 k0 0 ⟨kF, []⟩) := S.do_op (by decide) (plain_in w 1 [47, 114, 47, 102] 0 false true 0 (by decide) (by unfold I64; decide) (by decide)) k0
  refine h.mono ?_
  rintro e w' ⟨u1, u2, rfl, ⟨xa, xc, XL, rfl, _, _⟩, ⟨ra, ka, kc, pa, pc, rfl, h5, h6, _⟩, h4⟩
  have hE := kn_f S.nice
  rw [hE]
  exact ⟨_, _, _, _, _, _, _, _, _, _, _, rfl, h4⟩
theorem St.knDo_l (S : St w0 w b pR 3 kM3) : Calls Tryz.prog 14 #[.pointer (some ⟨b, 0, none⟩), .agg #[.int .u8 1, .string (bs (longK 52)), .slice none 0 0, .int .i64 0, .bool true, .bool false, .slice none 0 0], .agg #[.int .i64 1, .int .u32 2]] w fun e w' => ∃ xa xn xc px ra ka kn kc pa pn pc, e = .returned (.tuple #[.slice xa xn xc, .agg (repCells 30 px ra ka kn kc pa pn pc).toArray]) ∧ Below w.heap.size w w' := by
  have h : Calls Tryz.prog 14 #[.pointer (some ⟨b, 0, none⟩), .agg #[.int .u8 1, .string (bs (longK 52)), .slice none 0 0, .int .i64 0, .bool true, .bool false, .slice none 0 0], .agg #[.int .i64 1, .int .u32 2]] w (DoEnd w pR kM3 3 kw 0 ⟨kL, []⟩) := S.do_op (by decide) (plain_in w 1 (longK 52) 0 true false 0 (by decide) (by unfold I64; decide) (by decide)) kw
  refine h.mono ?_
  rintro e w' ⟨u1, u2, rfl, ⟨xa, xc, XL, rfl, _, _⟩, ⟨ra, ka, kc, pa, pc, rfl, h5, h6, _⟩, h4⟩
  have hE := kn_l S.nice
  rw [hE]
  exact ⟨_, _, _, _, _, _, _, _, _, _, _, rfl, h4⟩
theorem St.knDo_k (S : St w0 w b pR 3 kM3) : Calls Tryz.prog 14 #[.pointer (some ⟨b, 0, none⟩), .agg #[.int .u8 6, .string ⟨#[47, 114]⟩, .slice none 0 0, .int .i64 0, .bool false, .bool false, .slice none 0 0], .agg #[.int .i64 1, .int .u32 2]] w fun e w' => ∃ xa xn xc px ra ka kc pa pn pc, e = .returned (.tuple #[.slice xa xn xc, .agg (repCells 0 px ra ka 2 kc pa pn pc).toArray]) ∧ ra.num.kin = 2 ∧ StrSl w' w'.heap.size ka [[100], [101]] ∧ Below w.heap.size w w' := by
  have h : Calls Tryz.prog 14 #[.pointer (some ⟨b, 0, none⟩), .agg #[.int .u8 6, .string ⟨#[47, 114]⟩, .slice none 0 0, .int .i64 0, .bool false, .bool false, .slice none 0 0], .agg #[.int .i64 1, .int .u32 2]] w (DoEnd w pR kM3 3 kw 0 ⟨kK, []⟩) := S.do_op (by decide) (plain_in w 6 [47, 114] 0 false false 0 (by decide) (by unfold I64; decide) (by decide)) kw
  refine h.mono ?_
  rintro e w' ⟨u1, u2, rfl, ⟨xa, xc, XL, rfl, _, _⟩, ⟨ra, ka, kc, pa, pc, rfl, h5, h6, _⟩, h4⟩
  have hE := kn_k S.nice
  rw [hE]
  obtain ⟨g1, g2⟩ := kn_ka S.nice
  rw [g1] at h6
  rw [g1]
  exact ⟨_, _, _, _, _, _, _, _, _, _, rfl, by rw [h5.num]; exact g2, h6.sl, h4⟩
theorem St.knDo_x {g0 : Nat} (S : St w0 w b pR 3 kM3) (hg : w.heap[g0]? = some (.cells #[.int .u8 1, .string ⟨#[47, 114, 47, 97]⟩, .slice none 0 0, .int .i64 0, .bool false, .bool false, .slice none 0 0, .int .u8 3, .string ⟨#[47, 114, 47, 97]⟩, .slice none 0 0, .int .i64 1, .bool false, .bool false, .slice none 0 0] 26 (0, 0))) :
    Calls Tryz.prog 14 #[.pointer (some ⟨b, 0, none⟩), .agg #[.int .u8 7, .string ⟨#[]⟩, .slice none 0 0, .int .i64 0, .bool false, .bool false, .slice (some ⟨g0, 0, none⟩) 2 2], .agg #[.int .i64 1, .int .u32 2]] w fun e w' => ∃ xa xc px ra ka kn kc g off pc, e = .returned (.tuple #[.slice xa 0 xc, .agg (repCells 35 px ra ka kn kc (some ⟨g, off, none⟩) 2 pc).toArray]) ∧ w'.cell? ⟨g, off, none⟩ = some (.int .i64 0) ∧ Below w.heap.size w w' := by
  have hin : OpIn w ⟨7, [], none, 0, 0, 0, false, false, some ⟨g0, 0, none⟩, 2, 2⟩ (kMul [kA, kS]) 0 := mul_in (q1 := (kr 1 [47, 114, 47, 97] 0 false false 0).r) (q2 := (kr 3 [47, 114, 47, 97] 1 false false 0).r) hg (plain_ok w 1 [47, 114, 47, 97] 0 false false (by decide) (by unfold I64; decide) (by decide)) (plain_ok w 3 [47, 114, 47, 97] 1 false false (by decide) (by unfold I64; decide) (by decide)) rfl rfl (by decide) (by decide)
  have h : Calls Tryz.prog 14 #[.pointer (some ⟨b, 0, none⟩), .agg #[.int .u8 7, .string ⟨#[]⟩, .slice none 0 0, .int .i64 0, .bool false, .bool false, .slice (some ⟨g0, 0, none⟩) 2 2], .agg #[.int .i64 1, .int .u32 2]] w (DoEnd w pR kM3 3 kw 0 (kMul [kA, kS])) := S.do_op (by decide) hin kw
  refine h.mono ?_
  rintro e w' ⟨u1, u2, rfl, ⟨xa, xc, XL, rfl, _, _⟩, ⟨ra, ka, kc, pa, pc, rfl, h5, h6, h7⟩, h4⟩
  obtain ⟨hE, hX, a, r, hR⟩ := kn_x S.nice
  rw [hR] at h7
  rw [hE, hX, hR]
  obtain ⟨g, off, rr, e1, _, _, hc, hr⟩ := h7 0 ⟨0, a⟩ rfl
  subst e1
  have hc0 := hc 0 _ rfl
  rw [show off + 0 * 13 + 0 = off by omega] at hc0
  have he : rr.e = 0 := hr.e
  rw [he] at hc0
  exact ⟨_, _, _, _, _, _, _, _, _, _, rfl, hc0, h4⟩
theorem St.knDo_y {g0 : Nat} (S : St w0 w b pR 3 kM3) (hg : w.heap[g0]? = some (.cells #[.int .u8 1, .string ⟨#[47, 114, 47, 97]⟩, .slice none 0 0, .int .i64 0, .bool false, .bool false, .slice none 0 0, .int .u8 5, .string ⟨#[47, 114, 47, 97]⟩, .slice none 0 0, .int .i64 0, .bool false, .bool false, .slice none 0 0] 26 (0, 0))) :
    Calls Tryz.prog 14 #[.pointer (some ⟨b, 0, none⟩), .agg #[.int .u8 7, .string ⟨#[]⟩, .slice none 0 0, .int .i64 0, .bool false, .bool false, .slice (some ⟨g0, 0, none⟩) 2 2], .agg #[.int .i64 1, .int .u32 2]] w fun e w' => ∃ xa xc px ra ka kn kc g off pc, e = .returned (.tuple #[.slice xa 2 xc, .agg (repCells 0 px ra ka kn kc (some ⟨g, off, none⟩) 2 pc).toArray]) ∧ w'.cell? ⟨g, off + 21, none⟩ = some (.int .u64 4) ∧ Below w.heap.size w w' := by
  have hin : OpIn w ⟨7, [], none, 0, 0, 0, false, false, some ⟨g0, 0, none⟩, 2, 2⟩ (kMul [kA, kG]) 0 := mul_in (q1 := (kr 1 [47, 114, 47, 97] 0 false false 0).r) (q2 := (kr 5 [47, 114, 47, 97] 0 false false 0).r) hg (plain_ok w 1 [47, 114, 47, 97] 0 false false (by decide) (by unfold I64; decide) (by decide)) (plain_ok w 5 [47, 114, 47, 97] 0 false false (by decide) (by unfold I64; decide) (by decide)) rfl rfl (by decide) (by decide)
  have h : Calls Tryz.prog 14 #[.pointer (some ⟨b, 0, none⟩), .agg #[.int .u8 7, .string ⟨#[]⟩, .slice none 0 0, .int .i64 0, .bool false, .bool false, .slice (some ⟨g0, 0, none⟩) 2 2], .agg #[.int .i64 1, .int .u32 2]] w (DoEnd w pR kM3 3 kw 0 (kMul [kA, kG])) := S.do_op (by decide) hin kw
  refine h.mono ?_
  rintro e w' ⟨u1, u2, rfl, ⟨xa, xc, XL, rfl, _, _⟩, ⟨ra, ka, kc, pa, pc, rfl, h5, h6, h7⟩, h4⟩
  obtain ⟨hE, hX, r, s, hR, hM⟩ := kn_y S.nice
  rw [hR] at h7
  rw [hE, hX, hR]
  obtain ⟨g, off, rr, e1, _, _, hc, hr⟩ := h7 1 s rfl
  subst e1
  have hc0 := hc 8 (.int .u64 rr.node.num.made) rfl
  rw [show off + 1 * 13 + 8 = off + 21 by omega] at hc0
  have he : rr.node.num.made = 4 := by rw [hr.node.num]; exact hM
  rw [he] at hc0
  exact ⟨_, _, _, _, _, _, _, _, _, _, rfl, hc0, h4⟩
theorem St.knDo_e (S : St w0 w b pR 3 kM3) : Calls Tryz.prog 19 #[.pointer (some ⟨b, 0, none⟩), .string ⟨#[47, 114, 47, 101]⟩] w fun e w' => ∃ (ra : Raw) (is_ : Bool), e = .returned (.tuple #[.agg ra.cells.toArray, .bool is_]) ∧ ra.num.os = 1 ∧ ra.num.on = 2 ∧ Below w.heap.size w w' := by
  have h : Calls Tryz.prog 19 #[.pointer (some ⟨b, 0, none⟩), .string ⟨#[47, 114, 47, 101]⟩] w _ := S.tr.get [47, 114, 47, 101] (by unfold maxLen; decide)
  refine h.mono ?_
  rintro e w' ⟨r, rfl, h1, h2, _⟩
  exact ⟨r, _, rfl, by rw [h1.num]; exact kn_e.1, by rw [h1.num]; exact kn_e.2, h2⟩
end
theorem sess_same (w : World) : (binOp .eql 29 (.agg #[.int .i64 1, .int .u32 2]) (.agg #[.int .i64 1, .int .u32 2])).run Tryz.prog w = .ok (.bool true) w := by simp [go_sem]
theorem two_strs (w : World) (x y : Bytes) : StrSl (w.alloc (.cells #[.string (bs x), .string (bs y)] 9)) (w.alloc (.cells #[.string (bs x), .string (bs y)] 9)).heap.size (some ⟨w.heap.size, 0, none⟩) [x, y] := fun k p hk => by
  have hb := heap_alloc_new w (.cells #[.string (bs x), .string (bs y)] 9)
  match k, hk with
  | 0, hk => cases hk; exact ⟨w.heap.size, 0, rfl, by simp, cell_of_row _ _ 0 _ 9 (0, 0) hb⟩
  | 1, hk => cases hk; exact ⟨w.heap.size, 0, rfl, by simp, cell_of_row _ _ 1 _ 9 (0, 0) hb⟩
  | k + 2, hk => simp at hk
def szOf : Value → Nat
  | .string s => 60 - s.size
  | _ => 0
theorem strs_up {w w' : World} {a : Option Addr} {K : List Bytes} (h : StrSl w w.heap.size a K) (hb : Below w.heap.size w w') : StrSl w' w'.heap.size a K := fun k p hk => by
  obtain ⟨b, off, h1, h2, h3⟩ := h k p hk
  exact ⟨b, off, h1, Nat.lt_of_lt_of_le h2 hb.size, (hb.cell (p := ⟨b, off + k, none⟩) h2).trans h3⟩
end Go.Proofs.YtnclkfhdpkkakaaGreatDoor

namespace Go.Proofs.YtnclkfhdpkkakaaGreatDoor
set_option linter.unusedVariables false
set_option linter.unusedSimpArgs false
open Go Go.RowKit Go.Shelf Go.MapKept Go.ChangeMaps Go.Maps Go.Sort
theorem mk_ops1 (w : World) : (Instr.makeSlice 24 (.int .i64 1) (.int .i64 1)).run Tryz.prog w = .ok (.slice (some ⟨w.heap.size, 0, none⟩) 1 1) (w.alloc (.cells #[.int .u8 0, .string ⟨#[]⟩, .slice none 0 0, .int .i64 0, .bool false, .bool false, .slice none 0 0] 26)) := by kernel_rfl
theorem mk_ops7 (w : World) : (Instr.makeSlice 24 (.int .i64 7) (.int .i64 7)).run Tryz.prog w = .ok (.slice (some ⟨w.heap.size, 0, none⟩) 7 7) (w.alloc (.cells #[.int .u8 0, .string ⟨#[]⟩, .slice none 0 0, .int .i64 0, .bool false, .bool false, .slice none 0 0, .int .u8 0, .string ⟨#[]⟩, .slice none 0 0, .int .i64 0, .bool false, .bool false, .slice none 0 0, .int .u8 0, .string ⟨#[]⟩, .slice none 0 0, .int .i64 0, .bool false, .bool false, .slice none 0 0, .int .u8 0, .string ⟨#[]⟩, .slice none 0 0, .int .i64 0, .bool false, .bool false, .slice none 0 0, .int .u8 0, .string ⟨#[]⟩, .slice none 0 0, .int .i64 0, .bool false, .bool false, .slice none 0 0, .int .u8 0, .string ⟨#[]⟩, .slice none 0 0, .int .i64 0, .bool false, .bool false, .slice none 0 0, .int .u8 0, .string ⟨#[]⟩, .slice none 0 0, .int .i64 0, .bool false, .bool false, .slice none 0 0] 26)) := by kernel_rfl
theorem mk_bytes65 (w : World) : (Instr.makeSlice 23 (.int .i64 65) (.int .i64 65)).run Tryz.prog w = .ok (.slice (some ⟨w.heap.size, 0, none⟩) 65 65) (w.alloc (.cells #[.int .u8 0, .int .u8 0, .int .u8 0, .int .u8 0, .int .u8 0, .int .u8 0, .int .u8 0, .int .u8 0, .int .u8 0, .int .u8 0, .int .u8 0, .int .u8 0, .int .u8 0, .int .u8 0, .int .u8 0, .int .u8 0, .int .u8 0, .int .u8 0, .int .u8 0, .int .u8 0, .int .u8 0, .int .u8 0, .int .u8 0, .int .u8 0, .int .u8 0, .int .u8 0, .int .u8 0, .int .u8 0, .int .u8 0, .int .u8 0, .int .u8 0, .int .u8 0, .int .u8 0, .int .u8 0, .int .u8 0, .int .u8 0, .int .u8 0, .int .u8 0, .int .u8 0, .int .u8 0, .int .u8 0, .int .u8 0, .int .u8 0, .int .u8 0, .int .u8 0, .int .u8 0, .int .u8 0, .int .u8 0, .int .u8 0, .int .u8 0, .int .u8 0, .int .u8 0, .int .u8 0, .int .u8 0, .int .u8 0, .int .u8 0, .int .u8 0, .int .u8 0, .int .u8 0, .int .u8 0, .int .u8 0, .int .u8 0, .int .u8 0, .int .u8 0, .int .u8 0] 5)) := by kernel_rfl
def KnTab (w1 : World) (v : Value) (wc : World) : Prop := ∃ b50 b53 b76 b78 b81 b84 b86 b89, v = .slice (some ⟨b89, 0, none⟩) 24 24 ∧ Below w1.heap.size w1 wc ∧ KnAt w1 b50 b53 b76 b78 b81 b84 b86 b89 wc
set_option maxRecDepth 100000 in
set_option maxHeartbeats 64000000 in
theorem opKnown_core (w : World) (hm : MaxInt w) (PT : PowTab w) : Calls Tryz.prog 7 #[] w fun e w' => e = .returned (.bool true) ∧ Below w.heap.size w w' := by
  have HM := Lib.hid (And.intro hm PT)
  clear hm PT
  go_enter Tryz.func7, Tryz.ntmps7
  go_wp2_with fail
  refine (TR.new (root := pR) (Below.refl _ w) HM.out.1 (by decide) rootsR).mono ?_
  rintro e v0 ⟨b, rfl, R1, hb1, B1⟩
  have HS0 : Hid (St w v0 b pR 0 [(pR, zNd)]) := Lib.hid (St.made R1 rootsR HM.out.2)
  have HB1 := Lib.hid (And.intro hb1 B1)
  clear R1 B1 hb1
  go_wp2_with fail
  go_cut [4] (fun v wc => KnTab v0 v wc)
  case first =>
    refine region_free (by kernel_rfl) ?_
    refine free_pure 0 w rfl (by kernel_rfl) (by kernel_rfl) (by kernel_rfl) (by rfl) (fun w' => by go_simp <;> rfl) ?_
    simp only [Act.put, List.setIfInBounds_toArray, List.set_cons_zero, List.set_cons_succ]
    refine free_pure 1 w rfl (by kernel_rfl) (by kernel_rfl) (by kernel_rfl) (by rfl) (fun w' => by go_simp <;> rfl) ?_
    simp only [Act.put, List.setIfInBounds_toArray, List.set_cons_zero, List.set_cons_succ]
    refine free_pure 2 w rfl (by kernel_rfl) (by kernel_rfl) (by kernel_rfl) (by rfl) (fun w' => by go_simp <;> rfl) ?_
    simp only [Act.put, List.setIfInBounds_toArray, List.set_cons_zero, List.set_cons_succ]
    refine free_pure 3 w rfl (by kernel_rfl) (by kernel_rfl) (by kernel_rfl) (by rfl) (fun w' => by go_simp <;> rfl) ?_
    simp only [Act.put, List.setIfInBounds_toArray, List.set_cons_zero, List.set_cons_succ]
    refine free_pure 4 w rfl (by kernel_rfl) (by kernel_rfl) (by kernel_rfl) (by rfl) (fun w' => by go_simp <;> rfl) ?_
    simp only [Act.put, List.setIfInBounds_toArray, List.set_cons_zero, List.set_cons_succ]
    refine free_pure 5 w rfl (by kernel_rfl) (by kernel_rfl) (by kernel_rfl) (by rfl) (fun w' => by go_simp <;> rfl) ?_
    simp only [Act.put, List.setIfInBounds_toArray, List.set_cons_zero, List.set_cons_succ]
    refine free_pure 6 w rfl (by kernel_rfl) (by kernel_rfl) (by kernel_rfl) (by rfl) (fun w' => by go_simp <;> rfl) ?_
    simp only [Act.put, List.setIfInBounds_toArray, List.set_cons_zero, List.set_cons_succ]
    refine free_pure 7 w rfl (by kernel_rfl) (by kernel_rfl) (by kernel_rfl) (by rfl) (fun w' => by go_simp <;> rfl) ?_
    simp only [Act.put, List.setIfInBounds_toArray, List.set_cons_zero, List.set_cons_succ]
    refine free_pure 8 w rfl (by kernel_rfl) (by kernel_rfl) (by kernel_rfl) (by rfl) (fun w' => by go_simp <;> rfl) ?_
    simp only [Act.put, List.setIfInBounds_toArray, List.set_cons_zero, List.set_cons_succ]
    refine free_pure 9 w rfl (by kernel_rfl) (by kernel_rfl) (by kernel_rfl) (by rfl) (fun w' => by go_simp <;> rfl) ?_
    simp only [Act.put, List.setIfInBounds_toArray, List.set_cons_zero, List.set_cons_succ]
    refine free_pure 10 w rfl (by kernel_rfl) (by kernel_rfl) (by kernel_rfl) (by rfl) (fun w' => by go_simp <;> rfl) ?_
    simp only [Act.put, List.setIfInBounds_toArray, List.set_cons_zero, List.set_cons_succ]
    refine free_pure 11 w rfl (by kernel_rfl) (by kernel_rfl) (by kernel_rfl) (by rfl) (fun w' => by go_simp <;> rfl) ?_
    simp only [Act.put, List.setIfInBounds_toArray, List.set_cons_zero, List.set_cons_succ]
    refine free_pure 12 w rfl (by kernel_rfl) (by kernel_rfl) (by kernel_rfl) (by rfl) (fun w' => by go_simp <;> rfl) ?_
    simp only [Act.put, List.setIfInBounds_toArray, List.set_cons_zero, List.set_cons_succ]
    refine free_pure 13 w rfl (by kernel_rfl) (by kernel_rfl) (by kernel_rfl) (by rfl) (fun w' => by go_simp <;> rfl) ?_
    simp only [Act.put, List.setIfInBounds_toArray, List.set_cons_zero, List.set_cons_succ]
    refine free_pure 14 w rfl (by kernel_rfl) (by kernel_rfl) (by kernel_rfl) (by rfl) (fun w' => by go_simp <;> rfl) ?_
    simp only [Act.put, List.setIfInBounds_toArray, List.set_cons_zero, List.set_cons_succ]
    refine free_pure 15 w rfl (by kernel_rfl) (by kernel_rfl) (by kernel_rfl) (by rfl) (fun w' => by go_simp <;> rfl) ?_
    simp only [Act.put, List.setIfInBounds_toArray, List.set_cons_zero, List.set_cons_succ]
    refine free_pure 16 w rfl (by kernel_rfl) (by kernel_rfl) (by kernel_rfl) (by rfl) (fun w' => by go_simp <;> rfl) ?_
    simp only [Act.put, List.setIfInBounds_toArray, List.set_cons_zero, List.set_cons_succ]
    refine free_pure 17 w rfl (by kernel_rfl) (by kernel_rfl) (by kernel_rfl) (by rfl) (fun w' => by go_simp <;> rfl) ?_
    simp only [Act.put, List.setIfInBounds_toArray, List.set_cons_zero, List.set_cons_succ]
    refine free_new 18 w rfl (by kernel_rfl) (by kernel_rfl) (by kernel_rfl) (by rfl) (fun b => .slice (some ⟨b, 0, none⟩) 1 1) (fun b b' h => by injection h with h; injection h with h; injection h) (.cells #[.int .u8 0, .string ⟨#[]⟩, .slice none 0 0, .int .i64 0, .bool false, .bool false, .slice none 0 0] 26) (fun w' => (by go_simp; rw [mk_ops1]; rfl)) (fun b50 => ?_)
    try dsimp only
    simp only [Act.put, List.setIfInBounds_toArray, List.set_cons_zero, List.set_cons_succ]
    refine free_pure 19 w rfl (by kernel_rfl) (by kernel_rfl) (by kernel_rfl) (by rfl) (fun w' => by go_simp <;> rfl) ?_
    simp only [Act.put, List.setIfInBounds_toArray, List.set_cons_zero, List.set_cons_succ]
    refine free_pure 20 w rfl (by kernel_rfl) (by kernel_rfl) (by kernel_rfl) (by rfl) (fun w' => by go_simp <;> rfl) ?_
    simp only [Act.put, List.setIfInBounds_toArray, List.set_cons_zero, List.set_cons_succ]
    refine free_new 21 w rfl (by kernel_rfl) (by kernel_rfl) (by kernel_rfl) (by rfl) (fun b => .slice (some ⟨b, 0, none⟩) 65 65) (fun b b' h => by injection h with h; injection h with h; injection h) (.cells #[.int .u8 0, .int .u8 0, .int .u8 0, .int .u8 0, .int .u8 0, .int .u8 0, .int .u8 0, .int .u8 0, .int .u8 0, .int .u8 0, .int .u8 0, .int .u8 0, .int .u8 0, .int .u8 0, .int .u8 0, .int .u8 0, .int .u8 0, .int .u8 0, .int .u8 0, .int .u8 0, .int .u8 0, .int .u8 0, .int .u8 0, .int .u8 0, .int .u8 0, .int .u8 0, .int .u8 0, .int .u8 0, .int .u8 0, .int .u8 0, .int .u8 0, .int .u8 0, .int .u8 0, .int .u8 0, .int .u8 0, .int .u8 0, .int .u8 0, .int .u8 0, .int .u8 0, .int .u8 0, .int .u8 0, .int .u8 0, .int .u8 0, .int .u8 0, .int .u8 0, .int .u8 0, .int .u8 0, .int .u8 0, .int .u8 0, .int .u8 0, .int .u8 0, .int .u8 0, .int .u8 0, .int .u8 0, .int .u8 0, .int .u8 0, .int .u8 0, .int .u8 0, .int .u8 0, .int .u8 0, .int .u8 0, .int .u8 0, .int .u8 0, .int .u8 0, .int .u8 0] 5) (fun w' => (by go_simp; rw [mk_bytes65]; rfl)) (fun b53 => ?_)
    try dsimp only
    simp only [Act.put, List.setIfInBounds_toArray, List.set_cons_zero, List.set_cons_succ]
    refine free_pure 22 w rfl (by kernel_rfl) (by kernel_rfl) (by kernel_rfl) (by rfl) (fun w' => by go_simp <;> rfl) ?_
    simp only [Act.put, List.setIfInBounds_toArray, List.set_cons_zero, List.set_cons_succ]
    refine free_pure 23 w rfl (by kernel_rfl) (by kernel_rfl) (by kernel_rfl) (by rfl) (fun w' => by go_simp <;> rfl) ?_
    simp only [Act.put, List.setIfInBounds_toArray, List.set_cons_zero, List.set_cons_succ]
    refine free_pure 24 w rfl (by kernel_rfl) (by kernel_rfl) (by kernel_rfl) (by rfl) (fun w' => by go_simp <;> rfl) ?_
    simp only [Act.put, List.setIfInBounds_toArray, List.set_cons_zero, List.set_cons_succ]
    refine free_pure 25 w rfl (by kernel_rfl) (by kernel_rfl) (by kernel_rfl) (by rfl) (fun w' => by go_simp <;> rfl) ?_
    simp only [Act.put, List.setIfInBounds_toArray, List.set_cons_zero, List.set_cons_succ]
    refine free_pure 26 w rfl (by kernel_rfl) (by kernel_rfl) (by kernel_rfl) (by rfl) (fun w' => by go_simp <;> rfl) ?_
    simp only [Act.put, List.setIfInBounds_toArray, List.set_cons_zero, List.set_cons_succ]
    refine free_pure 27 w rfl (by kernel_rfl) (by kernel_rfl) (by kernel_rfl) (by rfl) (fun w' => by go_simp <;> rfl) ?_
    simp only [Act.put, List.setIfInBounds_toArray, List.set_cons_zero, List.set_cons_succ]
    refine free_pure 28 w rfl (by kernel_rfl) (by kernel_rfl) (by kernel_rfl) (by rfl) (fun w' => by go_simp <;> rfl) ?_
    simp only [Act.put, List.setIfInBounds_toArray, List.set_cons_zero, List.set_cons_succ]
    refine free_pure 29 w rfl (by kernel_rfl) (by kernel_rfl) (by kernel_rfl) (by rfl) (fun w' => by go_simp <;> rfl) ?_
    simp only [Act.put, List.setIfInBounds_toArray, List.set_cons_zero, List.set_cons_succ]
    refine free_pure 30 w rfl (by kernel_rfl) (by kernel_rfl) (by kernel_rfl) (by rfl) (fun w' => by go_simp <;> rfl) ?_
    simp only [Act.put, List.setIfInBounds_toArray, List.set_cons_zero, List.set_cons_succ]
    refine free_pure 31 w rfl (by kernel_rfl) (by kernel_rfl) (by kernel_rfl) (by rfl) (fun w' => by go_simp <;> rfl) ?_
    simp only [Act.put, List.setIfInBounds_toArray, List.set_cons_zero, List.set_cons_succ]
    refine free_pure 32 w rfl (by kernel_rfl) (by kernel_rfl) (by kernel_rfl) (by rfl) (fun w' => by go_simp <;> rfl) ?_
    simp only [Act.put, List.setIfInBounds_toArray, List.set_cons_zero, List.set_cons_succ]
    refine free_pure 33 w rfl (by kernel_rfl) (by kernel_rfl) (by kernel_rfl) (by rfl) (fun w' => by go_simp <;> rfl) ?_
    simp only [Act.put, List.setIfInBounds_toArray, List.set_cons_zero, List.set_cons_succ]
    refine free_pure 34 w rfl (by kernel_rfl) (by kernel_rfl) (by kernel_rfl) (by rfl) (fun w' => by go_simp <;> rfl) ?_
    simp only [Act.put, List.setIfInBounds_toArray, List.set_cons_zero, List.set_cons_succ]
    refine free_pure 35 w rfl (by kernel_rfl) (by kernel_rfl) (by kernel_rfl) (by rfl) (fun w' => by go_simp <;> rfl) ?_
    simp only [Act.put, List.setIfInBounds_toArray, List.set_cons_zero, List.set_cons_succ]
    refine free_pure 36 w rfl (by kernel_rfl) (by kernel_rfl) (by kernel_rfl) (by rfl) (fun w' => by go_simp <;> rfl) ?_
    simp only [Act.put, List.setIfInBounds_toArray, List.set_cons_zero, List.set_cons_succ]
    refine free_pure 37 w rfl (by kernel_rfl) (by kernel_rfl) (by kernel_rfl) (by rfl) (fun w' => by go_simp <;> rfl) ?_
    simp only [Act.put, List.setIfInBounds_toArray, List.set_cons_zero, List.set_cons_succ]
    refine free_pure 38 w rfl (by kernel_rfl) (by kernel_rfl) (by kernel_rfl) (by rfl) (fun w' => by go_simp <;> rfl) ?_
    simp only [Act.put, List.setIfInBounds_toArray, List.set_cons_zero, List.set_cons_succ]
    refine free_pure 39 w rfl (by kernel_rfl) (by kernel_rfl) (by kernel_rfl) (by rfl) (fun w' => by go_simp <;> rfl) ?_
    simp only [Act.put, List.setIfInBounds_toArray, List.set_cons_zero, List.set_cons_succ]
    refine free_pure 40 w rfl (by kernel_rfl) (by kernel_rfl) (by kernel_rfl) (by rfl) (fun w' => by go_simp <;> rfl) ?_
    simp only [Act.put, List.setIfInBounds_toArray, List.set_cons_zero, List.set_cons_succ]
    refine free_pure 41 w rfl (by kernel_rfl) (by kernel_rfl) (by kernel_rfl) (by rfl) (fun w' => by go_simp <;> rfl) ?_
    simp only [Act.put, List.setIfInBounds_toArray, List.set_cons_zero, List.set_cons_succ]
    refine free_pure 42 w rfl (by kernel_rfl) (by kernel_rfl) (by kernel_rfl) (by rfl) (fun w' => by go_simp <;> rfl) ?_
    simp only [Act.put, List.setIfInBounds_toArray, List.set_cons_zero, List.set_cons_succ]
    refine free_pure 43 w rfl (by kernel_rfl) (by kernel_rfl) (by kernel_rfl) (by rfl) (fun w' => by go_simp <;> rfl) ?_
    simp only [Act.put, List.setIfInBounds_toArray, List.set_cons_zero, List.set_cons_succ]
    refine free_new 44 w rfl (by kernel_rfl) (by kernel_rfl) (by kernel_rfl) (by rfl) (fun b => .slice (some ⟨b, 0, none⟩) 1 1) (fun b b' h => by injection h with h; injection h with h; injection h) (.cells #[.int .u8 0, .string ⟨#[]⟩, .slice none 0 0, .int .i64 0, .bool false, .bool false, .slice none 0 0] 26) (fun w' => (by go_simp; rw [mk_ops1]; rfl)) (fun b76 => ?_)
    try dsimp only
    simp only [Act.put, List.setIfInBounds_toArray, List.set_cons_zero, List.set_cons_succ]
    refine free_pure 45 w rfl (by kernel_rfl) (by kernel_rfl) (by kernel_rfl) (by rfl) (fun w' => by go_simp <;> rfl) ?_
    simp only [Act.put, List.setIfInBounds_toArray, List.set_cons_zero, List.set_cons_succ]
    refine free_new 46 w rfl (by kernel_rfl) (by kernel_rfl) (by kernel_rfl) (by rfl) (fun b => .slice (some ⟨b, 0, none⟩) 1 1) (fun b b' h => by injection h with h; injection h with h; injection h) (.cells #[.int .u8 7, .string ⟨#[]⟩, .slice none 0 0, .int .i64 0, .bool false, .bool false, .slice (some ⟨b76, 0, none⟩) 1 1] 26) (fun w' => (by go_simp <;> first | rfl | exact ⟨rfl, rfl⟩)) (fun b78 => ?_)
    try dsimp only
    simp only [Act.put, List.setIfInBounds_toArray, List.set_cons_zero, List.set_cons_succ]
    refine free_pure 47 w rfl (by kernel_rfl) (by kernel_rfl) (by kernel_rfl) (by rfl) (fun w' => by go_simp <;> rfl) ?_
    simp only [Act.put, List.setIfInBounds_toArray, List.set_cons_zero, List.set_cons_succ]
    refine free_pure 48 w rfl (by kernel_rfl) (by kernel_rfl) (by kernel_rfl) (by rfl) (fun w' => by go_simp <;> rfl) ?_
    simp only [Act.put, List.setIfInBounds_toArray, List.set_cons_zero, List.set_cons_succ]
    refine free_new 49 w rfl (by kernel_rfl) (by kernel_rfl) (by kernel_rfl) (by rfl) (fun b => .slice (some ⟨b, 0, none⟩) 7 7) (fun b b' h => by injection h with h; injection h with h; injection h) (.cells #[.int .u8 0, .string ⟨#[]⟩, .slice none 0 0, .int .i64 0, .bool false, .bool false, .slice none 0 0, .int .u8 0, .string ⟨#[]⟩, .slice none 0 0, .int .i64 0, .bool false, .bool false, .slice none 0 0, .int .u8 0, .string ⟨#[]⟩, .slice none 0 0, .int .i64 0, .bool false, .bool false, .slice none 0 0, .int .u8 0, .string ⟨#[]⟩, .slice none 0 0, .int .i64 0, .bool false, .bool false, .slice none 0 0, .int .u8 0, .string ⟨#[]⟩, .slice none 0 0, .int .i64 0, .bool false, .bool false, .slice none 0 0, .int .u8 0, .string ⟨#[]⟩, .slice none 0 0, .int .i64 0, .bool false, .bool false, .slice none 0 0, .int .u8 0, .string ⟨#[]⟩, .slice none 0 0, .int .i64 0, .bool false, .bool false, .slice none 0 0] 26) (fun w' => (by go_simp; rw [mk_ops7]; rfl)) (fun b81 => ?_)
    try dsimp only
    simp only [Act.put, List.setIfInBounds_toArray, List.set_cons_zero, List.set_cons_succ]
    refine free_pure 50 w rfl (by kernel_rfl) (by kernel_rfl) (by kernel_rfl) (by rfl) (fun w' => by go_simp <;> rfl) ?_
    simp only [Act.put, List.setIfInBounds_toArray, List.set_cons_zero, List.set_cons_succ]
    refine free_pure 51 w rfl (by kernel_rfl) (by kernel_rfl) (by kernel_rfl) (by rfl) (fun w' => by go_simp <;> rfl) ?_
    simp only [Act.put, List.setIfInBounds_toArray, List.set_cons_zero, List.set_cons_succ]
    refine free_new 52 w rfl (by kernel_rfl) (by kernel_rfl) (by kernel_rfl) (by rfl) (fun b => .slice (some ⟨b, 0, none⟩) 65 65) (fun b b' h => by injection h with h; injection h with h; injection h) (.cells #[.int .u8 0, .int .u8 0, .int .u8 0, .int .u8 0, .int .u8 0, .int .u8 0, .int .u8 0, .int .u8 0, .int .u8 0, .int .u8 0, .int .u8 0, .int .u8 0, .int .u8 0, .int .u8 0, .int .u8 0, .int .u8 0, .int .u8 0, .int .u8 0, .int .u8 0, .int .u8 0, .int .u8 0, .int .u8 0, .int .u8 0, .int .u8 0, .int .u8 0, .int .u8 0, .int .u8 0, .int .u8 0, .int .u8 0, .int .u8 0, .int .u8 0, .int .u8 0, .int .u8 0, .int .u8 0, .int .u8 0, .int .u8 0, .int .u8 0, .int .u8 0, .int .u8 0, .int .u8 0, .int .u8 0, .int .u8 0, .int .u8 0, .int .u8 0, .int .u8 0, .int .u8 0, .int .u8 0, .int .u8 0, .int .u8 0, .int .u8 0, .int .u8 0, .int .u8 0, .int .u8 0, .int .u8 0, .int .u8 0, .int .u8 0, .int .u8 0, .int .u8 0, .int .u8 0, .int .u8 0, .int .u8 0, .int .u8 0, .int .u8 0, .int .u8 0, .int .u8 0] 5) (fun w' => (by go_simp; rw [mk_bytes65]; rfl)) (fun b84 => ?_)
    try dsimp only
    simp only [Act.put, List.setIfInBounds_toArray, List.set_cons_zero, List.set_cons_succ]
    refine free_pure 53 w rfl (by kernel_rfl) (by kernel_rfl) (by kernel_rfl) (by rfl) (fun w' => by go_simp <;> rfl) ?_
    simp only [Act.put, List.setIfInBounds_toArray, List.set_cons_zero, List.set_cons_succ]
    refine free_new 54 w rfl (by kernel_rfl) (by kernel_rfl) (by kernel_rfl) (by rfl) (fun b => .slice (some ⟨b, 0, none⟩) 1 1) (fun b b' h => by injection h with h; injection h with h; injection h) (.cells #[.int .u8 3, .string ⟨#[47, 114]⟩, .slice (some ⟨b84, 0, none⟩) 65 65, .int .i64 0, .bool false, .bool false, .slice none 0 0] 26) (fun w' => (by go_simp <;> first | rfl | exact ⟨rfl, rfl⟩)) (fun b86 => ?_)
    try dsimp only
    simp only [Act.put, List.setIfInBounds_toArray, List.set_cons_zero, List.set_cons_succ]
    refine free_pure 55 w rfl (by kernel_rfl) (by kernel_rfl) (by kernel_rfl) (by rfl) (fun w' => by go_simp <;> rfl) ?_
    simp only [Act.put, List.setIfInBounds_toArray, List.set_cons_zero, List.set_cons_succ]
    refine free_pure 56 w rfl (by kernel_rfl) (by kernel_rfl) (by kernel_rfl) (by rfl) (fun w' => by go_simp <;> rfl) ?_
    simp only [Act.put, List.setIfInBounds_toArray, List.set_cons_zero, List.set_cons_succ]
    refine free_new 57 w rfl (by kernel_rfl) (by kernel_rfl) (by kernel_rfl) (by rfl) (fun b => .slice (some ⟨b, 0, none⟩) 24 24) (fun b b' h => by injection h with h; injection h with h; injection h) (.cells #[.int .u8 5, .string ⟨#[47, 114, 47, 97]⟩, .slice none 0 0, .int .i64 0, .bool false, .bool false, .slice none 0 0, .int .i64 31, .int .u8 3, .string ⟨#[47, 120]⟩, .slice none 0 0, .int .i64 0, .bool false, .bool false, .slice none 0 0, .int .i64 30, .int .u8 2, .string ⟨#[47, 114]⟩, .slice none 0 0, .int .i64 (-1), .bool false, .bool false, .slice none 0 0, .int .i64 30, .int .u8 1, .string ⟨#[47, 114, 47, 98, 47, 99]⟩, .slice none 0 0, .int .i64 0, .bool false, .bool false, .slice none 0 0, .int .i64 31, .int .u8 1, .string ⟨#[47, 114]⟩, .slice none 0 0, .int .i64 0, .bool false, .bool false, .slice none 0 0, .int .i64 32, .int .u8 1, .string ⟨#[47, 114]⟩, .slice none 0 0, .int .i64 0, .bool true, .bool false, .slice none 0 0, .int .i64 30, .int .u8 0, .string ⟨#[]⟩, .slice none 0 0, .int .i64 0, .bool false, .bool false, .slice none 0 0, .int .i64 1, .int .u8 8, .string ⟨#[]⟩, .slice none 0 0, .int .i64 0, .bool false, .bool false, .slice none 0 0, .int .i64 1, .int .u8 7, .string ⟨#[]⟩, .slice none 0 0, .int .i64 0, .bool false, .bool false, .slice none 0 0, .int .i64 1, .int .u8 5, .string ⟨#[47, 114]⟩, .slice none 0 0, .int .i64 0, .bool false, .bool false, .slice (some ⟨b50, 0, none⟩) 1 1, .int .i64 1, .int .u8 3, .string ⟨#[47, 114]⟩, .slice (some ⟨b53, 0, none⟩) 65 65, .int .i64 0, .bool false, .bool false, .slice none 0 0, .int .i64 3, .int .u8 1, .string ⟨#[47, 114, 47, 101]⟩, .slice none 0 0, .int .i64 0, .bool false, .bool true, .slice none 0 0, .int .i64 0, .int .u8 1, .string ⟨#[47, 114, 47, 101, 47, 120]⟩, .slice none 0 0, .int .i64 0, .bool false, .bool false, .slice none 0 0, .int .i64 34, .int .u8 1, .string ⟨#[47, 114, 47, 101]⟩, .slice none 0 0, .int .i64 0, .bool false, .bool false, .slice none 0 0, .int .i64 32, .int .u8 1, .string ⟨#[47, 114, 47, 100]⟩, .slice none 0 0, .int .i64 0, .bool false, .bool false, .slice none 0 0, .int .i64 0, .int .u8 1, .string ⟨#[47, 114, 47, 100, 47, 120]⟩, .slice none 0 0, .int .i64 0, .bool false, .bool false, .slice none 0 0, .int .i64 0, .int .u8 2, .string ⟨#[47, 114, 47, 100]⟩, .slice none 0 0, .int .i64 1, .bool false, .bool false, .slice none 0 0, .int .i64 35, .int .u8 2, .string ⟨#[47, 114, 47, 100]⟩, .slice none 0 0, .int .i64 0, .bool false, .bool false, .slice none 0 0, .int .i64 33, .int .u8 6, .string ⟨#[47, 114]⟩, .slice none 0 0, .int .i64 0, .bool false, .bool false, .slice none 0 0, .int .i64 0, .int .u8 6, .string ⟨#[47, 114, 47, 122]⟩, .slice none 0 0, .int .i64 0, .bool false, .bool false, .slice none 0 0, .int .i64 31, .int .u8 4, .string ⟨#[47, 114, 47, 100]⟩, .slice none 0 0, .int .i64 1, .bool false, .bool false, .slice none 0 0, .int .i64 35, .int .u8 7, .string ⟨#[]⟩, .slice none 0 0, .int .i64 0, .bool false, .bool false, .slice (some ⟨b78, 0, none⟩) 1 1, .int .i64 1, .int .u8 7, .string ⟨#[]⟩, .slice none 0 0, .int .i64 0, .bool false, .bool false, .slice (some ⟨b81, 0, none⟩) 7 7, .int .i64 1, .int .u8 7, .string ⟨#[]⟩, .slice none 0 0, .int .i64 0, .bool false, .bool false, .slice (some ⟨b86, 0, none⟩) 1 1, .int .i64 3] 67) (fun w' => (by kernel_rfl)) (fun b89 => ?_)
    try dsimp only
    simp only [Act.put, List.setIfInBounds_toArray, List.set_cons_zero, List.set_cons_succ]
    refine free_pure 58 w rfl (by kernel_rfl) (by kernel_rfl) (by kernel_rfl) (by rfl) (fun w' => by go_simp <;> rfl) ?_
    simp only [Act.put, List.setIfInBounds_toArray, List.set_cons_zero, List.set_cons_succ]
    refine free_done (by kernel_rfl) (fun w2 hw2 => ?_) _
    obtain ⟨⟨⟨⟨⟨⟨⟨⟨hb2, k50⟩, k53⟩, k76⟩, k78⟩, k81⟩, k84⟩, k86⟩, k89⟩ := hw2
    have hrel : KnTab v0 (.slice (some ⟨b89, 0, none⟩) 24 24) w2 := ⟨b50, b53, b76, b78, b81, b84, b86, b89, rfl, (belowA (Below.refl _ v0) _).trans (hb2.mono (by simp)), ⟨(hb2.block v0.heap.size (by simp)).trans (heap_alloc_new v0 _), k50, k53, k76, k78, k81, k84, k86, k89⟩⟩
    clear hb2 k50 k53 k76 k78 k81 k84 k86 k89
    go_wp2_with fail
    go_meet
    case rel => exact hrel
  case rest =>
  obtain ⟨b50, b53, b76, b78, b81, b84, b86, b89, rfl, hbc, hkn⟩ := hcut
  have HKN := Lib.hid hkn
  have HBC := Lib.hid hbc
  clear hkn hbc
  have HS2 := Lib.hid (HS0.out.below HBC.out)
  have HSO : Hid ((Tryz.prog.info? 26).map (·.size) = some 7) := Lib.hid (by kernel_rfl)
  have HSS : Hid ((Tryz.prog.info? 29).map (·.size) = some 2) := Lib.hid (by kernel_rfl)
  have HBW := Lib.hid (HB1.out.2.trans (HBC.out.mono HB1.out.2.size))
  have hrf := rep_field
  go_wp2_with fail
  go_loopw [5] (fun iv wr => ∃ k : Nat, k ≤ 24 ∧ iv = .int .i64 k ∧ Hid (St w wr b pR (knA k) (knM k)) ∧ Hid (KnAt v0 b50 b53 b76 b78 b81 b84 b86 b89 wr) ∧ Hid (Below w.heap.size w wr)) (fun iv _ => 24 - (intOf iv).toNat)
  case atStart => exact ⟨0, by omega, rfl, HS2, HKN, HBW⟩
  case round =>
    obtain ⟨k, hk, rfl, HS, HKR, HB⟩ := hrel
    by_cases hlt : k < 24
    · have tlt : decide ((k : Int) < 24) = true := by simp; omega
      obtain ⟨x, hx⟩ : ∃ x, (knRows b50 b53 b76 b78 b81 b84 b86)[k]? = some x := ⟨_, List.getElem?_eq_getElem (by rw [kn_len]; exact hlt)⟩
      have hin := kn_in HKR.out k hx
      have hst := kn_steps b50 b53 b76 b78 b81 b84 b86 k hx HS.out.inv HS.out.nice
      have hrow : ∀ j u, x.cells[j]? = some u → wr.cell? ⟨b89, 0 + (k * 8 + j), none⟩ = some u := fun j u hu => range_blk HKR.out.k89 (k * 8 + j) u (flatK_at _ k x hx j u hu)
      have hA : knA k ≤ 90000 := by unfold knA; split <;> (try split) <;> (try split) <;> decide
      obtain ⟨⟨ok, op, oa, on, oc, ov, os, oe, qa, qn, qc⟩, xo, xQ, xps, xx⟩ := x
      have hdid := (HS.out.below (Below.refl _ wr).drew).did_op hA (hin.below (Below.refl _ wr).drew) kw
      obtain ⟨cs, hT⟩ := HS.out.tr.blk
      have hn89 : b89 ≠ b := fun e => by
        have h := HKR.out.k89
        rw [e, hT] at h
        injection h with h
        injection h with _ h2
        exact absurd h2 (by decide)
      have hnw : v0.heap.size ≠ b := fun e => by
        have h := HKR.out.who
        rw [e, hT] at h
        injection h with h
        injection h with _ h2
        exact absurd h2 (by decide)
      have hr7 : wr.drew.rangeAt b89 (k * 8) [.int .u8 ok, .string (bs op), .slice oa on oc, .int .i64 ov, .bool os, .bool oe, .slice qa qn qc] := fun j u hu => by
        have hj := (List.getElem?_eq_some_iff.1 hu).1
        have h := hrow j u (by
          rw [← hu]
          exact List.getElem?_append_left (l₂ := [.int .i64 xx]) hj)
        rw [Nat.zero_add] at h
        exact h
      have hr8 : wr.drew.cell? ⟨b89, k * 8 + 7, none⟩ = some (.int .i64 xx) := by
        have h := hrow 7 _ rfl
        rw [Nat.zero_add] at h
        exact h
      have hS0 : wr.drew.rangeAt b89 (k * 8) [.int .u8 ok, .string (bs op), .slice oa on oc, .int .i64 ov, .bool os, .bool oe, .slice qa qn qc] ∧ wr.drew.cell? ⟨b89, k * 8 + 7, none⟩ = some (.int .i64 xx) ∧ wr.drew.rangeAt v0.heap.size 0 [.int .i64 1, .int .u32 2] := ⟨hr7, hr8, range_blk HKR.out.who⟩
      unfold RawO.val RawO.cells whoV kw at hdid
      dsimp only at hdid
      have HDID := Lib.hid hdid
      have HST := Lib.hid hst
      have HT := Lib.hid (show ∃ cs, wr.heap[b]? = some (.cells cs 86 (0, 0)) from ⟨cs, hT⟩)
      have HNB := Lib.hid (And.intro hn89 hnw)
      have HS00 := Lib.hid hS0
      have hltn := hlt
      clear hin hst hrow hA hdid hT hn89 hnw hr7 hr8 hS0 hx
      go_wp2_with fail
      refine wp_region_held_drew (S := fun w' => World.rangeAt w' b89 (k * 8) [.int .u8 ok, .string (bs op), .slice oa on oc, .int .i64 ov, .bool os, .bool oe, .slice qa qn qc] ∧ World.cell? w' ⟨b89, k * 8 + 7, none⟩ = some (.int .i64 xx) ∧ World.rangeAt w' v0.heap.size 0 [.int .i64 1, .int .u32 2]) (by kernel_rfl) HS00.out (fun hS => ?_)
      have ti : ∀ w', World.rangeAt w' b89 (k * 8) [.int .u8 ok, .string (bs op), .slice oa on oc, .int .i64 ov, .bool os, .bool oe, .slice qa qn qc] ∧ World.cell? w' ⟨b89, k * 8 + 7, none⟩ = some (.int .i64 xx) ∧ World.rangeAt w' v0.heap.size 0 [.int .i64 1, .int .u32 2] → (k : Int) < 24 := fun _ _ => by omega
      have tx : ∀ w', World.rangeAt w' b89 (k * 8) [.int .u8 ok, .string (bs op), .slice oa on oc, .int .i64 ov, .bool os, .bool oe, .slice qa qn qc] ∧ World.cell? w' ⟨b89, k * 8 + 7, none⟩ = some (.int .i64 xx) ∧ World.rangeAt w' v0.heap.size 0 [.int .i64 1, .int .u32 2] → World.cell? w' ⟨b89, k * 8 + 7, none⟩ = some (.int .i64 xx) := fun _ h => h.2.1
      refine took_in 0 rfl (by kernel_rfl) (by kernel_rfl) (by kernel_rfl) (by rfl) hS (fun w' hS' => by go_simp <;> rfl) (fun _ _ _ h => h) ?_
      simp only [Act.put, List.setIfInBounds_toArray, List.set_cons_zero, List.set_cons_succ]
      refine took_in 1 rfl (by kernel_rfl) (by kernel_rfl) (by kernel_rfl) (by rfl) hS (fun w' hS' => by go_simp <;> rfl) (fun _ _ _ h => h) ?_
      simp only [Act.put, List.setIfInBounds_toArray, List.set_cons_zero, List.set_cons_succ]
      refine took_in 2 rfl (by kernel_rfl) (by kernel_rfl) (by kernel_rfl) (by rfl) hS (fun w' hS' => by go_simp <;> rfl) (fun _ _ _ h => h) ?_
      simp only [Act.put, List.setIfInBounds_toArray, List.set_cons_zero, List.set_cons_succ]
      refine took_in 3 rfl (by kernel_rfl) (by kernel_rfl) (by kernel_rfl) (by rfl) hS (fun w' hS' => by have := ti w' hS'; go_simp <;> rfl) (fun _ _ _ h => h) ?_
      simp only [Act.put, List.setIfInBounds_toArray, List.set_cons_zero, List.set_cons_succ]
      refine took_in 4 rfl (by kernel_rfl) (by kernel_rfl) (by kernel_rfl) (by rfl) hS (fun w' hS' => by go_simp <;> rfl) (fun _ _ _ h => h) ?_
      simp only [Act.put, List.setIfInBounds_toArray, List.set_cons_zero, List.set_cons_succ]
      refine took_load 5 rfl (by kernel_rfl) (by kernel_rfl) (by kernel_rfl) (by rfl) hS 26 (.tmp 100) rfl b89 (k * 8) rfl [.int .u8 ok, .string (bs op), .slice oa on oc, .int .i64 ov, .bool os, .bool oe, .slice qa qn qc] _ (fun _ h => h.1) Tryz.underlying26 rfl HSO.out (fun _ _ _ h => h) ?_
      simp only [Act.put, List.setIfInBounds_toArray, List.set_cons_zero, List.set_cons_succ]
      refine took_load 6 rfl (by kernel_rfl) (by kernel_rfl) (by kernel_rfl) (by rfl) hS 29 (.tmp 3) rfl v0.heap.size 0 rfl [.int .i64 1, .int .u32 2] _ (fun _ h => h.2.2) Tryz.underlying29 rfl HSS.out (fun _ _ _ h => h) ?_
      simp only [Act.put, List.setIfInBounds_toArray, List.set_cons_zero, List.set_cons_succ]
      refine took_in 9 rfl (by kernel_rfl) (by kernel_rfl) (by kernel_rfl) (by rfl) hS (fun w' hS' => by go_simp <;> rfl) (fun _ _ _ h => h) ?_
      simp only [Act.put, List.setIfInBounds_toArray, List.set_cons_zero, List.set_cons_succ]
      refine took_in 10 rfl (by kernel_rfl) (by kernel_rfl) (by kernel_rfl) (by rfl) hS (fun w' hS' => by go_simp <;> rfl) (fun _ _ _ h => h) ?_
      simp only [Act.put, List.setIfInBounds_toArray, List.set_cons_zero, List.set_cons_succ]
      refine took_in 11 rfl (by kernel_rfl) (by kernel_rfl) (by kernel_rfl) (by rfl) hS (fun w' hS' => by have := ti w' hS'; go_simp <;> rfl) (fun _ _ _ h => h) ?_
      simp only [Act.put, List.setIfInBounds_toArray, List.set_cons_zero, List.set_cons_succ]
      refine took_in 12 rfl (by kernel_rfl) (by kernel_rfl) (by kernel_rfl) (by rfl) hS (fun w' hS' => by go_simp <;> rfl) (fun _ _ _ h => h) ?_
      simp only [Act.put, List.setIfInBounds_toArray, List.set_cons_zero, List.set_cons_succ]
      refine took_in 13 rfl (by kernel_rfl) (by kernel_rfl) (by kernel_rfl) (by rfl) hS (fun w' hS' => by have := tx w' hS'; go_simp <;> rfl) (fun _ _ _ h => h) ?_
      simp only [Act.put, List.setIfInBounds_toArray, List.set_cons_zero, List.set_cons_succ]
      refine call_in 7 rfl (by kernel_rfl) (by rfl) _ _ (by go_simp <;> first | rfl | exact ⟨rfl, rfl⟩) ?_
      refine HDID.out.mono ?_
      rintro e wd Dd
      obtain ⟨⟨ud, rfl, ⟨⟨ra, rn, rc, ⟨r1, r2, r3, r4, r5, r6, r7, r8⟩⟩, ka, kc, pa, pc, rfl, _⟩⟩, Sd, Kd⟩ := Dd
      generalize hE : doE pR (knM k) (knA k) _ _ _ = E
      have hE2 : E = xx := hE.symm.trans HST.out.1
      clear hE
      subst hE2
      generalize (doA pR (knM k) (knA k) _ _ _).path = px
      generalize (doA pR (knM k) (knA k) _ _ _).kids.length = kn
      generalize (doR pR (knM k) (knA k) _ _ _).length = pn
      unfold repCells Raw.cells Nums.cells
      dsimp only [List.cons_append, List.nil_append]
      have Kw : Kept (· = b) wr wd := (Kept.refl _ wr).drew.trans Kd
      have hSd : World.rangeAt wd b89 (k * 8) [.int .u8 ok, .string (bs op), .slice oa on oc, .int .i64 ov, .bool os, .bool oe, .slice qa qn qc] ∧ World.cell? wd ⟨b89, k * 8 + 7, none⟩ = some (.int .i64 E) ∧ World.rangeAt wd v0.heap.size 0 [.int .i64 1, .int .u32 2] := ⟨fun j u hu => (Kd.cell (p := ⟨b89, k * 8 + j, none⟩) (World.block_lt_of_cell? _ _ (hS.1 j u hu)) (fun e => HNB.out.1 e)).trans (hS.1 j u hu), (Kd.cell (p := ⟨b89, k * 8 + 7, none⟩) (World.block_lt_of_cell? _ _ hS.2.1) (fun e => HNB.out.1 e)).trans hS.2.1, fun j u hu => (Kd.cell (p := ⟨v0.heap.size, 0 + j, none⟩) (World.block_lt_of_cell? _ _ (hS.2.2 j u hu)) (fun e => HNB.out.2 e)).trans (hS.2.2 j u hu)⟩
      have HSD : Hid (St w wd b pR (knA (k + 1)) (knM (k + 1))) := Lib.hid (by
        obtain ⟨_, q2, q3⟩ := HST.out
        rw [← q2, ← q3]
        exact Sd)
      have HKD := Lib.hid (HKR.out.kept HT.out Kw)
      have HBD := Lib.hid (HB.out.trans (Kw.below HB.out.size (fun j e => by have e : j = b := e; have := HB1.out.1; omega)))
      have te : ∀ w', World.rangeAt w' b89 (k * 8) [.int .u8 ok, .string (bs op), .slice oa on oc, .int .i64 ov, .bool os, .bool oe, .slice qa qn qc] ∧ World.cell? w' ⟨b89, k * 8 + 7, none⟩ = some (.int .i64 E) ∧ World.rangeAt w' v0.heap.size 0 [.int .i64 1, .int .u32 2] → (E != E) = false := fun _ _ => by simp
      clear Sd Kd Kw hS
      refine ⟨hSd, ?_⟩
      try dsimp only
      simp only [Act.put, List.setIfInBounds_toArray, List.set_cons_zero, List.set_cons_succ]
      refine took_in 8 rfl (by kernel_rfl) (by kernel_rfl) (by kernel_rfl) (by rfl) hSd (fun w' hS' => by go_simp <;> rfl) (fun _ _ _ h => h) ?_
      simp only [Act.put, List.setIfInBounds_toArray, List.set_cons_zero, List.set_cons_succ]
      refine took_in 14 rfl (by kernel_rfl) (by kernel_rfl) (by kernel_rfl) (by rfl) hSd (fun w' hS' => by have := te w' hS'; go_simp <;> rfl) (fun _ _ _ h => h) ?_
      simp only [Act.put, List.setIfInBounds_toArray, List.set_cons_zero, List.set_cons_succ]
      refine wpAnyH_done (by kernel_rfl) ?_ _
      clear ti tx te hSd
      go_wp2_with fail
      go_roundw
      case rel => exact ⟨k + 1, by omega, by go_num, HSD, HKD, HBD⟩
      case measure => simp [intOf]; omega
    · have hk24 : k = 24 := by omega
      have tlt : decide ((k : Int) < 24) = false := by simp; omega
      have hS5 := HS.out
      rw [hk24] at hS5
      have HSEz : Hid (wr.heap[v0.heap.size]? = some (.cells #[.int .i64 1, .int .u32 2] 29 (0, 0))) := Lib.hid HKR.out.who
      have HBz := Lib.hid HB.out
      obtain ⟨w5, hw5⟩ : ∃ w5, w5 = wr := ⟨_, rfl⟩
      subst hw5
      have HSz : Hid (St w w5 b pR 3 kM3) := Lib.hid hS5
      clear hS5 HS HKR HB hk24 hk
      go_wp2_with fail
      refine (HSz.out.knDo_f).mono ?_
      rintro e t1 ⟨xa1, xn1, xc1, px1, ⟨ra1, rn1, rc1, ⟨r11, r12, r13, r14, r15, r16, r17, r18⟩⟩, ka1, kn1, kc1, pa1, pn1, pc1, rfl, TB⟩
      unfold repCells Raw.cells Nums.cells
      dsimp only [List.cons_append, List.nil_append]
      obtain ⟨v1, hv1⟩ : ∃ v, v = t1.alloc (.cells #[.int .i64 63, .string (bs px1), .slice ra1 rn1 rc1, .int .u32 r11, .int .u32 r12, .int .u32 r13, .int .i64 r14, .int .u32 r15, .int .u64 r16, .int .u64 r17, .int .u64 r18, .slice ka1 kn1 kc1, .slice pa1 pn1 pc1] 43) := ⟨_, rfl⟩
      have TV : Below t1.heap.size t1 v1 := by rw [hv1]; exact belowA (Below.refl _ t1) _
      have kv : v1.heap[t1.heap.size]? = some (.cells #[.int .i64 63, .string (bs px1), .slice ra1 rn1 rc1, .int .u32 r11, .int .u32 r12, .int .u32 r13, .int .i64 r14, .int .u32 r15, .int .u64 r16, .int .u64 r17, .int .u64 r18, .slice ka1 kn1 kc1, .slice pa1 pn1 pc1] 43 (0, 0)) := by rw [hv1]; exact heap_alloc_new t1 _
      have BV := TB.trans (TV.mono TB.size)
      have BW := BV
      have HS1 := Lib.hid (HSz.out.below BW)
      have HV1 := Lib.hid (And.intro kv (And.intro BW TV))
      have HW1 := Lib.hid hv1
      have HSE1 : Hid (v1.heap[v0.heap.size]? = some (.cells #[.int .i64 1, .int .u32 2] 29 (0, 0))) := Lib.hid ((BW.block _ (lt_of_block HSEz.out)).trans HSEz.out)
      have HSR1 := Lib.hid (range_blk HSE1.out)
      clear TB TV kv BV BW hv1
      go_upto_region 12 with fail
      rw [← HW1.out]
      have BA2 : Below v1.heap.size v1 (v1.alloc (.cells #[.int .u8 1, .string ⟨#[47, 114, 47, 97]⟩, .slice none 0 0, .int .i64 0, .bool false, .bool false, .slice none 0 0, .int .u8 3, .string ⟨#[47, 114, 47, 97]⟩, .slice none 0 0, .int .i64 1, .bool false, .bool false, .slice none 0 0] 26)) := belowA (Below.refl _ v1) _
      have HRA2 : Hid ((v1.alloc (.cells #[.int .u8 1, .string ⟨#[47, 114, 47, 97]⟩, .slice none 0 0, .int .i64 0, .bool false, .bool false, .slice none 0 0, .int .u8 3, .string ⟨#[47, 114, 47, 97]⟩, .slice none 0 0, .int .i64 1, .bool false, .bool false, .slice none 0 0] 26)).rangeAt v0.heap.size 0 [.int .i64 1, .int .u32 2]) := Lib.hid (range_blk ((BA2.block _ (lt_of_block HSE1.out)).trans HSE1.out))
      have HSA2 := Lib.hid (HS1.out.below BA2)
      have HBA2 := Lib.hid BA2
      clear BA2
      go_wp2_with (refine wpList_load_mid rfl 29 (.tmp 3) rfl v0.heap.size 0 rfl [.int .i64 1, .int .u32 2] _ HRA2.out Tryz.underlying29 rfl HSS.out ?_)
      refine (HSA2.out.knDo_x (g0 := v1.heap.size) (heap_alloc_new v1 _)).mono ?_
      rintro e t2 ⟨xa2, xc2, px2, ⟨ra2, rn2, rc2, ⟨r21, r22, r23, r24, r25, r26, r27, r28⟩⟩, ka2, kn2, kc2, g2, o2, pc2, rfl, hg2, TB⟩
      unfold repCells Raw.cells Nums.cells
      dsimp only [List.cons_append, List.nil_append]
      obtain ⟨v2, hv2⟩ : ∃ v, v = t2.alloc (.cells #[.int .i64 35, .string (bs px2), .slice ra2 rn2 rc2, .int .u32 r21, .int .u32 r22, .int .u32 r23, .int .i64 r24, .int .u32 r25, .int .u64 r26, .int .u64 r27, .int .u64 r28, .slice ka2 kn2 kc2, .slice (some ⟨g2, o2, none⟩) 2 pc2] 43) := ⟨_, rfl⟩
      have TV : Below t2.heap.size t2 v2 := by rw [hv2]; exact belowA (Below.refl _ t2) _
      have kv : v2.heap[t2.heap.size]? = some (.cells #[.int .i64 35, .string (bs px2), .slice ra2 rn2 rc2, .int .u32 r21, .int .u32 r22, .int .u32 r23, .int .i64 r24, .int .u32 r25, .int .u64 r26, .int .u64 r27, .int .u64 r28, .slice ka2 kn2 kc2, .slice (some ⟨g2, o2, none⟩) 2 pc2] 43 (0, 0)) := by rw [hv2]; exact heap_alloc_new t2 _
      have BV := TB.trans (TV.mono TB.size)
      have BW := HBA2.out.trans (BV.mono HBA2.out.size)
      have HS2 := Lib.hid (HS1.out.below BW)
      have HV2 := Lib.hid (And.intro kv (And.intro BW TV))
      have HW2 := Lib.hid hv2
      have HSE2 : Hid (v2.heap[v0.heap.size]? = some (.cells #[.int .i64 1, .int .u32 2] 29 (0, 0))) := Lib.hid ((BW.block _ (lt_of_block HSE1.out)).trans HSE1.out)
      have HSR2 := Lib.hid (range_blk HSE2.out)
      have HG2 := Lib.hid ((TV.cell (World.block_lt_of_cell? _ _ hg2)).trans hg2)
      clear hg2
      clear TB TV kv BV BW hv2
      go_upto_region 13 with fail
      rw [← HW2.out]
      have BA3 : Below v2.heap.size v2 (v2.alloc (.cells #[.int .u8 1, .string ⟨#[47, 114, 47, 97]⟩, .slice none 0 0, .int .i64 0, .bool false, .bool false, .slice none 0 0, .int .u8 5, .string ⟨#[47, 114, 47, 97]⟩, .slice none 0 0, .int .i64 0, .bool false, .bool false, .slice none 0 0] 26)) := belowA (Below.refl _ v2) _
      have HRA3 : Hid ((v2.alloc (.cells #[.int .u8 1, .string ⟨#[47, 114, 47, 97]⟩, .slice none 0 0, .int .i64 0, .bool false, .bool false, .slice none 0 0, .int .u8 5, .string ⟨#[47, 114, 47, 97]⟩, .slice none 0 0, .int .i64 0, .bool false, .bool false, .slice none 0 0] 26)).rangeAt v0.heap.size 0 [.int .i64 1, .int .u32 2]) := Lib.hid (range_blk ((BA3.block _ (lt_of_block HSE2.out)).trans HSE2.out))
      have HSA3 := Lib.hid (HS2.out.below BA3)
      have HBA3 := Lib.hid BA3
      clear BA3
      go_wp2_with (refine wpList_load_mid rfl 29 (.tmp 3) rfl v0.heap.size 0 rfl [.int .i64 1, .int .u32 2] _ HRA3.out Tryz.underlying29 rfl HSS.out ?_)
      refine (HSA3.out.knDo_y (g0 := v2.heap.size) (heap_alloc_new v2 _)).mono ?_
      rintro e t3 ⟨xa3, xc3, px3, ⟨ra3, rn3, rc3, ⟨r31, r32, r33, r34, r35, r36, r37, r38⟩⟩, ka3, kn3, kc3, g3, o3, pc3, rfl, hg3, TB⟩
      unfold repCells Raw.cells Nums.cells
      dsimp only [List.cons_append, List.nil_append]
      obtain ⟨v3, hv3⟩ : ∃ v, v = t3.alloc (.cells #[.int .i64 0, .string (bs px3), .slice ra3 rn3 rc3, .int .u32 r31, .int .u32 r32, .int .u32 r33, .int .i64 r34, .int .u32 r35, .int .u64 r36, .int .u64 r37, .int .u64 r38, .slice ka3 kn3 kc3, .slice (some ⟨g3, o3, none⟩) 2 pc3] 43) := ⟨_, rfl⟩
      have TV : Below t3.heap.size t3 v3 := by rw [hv3]; exact belowA (Below.refl _ t3) _
      have kv : v3.heap[t3.heap.size]? = some (.cells #[.int .i64 0, .string (bs px3), .slice ra3 rn3 rc3, .int .u32 r31, .int .u32 r32, .int .u32 r33, .int .i64 r34, .int .u32 r35, .int .u64 r36, .int .u64 r37, .int .u64 r38, .slice ka3 kn3 kc3, .slice (some ⟨g3, o3, none⟩) 2 pc3] 43 (0, 0)) := by rw [hv3]; exact heap_alloc_new t3 _
      have BV := TB.trans (TV.mono TB.size)
      have BW := HBA3.out.trans (BV.mono HBA3.out.size)
      have HS3 := Lib.hid (HS2.out.below BW)
      have HV3 := Lib.hid (And.intro kv (And.intro BW TV))
      have HW3 := Lib.hid hv3
      have HSE3 : Hid (v3.heap[v0.heap.size]? = some (.cells #[.int .i64 1, .int .u32 2] 29 (0, 0))) := Lib.hid ((BW.block _ (lt_of_block HSE2.out)).trans HSE2.out)
      have HSR3 := Lib.hid (range_blk HSE3.out)
      have HG3 := Lib.hid ((TV.cell (World.block_lt_of_cell? _ _ hg3)).trans hg3)
      clear hg3
      clear TB TV kv BV BW hv3
      go_upto_region 14 with fail
      rw [← HW3.out]
      go_wp2_with fail
      refine HS3.out.knDo_e.mono ?_
      rintro e t4 ⟨⟨ra4, rn4, rc4, ⟨r41, r42, r43, r44, r45, r46, r47, r48⟩⟩, is4, rfl, hos, hon, TB⟩
      have hos : r44 = 1 := hos
      have hon : r45 = 2 := hon
      subst hos hon
      unfold Raw.cells Nums.cells
      dsimp only
      obtain ⟨v4, hv4⟩ : ∃ v, v = t4.alloc (.cells #[.slice ra4 rn4 rc4, .int .u32 r41, .int .u32 r42, .int .u32 r43, .int .i64 1, .int .u32 2, .int .u64 r46, .int .u64 r47, .int .u64 r48] 39) := ⟨_, rfl⟩
      have TV : Below t4.heap.size t4 v4 := by rw [hv4]; exact belowA (Below.refl _ t4) _
      have kv : v4.heap[t4.heap.size]? = some (.cells #[.slice ra4 rn4 rc4, .int .u32 r41, .int .u32 r42, .int .u32 r43, .int .i64 1, .int .u32 2, .int .u64 r46, .int .u64 r47, .int .u64 r48] 39 (0, 0)) := by rw [hv4]; exact heap_alloc_new t4 _
      have BV := TB.trans (TV.mono TB.size)
      have BW := BV
      have HS4 := Lib.hid (HS3.out.below BW)
      have HV4 := Lib.hid (And.intro kv (And.intro BW TV))
      have HW4 := Lib.hid hv4
      have HSE4 : Hid (v4.heap[v0.heap.size]? = some (.cells #[.int .i64 1, .int .u32 2] 29 (0, 0))) := Lib.hid ((BW.block _ (lt_of_block HSE3.out)).trans HSE3.out)
      have HSR4 := Lib.hid (range_blk HSE4.out)
      clear TB TV kv BV BW hv4
      go_upto_region 15 with fail
      rw [← HW4.out]
      go_wp2_with (refine wpList_load_mid rfl 29 (.tmp 3) rfl v0.heap.size 0 rfl [.int .i64 1, .int .u32 2] _ HSR4.out Tryz.underlying29 rfl HSS.out ?_)
      refine (HS4.out.knDo_k).mono ?_
      rintro e t5 ⟨xa5, xn5, xc5, px5, ⟨ra5, rn5, rc5, ⟨r51, r52, r53, r54, r55, r56, r57, r58⟩⟩, ka5, kc5, pa5, pn5, pc5, rfl, hkin, hkids, TB⟩
      have hkin : r52 = 2 := hkin
      subst hkin
      unfold repCells Raw.cells Nums.cells
      dsimp only [List.cons_append, List.nil_append]
      obtain ⟨v5, hv5⟩ : ∃ v, v = t5.alloc (.cells #[.int .i64 0, .string (bs px5), .slice ra5 rn5 rc5, .int .u32 r51, .int .u32 2, .int .u32 r53, .int .i64 r54, .int .u32 r55, .int .u64 r56, .int .u64 r57, .int .u64 r58, .slice ka5 2 kc5, .slice pa5 pn5 pc5] 43) := ⟨_, rfl⟩
      have TV : Below t5.heap.size t5 v5 := by rw [hv5]; exact belowA (Below.refl _ t5) _
      have kv : v5.heap[t5.heap.size]? = some (.cells #[.int .i64 0, .string (bs px5), .slice ra5 rn5 rc5, .int .u32 r51, .int .u32 2, .int .u32 r53, .int .i64 r54, .int .u32 r55, .int .u64 r56, .int .u64 r57, .int .u64 r58, .slice ka5 2 kc5, .slice pa5 pn5 pc5] 43 (0, 0)) := by rw [hv5]; exact heap_alloc_new t5 _
      have BV := TB.trans (TV.mono TB.size)
      have BW := BV
      have HKD := Lib.hid (strs_up hkids TV)
      clear hkids
      have HS5 := Lib.hid (HS4.out.below BW)
      have HV5 := Lib.hid (And.intro kv (And.intro BW TV))
      have HW5 := Lib.hid hv5
      have HSE5 : Hid (v5.heap[v0.heap.size]? = some (.cells #[.int .i64 1, .int .u32 2] 29 (0, 0))) := Lib.hid ((BW.block _ (lt_of_block HSE4.out)).trans HSE4.out)
      have HSR5 := Lib.hid (range_blk HSE5.out)
      clear TB TV kv BV BW hv5
      go_upto_region 16 with fail
      rw [← HW5.out]
      go_wp2_with (refine wpList_load_mid rfl 29 (.tmp 3) rfl v0.heap.size 0 rfl [.int .i64 1, .int .u32 2] _ HSR5.out Tryz.underlying29 rfl HSS.out ?_)
      refine (do_nil v5 5 [47, 114] none 0 0 0 false false none 0 0 1 2).mono ?_
      rintro e t6 ⟨rfl, TB⟩
      obtain ⟨v6, hv6⟩ : ∃ v, v = t6.alloc (.cells #[.int .i64 8, .string ⟨#[]⟩, .slice none 0 0, .int .u32 0, .int .u32 0, .int .u32 0, .int .i64 0, .int .u32 0, .int .u64 0, .int .u64 0, .int .u64 0, .slice none 0 0, .slice none 0 0] 43) := ⟨_, rfl⟩
      have TV : Below t6.heap.size t6 v6 := by rw [hv6]; exact belowA (Below.refl _ t6) _
      have kv : v6.heap[t6.heap.size]? = some (.cells #[.int .i64 8, .string ⟨#[]⟩, .slice none 0 0, .int .u32 0, .int .u32 0, .int .u32 0, .int .i64 0, .int .u32 0, .int .u64 0, .int .u64 0, .int .u64 0, .slice none 0 0, .slice none 0 0] 43 (0, 0)) := by rw [hv6]; exact heap_alloc_new t6 _
      have BV := TB.trans (TV.mono TB.size)
      have BW := BV
      have HS6 := Lib.hid (HS5.out.below BW)
      have HV6 := Lib.hid (And.intro kv (And.intro BW TV))
      have HW6 := Lib.hid hv6
      have HSE6 : Hid (v6.heap[v0.heap.size]? = some (.cells #[.int .i64 1, .int .u32 2] 29 (0, 0))) := Lib.hid ((BW.block _ (lt_of_block HSE5.out)).trans HSE5.out)
      have HSR6 := Lib.hid (range_blk HSE6.out)
      clear TB TV kv BV BW hv6
      go_upto_region 17 with fail
      rw [← HW6.out]
      go_wp2_with fail
      go_loopw [18] (fun v wr => ∃ n : Nat, n ≤ 52 ∧ v = .string (bs (longK n)) ∧ v6 = wr) (fun v _ => szOf v)
      case atStart => exact ⟨0, by omega, rfl, rfl⟩
      case round =>
        obtain ⟨n, hn, rfl, rfl⟩ := hrel
        by_cases hlt : n < 52
        · have tl : decide (((bs (longK n)).size : Int) < 55) = true := by rw [size_bs, longK_len]; simp; omega
          have ha := fun (W : World) => add_bsC (bs (longK n)) ⟨#[120]⟩ (longK (n + 1)) (by rw [longK_succ]; rfl) (by rw [longK_len]; omega) W
          have hn1 : n + 1 ≤ 52 := hlt
          clear hlt
          go_wp2_with fail
          go_roundw
          case rel =>
            refine ⟨n + 1, hn1, rfl, ?_⟩
            first | rfl | trivial
          case measure =>
            simp only [szOf, size_bs, longK_len]
            omega
        · have hn52 : n = 52 := by omega
          have tl : decide (((bs (longK n)).size : Int) < 55) = false := by rw [size_bs, longK_len]; simp; omega
          have hkl : Calls Tryz.prog 14 #[.pointer (some ⟨b, 0, none⟩), .agg #[.int .u8 1, .string (bs (longK n)), .slice none 0 0, .int .i64 0, .bool true, .bool false, .slice none 0 0], .agg #[.int .i64 1, .int .u32 2]] v6 fun e w' => ∃ xa xn xc px ra ka kn kc pa pn pc, e = .returned (.tuple #[.slice xa xn xc, .agg (repCells 30 px ra ka kn kc pa pn pc).toArray]) ∧ Below v6.heap.size v6 w' := by
            rw [hn52]
            exact HS6.out.knDo_l
          have HKL := Lib.hid hkl
          clear hkl hn52 hlt hn
          go_wp2_with (refine wpList_load_mid rfl 29 (.tmp 3) rfl v0.heap.size 0 rfl [.int .i64 1, .int .u32 2] _ HSR6.out Tryz.underlying29 rfl HSS.out ?_)
          refine (HKL.out).mono ?_
          rintro e t7 ⟨xa7, xn7, xc7, px7, ⟨ra7, rn7, rc7, ⟨r71, r72, r73, r74, r75, r76, r77, r78⟩⟩, ka7, kn7, kc7, pa7, pn7, pc7, rfl, TB⟩
          unfold repCells Raw.cells Nums.cells
          dsimp only [List.cons_append, List.nil_append]
          obtain ⟨v7, hv7⟩ : ∃ v, v = t7.alloc (.cells #[.int .i64 30, .string (bs px7), .slice ra7 rn7 rc7, .int .u32 r71, .int .u32 r72, .int .u32 r73, .int .i64 r74, .int .u32 r75, .int .u64 r76, .int .u64 r77, .int .u64 r78, .slice ka7 kn7 kc7, .slice pa7 pn7 pc7] 43) := ⟨_, rfl⟩
          have TV : Below t7.heap.size t7 v7 := by rw [hv7]; exact belowA (Below.refl _ t7) _
          have kv : v7.heap[t7.heap.size]? = some (.cells #[.int .i64 30, .string (bs px7), .slice ra7 rn7 rc7, .int .u32 r71, .int .u32 r72, .int .u32 r73, .int .i64 r74, .int .u32 r75, .int .u64 r76, .int .u64 r77, .int .u64 r78, .slice ka7 kn7 kc7, .slice pa7 pn7 pc7] 43 (0, 0)) := by rw [hv7]; exact heap_alloc_new t7 _
          have BV := TB.trans (TV.mono TB.size)
          have BW := BV
          have HS7 := Lib.hid (HS6.out.below BW)
          have HV7 := Lib.hid (And.intro kv (And.intro BW TV))
          have HW7 := Lib.hid hv7
          have HSE7 : Hid (v7.heap[v0.heap.size]? = some (.cells #[.int .i64 1, .int .u32 2] 29 (0, 0))) := Lib.hid ((BW.block _ (lt_of_block HSE6.out)).trans HSE6.out)
          have HSR7 := Lib.hid (range_blk HSE7.out)
          clear TB TV kv BV BW hv7
          go_upto_region 21 with fail
          rw [← HW7.out]
          have d7 : Below v7.heap.size v7 v7 := Below.refl _ _
          have d6 : Below v6.heap.size v6 v7 := HV7.out.2.1
          have d5 : Below v5.heap.size v5 v7 := HV6.out.2.1.trans (d6.mono HV6.out.2.1.size)
          have d4 : Below v4.heap.size v4 v7 := HV5.out.2.1.trans (d5.mono HV5.out.2.1.size)
          have d3 : Below v3.heap.size v3 v7 := HV4.out.2.1.trans (d4.mono HV4.out.2.1.size)
          have d2 : Below v2.heap.size v2 v7 := HV3.out.2.1.trans (d3.mono HV3.out.2.1.size)
          have d1 : Below v1.heap.size v1 v7 := HV2.out.2.1.trans (d2.mono HV2.out.2.1.size)
          have K1 := (d1.block _ (lt_of_block HV1.out.1)).trans HV1.out.1
          have K2 := (d2.block _ (lt_of_block HV2.out.1)).trans HV2.out.1
          have K3 := (d3.block _ (lt_of_block HV3.out.1)).trans HV3.out.1
          have K4 := (d4.block _ (lt_of_block HV4.out.1)).trans HV4.out.1
          have K5 := (d5.block _ (lt_of_block HV5.out.1)).trans HV5.out.1
          have K6 := (d6.block _ (lt_of_block HV6.out.1)).trans HV6.out.1
          have K7 := (d7.block _ (lt_of_block HV7.out.1)).trans HV7.out.1
          have f1 : ∀ w', Below v7.heap.size v7 w' → w'.cell? ⟨t1.heap.size, 0, none⟩ = some (.int .i64 63) := fun w' h => ((h.cell (p := ⟨t1.heap.size, 0, none⟩) (lt_of_block K1)).trans (cell_of_row _ _ 0 _ 43 (0, 0) K1))
          have f2 : ∀ w', Below v7.heap.size v7 w' → w'.cell? ⟨t2.heap.size, 0, none⟩ = some (.int .i64 35) := fun w' h => ((h.cell (p := ⟨t2.heap.size, 0, none⟩) (lt_of_block K2)).trans (cell_of_row _ _ 0 _ 43 (0, 0) K2))
          have f2p : ∀ w', Below v7.heap.size v7 w' → w'.cell? ⟨t2.heap.size, 12, none⟩ = some (.slice (some ⟨g2, o2, none⟩) 2 pc2) := fun w' h => ((h.cell (p := ⟨t2.heap.size, 12, none⟩) (lt_of_block K2)).trans (cell_of_row _ _ 12 _ 43 (0, 0) K2))
          have f3 : ∀ w', Below v7.heap.size v7 w' → w'.cell? ⟨t3.heap.size, 0, none⟩ = some (.int .i64 0) := fun w' h => ((h.cell (p := ⟨t3.heap.size, 0, none⟩) (lt_of_block K3)).trans (cell_of_row _ _ 0 _ 43 (0, 0) K3))
          have f3p : ∀ w', Below v7.heap.size v7 w' → w'.cell? ⟨t3.heap.size, 12, none⟩ = some (.slice (some ⟨g3, o3, none⟩) 2 pc3) := fun w' h => ((h.cell (p := ⟨t3.heap.size, 12, none⟩) (lt_of_block K3)).trans (cell_of_row _ _ 12 _ 43 (0, 0) K3))
          have f5 : ∀ w', Below v7.heap.size v7 w' → w'.cell? ⟨t5.heap.size, 11, none⟩ = some (.slice ka5 2 kc5) := fun w' h => ((h.cell (p := ⟨t5.heap.size, 11, none⟩) (lt_of_block K5)).trans (cell_of_row _ _ 11 _ 43 (0, 0) K5))
          have f5k : ∀ w', Below v7.heap.size v7 w' → w'.cell? ⟨t5.heap.size, 4, none⟩ = some (.int .u32 2) := fun w' h => ((h.cell (p := ⟨t5.heap.size, 4, none⟩) (lt_of_block K5)).trans (cell_of_row _ _ 4 _ 43 (0, 0) K5))
          have f6 : ∀ w', Below v7.heap.size v7 w' → w'.cell? ⟨t6.heap.size, 0, none⟩ = some (.int .i64 8) := fun w' h => ((h.cell (p := ⟨t6.heap.size, 0, none⟩) (lt_of_block K6)).trans (cell_of_row _ _ 0 _ 43 (0, 0) K6))
          have f7 : ∀ w', Below v7.heap.size v7 w' → w'.cell? ⟨t7.heap.size, 0, none⟩ = some (.int .i64 30) := fun w' h => ((h.cell (p := ⟨t7.heap.size, 0, none⟩) (lt_of_block K7)).trans (cell_of_row _ _ 0 _ 43 (0, 0) K7))
          have q2 := (d2.cell (World.block_lt_of_cell? _ _ HG2.out)).trans HG2.out
          have fg2 : ∀ w', Below v7.heap.size v7 w' → w'.cell? ⟨g2, o2, none⟩ = some (.int .i64 0) := fun w' h => ((h.cell (p := ⟨g2, o2, none⟩) (World.block_lt_of_cell? _ _ q2)).trans q2)
          have q3 := (d3.cell (World.block_lt_of_cell? _ _ HG3.out)).trans HG3.out
          have fg3 : ∀ w', Below v7.heap.size v7 w' → w'.cell? ⟨g3, o3 + 21, none⟩ = some (.int .u64 4) := fun w' h => ((h.cell (p := ⟨g3, o3 + 21, none⟩) (World.block_lt_of_cell? _ _ q3)).trans q3)
          have N4 : ∀ w', Below v7.heap.size v7 w' → w'.rangeAt t4.heap.size 4 [.int .i64 1, .int .u32 2] := fun w' h => mid_range 4 (o := 0) (range_blk ((h.block _ (lt_of_block K4)).trans K4)) (fun j v hv => by
            rw [← hv]
            match j, hv with
            | 0, _ => rfl
            | 1, _ => rfl
            | j + 2, hv => simp at hv)
          have NS : ∀ w', Below v7.heap.size v7 w' → w'.rangeAt v0.heap.size 0 [.int .i64 1, .int .u32 2] := fun w' h => range_blk ((h.block _ (lt_of_block HSE7.out)).trans HSE7.out)
          have KAT : Hid (∀ w', Below v7.heap.size v7 w' → Calls Tryz.prog 17 #[.pointer (some ⟨b, 0, none⟩)] w' fun e w'' => e = .returned (.int .u64 3) ∧ Below v7.heap.size v7 w'') := Lib.hid fun w' h => ((HS7.out.below h).tr.at_any).mono fun e w'' ⟨h1, h2⟩ => ⟨h1, by rw [← h2]; exact h⟩
          have KTX : Hid (∀ w' a, Below v7.heap.size v7 w' → StrSl w' w'.heap.size a [[100], [101]] → Calls Tryz.prog 24 #[.slice ka5 2 kc5, .slice a 2 2] w' fun e w'' => e = .returned (.bool true) ∧ Below v7.heap.size v7 w'') := Lib.hid fun w' a h hs =>
            (refTexts_same (K := [[100], [101]]) (by decide) (strs_up (strs_up HKD.out d5) h) hs).mono fun e w'' ⟨h1, h2⟩ => ⟨h1, h.trans (h2.mono h.size)⟩
          have KWK : Hid (∀ w', Below v7.heap.size v7 w' → Calls Tryz.prog 16 #[] w' fun e w'' => e = .returned (.bool true) ∧ Below v7.heap.size v7 w'') := Lib.hid fun w' h =>
            (works_any w' (HS7.out.below h).tr.max (HS7.out.below h).pow).mono fun e w'' ⟨h1, h2⟩ => ⟨h1, h.trans (h2.mono h.size)⟩
          have hbw : Below w.heap.size w v7 := (((((((HBz.out.trans (HV1.out.2.1.mono HBz.out.size)).trans (d1.mono (HBz.out.trans (HV1.out.2.1.mono HBz.out.size)).size)))))))
          have HBF := Lib.hid hbw
          have hse := sess_same
          clear K1 K2 K3 K4 K5 K6 K7 q2 q3 d1 d2 d3 d4 d5 d6 d7 hbw
          go_wp2_with fail
          as_aux_lemma =>
            refine wp_region_held_drew (S := fun w' => Below v7.heap.size v7 w') (by kernel_rfl) (Below.refl _ v7).drew (fun hS => ?_)
            refine took_in 0 rfl (by kernel_rfl) (by kernel_rfl) (by kernel_rfl) (by rfl) hS (fun w' hS' => by go_simp <;> rfl) (fun _ _ _ h => h) ?_
            simp only [Act.put, List.setIfInBounds_toArray, List.set_cons_zero, List.set_cons_succ]
            refine took_in 1 rfl (by kernel_rfl) (by kernel_rfl) (by kernel_rfl) (by rfl) hS (fun w' hS' => by have := f1 w' hS'; go_simp <;> rfl) (fun _ _ _ h => h) ?_
            simp only [Act.put, List.setIfInBounds_toArray, List.set_cons_zero, List.set_cons_succ]
            refine took_in 2 rfl (by kernel_rfl) (by kernel_rfl) (by kernel_rfl) (by rfl) hS (fun w' hS' => by go_simp <;> rfl) (fun _ _ _ h => h) ?_
            simp only [Act.put, List.setIfInBounds_toArray, List.set_cons_zero, List.set_cons_succ]
            refine took_in 3 rfl (by kernel_rfl) (by kernel_rfl) (by kernel_rfl) (by rfl) hS (fun w' hS' => by go_simp <;> rfl) (fun _ _ _ h => h) ?_
            simp only [Act.put, List.setIfInBounds_toArray, List.set_cons_zero, List.set_cons_succ]
            refine took_in 4 rfl (by kernel_rfl) (by kernel_rfl) (by kernel_rfl) (by rfl) hS (fun w' hS' => by go_simp <;> rfl) (fun _ _ _ h => h) ?_
            simp only [Act.put, List.setIfInBounds_toArray, List.set_cons_zero, List.set_cons_succ]
            refine took_in 5 rfl (by kernel_rfl) (by kernel_rfl) (by kernel_rfl) (by rfl) hS (fun w' hS' => by go_simp <;> rfl) (fun _ _ _ h => h) ?_
            simp only [Act.put, List.setIfInBounds_toArray, List.set_cons_zero, List.set_cons_succ]
            refine took_in 6 rfl (by kernel_rfl) (by kernel_rfl) (by kernel_rfl) (by rfl) hS (fun w' hS' => by go_simp <;> rfl) (fun _ _ _ h => h) ?_
            simp only [Act.put, List.setIfInBounds_toArray, List.set_cons_zero, List.set_cons_succ]
            refine took_in 7 rfl (by kernel_rfl) (by kernel_rfl) (by kernel_rfl) (by rfl) hS (fun w' hS' => by go_simp <;> rfl) (fun _ _ _ h => h) ?_
            simp only [Act.put, List.setIfInBounds_toArray, List.set_cons_zero, List.set_cons_succ]
            refine took_in 8 rfl (by kernel_rfl) (by kernel_rfl) (by kernel_rfl) (by rfl) hS (fun w' hS' => by go_simp <;> rfl) (fun _ _ _ h => h) ?_
            simp only [Act.put, List.setIfInBounds_toArray, List.set_cons_zero, List.set_cons_succ]
            refine took_in 9 rfl (by kernel_rfl) (by kernel_rfl) (by kernel_rfl) (by rfl) hS (fun w' hS' => by go_simp <;> rfl) (fun _ _ _ h => h) ?_
            simp only [Act.put, List.setIfInBounds_toArray, List.set_cons_zero, List.set_cons_succ]
            refine took_in 10 rfl (by kernel_rfl) (by kernel_rfl) (by kernel_rfl) (by rfl) hS (fun w' hS' => by have := f2 w' hS'; go_simp <;> rfl) (fun _ _ _ h => h) ?_
            simp only [Act.put, List.setIfInBounds_toArray, List.set_cons_zero, List.set_cons_succ]
            refine took_in 11 rfl (by kernel_rfl) (by kernel_rfl) (by kernel_rfl) (by rfl) hS (fun w' hS' => by go_simp <;> rfl) (fun _ _ _ h => h) ?_
            simp only [Act.put, List.setIfInBounds_toArray, List.set_cons_zero, List.set_cons_succ]
            refine took_in 12 rfl (by kernel_rfl) (by kernel_rfl) (by kernel_rfl) (by rfl) hS (fun w' hS' => by go_simp <;> rfl) (fun _ _ _ h => h) ?_
            simp only [Act.put, List.setIfInBounds_toArray, List.set_cons_zero, List.set_cons_succ]
            refine took_in 13 rfl (by kernel_rfl) (by kernel_rfl) (by kernel_rfl) (by rfl) hS (fun w' hS' => by go_simp <;> rfl) (fun _ _ _ h => h) ?_
            simp only [Act.put, List.setIfInBounds_toArray, List.set_cons_zero, List.set_cons_succ]
            refine took_in 14 rfl (by kernel_rfl) (by kernel_rfl) (by kernel_rfl) (by rfl) hS (fun w' hS' => by go_simp <;> rfl) (fun _ _ _ h => h) ?_
            simp only [Act.put, List.setIfInBounds_toArray, List.set_cons_zero, List.set_cons_succ]
            refine took_in 15 rfl (by kernel_rfl) (by kernel_rfl) (by kernel_rfl) (by rfl) hS (fun w' hS' => by have := f2p w' hS'; go_simp <;> rfl) (fun _ _ _ h => h) ?_
            simp only [Act.put, List.setIfInBounds_toArray, List.set_cons_zero, List.set_cons_succ]
            refine took_in 16 rfl (by kernel_rfl) (by kernel_rfl) (by kernel_rfl) (by rfl) hS (fun w' hS' => by go_simp <;> rfl) (fun _ _ _ h => h) ?_
            simp only [Act.put, List.setIfInBounds_toArray, List.set_cons_zero, List.set_cons_succ]
            refine took_in 17 rfl (by kernel_rfl) (by kernel_rfl) (by kernel_rfl) (by rfl) hS (fun w' hS' => by go_simp <;> rfl) (fun _ _ _ h => h) ?_
            simp only [Act.put, List.setIfInBounds_toArray, List.set_cons_zero, List.set_cons_succ]
            refine took_in 18 rfl (by kernel_rfl) (by kernel_rfl) (by kernel_rfl) (by rfl) hS (fun w' hS' => by go_simp <;> rfl) (fun _ _ _ h => h) ?_
            simp only [Act.put, List.setIfInBounds_toArray, List.set_cons_zero, List.set_cons_succ]
            refine took_in 19 rfl (by kernel_rfl) (by kernel_rfl) (by kernel_rfl) (by rfl) hS (fun w' hS' => by go_simp <;> rfl) (fun _ _ _ h => h) ?_
            simp only [Act.put, List.setIfInBounds_toArray, List.set_cons_zero, List.set_cons_succ]
            refine took_in 20 rfl (by kernel_rfl) (by kernel_rfl) (by kernel_rfl) (by rfl) hS (fun w' hS' => by go_simp <;> rfl) (fun _ _ _ h => h) ?_
            simp only [Act.put, List.setIfInBounds_toArray, List.set_cons_zero, List.set_cons_succ]
            refine took_in 21 rfl (by kernel_rfl) (by kernel_rfl) (by kernel_rfl) (by rfl) hS (fun w' hS' => by have := f2p w' hS'; go_simp <;> rfl) (fun _ _ _ h => h) ?_
            simp only [Act.put, List.setIfInBounds_toArray, List.set_cons_zero, List.set_cons_succ]
            refine took_in 22 rfl (by kernel_rfl) (by kernel_rfl) (by kernel_rfl) (by rfl) hS (fun w' hS' => by go_simp <;> rfl) (fun _ _ _ h => h) ?_
            simp only [Act.put, List.setIfInBounds_toArray, List.set_cons_zero, List.set_cons_succ]
            refine took_in 23 rfl (by kernel_rfl) (by kernel_rfl) (by kernel_rfl) (by rfl) hS (fun w' hS' => by go_simp <;> rfl) (fun _ _ _ h => h) ?_
            simp only [Act.put, List.setIfInBounds_toArray, List.set_cons_zero, List.set_cons_succ]
            refine took_in 24 rfl (by kernel_rfl) (by kernel_rfl) (by kernel_rfl) (by rfl) hS (fun w' hS' => by have := fg2 w' hS'; go_simp <;> rfl) (fun _ _ _ h => h) ?_
            simp only [Act.put, List.setIfInBounds_toArray, List.set_cons_zero, List.set_cons_succ]
            refine took_in 25 rfl (by kernel_rfl) (by kernel_rfl) (by kernel_rfl) (by rfl) hS (fun w' hS' => by go_simp <;> rfl) (fun _ _ _ h => h) ?_
            simp only [Act.put, List.setIfInBounds_toArray, List.set_cons_zero, List.set_cons_succ]
            refine took_in 26 rfl (by kernel_rfl) (by kernel_rfl) (by kernel_rfl) (by rfl) hS (fun w' hS' => by go_simp <;> rfl) (fun _ _ _ h => h) ?_
            simp only [Act.put, List.setIfInBounds_toArray, List.set_cons_zero, List.set_cons_succ]
            refine took_in 27 rfl (by kernel_rfl) (by kernel_rfl) (by kernel_rfl) (by rfl) hS (fun w' hS' => by go_simp <;> rfl) (fun _ _ _ h => h) ?_
            simp only [Act.put, List.setIfInBounds_toArray, List.set_cons_zero, List.set_cons_succ]
            refine took_in 28 rfl (by kernel_rfl) (by kernel_rfl) (by kernel_rfl) (by rfl) hS (fun w' hS' => by go_simp <;> rfl) (fun _ _ _ h => h) ?_
            simp only [Act.put, List.setIfInBounds_toArray, List.set_cons_zero, List.set_cons_succ]
            refine took_in 29 rfl (by kernel_rfl) (by kernel_rfl) (by kernel_rfl) (by rfl) hS (fun w' hS' => by go_simp <;> rfl) (fun _ _ _ h => h) ?_
            simp only [Act.put, List.setIfInBounds_toArray, List.set_cons_zero, List.set_cons_succ]
            refine took_in 30 rfl (by kernel_rfl) (by kernel_rfl) (by kernel_rfl) (by rfl) hS (fun w' hS' => by go_simp <;> rfl) (fun _ _ _ h => h) ?_
            simp only [Act.put, List.setIfInBounds_toArray, List.set_cons_zero, List.set_cons_succ]
            refine took_in 31 rfl (by kernel_rfl) (by kernel_rfl) (by kernel_rfl) (by rfl) hS (fun w' hS' => by go_simp <;> rfl) (fun _ _ _ h => h) ?_
            simp only [Act.put, List.setIfInBounds_toArray, List.set_cons_zero, List.set_cons_succ]
            refine took_in 32 rfl (by kernel_rfl) (by kernel_rfl) (by kernel_rfl) (by rfl) hS (fun w' hS' => by go_simp <;> rfl) (fun _ _ _ h => h) ?_
            simp only [Act.put, List.setIfInBounds_toArray, List.set_cons_zero, List.set_cons_succ]
            refine took_in 33 rfl (by kernel_rfl) (by kernel_rfl) (by kernel_rfl) (by rfl) hS (fun w' hS' => by go_simp <;> rfl) (fun _ _ _ h => h) ?_
            simp only [Act.put, List.setIfInBounds_toArray, List.set_cons_zero, List.set_cons_succ]
            refine took_in 34 rfl (by kernel_rfl) (by kernel_rfl) (by kernel_rfl) (by rfl) hS (fun w' hS' => by have := f3 w' hS'; go_simp <;> rfl) (fun _ _ _ h => h) ?_
            simp only [Act.put, List.setIfInBounds_toArray, List.set_cons_zero, List.set_cons_succ]
            refine took_in 35 rfl (by kernel_rfl) (by kernel_rfl) (by kernel_rfl) (by rfl) hS (fun w' hS' => by go_simp <;> rfl) (fun _ _ _ h => h) ?_
            simp only [Act.put, List.setIfInBounds_toArray, List.set_cons_zero, List.set_cons_succ]
            refine took_in 36 rfl (by kernel_rfl) (by kernel_rfl) (by kernel_rfl) (by rfl) hS (fun w' hS' => by go_simp <;> rfl) (fun _ _ _ h => h) ?_
            simp only [Act.put, List.setIfInBounds_toArray, List.set_cons_zero, List.set_cons_succ]
            refine took_in 37 rfl (by kernel_rfl) (by kernel_rfl) (by kernel_rfl) (by rfl) hS (fun w' hS' => by go_simp <;> rfl) (fun _ _ _ h => h) ?_
            simp only [Act.put, List.setIfInBounds_toArray, List.set_cons_zero, List.set_cons_succ]
            refine took_in 38 rfl (by kernel_rfl) (by kernel_rfl) (by kernel_rfl) (by rfl) hS (fun w' hS' => by go_simp <;> rfl) (fun _ _ _ h => h) ?_
            simp only [Act.put, List.setIfInBounds_toArray, List.set_cons_zero, List.set_cons_succ]
            refine took_in 39 rfl (by kernel_rfl) (by kernel_rfl) (by kernel_rfl) (by rfl) hS (fun w' hS' => by have := f3p w' hS'; go_simp <;> rfl) (fun _ _ _ h => h) ?_
            simp only [Act.put, List.setIfInBounds_toArray, List.set_cons_zero, List.set_cons_succ]
            refine took_in 40 rfl (by kernel_rfl) (by kernel_rfl) (by kernel_rfl) (by rfl) hS (fun w' hS' => by go_simp <;> rfl) (fun _ _ _ h => h) ?_
            simp only [Act.put, List.setIfInBounds_toArray, List.set_cons_zero, List.set_cons_succ]
            refine took_in 41 rfl (by kernel_rfl) (by kernel_rfl) (by kernel_rfl) (by rfl) hS (fun w' hS' => by go_simp <;> rfl) (fun _ _ _ h => h) ?_
            simp only [Act.put, List.setIfInBounds_toArray, List.set_cons_zero, List.set_cons_succ]
            refine took_in 42 rfl (by kernel_rfl) (by kernel_rfl) (by kernel_rfl) (by rfl) hS (fun w' hS' => by go_simp <;> rfl) (fun _ _ _ h => h) ?_
            simp only [Act.put, List.setIfInBounds_toArray, List.set_cons_zero, List.set_cons_succ]
            refine took_in 43 rfl (by kernel_rfl) (by kernel_rfl) (by kernel_rfl) (by rfl) hS (fun w' hS' => by have := fg3 w' hS'; go_simp <;> rfl) (fun _ _ _ h => h) ?_
            simp only [Act.put, List.setIfInBounds_toArray, List.set_cons_zero, List.set_cons_succ]
            refine took_in 44 rfl (by kernel_rfl) (by kernel_rfl) (by kernel_rfl) (by rfl) hS (fun w' hS' => by go_simp <;> rfl) (fun _ _ _ h => h) ?_
            simp only [Act.put, List.setIfInBounds_toArray, List.set_cons_zero, List.set_cons_succ]
            refine call_in 45 rfl (by kernel_rfl) (by rfl) _ _ (by go_simp <;> first | rfl | exact ⟨rfl, rfl⟩) ?_
            refine (KAT.out _ hS).mono ?_
            rintro e x1 ⟨rfl, c1⟩
            refine ⟨c1, ?_⟩
            try dsimp only
            simp only [Act.put, List.setIfInBounds_toArray, List.set_cons_zero, List.set_cons_succ]
            refine took_in 46 rfl (by kernel_rfl) (by kernel_rfl) (by kernel_rfl) (by rfl) c1 (fun w' hS' => by go_simp <;> rfl) (fun _ _ _ h => h) ?_
            simp only [Act.put, List.setIfInBounds_toArray, List.set_cons_zero, List.set_cons_succ]
            refine took_in 47 rfl (by kernel_rfl) (by kernel_rfl) (by kernel_rfl) (by rfl) c1 (fun w' hS' => by go_simp <;> rfl) (fun _ _ _ h => h) ?_
            simp only [Act.put, List.setIfInBounds_toArray, List.set_cons_zero, List.set_cons_succ]
            refine took_in 48 rfl (by kernel_rfl) (by kernel_rfl) (by kernel_rfl) (by rfl) c1 (fun w' hS' => by go_simp <;> rfl) (fun _ _ _ h => h) ?_
            simp only [Act.put, List.setIfInBounds_toArray, List.set_cons_zero, List.set_cons_succ]
            refine took_in 49 rfl (by kernel_rfl) (by kernel_rfl) (by kernel_rfl) (by rfl) c1 (fun w' hS' => by go_simp <;> rfl) (fun _ _ _ h => h) ?_
            simp only [Act.put, List.setIfInBounds_toArray, List.set_cons_zero, List.set_cons_succ]
            refine took_in 50 rfl (by kernel_rfl) (by kernel_rfl) (by kernel_rfl) (by rfl) c1 (fun w' hS' => by go_simp <;> rfl) (fun _ _ _ h => h) ?_
            simp only [Act.put, List.setIfInBounds_toArray, List.set_cons_zero, List.set_cons_succ]
            refine took_load 51 rfl (by kernel_rfl) (by kernel_rfl) (by kernel_rfl) (by rfl) c1 29 (.tmp 219) rfl t4.heap.size 4 rfl [.int .i64 1, .int .u32 2] _ N4 Tryz.underlying29 rfl HSS.out (fun _ _ _ h => h) ?_
            simp only [Act.put, List.setIfInBounds_toArray, List.set_cons_zero, List.set_cons_succ]
            refine took_load 52 rfl (by kernel_rfl) (by kernel_rfl) (by kernel_rfl) (by rfl) c1 29 (.tmp 3) rfl v0.heap.size 0 rfl [.int .i64 1, .int .u32 2] _ NS Tryz.underlying29 rfl HSS.out (fun _ _ _ h => h) ?_
            simp only [Act.put, List.setIfInBounds_toArray, List.set_cons_zero, List.set_cons_succ]
            refine took_in 53 rfl (by kernel_rfl) (by kernel_rfl) (by kernel_rfl) (by rfl) c1 (fun w' hS' => by go_simp <;> rfl) (fun _ _ _ h => h) ?_
            simp only [Act.put, List.setIfInBounds_toArray, List.set_cons_zero, List.set_cons_succ]
            refine took_in 54 rfl (by kernel_rfl) (by kernel_rfl) (by kernel_rfl) (by rfl) c1 (fun w' hS' => by go_simp <;> rfl) (fun _ _ _ h => h) ?_
            simp only [Act.put, List.setIfInBounds_toArray, List.set_cons_zero, List.set_cons_succ]
            refine took_in 55 rfl (by kernel_rfl) (by kernel_rfl) (by kernel_rfl) (by rfl) c1 (fun w' hS' => by go_simp <;> rfl) (fun _ _ _ h => h) ?_
            simp only [Act.put, List.setIfInBounds_toArray, List.set_cons_zero, List.set_cons_succ]
            refine took_in 56 rfl (by kernel_rfl) (by kernel_rfl) (by kernel_rfl) (by rfl) c1 (fun w' hS' => by go_simp <;> rfl) (fun _ _ _ h => h) ?_
            simp only [Act.put, List.setIfInBounds_toArray, List.set_cons_zero, List.set_cons_succ]
            refine took_in 57 rfl (by kernel_rfl) (by kernel_rfl) (by kernel_rfl) (by rfl) c1 (fun w' hS' => by have := f5 w' hS'; go_simp <;> rfl) (fun _ _ _ h => h) ?_
            simp only [Act.put, List.setIfInBounds_toArray, List.set_cons_zero, List.set_cons_succ]
            refine give_in 58 rfl (by kernel_rfl) (by rfl) (.slice (some ⟨x1.heap.size, 0, none⟩) 2 2) (x1.alloc (.cells #[.string ⟨#[100]⟩, .string ⟨#[101]⟩] 9)) (by go_simp <;> first | rfl | exact ⟨rfl, rfl⟩) (belowA c1 _) ?_
            simp only [Act.put, List.setIfInBounds_toArray, List.set_cons_zero, List.set_cons_succ]
            have s2 : StrSl (x1.alloc (.cells #[.string ⟨#[100]⟩, .string ⟨#[101]⟩] 9)) (x1.alloc (.cells #[.string ⟨#[100]⟩, .string ⟨#[101]⟩] 9)).heap.size (some ⟨x1.heap.size, 0, none⟩) [[100], [101]] := two_strs x1 _ _
            refine call_in 59 rfl (by kernel_rfl) (by rfl) _ _ (by go_simp <;> first | rfl | exact ⟨rfl, rfl⟩) ?_
            refine (KTX.out _ _ (belowA c1 _) s2).mono ?_
            rintro e x2 ⟨rfl, c2⟩
            refine ⟨c2, ?_⟩
            try dsimp only
            simp only [Act.put, List.setIfInBounds_toArray, List.set_cons_zero, List.set_cons_succ]
            clear s2
            refine took_in 60 rfl (by kernel_rfl) (by kernel_rfl) (by kernel_rfl) (by rfl) c2 (fun w' hS' => by go_simp <;> rfl) (fun _ _ _ h => h) ?_
            simp only [Act.put, List.setIfInBounds_toArray, List.set_cons_zero, List.set_cons_succ]
            refine took_in 61 rfl (by kernel_rfl) (by kernel_rfl) (by kernel_rfl) (by rfl) c2 (fun w' hS' => by go_simp <;> rfl) (fun _ _ _ h => h) ?_
            simp only [Act.put, List.setIfInBounds_toArray, List.set_cons_zero, List.set_cons_succ]
            refine took_in 62 rfl (by kernel_rfl) (by kernel_rfl) (by kernel_rfl) (by rfl) c2 (fun w' hS' => by go_simp <;> rfl) (fun _ _ _ h => h) ?_
            simp only [Act.put, List.setIfInBounds_toArray, List.set_cons_zero, List.set_cons_succ]
            refine took_in 63 rfl (by kernel_rfl) (by kernel_rfl) (by kernel_rfl) (by rfl) c2 (fun w' hS' => by go_simp <;> rfl) (fun _ _ _ h => h) ?_
            simp only [Act.put, List.setIfInBounds_toArray, List.set_cons_zero, List.set_cons_succ]
            refine took_in 64 rfl (by kernel_rfl) (by kernel_rfl) (by kernel_rfl) (by rfl) c2 (fun w' hS' => by have := f5k w' hS'; go_simp <;> rfl) (fun _ _ _ h => h) ?_
            simp only [Act.put, List.setIfInBounds_toArray, List.set_cons_zero, List.set_cons_succ]
            refine took_in 65 rfl (by kernel_rfl) (by kernel_rfl) (by kernel_rfl) (by rfl) c2 (fun w' hS' => by go_simp <;> rfl) (fun _ _ _ h => h) ?_
            simp only [Act.put, List.setIfInBounds_toArray, List.set_cons_zero, List.set_cons_succ]
            refine took_in 66 rfl (by kernel_rfl) (by kernel_rfl) (by kernel_rfl) (by rfl) c2 (fun w' hS' => by go_simp <;> rfl) (fun _ _ _ h => h) ?_
            simp only [Act.put, List.setIfInBounds_toArray, List.set_cons_zero, List.set_cons_succ]
            refine took_in 67 rfl (by kernel_rfl) (by kernel_rfl) (by kernel_rfl) (by rfl) c2 (fun w' hS' => by go_simp <;> rfl) (fun _ _ _ h => h) ?_
            simp only [Act.put, List.setIfInBounds_toArray, List.set_cons_zero, List.set_cons_succ]
            refine took_in 68 rfl (by kernel_rfl) (by kernel_rfl) (by kernel_rfl) (by rfl) c2 (fun w' hS' => by go_simp <;> rfl) (fun _ _ _ h => h) ?_
            simp only [Act.put, List.setIfInBounds_toArray, List.set_cons_zero, List.set_cons_succ]
            refine took_in 69 rfl (by kernel_rfl) (by kernel_rfl) (by kernel_rfl) (by rfl) c2 (fun w' hS' => by have := f6 w' hS'; go_simp <;> rfl) (fun _ _ _ h => h) ?_
            simp only [Act.put, List.setIfInBounds_toArray, List.set_cons_zero, List.set_cons_succ]
            refine took_in 70 rfl (by kernel_rfl) (by kernel_rfl) (by kernel_rfl) (by rfl) c2 (fun w' hS' => by go_simp <;> rfl) (fun _ _ _ h => h) ?_
            simp only [Act.put, List.setIfInBounds_toArray, List.set_cons_zero, List.set_cons_succ]
            refine took_in 71 rfl (by kernel_rfl) (by kernel_rfl) (by kernel_rfl) (by rfl) c2 (fun w' hS' => by go_simp <;> rfl) (fun _ _ _ h => h) ?_
            simp only [Act.put, List.setIfInBounds_toArray, List.set_cons_zero, List.set_cons_succ]
            refine took_in 72 rfl (by kernel_rfl) (by kernel_rfl) (by kernel_rfl) (by rfl) c2 (fun w' hS' => by go_simp <;> rfl) (fun _ _ _ h => h) ?_
            simp only [Act.put, List.setIfInBounds_toArray, List.set_cons_zero, List.set_cons_succ]
            refine took_in 73 rfl (by kernel_rfl) (by kernel_rfl) (by kernel_rfl) (by rfl) c2 (fun w' hS' => by go_simp <;> rfl) (fun _ _ _ h => h) ?_
            simp only [Act.put, List.setIfInBounds_toArray, List.set_cons_zero, List.set_cons_succ]
            refine took_in 74 rfl (by kernel_rfl) (by kernel_rfl) (by kernel_rfl) (by rfl) c2 (fun w' hS' => by have := f7 w' hS'; go_simp <;> rfl) (fun _ _ _ h => h) ?_
            simp only [Act.put, List.setIfInBounds_toArray, List.set_cons_zero, List.set_cons_succ]
            refine took_in 75 rfl (by kernel_rfl) (by kernel_rfl) (by kernel_rfl) (by rfl) c2 (fun w' hS' => by go_simp <;> rfl) (fun _ _ _ h => h) ?_
            simp only [Act.put, List.setIfInBounds_toArray, List.set_cons_zero, List.set_cons_succ]
            refine took_in 76 rfl (by kernel_rfl) (by kernel_rfl) (by kernel_rfl) (by rfl) c2 (fun w' hS' => by go_simp <;> rfl) (fun _ _ _ h => h) ?_
            simp only [Act.put, List.setIfInBounds_toArray, List.set_cons_zero, List.set_cons_succ]
            refine took_in 77 rfl (by kernel_rfl) (by kernel_rfl) (by kernel_rfl) (by rfl) c2 (fun w' hS' => by go_simp <;> rfl) (fun _ _ _ h => h) ?_
            simp only [Act.put, List.setIfInBounds_toArray, List.set_cons_zero, List.set_cons_succ]
            refine call_in 78 rfl (by kernel_rfl) (by rfl) _ _ (by go_simp <;> first | rfl | exact ⟨rfl, rfl⟩) ?_
            refine (KWK.out _ c2).mono ?_
            rintro e x3 ⟨rfl, c3⟩
            refine ⟨c3, ?_⟩
            try dsimp only
            simp only [Act.put, List.setIfInBounds_toArray, List.set_cons_zero, List.set_cons_succ]
            refine took_in 79 rfl (by kernel_rfl) (by kernel_rfl) (by kernel_rfl) (by rfl) c3 (fun w' hS' => by go_simp <;> rfl) (fun _ _ _ h => h) ?_
            simp only [Act.put, List.setIfInBounds_toArray, List.set_cons_zero, List.set_cons_succ]
            refine took_in 80 rfl (by kernel_rfl) (by kernel_rfl) (by kernel_rfl) (by rfl) c3 (fun w' hS' => by go_simp <;> rfl) (fun _ _ _ h => h) ?_
            simp only [Act.put, List.setIfInBounds_toArray, List.set_cons_zero, List.set_cons_succ]
            refine wpAnyH_done (by kernel_rfl) ?_ _
            clear f1 f2 f2p f3 f3p f5 f5k f6 f7 fg2 fg3 N4 NS
            have HX := Lib.hid c3
            clear c1 c2 c3 hS
            go_wp2
            go_ret
            exact ⟨rfl, HBF.out.trans (HX.out.mono HBF.out.size)⟩

end Go.Proofs.YtnclkfhdpkkakaaGreatDoor

namespace Go.Proofs.YtnclkfhdpkkakaaGreatDoor
set_option linter.unusedVariables false
set_option linter.unusedSimpArgs false
open Go.RowKit Go.ChangeShapes Go.WideShapes
set_option maxRecDepth 100000 in
theorem opKnown_law {H : Type} (enc : TypeId × Value → H) (W : World) (hm : MaxInt W) (PT : PowTab W) :
    Calls Tryz.prog 7 #[] W fun e W' => e = .returned (.bool true) ∧ Below W.heap.size W W' := opKnown_core W hm PT
end Go.Proofs.YtnclkfhdpkkakaaGreatDoor
