/-
  Slices of a row of operations.
-/
import Derived.Test.YtnclkfhdpkkakaaGreatDoorJOpGrow
import Derived.Laws.AppendOwnNone
namespace Go.Proofs.YtnclkfhdpkkakaaGreatDoor
set_option linter.unusedVariables false
set_option linter.unusedSimpArgs false
open Go Go.RowKit Go.Shelf Go.MapKept Go.ChangeMaps Go.Maps Go.Sort
theorem elemOps : Tryz.prog.underlying 24 = some (.slice (Tryz.prog.elem 24)) := by kernel_rfl
theorem sizeOps (W : World) : (sizeOf (Tryz.prog.elem 24)).run Tryz.prog W = .ok 7 W := by kernel_rfl
theorem slice_hi (W : World) (g c n k : Nat) (h : k ≤ c) : (Instr.slice 24 (.slice (some ⟨g, 0, none⟩) n c) none (some (.int .i64 (k : Int))) none).run Tryz.prog W = .ok (.slice (some ⟨g, 0, none⟩) k c) W := by
  rw [run_slice_h W 24 (some ⟨g, 0, none⟩) n c elemOps .i64 (k : Int) (by omega) (by omega), sizeOps]
  simp only [Result.andThen, sliced, Int.toNat_natCast, Nat.zero_mul, Nat.sub_zero, Option.map_some, Addr.add_lit, Nat.zero_add]
  by_cases hc : c = 0
  · rw [if_pos hc]
  · rw [if_neg hc]
theorem slice_lo (W : World) (g c n k : Nat) (h : k ≤ n) (hc : n ≤ c) : (Instr.slice 24 (.slice (some ⟨g, 0, none⟩) n c) (some (.int .i64 (k : Int))) none none).run Tryz.prog W = .ok (.slice (some (if c = k then ⟨g, 0, none⟩ else ⟨g, k * 7, none⟩)) (n - k) (c - k)) W := by
  rw [run_slice_l W 24 (some ⟨g, 0, none⟩) n c elemOps .i64 (k : Int) (by omega) (by omega), sizeOps]
  simp only [Result.andThen, sliced, Int.toNat_natCast, Option.map_some, Addr.add_lit, Nat.zero_add]
  by_cases hk : c = k
  · rw [if_pos hk, if_pos hk]
  · rw [if_neg hk, if_neg hk]
theorem slice_none_hi (W : World) : (Instr.slice 24 (.slice none 0 0) none (some (.int .i64 ((0 : Nat) : Int))) none).run Tryz.prog W = .ok (.slice none 0 0) W := by
  rw [run_slice_h W 24 none 0 0 elemOps .i64 ((0 : Nat) : Int) (by omega) (by omega), sizeOps]
  rfl
theorem slice_none_lo (W : World) : (Instr.slice 24 (.slice none 0 0) (some (.int .i64 ((0 : Nat) : Int))) none none).run Tryz.prog W = .ok (.slice none 0 0) W := by
  rw [run_slice_l W 24 none 0 0 elemOps .i64 ((0 : Nat) : Int) (by omega) (by omega), sizeOps]
  rfl
def flatO (Q : List RawO) : List Value := Q.flatMap RawO.cells
theorem flatO_len : ∀ Q : List RawO, (flatO Q).length = Q.length * 7
  | [] => rfl
  | q :: Q => by
    unfold flatO
    rw [List.flatMap_cons, List.length_append]
    have := flatO_len Q
    unfold flatO at this
    rw [this, List.length_cons]
    show 7 + _ = _
    omega
theorem flatO_append (Q R : List RawO) : flatO (Q ++ R) = flatO Q ++ flatO R := by unfold flatO; rw [List.flatMap_append]
theorem flatO_at : ∀ (L : List RawO) (k : Nat) (r : RawO), L[k]? = some r → ∀ j u, r.cells[j]? = some u → (flatO L)[k * 7 + j]? = some u
  | [], k, r, h, j, u, hu => by simp at h
  | x :: L, 0, r, h, j, u, hu => by
    simp at h
    subst h
    unfold flatO
    rw [List.flatMap_cons, Nat.zero_mul, Nat.zero_add, List.getElem?_append_left (List.getElem?_eq_some_iff.1 hu).1]
    exact hu
  | x :: L, k + 1, r, h, j, u, hu => by
    have h' : L[k]? = some r := by simpa using h
    have ih := flatO_at L k r h' j u hu
    unfold flatO at ih ⊢
    rw [List.flatMap_cons, List.getElem?_append_right (by show 7 ≤ _; omega), show (k + 1) * 7 + j - x.cells.length = k * 7 + j by show (k + 1) * 7 + j - 7 = _; omega]
    exact ih
/-- A row's two slices at k. -/
theorem row_slices {W5 : World} {base n k : Nat} {v : Value} {Q : List RawO} (own : W5.ownsRow base 26 7 v n (flatO Q)) (hn : n = Q.length) (hv0 : n = 0 → v = .slice none 0 0) (hk : k ≤ n) :
    ∃ (x1 : Option Addr) (c1 : Nat) (x2 : Option Addr) (c2 : Nat), (∀ W, (Instr.slice 24 v none (some (.int .i64 (k : Int))) none).run Tryz.prog W = .ok (.slice x1 k c1) W) ∧ (x1 = none → k = 0 ∧ c1 = 0) ∧ (∀ ad, x1 = some ad → ∀ W, Below W5.heap.size W5 W → ∀ j u, (flatO (Q.take k))[j]? = some u → W.cell? (ad.add j) = some u)
      ∧ (∀ W, (Instr.slice 24 v (some (.int .i64 (k : Int))) none none).run Tryz.prog W = .ok (.slice x2 (n - k) c2) W) ∧ (x2 = none → n - k = 0 ∧ c2 = 0) ∧ (∀ ad, x2 = some ad → ∀ W, Below W5.heap.size W5 W → ∀ j u, (flatO (Q.drop k))[j]? = some u → W.cell? (ad.add j) = some u) := by
  by_cases h0 : n = 0
  · have hv := hv0 h0
    subst hv
    obtain rfl : k = 0 := by omega
    rw [h0]
    exact ⟨none, 0, none, 0, slice_none_hi, fun _ => ⟨rfl, rfl⟩, fun ad h => (by cases h), slice_none_lo, fun _ => ⟨rfl, rfl⟩, fun ad h => (by cases h)⟩
  · have hcells := fun g (hg : v.ownBlock = some g) => own.cells hg
    have hlt := fun g (hg : v.ownBlock = some g) => (own.lt g hg).2
    rcases own.2 with ⟨_, h1⟩ | ⟨g, cap, cur, rfl, _, _, hnc, _⟩
    · exact absurd h1 h0
    · have hcell := hcells g rfl
      have hg := hlt g rfl
      have hW : ∀ W, Below W5.heap.size W5 W → ∀ j u, (flatO Q)[j]? = some u → W.cell? ⟨g, j, none⟩ = some u := fun W hb j u hu => by
        have := hcell j u hu
        rw [Addr.add_lit, Nat.zero_add] at this
        exact (hb.cell (p := ⟨g, j, none⟩) hg).trans this
      have hsp : flatO Q = flatO (Q.take k) ++ flatO (Q.drop k) := by rw [← flatO_append, List.take_append_drop]
      have htl : (flatO (Q.take k)).length = k * 7 := by rw [flatO_len, List.length_take]; congr 1; omega
      refine ⟨some ⟨g, 0, none⟩, cap, _, cap - k, fun W => slice_hi W g cap n k (by omega), fun h => (by cases h), fun ad h W hb j u hu => ?_, fun W => slice_lo W g cap n k hk hnc, fun h => (by cases h), fun ad h W hb j u hu => ?_⟩
      · cases h
        rw [Addr.add_lit, Nat.zero_add]
        refine hW W hb j u ?_
        rw [hsp, List.getElem?_append_left (List.getElem?_eq_some_iff.1 hu).1]
        exact hu
      · by_cases hc : cap = k
        · have : Q.drop k = [] := List.drop_eq_nil_of_le (by omega)
          rw [this] at hu
          simp [flatO] at hu
        · rw [if_neg hc] at h
          cases h
          rw [Addr.add_lit]
          refine hW W hb (k * 7 + j) u ?_
          rw [hsp, List.getElem?_append_right (by omega), htl, show k * 7 + j - k * 7 = j by omega]
          exact hu
theorem OpsAt.mono {w : World} {n m : Nat} {pa : Option Addr} {R : List RawO} (h : OpsAt w n pa R) (hle : n ≤ m) : OpsAt w m pa R := by
  induction hle with
  | refl => exact h
  | step _ ih => exact ih.up
/-- A new row of operations, as a check sees it. -/
theorem row_opAt {W w : World} {base n : Nat} {v : Value} {R : List RawO} {D : Nat} (own : W.ownsRow base 26 7 v n (flatO R)) (hn : n = R.length) (hb : Below w.heap.size w W) (hR : ∀ r ∈ R, r.dn ≤ maxLen ∧ ∃ Q, r.pn = Q.length ∧ OpsAt w D r.pa Q) :
    ∃ na nc, v = .slice na n nc ∧ OpAtN W (D + 1) na (R.map RawO.info) := by
  obtain ⟨na, nc, hv⟩ := row_form own
  refine ⟨na, nc, hv, fun k i hk => ?_⟩
  rw [List.getElem?_map] at hk
  obtain ⟨r, hr, rfl⟩ := Option.map_eq_some_iff.1 hk
  obtain ⟨h1, Q, h2, h3⟩ := hR r (List.mem_of_getElem? hr)
  have hkl := (List.getElem?_eq_some_iff.1 hr).1
  rcases own.2 with ⟨_, h0⟩ | ⟨g, cap, cur, he, _, _, _, _⟩
  · omega
  · obtain rfl : na = some ⟨g, 0, none⟩ := (Value.slice.inj (hv.symm.trans he)).1
    have hob : v.ownBlock = some g := by rw [he]; rfl
    refine ⟨g, 0, r, Q.map RawO.info, rfl, (own.lt g hob).2, fun j u hu => ?_, rfl, by rw [List.length_map]; exact h2, h1, OpAtN.below hb h3.chk⟩
    have := own.cells (g := g) hob (k * 7 + j) u (flatO_at R k r hr j u hu)
    rw [Addr.add_lit, Nat.zero_add] at this
    rw [show 0 + k * 7 + j = k * 7 + j by omega]
    exact this
section
variable {P : Program} {l : List Oper} {Q : Exit → Act → World → Prop} {md : Region.Mode} {S : World → Prop}
/-- Two operations may come up. -/
theorem alt_in (i j : Nat) {oi oj : Oper} {r r' : List Oper} {fuel : Nat} {listed : Array Bool} {a : Act} {w : World} (hi : l.drop i = oi :: r) (hj : l.drop j = oj :: r')
    (hr : Region.ready md l.toArray listed = [i, j]) (hwi : Region.wanted oi (yielded l.toArray a.tmps) = true) (hwj : Region.wanted oj (yielded l.toArray a.tmps) = true)
    (h1 : Oper.wp P oi a w (fun a' w' => S w' ∧ wpAnyH P md l.toArray Q S fuel (listed.setIfInBounds i true) a' w') Q)
    (h2 : Oper.wp P oj a w (fun a' w' => S w' ∧ wpAnyH P md l.toArray Q S fuel (listed.setIfInBounds j true) a' w') Q) : wpAnyH P md l.toArray Q S (fuel + 1) listed a w := by
  refine wpAnyH_all hr (by simp) fun k hk => ?_
  rcases (show k = i ∨ k = j by simpa using hk) with rfl | rfl
  · unfold wpOp
    rw [drop_get hi]
    dsimp only
    rw [if_pos hwi]
    exact .inl h1
  · unfold wpOp
    rw [drop_get hj]
    dsimp only
    rw [if_pos hwj]
    exact .inl h2
theorem wp_gives {o : Oper} {a : Act} {w w' : World} {v : Value} {K : Act → World → Prop} (hx : (execOp a.eval o).run P w = .ok (.value v) w') (h : K (a.put o.dst v) w') : Oper.wp P o a w K Q := by
  unfold Oper.wp
  rw [hx, Oper.upon_value]
  exact h
end
/-- append, of a slice that may be nil. -/
theorem wp_append_any {P : Program} {w : World} {o : Oper} {a : Act} {K : Act → World → Prop} {Q : Exit → Act → World → Prop} (s x : Operand) (t : TypeId)
    (ho : o.op = .call { callee := .builtin .append, args := #[s, x], argTypes := #[t, t] })
    (base : Nat) (e : TypeId) (i : TypeInfo) (z : Value) (size bytes : Nat) (ht : P.underlying t = some (.slice e)) (hi : P.info? e = some i) (hz : i.zero = some z)
    (hsize : i.size = size) (hby : i.bytes = bytes) (hzs : z.cells.size = size) (hsz : 0 < size)
    (v : Value) (n : Nat) (xs : List Value) (hs : a.eval s = v) (hown : w.ownsRow base e size v n xs)
    (xo : Option Addr) (m c : Nat) (news : List Value) (hx : a.eval x = .slice xo m c) (hno : xo = none → m = 0 ∧ c = 0) (hl : news.length = m * size) (hnews : ∀ ad, xo = some ad → ∀ j u, news[j]? = some u → w.cell? (ad.add j) = some u) (h1 : ∀ u ∈ news, u.oneCell' = true)
    (h63 : n + m ≤ maxLen) (hbytes : (n + m) * bytes ≤ 140737488355328) (hbase : base ≤ w.heap.size)
    (h : ∀ v' w', w'.ownsRow base e size v' (n + m) (xs ++ news) → w.grownBy w' v.ownBlock → (∀ k, v'.ownBlock = some k → v.ownBlock = some k ∨ w.heap.size ≤ k) → K (a.put o.dst v') w') : o.wp P a w K Q := by
  cases xo with
  | some ad => exact wp_append_new s x t ho base e i z size bytes ht hi hz hsize hby hzs hsz v n xs hs hown ad m c news hx hl (hnews ad rfl) h1 h63 hbytes hbase h
  | none =>
    obtain ⟨rfl, rfl⟩ := hno rfl
    obtain rfl : news = [] := List.eq_nil_of_length_eq_zero (by omega)
    have hrun := run_append_owned_none (P := P) (w := w) base t o.type e i size ht hi v n xs hown
    unfold Oper.wp
    simp [execOp, ho, resolve, invoke, builtin, hs, hx, hrun, Result.andThen]
    exact h v w (by simpa using hown) ⟨rfl, rfl, rfl, Nat.le_refl _, fun _ _ _ => rfl⟩ (fun k hk => .inl hk)
end Go.Proofs.YtnclkfhdpkkakaaGreatDoor
