/-
  Rows of effects: those that came in, all cells one-celled; a row that the call owns.
-/
import Derived.Test.YtfbimhbdifmeoaaDoorWtE
import Derived.Test.YtfbimhbdifmeoaaDoorWtA
namespace Go.Proofs.YtfbimhbdifmeoaaDoor
set_option linter.unusedVariables false
set_option linter.unusedSimpArgs false
open Go.RowKit Go.ChangeShapes Go.WideShapes Go.Deep

theorem cells54 : Tryd.prog.cellsOf 54 = 9 := by kernel_rfl
theorem cells51 : Tryd.prog.cellsOf 51 = 1 := by kernel_rfl
theorem cells52 : Tryd.prog.cellsOf 52 = 1 := by kernel_rfl
def one' (v : Value) : Prop := v.oneCell' = true
/-- Effects as cells. -/
def EffCells (p : Bytes) (cs : List Value) : Prop := ∃ rest, cs = .string (bs p) :: rest ∧ rest.length = 10 ∧ ∀ u ∈ rest, u.oneCell' = true
theorem EffCells.len {p : Bytes} {cs : List Value} (h : EffCells p cs) : cs.length = 11 := by
  obtain ⟨r, rfl, hr, _⟩ := h
  simp [hr]
theorem EffCells.one {p : Bytes} {cs : List Value} (h : EffCells p cs) : ∀ u ∈ cs, u.oneCell' = true := by
  obtain ⟨r, rfl, hr, h1⟩ := h
  intro u hu
  rcases List.mem_cons.1 hu with rfl | hu
  · rfl
  · exact h1 u hu
section
variable {H : Type} {enc : TypeId × Value → H} {w : World} {base : Nat} {spare : Nat → Bool} {held : Bool}
theorem slice_one {fuel : Nat} {t e : TypeId} (ht : Tryd.prog.underlying t = some (.slice e)) {cs : List Value} {x : DataW H × List MemPlace} (h : DataW.trod enc Tryd.prog w base spare held fuel t cs = some x) : ∃ v, cs = [v] ∧ v.oneCell' = true := by
  rcases DataW.trod_slice ht h with ⟨rfl, _⟩ | ⟨a, len, cap, _, _, _, _, rfl, _⟩
  · exact ⟨_, rfl, rfl⟩
  · exact ⟨_, rfl, rfl⟩
theorem slice_none {fuel : Nat} {t e : TypeId} (ht : Tryd.prog.underlying t = some (.slice e)) {len cap : Nat} {x : DataW H × List MemPlace} (h : DataW.trod enc Tryd.prog w base spare held fuel t [.slice none len cap] = some x) : len = 0 ∧ cap = 0 := by
  rcases DataW.trod_slice ht h with ⟨h1, _⟩ | ⟨a, len', cap', _, _, _, _, h1, _⟩
  · simp at h1; exact h1
  · simp at h1
set_option maxRecDepth 100000 in
theorem node_one {fuel : Nat} {cs : List Value} {y : DataW H × List MemPlace} (h : DataW.trod enc Tryd.prog w base spare held fuel 54 cs = some y) : cs.length = 9 ∧ ∀ u ∈ cs, u.oneCell' = true := by
  obtain ⟨xs, n, _, _, hl, hx, hf⟩ := DataW.trod_struct Tryd.underlying54 h
  rw [cells54] at hl
  refine ⟨hl, ?_⟩
  match cs, hl with
  | [c0, c1, c2, c3, c4, c5, c6, c7, c8], _ =>
    match xs, hx with
    | [y0, y1, y2, y3, y4, y5, y6, y7], _ =>
      have g0 : DataW.trod enc Tryd.prog w base spare held n 51 (([c0, c1, c2, c3, c4, c5, c6, c7, c8].drop 0).take (Tryd.prog.cellsOf 51)) = some y0 := hf 0 _ rfl
      have g1 : DataW.trod enc Tryd.prog w base spare held n 30 (([c0, c1, c2, c3, c4, c5, c6, c7, c8].drop 1).take (Tryd.prog.cellsOf 30)) = some y1 := hf 1 _ rfl
      have g2 : DataW.trod enc Tryd.prog w base spare held n 30 (([c0, c1, c2, c3, c4, c5, c6, c7, c8].drop 2).take (Tryd.prog.cellsOf 30)) = some y2 := hf 2 _ rfl
      have g3 : DataW.trod enc Tryd.prog w base spare held n 30 (([c0, c1, c2, c3, c4, c5, c6, c7, c8].drop 3).take (Tryd.prog.cellsOf 30)) = some y3 := hf 3 _ rfl
      have g4 : DataW.trod enc Tryd.prog w base spare held n 32 (([c0, c1, c2, c3, c4, c5, c6, c7, c8].drop 4).take (Tryd.prog.cellsOf 32)) = some y4 := hf 4 _ rfl
      have g5 : DataW.trod enc Tryd.prog w base spare held n 52 (([c0, c1, c2, c3, c4, c5, c6, c7, c8].drop 6).take (Tryd.prog.cellsOf 52)) = some y5 := hf 5 _ rfl
      have g6 : DataW.trod enc Tryd.prog w base spare held n 52 (([c0, c1, c2, c3, c4, c5, c6, c7, c8].drop 7).take (Tryd.prog.cellsOf 52)) = some y6 := hf 6 _ rfl
      have g7 : DataW.trod enc Tryd.prog w base spare held n 52 (([c0, c1, c2, c3, c4, c5, c6, c7, c8].drop 8).take (Tryd.prog.cellsOf 52)) = some y7 := hf 7 _ rfl
      rw [cells51] at g0
      rw [cells30] at g1 g2 g3
      rw [cells32] at g4
      rw [cells52] at g5 g6 g7
      obtain ⟨v0, e0, h0⟩ := slice_one Tryd.underlying51 g0
      obtain ⟨n1, e1, _⟩ := DataW.trod_int Tryd.underlying30 g1
      obtain ⟨n2, e2, _⟩ := DataW.trod_int Tryd.underlying30 g2
      obtain ⟨n3, e3, _⟩ := DataW.trod_int Tryd.underlying30 g3
      obtain ⟨n4, n5, e4, _⟩ := session_cells g4
      obtain ⟨n6, e6, _⟩ := DataW.trod_int Tryd.underlying52 g5
      obtain ⟨n7, e7, _⟩ := DataW.trod_int Tryd.underlying52 g6
      obtain ⟨n8, e8, _⟩ := DataW.trod_int Tryd.underlying52 g7
      simp at e0 e1 e2 e3 e4 e6 e7 e8
      obtain ⟨rfl, rfl⟩ := e4
      subst e0 e1 e2 e3 e6 e7 e8
      intro u hu
      simp at hu
      rcases hu with rfl | rfl | rfl | rfl | rfl | rfl | rfl | rfl | rfl
      · exact h0
      all_goals rfl
set_option maxRecDepth 100000 in
theorem eff_cells2 {fuel : Nat} {cs : List Value} {y : DataW H × List MemPlace} (h : DataW.trod enc Tryd.prog w base spare held fuel 56 cs = some y) : ∃ p, EffCells p cs ∧ p.length ≤ maxLen := by
  obtain ⟨xs, n, _, _, hl, hx, hf⟩ := DataW.trod_struct Tryd.underlying56 h
  rw [cells56] at hl
  match cs, hl with
  | c0 :: c1 :: rest, hl =>
    match xs, hx with
    | [y0, y1, y2], _ =>
      have g0 : DataW.trod enc Tryd.prog w base spare held n 9 (((c0 :: c1 :: rest).drop 0).take (Tryd.prog.cellsOf 9)) = some y0 := hf 0 _ rfl
      have g1 : DataW.trod enc Tryd.prog w base spare held n 4 (((c0 :: c1 :: rest).drop 1).take (Tryd.prog.cellsOf 4)) = some y1 := hf 1 _ rfl
      have g2 : DataW.trod enc Tryd.prog w base spare held n 54 (((c0 :: c1 :: rest).drop 2).take (Tryd.prog.cellsOf 54)) = some y2 := hf 2 _ rfl
      rw [cells9] at g0
      rw [cells4] at g1
      rw [cells54] at g2
      obtain ⟨s, e0, _, hs⟩ := DataW.trod_string Tryd.underlying9 g0
      obtain ⟨p, rfl⟩ := str_open s
      obtain ⟨k, e1, _⟩ := DataW.trod_bool Tryd.underlying4 g1
      obtain ⟨_, h2⟩ := node_one g2
      simp at e0 e1
      subst e0 e1
      rw [size_bs] at hs
      have hl9 : rest.length = 9 := by simpa using hl
      refine ⟨p, ⟨_, rfl, by simp [hl9], fun u hu => ?_⟩, hs⟩
      rcases List.mem_cons.1 hu with rfl | hu
      · rfl
      · refine h2 u ?_
        simp only [List.drop_succ_cons, List.drop_zero]
        rw [List.take_of_length_le (by omega)]
        exact hu
/-- Effects that came in: each one's cells. -/
def EffsOne (w : World) (B : Nat) (ao : Option Addr) (P : List Bytes) : Prop :=
  ∃ E : List (List Value), E.length = P.length ∧ ∀ k cs, E[k]? = some cs → ∃ p b off, P[k]? = some p ∧ EffCells p cs ∧ ao = some ⟨b, off, none⟩ ∧ b < B ∧ w.rangeAt b (off + k * 11) cs
set_option maxRecDepth 100000 in
theorem effs_open2 {fuel : Nat} {ao : Option Addr} {len cap : Nat} {y : DataW H × List MemPlace} (h : DataW.trod enc Tryd.prog w base spare held fuel 35 [.slice ao len cap] = some y) {P : List Bytes} (hP : EffsAt w w.heap.size ao P) (hPl : len = P.length) :
    EffsOne w w.heap.size ao P := by
  obtain ⟨ao', len', cap', hcs, hl, hm, hi⟩ := rows_open (P := Tryd.prog) Tryd.underlying35 cells56 (by omega) h
  simp at hcs
  obtain ⟨rfl, rfl, rfl⟩ := hcs
  have key : ∀ i, i < len → ∃ cs : List Value, ∃ p b off, P[i]? = some p ∧ EffCells p cs ∧ ao = some ⟨b, off, none⟩ ∧ b < w.heap.size ∧ w.rangeAt b (off + i * 11) cs := fun i hil => by
    obtain ⟨b, off, cs', n', y', h1, h2, h3, h4, h5⟩ := hi i hil
    obtain ⟨p, h6, h7⟩ := eff_cells2 h5
    obtain ⟨q, hq⟩ : ∃ q, P[i]? = some q := ⟨_, List.getElem?_eq_getElem (by omega)⟩
    obtain ⟨b2, off2, rest2, h1', h2', _, h4'⟩ := hP i q hq
    have hpq : q = p := by
      rw [h1] at h1'
      simp at h1'
      obtain ⟨rfl, rfl⟩ := h1'
      obtain ⟨r, rfl, _, _⟩ := h6
      have e1 := h4 0 _ rfl
      have e2 := h4' 0 _ rfl
      rw [e1] at e2
      simp at e2
      have := eq_bs p q
      rw [e2] at this
      simpa [eq_comm] using this
    subst hpq
    exact ⟨cs', q, b, off, hq, h6, h1, h2, h4⟩
  obtain ⟨E, hE, hat⟩ := list_of _ len key
  exact ⟨E, by omega, hat⟩
/-- What an act bears besides. -/
structure ActOne (w : World) (a : ActD) : Prop where
  effs : EffsOne w w.heap.size a.ao a.P
  none : a.ao = none → a.P = [] ∧ a.c = 0
set_option maxRecDepth 100000 in
theorem act_cells2 {fuel : Nat} {cs : List Value} {y : DataW H × List MemPlace} (h : DataW.trod enc Tryd.prog w base spare held fuel 37 cs = some y) :
    ∃ a : ActD, cs = a.cells ∧ ActOk w w.heap.size a ∧ ActOne w a := by
  obtain ⟨a, rfl, ha⟩ := act_cells h
  refine ⟨a, rfl, ha, ?_⟩
  obtain ⟨xs, n, _, _, hl, hx, hf⟩ := DataW.trod_struct Tryd.underlying37 h
  match xs, hx with
  | [y0, y1, y2], _ =>
    have g2 : DataW.trod enc Tryd.prog w base spare held n 35 ((a.cells.drop 5).take (Tryd.prog.cellsOf 35)) = some y2 := hf 2 _ rfl
    rw [cells35, show (a.cells.drop 5).take 1 = [.slice a.ao a.P.length a.c] from rfl] at g2
    refine ⟨effs_open2 g2 ha.effs rfl, fun hn => ?_⟩
    rw [hn] at g2
    obtain ⟨h1, h2⟩ := slice_none Tryd.underlying35 g2
    exact ⟨List.eq_nil_of_length_eq_zero h1, h2⟩
set_option maxRecDepth 100000 in
theorem acts_open2 {v : Value} {d : DataW H} {p : List MemPlace} (h : DataW.Trod enc Tryd.prog w base spare held 22 v d p) {bb : Nat} (hv : Value.okWide Tryd.prog w .any bb 22 v) :
    ∃ ao c A, v = .slice ao A.length c ∧ A.length ≤ c ∧ c ≤ maxLen ∧ ActsAt w w.heap.size ao A ∧ ∀ a ∈ A, ActOne w a := by
  obtain ⟨a0, len, cap, rfl⟩ := okWide_slice Tryd.underlying22 hv
  obtain ⟨fuel, hf⟩ := h
  obtain ⟨ao, len', cap', hcs, hl, hm, hi⟩ := rows_open (P := Tryd.prog) Tryd.underlying22 cells37 (by omega) hf
  simp [Value.cells] at hcs
  obtain ⟨rfl, rfl, rfl⟩ := hcs
  have key : ∀ i, i < len → ∃ a : ActD, ActOne w a ∧ ActOk w w.heap.size a ∧ ∃ b off, a0 = some ⟨b, off, none⟩ ∧ b < w.heap.size ∧ w.rangeAt b (off + i * 6) a.cells := fun i hil => by
    obtain ⟨b, off, cs', n', y', h1, h2, h3, h4, h5⟩ := hi i hil
    obtain ⟨a, rfl, h6, h7⟩ := act_cells2 h5
    exact ⟨a, h7, h6, b, off, h1, h2, h4⟩
  have hA := list_of _ len key
  obtain ⟨A, rfl, hat⟩ := hA
  refine ⟨a0, cap, A, rfl, hl, hm, fun k a hk => (hat k a hk).2, fun a ha => ?_⟩
  obtain ⟨i, hi⟩ := List.getElem?_of_mem ha
  exact (hat i a hi).1
end

/-! rows of equal cells -/
theorem flatten_len {α : Type} {n : Nat} : ∀ {E : List (List α)}, (∀ c ∈ E, c.length = n) → E.flatten.length = E.length * n
  | [], _ => by simp
  | a :: r, h => by
    rw [List.flatten_cons, List.length_append, flatten_len (E := r) (fun c hc => h c (List.mem_cons_of_mem _ hc)), h a (List.mem_cons_self ..), List.length_cons, Nat.add_mul]
    omega
theorem flatten_at {α : Type} {n : Nat} : ∀ {E : List (List α)}, (∀ c ∈ E, c.length = n) → ∀ (k : Nat) (c : List α) (j : Nat) (v : α), E[k]? = some c → c[j]? = some v → E.flatten[k * n + j]? = some v
  | [], _, k, c, j, v, h, _ => by simp at h
  | a :: r, h, 0, c, j, v, hk, hj => by
    simp at hk
    subst hk
    rw [List.flatten_cons, Nat.zero_mul, Nat.zero_add, List.getElem?_append_left (List.getElem?_eq_some_iff.1 hj).1]
    exact hj
  | a :: r, h, k + 1, c, j, v, hk, hj => by
    simp at hk
    have ha := h a (List.mem_cons_self ..)
    rw [List.flatten_cons, List.getElem?_append_right (by rw [ha, Nat.add_mul]; omega), ha, show (k + 1) * n + j - n = k * n + j by rw [Nat.add_mul]; omega]
    exact flatten_at (fun c hc => h c (List.mem_cons_of_mem _ hc)) k c j v hk hj
theorem flatten_inv {α : Type} {n : Nat} (hn : 0 < n) : ∀ {E : List (List α)}, (∀ c ∈ E, c.length = n) → ∀ (i : Nat) (v : α), E.flatten[i]? = some v → ∃ k c j, i = k * n + j ∧ E[k]? = some c ∧ c[j]? = some v
  | [], _, i, v, h => by simp at h
  | a :: r, h, i, v, hv => by
    have ha := h a (List.mem_cons_self ..)
    rw [List.flatten_cons] at hv
    by_cases hi : i < n
    · rw [List.getElem?_append_left (by omega)] at hv
      exact ⟨0, a, i, by omega, rfl, hv⟩
    · rw [List.getElem?_append_right (by omega), ha] at hv
      obtain ⟨k, c, j, e, h1, h2⟩ := flatten_inv hn (fun c hc => h c (List.mem_cons_of_mem _ hc)) (i - n) v hv
      exact ⟨k + 1, c, j, by rw [Nat.add_mul]; omega, by simpa using h1, h2⟩
/-- A row of effects, as cells. -/
def EffRow (E : List (List Value)) (P : List Bytes) : Prop := E.length = P.length ∧ ∀ (k : Nat) (cs : List Value), E[k]? = some cs → ∃ p, P[k]? = some p ∧ EffCells p cs
theorem EffRow.nil : EffRow [] [] := ⟨rfl, fun k cs h => by simp at h⟩
theorem EffRow.len {E : List (List Value)} {P : List Bytes} (h : EffRow E P) : ∀ c ∈ E, c.length = 11 := fun c hc => by
  obtain ⟨k, hk⟩ := List.getElem?_of_mem hc
  obtain ⟨p, _, h1⟩ := h.2 k c hk
  exact h1.len
theorem EffRow.one {E : List (List Value)} {P : List Bytes} (h : EffRow E P) : ∀ u ∈ E.flatten, u.oneCell' = true := fun u hu => by
  obtain ⟨c, hc, hu⟩ := List.mem_flatten.1 hu
  obtain ⟨k, hk⟩ := List.getElem?_of_mem hc
  obtain ⟨p, _, h1⟩ := h.2 k c hk
  exact h1.one u hu
theorem EffRow.append {E F : List (List Value)} {P Q : List Bytes} (h : EffRow E P) (g : EffRow F Q) : EffRow (E ++ F) (P ++ Q) := by
  refine ⟨by simp [h.1, g.1], fun k cs hk => ?_⟩
  by_cases hlt : k < E.length
  · rw [List.getElem?_append_left hlt] at hk
    obtain ⟨p, hp, hc⟩ := h.2 k cs hk
    exact ⟨p, by rw [List.getElem?_append_left (by rw [← h.1]; exact hlt)]; exact hp, hc⟩
  · rw [List.getElem?_append_right (by omega)] at hk
    obtain ⟨p, hp, hc⟩ := g.2 _ cs hk
    exact ⟨p, by rw [List.getElem?_append_right (by rw [← h.1]; omega), ← h.1]; exact hp, hc⟩
theorem EffsOne.row {w : World} {B : Nat} {ao : Option Addr} {P : List Bytes} (h : EffsOne w B ao P) : ∃ F, EffRow F P ∧ ∀ b off, ao = some ⟨b, off, none⟩ → (P ≠ [] → b < B) ∧ ∀ j u, F.flatten[j]? = some u → w.cell? ⟨b, off + j, none⟩ = some u := by
  obtain ⟨E, hl, hE⟩ := h
  have hr : EffRow E P := ⟨hl, fun k cs hk => by obtain ⟨p, b, off, h1, h2, _⟩ := hE k cs hk; exact ⟨p, h1, h2⟩⟩
  refine ⟨E, hr, fun b off he => ⟨fun hne => ?_, fun j u hj => ?_⟩⟩
  · have : 0 < E.length := by rw [hl]; exact List.length_pos_iff.2 hne
    obtain ⟨p, b2, off2, _, _, h3, h4, _⟩ := hE 0 _ (List.getElem?_eq_getElem this)
    rw [he] at h3
    cases h3
    exact h4
  · obtain ⟨k, c, i, rfl, hk, hi⟩ := flatten_inv (by omega) hr.len j u hj
    obtain ⟨p, b2, off2, _, _, h3, _, h5⟩ := hE k c hk
    rw [he] at h3
    cases h3
    rw [← Nat.add_assoc]
    exact h5 i u hi
/-- A row of effects that the call owns. -/
theorem effs_row {w : World} {B : Nat} {a : Option Addr} {c : Nat} {E : List (List Value)} {P : List Bytes} (hr : EffRow E P) (h : w.ownsRow B 56 11 (.slice a E.length c) E.length E.flatten) : EffsAt w w.heap.size a P := by
  intro k p hk
  have hkE : k < E.length := by rw [hr.1]; exact (List.getElem?_eq_some_iff.1 hk).1
  obtain ⟨q, hq, rest, hcs, hrl, _⟩ := hr.2 k _ (List.getElem?_eq_getElem hkE)
  rw [hk] at hq
  cases hq
  rcases h.2 with ⟨h1, h0⟩ | ⟨g, cap, cur, h1, hbg, hg, _⟩
  · omega
  · cases h1
    refine ⟨g, 0, rest, rfl, (Array.getElem?_eq_some_iff.1 hg).1, hrl, fun j v hv => ?_⟩
    have := h.cells (g := g) rfl (k * 11 + j) v (flatten_at hr.len k _ j v (List.getElem?_eq_getElem hkE) (by rw [hcs]; exact hv))
    rw [Addr.add_lit, Nat.zero_add] at this
    rw [show 0 + k * 11 + j = k * 11 + j by omega]
    exact this
end Go.Proofs.YtfbimhbdifmeoaaDoor
