/-
  A map of bools that serves as a set: look-up, store, delete, length; watches as keys.
-/
import Derived.Test.YtfbimhbdifmeoaaDoorWtE
import Derived.Test.YtfbimhbdifmeoaaDoorWtA
namespace Go.Proofs.YtfbimhbdifmeoaaDoor
set_option linter.unusedVariables false
set_option linter.unusedSimpArgs false
open Go.RowKit Go.MapKept Go.ChangeMaps
open Go.Maps (Keyed)
section
variable {κ : Type} [DecidableEq κ]
def addK (a : κ) (l : List κ) : List κ := if l.contains a then l else l ++ [a]
theorem putA_addK (a : κ) : ∀ g : List κ, putA a true (g.map (·, true)) = (addK a g).map (·, true)
  | [] => by simp [putA, addK]
  | p :: r => by
    simp only [List.map_cons, putA]
    by_cases h : p = a
    · simp [h, addK]
    · have h' : (a == p) = false := by simpa using fun e => h e.symm
      simp only [if_neg h]
      rw [putA_addK a r]
      simp only [addK, List.contains_cons, h', Bool.false_or]
      split <;> simp
theorem getA_set {a : κ} : ∀ {g : List κ}, ((getA a (g.map (·, true))).map Value.bool).getD (.bool false) = .bool (g.contains a)
  | [] => by simp [getA]
  | p :: r => by
    simp only [List.map_cons, getA]
    by_cases h : p = a
    · simp [h]
    · simp only [if_neg h, List.contains_cons]
      rw [getA_set]
      have : (a == p) = false := by simpa using fun e => h e.symm
      simp [this]
theorem mem_addK {a p : κ} {g : List κ} : p ∈ addK a g ↔ p = a ∨ p ∈ g := by
  unfold addK
  split
  · rename_i h
    have h : a ∈ g := by simpa using h
    constructor
    · exact .inr
    · rintro (rfl | h1)
      · exact h
      · exact h1
  · simp [or_comm]
theorem addK_nodup {a : κ} {g : List κ} (h : g.Nodup) : (addK a g).Nodup := by
  unfold addK
  split
  · exact h
  · rename_i hn
    refine List.nodup_append.2 ⟨h, by simp, ?_⟩
    intro x hx y hy e
    simp at hy
    subst hy
    subst e
    exact hn (by simpa using hx)
theorem addK_len (a : κ) (g : List κ) : (addK a g).length ≤ g.length + 1 := by
  unfold addK; split <;> simp

variable {P : Program} {k : TypeId} {fk : κ → Value} {w : World} {b : Nat} {g : List κ}
/-- Block b is a set: its members are g. -/
def SetAt (P : Program) (k : TypeId) (fk : κ → Value) (w : World) (b : Nat) (g : List κ) : Prop := HasMap P k fk Value.bool w b (g.map (·, true))
omit [DecidableEq κ] in
theorem SetAt.made (P : Program) (k : TypeId) (fk : κ → Value) (w : World) : SetAt P k fk (w.alloc (.map #[] 0)) w.heap.size ([] : List κ) := HasMap.made P k fk Value.bool w
omit [DecidableEq κ] in
theorem SetAt.lt (h : SetAt P k fk w b g) : b < w.heap.size := HasMap.lt h
omit [DecidableEq κ] in
theorem SetAt.of_block (h : SetAt P k fk w b g) {w' : World} (hb : w'.heap[b]? = w.heap[b]?) : SetAt P k fk w' b g := HasMap.of_block h hb
omit [DecidableEq κ] in
theorem SetAt.kept (h : SetAt P k fk w b g) {S : Nat → Prop} {w' : World} (hk : Kept S w w') (hn : ¬ S b) : SetAt P k fk w' b g := HasMap.kept h hk hn
omit [DecidableEq κ] in
theorem SetAt.nodup (h : SetAt P k fk w b g) : g.Nodup := by
  have := HasMap.nodup h
  simpa [List.map_map, Function.comp_def] using this
theorem SetAt.look (h : SetAt P k fk w b g) (K : Keyed P k) (hinj : ∀ x y, fk x = fk y → x = y) {t e : TypeId} (ht : P.underlying t = some (.map k e)) (hz : ∀ w, (zeroValue e).run P w = .ok (.bool false) w)
    {a : κ} {l : Lit} (ha : keyOf P k (fk a) = some l) : (Instr.lookup t (.map (some b)) (fk a) false).run P w = .ok (.bool (g.contains a)) w := by
  have := HasMap.lookup h K hinj ht (hz w) ha
  rwa [getA_set] at this
theorem SetAt.store (h : SetAt P k fk w b g) (K : Keyed P k) (hinj : ∀ x y, fk x = fk y → x = y) {t e : TypeId} (ht : P.underlying t = some (.map k e))
    {a : κ} {l : Lit} (ha : keyOf P k (fk a) = some l) :
    ∃ o, ∀ w' : World, w'.heap[b]? = w.heap[b]? → (Instr.mapUpdate t (.map (some b)) (fk a) (.bool true)).run P w' = .ok () (setBlock w' b o) ∧ SetAt P k fk (setBlock w' b o) b (addK a g) ∧ Kept (· = b) w' (setBlock w' b o) := by
  obtain ⟨o, ho⟩ := HasMap.update h K hinj ht true ha
  refine ⟨o, fun w' hb => ?_⟩
  obtain ⟨h1, h2⟩ := ho w' hb
  have hlt : b < w'.heap.size := by
    obtain ⟨es, c, h5, _⟩ := h
    exact lt_of_block (hb.trans h5)
  refine ⟨h1, ?_, kept_setBlock hlt o⟩
  unfold SetAt
  rw [← putA_addK]
  exact h2
omit [DecidableEq κ] in
theorem HasMap.size {ν : Type} {fv : ν → Value} {m : List (κ × ν)} (h : HasMap P k fk fv w b m) : ∃ es c, w.heap[b]? = some (.map es c) ∧ es.size = m.length := by
  obtain ⟨es, c, hb, _, _, hm⟩ := h
  refine ⟨es, c, hb, ?_⟩
  have := congrArg List.length hm
  simpa using this
omit [DecidableEq κ] in
theorem HasMap.run_len {ν : Type} {fv : ν → Value} {m : List (κ × ν)} (h : HasMap P k fk fv w b m) {t e : TypeId} (ht : P.underlying t = some (.map k e)) (ty : TypeId) :
    (Builtin.len_ #[t] ty #[.map (some b)]).run P w = .ok (.int .i64 (m.length : Int)) w := by
  obtain ⟨es, c, hb, hs⟩ := h.size
  simp [Builtin.len_, run_underlying ht, MapKept.run_getObj_map hb, goInt, hs]
omit [DecidableEq κ] in
/-- 'len(m)', at the operation. -/
theorem wpList_len_has {ν : Type} {fv : ν → Value} {m : List (κ × ν)} {ops : Array Oper} {rest : List Oper} {o : Oper} {a : Act} {Q : Exit → Act → World → Prop}
    (h : HasMap P k fk fv w b m) (x : Operand) (t e : TypeId) (hg : o.guard = none) (hop : o.op = Op.call { callee := Callee.builtin Builtin.len, args := #[x], argTypes := #[t] })
    (ht : P.underlying t = some (.map k e)) (hm : a.eval x = .map (some b)) (hK : wpList P ops Q rest (a.put o.dst (.int .i64 (m.length : Int))) w) : wpList P ops Q (o :: rest) a w := by
  refine wpList_plain hg fun K' hK' => ?_
  unfold Oper.wp
  simp [execOp, hop, resolve, invoke, builtin, hm, h.run_len ht o.type, Result.andThen]
  exact hK' _ _ hK

/-- 'delete(m, k)', in whatever world that holds the map's block. -/
theorem HasMap.drop {ν : Type} {fv : ν → Value} {m : List (κ × ν)} (h : HasMap P k fk fv w b m) (K : Keyed P k) (hinj : ∀ x y, fk x = fk y → x = y) {t e : TypeId} (ht : P.underlying t = some (.map k e))
    {a : κ} {l : Lit} (ha : keyOf P k (fk a) = some l) :
    ∃ o, (∀ (w' : World) (ty : TypeId), w'.heap[b]? = w.heap[b]? → (Builtin.delete_ #[t, k] ty #[.map (some b), fk a]).run P w' = .ok (.tuple #[]) (setBlock w' b o) ∧ HasMap P k fk fv (setBlock w' b o) b (delA a m)) := by
  obtain ⟨es, c, hb0, hst, hkeys, hm⟩ := h
  rcases HasMap.find K hinj hkeys hst.2.2 hm ha w with ⟨_, h2, h3⟩ | ⟨j, e0, u, _, h2, h3, hv, hmj, h4⟩
  · refine ⟨.map es c, fun w' ty hw' => ?_⟩
    have hb := hw'.trans hb0
    rcases HasMap.find K hinj hkeys hst.2.2 hm ha w' with ⟨h1, _, _⟩ | ⟨j', e', u', _, _, _, _, _, h9⟩
    · refine ⟨?_, es, c, heap_setBlock_same hb _, hst, hkeys, ?_⟩
      · simp [Builtin.delete_, run_underlying ht, MapKept.run_getObj_map hb, K.check w' _ ha, h1, MapKept.run_setObj_map _ hb, Result.andThen, setBlock]
      · rw [delA_new (getA_none.1 h3)]
        exact hm
    · rw [h3] at h9
      cases h9
  · have hjs : j < es.size := by simpa using (List.getElem?_eq_some_iff.1 h2).1
    have hsub : (es.eraseIdxIfInBounds j).toList = es.toList.eraseIdx j := by
      unfold Array.eraseIdxIfInBounds
      rw [dif_pos hjs]
      simp
    refine ⟨.map (es.eraseIdxIfInBounds j) c, fun w' ty hw' => ?_⟩
    have hb := hw'.trans hb0
    rcases HasMap.find K hinj hkeys hst.2.2 hm ha w' with ⟨_, h6, _⟩ | ⟨j', e', u', h1, h6, h7, _, hmj', _⟩
    · exact absurd h3 (h6 e0 (List.mem_of_getElem? h2))
    · have hn := keys_nodup hm hst.2.2
      have hjj : j' = j := by
        have h8 : (m.map (·.1))[j']? = some a := by simp [hmj']
        have h9 : (m.map (·.1))[j]? = some a := by simp [hmj]
        obtain ⟨g1, g2⟩ := List.getElem?_eq_some_iff.1 h8
        obtain ⟨g3, g4⟩ := List.getElem?_eq_some_iff.1 h9
        exact (List.getElem_inj hn).1 (g2.trans g4.symm)
      subst hjj
      refine ⟨?_, es.eraseIdxIfInBounds j', c, heap_setBlock_same hb _, stamped_erase hst j', ?_, ?_⟩
      · simp [Builtin.delete_, run_underlying ht, MapKept.run_getObj_map hb, K.check w' _ ha, h1, MapKept.run_setObj_map _ hb, Result.andThen, setBlock]
      · intro x hx
        rw [hsub] at hx
        exact hkeys x ((List.eraseIdx_sublist _ _).subset hx)
      · rw [hsub, delA_of_at hn hmj, map_eraseIdx, hm, map_eraseIdx]
def delK (a : κ) (g : List κ) : List κ := g.filter fun x => !decide (x = a)
theorem delA_delK (a : κ) : ∀ {g : List κ}, g.Nodup → delA a (g.map (·, true)) = (delK a g).map (·, true)
  | [], _ => rfl
  | p :: r, hn => by
    simp only [List.nodup_cons] at hn
    simp only [List.map_cons, delA, delK, List.filter_cons]
    by_cases h : p = a
    · subst h
      simp only [if_true, decide_true, Bool.not_true, Bool.false_eq_true, if_false]
      congr 1
      rw [eq_comm, List.filter_eq_self]
      intro x hx
      have : x ≠ p := fun e => hn.1 (e ▸ hx)
      simp [this]
    · simp only [h, if_false, decide_false, Bool.not_false, if_true, List.map_cons]
      rw [delA_delK a hn.2]
      rfl
theorem SetAt.drop (h : SetAt P k fk w b g) (K : Keyed P k) (hinj : ∀ x y, fk x = fk y → x = y) {t e : TypeId} (ht : P.underlying t = some (.map k e))
    {a : κ} {l : Lit} (ha : keyOf P k (fk a) = some l) :
    ∃ o, ∀ (w' : World) (ty : TypeId), w'.heap[b]? = w.heap[b]? → (Builtin.delete_ #[t, k] ty #[.map (some b), fk a]).run P w' = .ok (.tuple #[]) (setBlock w' b o) ∧ SetAt P k fk (setBlock w' b o) b (delK a g) ∧ Kept (· = b) w' (setBlock w' b o) := by
  obtain ⟨o, ho⟩ := HasMap.drop h K hinj ht ha
  refine ⟨o, fun w' ty hb => ?_⟩
  obtain ⟨h1, h2⟩ := ho w' ty hb
  have hlt : b < w'.heap.size := by
    obtain ⟨es, c, h5, _⟩ := h
    exact lt_of_block (hb.trans h5)
  refine ⟨h1, ?_, kept_setBlock hlt o⟩
  unfold SetAt
  rw [← delA_delK a h.nodup]
  exact h2
end

/-! watches as keys -/
theorem row44 : (44 : TypeId) < Tryd.prog.types.size := of_decide_eq_true (by kernel_rfl)
set_option maxRecDepth 100000 in
theorem wide44 : (match Tryd.prog.underlying 44 with | some (.array _ _) | some (.struct _) => true | _ => false) = true := by
  have h := Tryd.underlying44
  revert h
  generalize Tryd.prog.underlying 44 = u
  rintro rfl
  rfl
set_option maxRecDepth 100000 in
theorem key44 : Keyed Tryd.prog 44 := Keyed.of_law (deep_law_laid Tryd.laidOut (m := 3) (by omega) row44 (by kernel_rfl) wide44)
theorem keyType44 : Tryd.prog.keyType 44 = true := by kernel_rfl
theorem Ev.val_inj : ∀ x y : Ev, x.val = y.val → x = y := by
  rintro ⟨a, b, c, d⟩ ⟨a', b', c', d'⟩ h
  simp [Ev.val, Ev.cells] at h
  obtain ⟨h1, h2, h3, h4⟩ := h
  have h3 : c = c' := by
    have := eq_bs c c'
    rw [h3] at this
    simpa using this.symm
  subst h1 h2 h3 h4
  rfl
theorem typesSize : Tryd.prog.types.size = (Tryd.prog.types.size - 2) + 2 := by kernel_rfl
theorem cells44' : Tryd.prog.cellsOf 44 = 4 := by kernel_rfl
theorem I64.wf {n : Int} (h : I64 n) : (Lit.int .i64 n).wf = true := by
  obtain ⟨h1, h2⟩ := h
  simp [Lit.wf, IntKind.min, IntKind.max, IntKind.signed, IntKind.bits]
  omega
theorem U32.wf {n : Int} (h : U32 n) : (Lit.int .u32 n).wf = true := by
  obtain ⟨h1, h2⟩ := h
  simp [Lit.wf, IntKind.min, IntKind.max, IntKind.signed, IntKind.bits]
  omega
theorem keyLits32 (d : Nat) (x y : Int) (w1 : (Lit.int .i64 x).wf = true) (w2 : (Lit.int .u32 y).wf = true) :
    Tryd.prog.keyLits (d + 2) 32 [.int .i64 x, .int .u32 y] = some [.int .i64 x, .int .u32 y] := by
  simp [Program.keyLits, Tryd.underlying32, cells32, cells3, cells30, Tryd.underlying3, Tryd.underlying30, w1, w2]
theorem keyLits44 (d : Nat) (x : Ev) (h : EvOk x) : Tryd.prog.keyLits (d + 3) 44 x.cells = some [.int .i64 x.site, .int .u32 x.num, .string (bs x.path).data.toList, .bool x.kids] := by
  have := h.path
  simp [Program.keyLits, Ev.cells, Tryd.underlying44, Tryd.underlying32, Tryd.underlying3, Tryd.underlying30, Tryd.underlying9, Tryd.underlying4, cells44', cells32, cells9, cells4, cells3, cells30, h.site.wf, h.num.wf, size_bs, this]
  rw [if_pos (by decide +kernel)]
  rfl
theorem ev_key {x : Ev} (h : EvOk x) : ∃ l, keyOf Tryd.prog 44 x.val = some l := by
  refine ⟨.string (keyBytes [.int .i64 x.site, .int .u32 x.num, .string (bs x.path).data.toList, .bool x.kids]), ?_⟩
  unfold keyOf
  rw [Tryd.underlying44]
  dsimp only
  rw [keyType44, typesSize, show ((Tryd.prog.types.size - 2) + 2 + 1 : Nat) = (Tryd.prog.types.size - 2) + 3 from rfl, show x.val.cells.toList = x.cells from rfl, keyLits44 _ _ h,
    show x.val.formed Tryd.prog 44 = true by simp [Ev.val, Ev.cells, Value.formed, Tryd.underlying44, cells44']]
  rfl
end Go.Proofs.YtfbimhbdifmeoaaDoor
