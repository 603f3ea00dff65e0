/-
  A map of bools that serves as a set: its members, in the order in which they came. Look-up, store, length.
-/
import Derived.Test.YtinkoackknmjlaaMaps
namespace Go.Proofs.Ytinkoackknmjlaa
open Go.RowKit Go.MapKept Go.ChangeMaps
open Go.Maps (Keyed)
section
variable {κ : Type} [DecidableEq κ]
def addK (a : κ) (l : List κ) : List κ := if l.contains a then l else l ++ [a]
theorem putA_addK (a : κ) : ∀ g : List κ, putA a true (g.map (·, true)) = (addK a g).map (·, true)
  | [] => by simp [putA, addK]
  | p :: r => by
    simp only [List.map_cons, putA]
    by_cases h : p = a
    · simp [h, addK]
    · have h' : (a == p) = false := by simpa using fun e => h e.symm
      simp only [if_neg h]
      rw [putA_addK a r]
      simp only [addK, List.contains_cons, h', Bool.false_or]
      split <;> simp
theorem getA_set {a : κ} : ∀ {g : List κ}, ((getA a (g.map (·, true))).map Value.bool).getD (.bool false) = .bool (g.contains a)
  | [] => by simp [getA]
  | p :: r => by
    simp only [List.map_cons, getA]
    by_cases h : p = a
    · simp [h]
    · simp only [if_neg h, List.contains_cons]
      rw [getA_set]
      have : (a == p) = false := by simpa using fun e => h e.symm
      simp [this]
theorem mem_addK {a p : κ} {g : List κ} : p ∈ addK a g ↔ p = a ∨ p ∈ g := by
  unfold addK
  split
  · rename_i h
    have h : a ∈ g := by simpa using h
    constructor
    · exact .inr
    · rintro (rfl | h1)
      · exact h
      · exact h1
  · simp [or_comm]
theorem addK_nodup {a : κ} {g : List κ} (h : g.Nodup) : (addK a g).Nodup := by
  unfold addK
  split
  · exact h
  · rename_i hn
    refine List.nodup_append.2 ⟨h, by simp, ?_⟩
    intro x hx y hy e
    simp at hy
    subst hy
    subst e
    exact hn (by simpa using hx)
theorem addK_len (a : κ) (g : List κ) : (addK a g).length ≤ g.length + 1 := by
  unfold addK; split <;> simp

variable {P : Program} {k : TypeId} {fk : κ → Value} {w : World} {b : Nat} {g : List κ}
/-- Block b is a set: its members are g. -/
def SetAt (P : Program) (k : TypeId) (fk : κ → Value) (w : World) (b : Nat) (g : List κ) : Prop := HasMap P k fk Value.bool w b (g.map (·, true))
omit [DecidableEq κ] in
theorem SetAt.made (P : Program) (k : TypeId) (fk : κ → Value) (w : World) : SetAt P k fk (w.alloc (.map #[] 0)) w.heap.size ([] : List κ) := HasMap.made P k fk Value.bool w
omit [DecidableEq κ] in
theorem SetAt.lt (h : SetAt P k fk w b g) : b < w.heap.size := HasMap.lt h
omit [DecidableEq κ] in
theorem SetAt.of_block (h : SetAt P k fk w b g) {w' : World} (hb : w'.heap[b]? = w.heap[b]?) : SetAt P k fk w' b g := HasMap.of_block h hb
omit [DecidableEq κ] in
theorem SetAt.kept (h : SetAt P k fk w b g) {S : Nat → Prop} {w' : World} (hk : Kept S w w') (hn : ¬ S b) : SetAt P k fk w' b g := HasMap.kept h hk hn
omit [DecidableEq κ] in
theorem SetAt.nodup (h : SetAt P k fk w b g) : g.Nodup := by
  have := HasMap.nodup h
  simpa [List.map_map, Function.comp_def] using this
theorem SetAt.look (h : SetAt P k fk w b g) (K : Keyed P k) (hinj : ∀ x y, fk x = fk y → x = y) {t e : TypeId} (ht : P.underlying t = some (.map k e)) (hz : ∀ w, (zeroValue e).run P w = .ok (.bool false) w)
    {a : κ} {l : Lit} (ha : keyOf P k (fk a) = some l) : (Instr.lookup t (.map (some b)) (fk a) false).run P w = .ok (.bool (g.contains a)) w := by
  have := HasMap.lookup h K hinj ht (hz w) ha
  rwa [getA_set] at this
theorem SetAt.store (h : SetAt P k fk w b g) (K : Keyed P k) (hinj : ∀ x y, fk x = fk y → x = y) {t e : TypeId} (ht : P.underlying t = some (.map k e))
    {a : κ} {l : Lit} (ha : keyOf P k (fk a) = some l) :
    ∃ o, ∀ w' : World, w'.heap[b]? = w.heap[b]? → (Instr.mapUpdate t (.map (some b)) (fk a) (.bool true)).run P w' = .ok () (setBlock w' b o) ∧ SetAt P k fk (setBlock w' b o) b (addK a g) ∧ Kept (· = b) w' (setBlock w' b o) := by
  obtain ⟨o, ho⟩ := HasMap.update h K hinj ht true ha
  refine ⟨o, fun w' hb => ?_⟩
  obtain ⟨h1, h2⟩ := ho w' hb
  have hlt : b < w'.heap.size := by
    obtain ⟨es, c, h5, _⟩ := h
    exact lt_of_block (hb.trans h5)
  refine ⟨h1, ?_, kept_setBlock hlt o⟩
  unfold SetAt
  rw [← putA_addK]
  exact h2
omit [DecidableEq κ] in
theorem HasMap.size {ν : Type} {fv : ν → Value} {m : List (κ × ν)} (h : HasMap P k fk fv w b m) : ∃ es c, w.heap[b]? = some (.map es c) ∧ es.size = m.length := by
  obtain ⟨es, c, hb, _, _, hm⟩ := h
  refine ⟨es, c, hb, ?_⟩
  have := congrArg List.length hm
  simpa using this
omit [DecidableEq κ] in
theorem HasMap.run_len {ν : Type} {fv : ν → Value} {m : List (κ × ν)} (h : HasMap P k fk fv w b m) {t e : TypeId} (ht : P.underlying t = some (.map k e)) (ty : TypeId) :
    (Builtin.len_ #[t] ty #[.map (some b)]).run P w = .ok (.int .i64 (m.length : Int)) w := by
  obtain ⟨es, c, hb, hs⟩ := h.size
  simp [Builtin.len_, run_underlying ht, MapKept.run_getObj_map hb, goInt, hs]
omit [DecidableEq κ] in
/-- 'len(m)', at the operation. -/
theorem wpList_len_has {ν : Type} {fv : ν → Value} {m : List (κ × ν)} {ops : Array Oper} {rest : List Oper} {o : Oper} {a : Act} {Q : Exit → Act → World → Prop}
    (h : HasMap P k fk fv w b m) (x : Operand) (t e : TypeId) (hg : o.guard = none) (hop : o.op = Op.call { callee := Callee.builtin Builtin.len, args := #[x], argTypes := #[t] })
    (ht : P.underlying t = some (.map k e)) (hm : a.eval x = .map (some b)) (hK : wpList P ops Q rest (a.put o.dst (.int .i64 (m.length : Int))) w) : wpList P ops Q (o :: rest) a w := by
  refine wpList_plain hg fun K' hK' => ?_
  unfold Oper.wp
  simp [execOp, hop, resolve, invoke, builtin, hm, h.run_len ht o.type, Result.andThen]
  exact hK' _ _ hK
end
end Go.Proofs.Ytinkoackknmjlaa
