/-
  Maps of known entries: length, delete, the entry's way back.
-/
import Derived.Test.YtkhoeiapfoaapaaDoorMaps
import Derived.WideKeyEntry
namespace Go.Proofs.YtkhoeiapfoaapaaDoor
set_option linter.unusedVariables false
set_option linter.unusedSimpArgs false
set_option linter.unusedVariables false
set_option linter.unusedSimpArgs false
open Go.RowKit Go.MapKept Go.ChangeMaps Go.WideElems
open Go.Maps (Keyed)
section
variable {κ ν : Type} [DecidableEq κ] {P : Program} {k : TypeId} {fk : κ → Value} {fv : ν → Value} {w : World} {b : Nat} {m : List (κ × ν)}
omit [DecidableEq κ] in
theorem HasMap.size (h : HasMap P k fk fv w b m) : ∃ es c, w.heap[b]? = some (.map es c) ∧ es.size = m.length := by
  obtain ⟨es, c, hb, _, _, hm⟩ := h
  refine ⟨es, c, hb, ?_⟩
  have := congrArg List.length hm
  simpa using this
omit [DecidableEq κ] in
theorem HasMap.run_len (h : HasMap P k fk fv w b m) {t e : TypeId} (ht : P.underlying t = some (.map k e)) (ty : TypeId) :
    (Builtin.len_ #[t] ty #[.map (some b)]).run P w = .ok (.int .i64 (m.length : Int)) w := by
  obtain ⟨es, c, hb, hs⟩ := h.size
  simp [Builtin.len_, run_underlying ht, MapKept.run_getObj_map hb, goInt, hs]
omit [DecidableEq κ] in
/-- 'len(m)', at the operation. -/
theorem wpList_len_has {ops : Array Oper} {rest : List Oper} {o : Oper} {a : Act} {Q : Exit → Act → World → Prop}
    (h : HasMap P k fk fv w b m) (x : Operand) (t e : TypeId) (hg : o.guard = none) (hop : o.op = Op.call { callee := Callee.builtin Builtin.len, args := #[x], argTypes := #[t] })
    (ht : P.underlying t = some (.map k e)) (hm : a.eval x = .map (some b)) (hK : wpList P ops Q rest (a.put o.dst (.int .i64 (m.length : Int))) w) : wpList P ops Q (o :: rest) a w := by
  refine wpList_plain hg fun K' hK' => ?_
  unfold Oper.wp
  simp [execOp, hop, resolve, invoke, builtin, hm, h.run_len ht o.type, Result.andThen]
  exact hK' _ _ hK

/-- 'delete(m, k)', in whatever world that holds the map's block. -/
theorem HasMap.drop (h : HasMap P k fk fv w b m) (K : Keyed P k) (hinj : ∀ x y, fk x = fk y → x = y) {t e : TypeId} (ht : P.underlying t = some (.map k e))
    {a : κ} {l : Lit} (ha : keyOf P k (fk a) = some l) :
    ∃ o, (∀ (w' : World) (ty : TypeId), w'.heap[b]? = w.heap[b]? → (Builtin.delete_ #[t, k] ty #[.map (some b), fk a]).run P w' = .ok (.tuple #[]) (setBlock w' b o) ∧ HasMap P k fk fv (setBlock w' b o) b (delA a m)) := by
  obtain ⟨es, c, hb0, hst, hkeys, hm⟩ := h
  rcases HasMap.find K hinj hkeys hst.2.2 hm ha w with ⟨_, h2, h3⟩ | ⟨j, e0, u, _, h2, h3, hv, hmj, h4⟩
  · refine ⟨.map es c, fun w' ty hw' => ?_⟩
    have hb := hw'.trans hb0
    rcases HasMap.find K hinj hkeys hst.2.2 hm ha w' with ⟨h1, _, _⟩ | ⟨j', e', u', _, _, _, _, _, h9⟩
    · refine ⟨?_, es, c, heap_setBlock_same hb _, hst, hkeys, ?_⟩
      · simp [Builtin.delete_, run_underlying ht, MapKept.run_getObj_map hb, K.check w' _ ha, h1, MapKept.run_setObj_map _ hb, Result.andThen, setBlock]
      · rw [delA_new (getA_none.1 h3)]
        exact hm
    · rw [h3] at h9
      cases h9
  · have hjs : j < es.size := by simpa using (List.getElem?_eq_some_iff.1 h2).1
    have hsub : (es.eraseIdxIfInBounds j).toList = es.toList.eraseIdx j := by
      unfold Array.eraseIdxIfInBounds
      rw [dif_pos hjs]
      simp
    refine ⟨.map (es.eraseIdxIfInBounds j) c, fun w' ty hw' => ?_⟩
    have hb := hw'.trans hb0
    rcases HasMap.find K hinj hkeys hst.2.2 hm ha w' with ⟨_, h6, _⟩ | ⟨j', e', u', h1, h6, h7, _, hmj', _⟩
    · exact absurd h3 (h6 e0 (List.mem_of_getElem? h2))
    · have hn := keys_nodup hm hst.2.2
      have hjj : j' = j := by
        have h8 : (m.map (·.1))[j']? = some a := by simp [hmj']
        have h9 : (m.map (·.1))[j]? = some a := by simp [hmj]
        obtain ⟨g1, g2⟩ := List.getElem?_eq_some_iff.1 h8
        obtain ⟨g3, g4⟩ := List.getElem?_eq_some_iff.1 h9
        exact (List.getElem_inj hn).1 (g2.trans g4.symm)
      subst hjj
      refine ⟨?_, es.eraseIdxIfInBounds j', c, heap_setBlock_same hb _, stamped_erase hst j', ?_, ?_⟩
      · simp [Builtin.delete_, run_underlying ht, MapKept.run_getObj_map hb, K.check w' _ ha, h1, MapKept.run_setObj_map _ hb, Result.andThen, setBlock]
      · intro x hx
        rw [hsub] at hx
        exact hkeys x ((List.eraseIdx_sublist _ _).subset hx)
      · rw [hsub, delA_of_at hn hmj, map_eraseIdx, hm, map_eraseIdx]
theorem getA_push {a : κ} {v : ν} : ∀ {m : List (κ × ν)}, getA a m = none → getA a (m ++ [(a, v)]) = some v
  | [], _ => by simp [getA]
  | p :: r, h => by
    unfold getA at h
    split at h
    · cases h
    · rename_i hp
      simp only [List.cons_append, getA, if_neg hp]
      exact getA_push h
theorem HasMap.entry (h : HasMap P k fk fv w b m) (K : Keyed P k) (hinj : ∀ x y, fk x = fk y → x = y) {t e : TypeId} (ht : P.underlying t = some (.map k e)) {z0 : ν} (hz : ∀ u : World, (zeroValue e).run P u = .ok (fv z0) u)
    {a : κ} {l : Lit} (ha : keyOf P k (fk a) = some l) (v : ν) :
    ∃ (st : Nat) (o1 o2 : Obj), (Instr.mapEntry t (.map (some b)) (fk a)).run P w = .ok (.tuple #[fv ((getA a m).getD z0), goInt st]) (setBlock w b o1) ∧
      (Instr.lookup t (.map (some b)) (fk a) false).run P (setBlock w b o1) = .ok (fv ((getA a m).getD z0)) (setBlock w b o1) ∧
      (Instr.entryStore t (.map (some b)) (goInt st) (fv v)).run P (setBlock w b o1) = .ok () (setBlock (setBlock w b o1) b o2) ∧ HasMap P k fk fv (setBlock (setBlock w b o1) b o2) b (putA a v m) := by
  have h0 := h
  obtain ⟨es, c, hb, hst, hkeys, hm⟩ := h
  obtain ⟨s1, s2, s3⟩ := hst
  rcases HasMap.find K hinj hkeys s3 hm ha w with ⟨h1, h2, h3⟩ | ⟨j, e0, u, h1, h2, h3, hv, hmj, h4⟩
  · have hmid : HasMap P k fk fv (setBlock w b (.map (es.push ⟨fk a, fv z0, c⟩) (c + 1))) b (m ++ [(a, z0)]) := by
      refine ⟨es.push ⟨fk a, fv z0, c⟩, c + 1, heap_setBlock_same hb _, stamped_push ⟨s1, s2, s3⟩ h2, ?_, ?_⟩
      · intro x hx
        simp only [Array.toList_push, List.mem_append, List.mem_singleton] at hx
        rcases hx with hx | rfl
        · exact hkeys x hx
        · exact ⟨l, ha⟩
      · simp [hm]
    have hb2 : (setBlock w b (.map (es.push ⟨fk a, fv z0, c⟩) (c + 1))).heap[b]? = some (.map (es.push ⟨fk a, fv z0, c⟩) (c + 1)) := heap_setBlock_same hb _
    refine ⟨c, .map (es.push ⟨fk a, fv z0, c⟩) (c + 1), .map (es.push ⟨fk a, fv v, c⟩) (c + 1), ?_, ?_, ?_, ?_⟩
    · simp [Instr.mapEntry, run_underlying ht, MapKept.run_getObj_map hb, K.check w false ha, h1, hz, h3, MapKept.run_setObj_map _ hb, Result.andThen, setBlock]
    · have := hmid.lookup K hinj ht (hz _) ha
      rw [getA_push h3] at this
      rw [h3]
      exact this
    · have hidx : (es.push ⟨fk a, fv z0, c⟩).findIdx? (fun e => ((e.born : Nat) : Int) == ((c : Nat) : Int)) = some es.size := by
        rw [findIdx_arr]
        have := findIdx_born (l := (es.push ⟨fk a, fv z0, c⟩).toList) (j := es.size) (e0 := ⟨fk a, fv z0, c⟩) (by
          simp only [Array.toList_push, List.map_append, List.map_cons, List.map_nil]
          refine List.nodup_append.2 ⟨s2, by simp, fun a ha c hc e1 => ?_⟩
          simp only [List.mem_singleton] at hc
          obtain ⟨x, hx, rfl⟩ := List.mem_map.1 ha
          have := s1 x hx
          omega) (by simp)
        exact this
      have hmod : (es.push ⟨fk a, fv z0, c⟩).modify es.size (fun e => { e with val := fv v }) = es.push ⟨fk a, fv v, c⟩ := by
        apply Array.ext'
        rw [Array.toList_modify, Array.toList_push, Array.toList_push, ← Array.length_toList, modify_last]
      clear hmid
      generalize setBlock w b _ = w2 at hb2 ⊢
      simp [Instr.entryStore, MapKept.run_getObj_map hb2, asInt, asIntOf, goInt, hidx, hmod, MapKept.run_setObj_map _ hb2, Result.andThen, setBlock]
    · refine ⟨es.push ⟨fk a, fv v, c⟩, c + 1, heap_setBlock_same hb2 _, stamped_push ⟨s1, s2, s3⟩ h2, ?_, ?_⟩
      · intro x hx
        simp only [Array.toList_push, List.mem_append, List.mem_singleton] at hx
        rcases hx with hx | rfl
        · exact hkeys x hx
        · exact ⟨l, ha⟩
      · rw [putA_new (getA_none.1 h3)]
        simp [hm]
  · have hj : es[j]? = some e0 := by simpa using h2
    have hsame : es.modify j (fun e => { e with key := fk a }) = es := by
      apply Array.ext'
      rw [Array.toList_modify, modify_eq_set _ _ _ _ h2]
      have : ({ e0 with key := fk a } : MapEntry) = e0 := by rw [← h3]
      rw [this]
      exact set_self _ _ _ h2
    have hlist : (es.modify j (fun e' => { e' with key := fk a, val := fv v })).toList = es.toList.set j { e0 with key := fk a, val := fv v } := by
      rw [Array.toList_modify, modify_eq_set _ _ _ _ h2]
    have hmid : HasMap P k fk fv (setBlock w b (.map es c)) b m := ⟨es, c, heap_setBlock_same hb _, ⟨s1, s2, s3⟩, hkeys, hm⟩
    have hb2 : (setBlock w b (.map es c)).heap[b]? = some (.map es c) := heap_setBlock_same hb _
    refine ⟨e0.born, .map es c, .map (es.modify j (fun e' => { e' with key := fk a, val := fv v })) c, ?_, ?_, ?_, ?_⟩
    · simp [Instr.mapEntry, run_underlying ht, MapKept.run_getObj_map hb, K.check w false ha, h1, hj, h3, h4, hv, K.stays w ha, hsame, MapKept.run_setObj_map _ hb, Result.andThen, setBlock]
    · have := hmid.lookup K hinj ht (hz _) ha
      rw [h4] at this ⊢
      exact this
    · have hidx : es.findIdx? (fun e => ((e.born : Nat) : Int) == ((e0.born : Nat) : Int)) = some j := by
        rw [findIdx_arr]
        exact findIdx_born s2 h2
      have hmod : es.modify j (fun e => { e with val := fv v }) = es.modify j (fun e' => { e' with key := fk a, val := fv v }) := by
        apply Array.ext'
        rw [Array.toList_modify, Array.toList_modify, modify_eq_set _ _ _ _ h2, modify_eq_set _ _ _ _ h2, ← h3]
      clear hmid
      generalize setBlock w b _ = w2 at hb2 ⊢
      simp [Instr.entryStore, MapKept.run_getObj_map hb2, asInt, asIntOf, goInt, hidx, hmod, MapKept.run_setObj_map _ hb2, Result.andThen, setBlock]
    · refine ⟨_, c, heap_setBlock_same hb2 _, stamped_modify ⟨s1, s2, s3⟩ _ _ (fun _ _ => rfl) (fun e' _ he' => by rw [hj] at he'; cases he'; exact h3.symm), ?_, ?_⟩
      · intro x hx
        rw [hlist] at hx
        rcases List.mem_or_eq_of_mem_set hx with hx | rfl
        · exact hkeys x hx
        · exact ⟨l, ha⟩
      · rw [hlist, List.map_set, hm, putA_of_at (keys_nodup hm s3) hmj, List.map_set]
end
/-- A map from the members of X: each at f. -/
def tmap {κ ν : Type} (X : List κ) (f : κ → ν) : List (κ × ν) := X.map fun e => (e, f e)
theorem getA_tmap {κ ν : Type} [DecidableEq κ] (f : κ → ν) (a : κ) : ∀ {X : List κ}, a ∈ X → getA a (tmap X f) = some (f a)
  | [], h => by simp at h
  | p :: r, h => by
    unfold tmap
    simp only [List.map_cons, getA]
    by_cases e : p = a
    · subst e; simp
    · simp only [if_neg e]
      have : a ∈ r := by simpa [Ne.symm e] using h
      exact getA_tmap f a this
theorem getA_tmap_none {κ ν : Type} [DecidableEq κ] (f : κ → ν) (a : κ) {X : List κ} (h : a ∉ X) : getA a (tmap X f) = none := by
  rw [getA_none]
  intro p hp e
  obtain ⟨x, hx, rfl⟩ := List.mem_map.1 hp
  exact h (e ▸ hx)
theorem putA_tmap {κ ν : Type} [DecidableEq κ] (f : κ → ν) (a : κ) (v : ν) : ∀ {X : List κ}, X.Nodup → a ∈ X → putA a v (tmap X f) = tmap X (fun e => if e = a then v else f e)
  | [], _, h => by simp at h
  | p :: r, hn, h => by
    simp only [List.nodup_cons] at hn
    unfold tmap
    simp only [List.map_cons, putA]
    by_cases e : p = a
    · subst e
      simp only [if_true]
      congr 1
      refine List.map_congr_left fun x hx => ?_
      rw [if_neg (show ¬ x = p from fun e => hn.1 (e ▸ hx))]
    · simp only [if_neg e]
      have : a ∈ r := by simpa [Ne.symm e] using h
      congr 1
      exact putA_tmap f a v hn.2 this
end Go.Proofs.YtkhoeiapfoaapaaDoor
