/-
  A map's keys in order.
-/
import Derived.Test.YtkhoeiapfoaapaaGreatDoorTr4
import Derived.Sort.KeysCollected
namespace Go.Proofs.YtkhoeiapfoaapaaGreatDoor
set_option linter.unusedVariables false
set_option linter.unusedSimpArgs false
set_option linter.unusedVariables false
set_option linter.unusedSimpArgs false
open Go Go.RowKit Go.Shelf Go.MapKept Go.ChangeMaps Go.Maps Go.Sort Go.WideElems

theorem key_len {p : Bytes} {l : Lit} (h : keyOf Tryz.prog 9 (sv p) = some l) : p.length ≤ maxLen ∧ l = .string p := by
  by_cases hp : (bs p).size ≤ maxLen
  · have h2 := WideMaps.keyOf_string_mk Tryz.underlying9 hp
    have : some l = some (Lit.string (bs p).data.toList) := h.symm.trans h2
    cases this
    exact ⟨by rw [← size_bs]; exact hp, by rw [data_bs]⟩
  · exfalso
    rw [keyOf_string Tryz.underlying9] at h
    unfold sv mapKey at h
    simp [Tryz.underlying9, hp] at h
def anyR : Value → Option (DataW Unit × List MemPlace) := fun _ => some (.nil, [])
theorem owns_of {ν : Type} {fv : ν → Value} {w : World} {mb : Nat} {m : List (Bytes × ν)} (hm : HasMap Tryz.prog 9 sv fv w mb m) (hl : m.length ≤ 1000) :
    ∃ D0 : DataW Unit, w.ownsMap Tryz.prog 9 anyR mb m.length D0 ∧ (strKeys D0).Perm (m.map (·.1)) := by
  obtain ⟨es, c, h1, h2, h3, h4⟩ := hm
  have hs : es.size = m.length := by
    have := congrArg List.length h4
    simpa using this
  have hrd : ∀ x ∈ es.toList, ∀ l, keyOf Tryz.prog 9 x.key = some l → WideElems.rd Tryz.prog 9 anyR x = some (l, .nil) := fun x hx l hk => by
    unfold WideElems.rd
    rw [hk]
    rfl
  refine ⟨_, ⟨es, c, h1, ⟨by rw [hs]; unfold maxLen; omega, h2, fun x hx => ?_⟩, by omega, rfl⟩, ?_⟩
  · obtain ⟨l, hk⟩ := h3 x hx
    exact ⟨_, hrd x hx l hk⟩
  · have hp := WideShapes.sorted_perm (es.toList.map (WideElems.rg Tryz.prog 9 anyR))
    have hk : (es.toList.map (WideElems.rg Tryz.prog 9 anyR)).map (fun p => strOf p.1) = m.map (·.1) := by
      rw [List.map_map]
      have h5 : es.toList.map (·.key) = m.map (fun p => sv p.1) := by
        have := congrArg (List.map Prod.fst) h4
        simpa [List.map_map, Function.comp_def] using this
      apply List.ext_getElem?
      intro i
      have h6 := congrArg (fun l => l[i]?) h5
      simp only [List.getElem?_map] at h6 ⊢
      cases hx : es.toList[i]? with
      | none =>
        rw [hx] at h6
        cases hy : m[i]? with
        | none => rfl
        | some y => rw [hy] at h6; simp at h6
      | some x =>
        rw [hx] at h6
        cases hy : m[i]? with
        | none => rw [hy] at h6; simp at h6
        | some y =>
          rw [hy] at h6
          simp only [Option.map_some, Option.some.injEq] at h6
          obtain ⟨l, hk⟩ := h3 x (List.mem_of_getElem? hx)
          have hr := hrd x (List.mem_of_getElem? hx) l hk
          rw [h6] at hk
          obtain ⟨_, rfl⟩ := key_len hk
          simp [WideElems.rg, hr, strOf]
    have := hp.map (fun p : Lit × DataW Unit => strOf p.1)
    rw [hk] at this
    exact this
end Go.Proofs.YtkhoeiapfoaapaaGreatDoor
