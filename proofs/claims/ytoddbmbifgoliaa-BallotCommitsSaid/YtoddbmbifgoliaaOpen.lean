/-
  A slice of numbers that comes in: opened.
-/
import Derived.ProofKit
import Derived.Deep.Slices
namespace Go.Proofs.Ytoddbmbifgoliaa
open Go.RowKit Go.ChangeShapes Go.WideShapes
section
variable {H : Type} {enc : TypeId × Value → H} {P : Program} {w : World} {base : Nat} {spare : Nat → Bool} {held : Bool}
theorem open_row {t e : TypeId} {k : IntKind} (ht : P.underlying t = some (.slice e)) (he : P.underlying e = some (.int k)) (hc : P.cellsOf e = 1)
    {v : Value} {d : DataW H} {p : List MemPlace} (h : DataW.Trod enc P w base spare held t v d p) {bb : Nat} (hv : Value.okWide P w .any bb t v) :
    v = .slice none 0 0 ∨ (∃ a cap, v = .slice (some a) 0 cap) ∨ ∃ (b off cap : Nat) (L : List Int), v = .slice (some ⟨b, off, none⟩) L.length cap ∧ 0 < L.length ∧ L.length ≤ maxLen ∧
      (∀ j, j < L.length → w.cell? ⟨b, off + j, none⟩ = some (.int k (L.getD j 0))) ∧ ∀ x ∈ L, (Lit.int k x).wf = true := by
  obtain ⟨a0, len, cap, rfl⟩ := okWide_slice ht hv
  obtain ⟨fuel, hf⟩ := h
  rcases open_ints ht he hc hf with ⟨hcs, _⟩ | ⟨a, len', cap', zs, hcs, _, hl, hm, hz, _, hcell, hwz⟩
  · simp [Value.cells] at hcs
    obtain ⟨rfl, rfl, rfl⟩ := hcs
    exact .inl rfl
  · simp [Value.cells] at hcs
    obtain ⟨rfl, rfl, rfl⟩ := hcs
    by_cases h0 : len = 0
    · subst h0
      exact .inr (.inl ⟨_, _, rfl⟩)
    · have hlz : len ≤ zs.length := by rw [hz]; split <;> omega
      have hsp : a.spot = none := by
        cases hs : a.spot with
        | none => rfl
        | some q =>
          exfalso
          have hd0 := hcell 0 (by omega)
          simp only [Addr.add, if_true] at hd0
          simp only [World.cell?, hs, Option.isSome_some, if_true] at hd0
          split at hd0 <;> cases hd0
      obtain ⟨b, off, spot⟩ := a
      dsimp only at hsp
      subst hsp
      have e1 : (zs.take len).length = len := by simp; omega
      refine .inr (.inr ⟨b, off, cap, zs.take len, by rw [e1], by omega, by omega, fun j hj => ?_, fun x hx => hwz x (List.mem_of_mem_take hx)⟩)
      have := hcell j (by omega)
      rw [Addr.add_lit] at this
      rw [this]
      simp [List.getD_eq_getElem?_getD, show j < len by omega]
end
end Go.Proofs.Ytoddbmbifgoliaa
