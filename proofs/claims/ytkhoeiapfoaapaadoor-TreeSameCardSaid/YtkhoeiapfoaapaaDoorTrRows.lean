/-
  Rows of rows that the call owns: what an append gives.
-/
import Derived.Test.YtkhoeiapfoaapaaDoorTrGreat
import Derived.Test.YtkhoeiapfoaapaaDoorTr10
namespace Go.Proofs.YtkhoeiapfoaapaaDoor
set_option linter.unusedVariables false
set_option linter.unusedSimpArgs false
set_option linter.unusedVariables false
set_option linter.unusedSimpArgs false
open Go Go.RowKit Go.Shelf Go.MapKept Go.ChangeMaps Go.Maps Go.Sort

def Row.val (r : Row) : Value := .slice r.ao r.L.length r.c
theorem infoEffs : (Tryd.prog.info? 37).map (fun i => (i.zero, i.size, i.bytes)) = some (some (.slice none 0 0), 1, 24) := by kernel_rfl
theorem rows_nil {w : World} {B : Nat} {R : List Row} (h : RowsAt w B none R) : R = [] := by
  cases R with
  | nil => rfl
  | cons r R =>
    obtain ⟨_, b, off, e, _⟩ := h 0 r rfl
    cases e
theorem rows_src {w : World} {B : Nat} {a : Addr} {R : List Row} (h : RowsAt w B (some a) R) : ∀ j u, (R.map Row.val)[j]? = some u → w.cell? (a.add j) = some u := fun j u hu => by
  simp only [List.getElem?_map, Option.map_eq_some_iff] at hu
  obtain ⟨r, hr, rfl⟩ := hu
  obtain ⟨_, b, off, e, _, h3⟩ := h j r hr
  cases e
  rw [Addr.add_mid]
  exact h3
theorem rows_one (R : List Row) : ∀ u ∈ R.map Row.val, u.oneCell' = true := fun u hu => by
  obtain ⟨r, _, rfl⟩ := List.mem_map.1 hu
  rfl
theorem rows_of_own {w : World} {base n : Nat} {v : Value} {R : List Row} (h : w.ownsRow base 37 1 v n (R.map Row.val)) (hok : ∀ r ∈ R, RowOk w r) : ∃ a c, v = .slice a R.length c ∧ RowsAt w w.heap.size a R := by
  have hn : R.length = n := by have := h.1; simp at this; omega
  rcases h.2 with ⟨h1, h0⟩ | ⟨g, cap, cur, h1, hbg, hg, _⟩
  · subst h1
    have : R = [] := List.eq_nil_of_length_eq_zero (by omega)
    subst this
    exact ⟨none, 0, rfl, fun k r hk => by simp at hk⟩
  · subst h1
    refine ⟨some ⟨g, 0, none⟩, cap, by rw [hn], fun k r hk => ⟨hok r (List.mem_of_getElem? hk), g, 0, rfl, (Array.getElem?_eq_some_iff.1 hg).1, ?_⟩⟩
    have := h.cells (g := g) rfl k (Row.val r) (by simp [hk])
    rw [Addr.add_lit] at this
    exact this
end Go.Proofs.YtkhoeiapfoaapaaDoor
