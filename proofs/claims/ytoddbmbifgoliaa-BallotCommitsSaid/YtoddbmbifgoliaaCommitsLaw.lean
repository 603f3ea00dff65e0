/-
  BallotCommits and BallotMeet: over whatever arguments can be read.
-/
import Derived.Test.YtoddbmbifgoliaaCommits
import Derived.Test.YtoddbmbifgoliaaCounts
import Derived.Test.YtoddbmbifgoliaaOpen
import Derived.Test.YtoddbmbifgoliaaWf
namespace Go.Proofs.Ytoddbmbifgoliaa
open Go.RowKit Go.ChangeShapes Go.WideShapes

theorem Try.cells3 : Try.prog.cellsOf 3 = 1 := by kernel_rfl
theorem commit_own (b off c : Nat) (L : List Int) (W : World) (hn : 0 < L.length) (hbig : L.length ≤ 200) (hc : ∀ j, j < L.length → W.cell? ⟨b, off + j, none⟩ = some (.int .i64 (L.getD j 0))) :
    Calls Try.prog 15 #[.slice (some ⟨b, off, none⟩) L.length c] W fun e w' => e = .returned (.int .i64 (midOf L)) ∧ Below W.heap.size W w' := by
  have h := commit_some b off L.length c L W hn (Nat.le_refl _) (by omega) hc
  rw [List.take_length] at h
  exact h
theorem commit_zero (a : Option Addr) (c : Nat) (W : World) : Calls Try.prog 15 #[.slice a 0 c] W fun e w' => e = .returned (.int .i64 0) ∧ Below W.heap.size W w' :=
  (commit_none a c W).mono fun _ _ ⟨he, hw⟩ => ⟨he, hw ▸ Below.refl _ _⟩

set_option maxRecDepth 100000 in
theorem commits_long (a : Option Addr) (n c : Nat) (w : World) (h : 200 < n) (hm : n ≤ 9223372036854775807) : Calls Try.prog 4 #[.slice a n c] w fun e w' => e = .returned (.bool true) ∧ Below w.heap.size w w' := by
  go_enter Try.func4, Try.ntmps4
  go_wp2
  go_ret
  exact ⟨rfl, Below.refl _ _⟩

theorem commits_law {H : Type} (enc : TypeId × Value → H) (W : World)
    (v0 : Value) (d0 : DataW H) (p0 : List MemPlace) (h0 : DataW.Trod enc Try.prog W 0 (fun _ => true) true 29 v0 d0 p0) (o0 : ∃ b, Value.okWide Try.prog W .any b 29 v0) :
    Calls Try.prog 4 #[v0] W fun e W' => e = .returned (.bool true) ∧ Below W.heap.size W W' := by
  obtain ⟨bb, o0⟩ := o0
  rcases open_row Try.underlying29 Try.underlying3 Try.cells3 h0 o0 with rfl | ⟨a, cap, rfl⟩ | ⟨b, off, cap, L, rfl, hpos, hmax, hc, _⟩
  · exact commits_nil W commit_zero counts_true
  · exact commits_empty a cap W commit_zero counts_true
  · unfold maxLen at hmax
    by_cases hl : L.length ≤ 200
    · exact commits_some b off cap L W hl hpos hc (fun g cap W' hW => commit_own g 0 cap L W' hpos hl (fun j hj => by rw [Nat.zero_add]; exact hW j hj)) counts_true
    · exact commits_long _ _ _ W (by omega) (by omega)
end Go.Proofs.Ytoddbmbifgoliaa
