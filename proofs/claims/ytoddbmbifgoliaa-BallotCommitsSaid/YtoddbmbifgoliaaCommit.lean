/-
  The ballot's Commit, walked.
-/
import Derived.Test.YtoddbmbifgoliaaSort
import Derived.Test.YtoddbmbifgoliaaOrder
namespace Go.Proofs.Ytoddbmbifgoliaa
open Go.RowKit Go.Shelf Go.Lib Go.Sort

theorem below_grow {B : Nat} {a w : World} (h : Below B a w) (hB : B ≤ w.heap.size) (os : Array Obj) : Below B a (grow w os) :=
  h.trans ⟨rfl, rfl, rfl, by simp [grow], fun k hk => heap_grow_old w os (by omega)⟩
theorem cell_of_holdsI {w : World} {b : Nat} {S : List Int} (h : Holds (Value.int .i64) w b 0 S.toArray) (j : Nat) (hj : j < S.length) : w.cell? ⟨b, j, none⟩ = some (.int .i64 (S.getD j 0)) := by
  have := (h j (by simpa using hj)).1
  rw [Nat.zero_add] at this
  rw [this]
  simp [getElem!_pos, hj]

def commitOf (L : List Int) : Int := (L.mergeSort fun x y => decide (y ≤ x)).getD (L.length / 2) 0

set_option maxHeartbeats 1000000 in
theorem commit_none (ao : Option Addr) (c : Nat) (w : World) : Calls Try.prog 15 #[.slice ao 0 c] w fun e w' => e = .returned (.int .i64 0) ∧ w' = w := by
  go_enter Try.func15, Try.ntmps15
  go_wp2
  go_ret
  exact ⟨rfl, rfl⟩

set_option maxRecDepth 100000 in
set_option maxHeartbeats 2000000 in
theorem commit_some (b off n c : Nat) (zs : List Int) (w : World) (hn : 0 < n) (hz : n ≤ zs.length) (hbig : n ≤ 1000) (hc : ∀ j, j < zs.length → w.cell? ⟨b, off + j, none⟩ = some (.int .i64 (zs.getD j 0))) :
    Calls Try.prog 15 #[.slice (some ⟨b, off, none⟩) n c] w fun e w' => e = .returned (.int .i64 (commitOf (zs.take n))) ∧ Below w.heap.size w w' := by
  have hclone := Any.slices_Clone_int Try.cloneL b off n c zs w hz (by omega) hc
  change Calls Try.prog 18 _ _ _ at hclone
  have eg : ∀ args w, (callFunc 20 args).run Try.prog w = .ok (.enter 20 args) w := enters_of Try.func20 (by kernel_rfl) rfl
  clear hc
  obtain ⟨V, hV⟩ : ∃ V, V = commitOf (zs.take n) := ⟨_, rfl⟩
  rw [← hV]
  have HV := Lib.hid hV
  clear hV
  have hq : quorumOf n = (n : Int) / 2 + 1 := if_neg (by omega)
  have hQ := quorum_any n (by omega) (by omega)
  rw [hq] at hQ
  clear hq
  go_enter Try.func15, Try.ntmps15
  go_wp2_with fail
  refine hclone.mono ?_
  rintro e w1 ⟨v1, rfl, hown, hnn, hbel⟩
  obtain ⟨g, cap, rfl, hbg, hgl, hncap, hcm, hlen, hH⟩ := Lib.holds_of_ownsRow hown hnn
  have hsort := Any.slices_SortFunc_total Try.sortL (Value.int .i64) (fun _ => rfl) cfD swoD 20 #[] g 0 cap (zs.take n).toArray w1 eg (cmpReads20 g 0 _ w1).lays hH hgl (by simp; omega) totD
  rw [geD] at hsort
  change Calls Try.prog 19 _ _ _ at hsort
  have hsz : (zs.take n).toArray.size = n := by simpa using hlen
  rw [hsz] at hsort
  have X := Lib.hid (And.intro hbel (And.intro hbg (And.intro hgl (And.intro hlen hH))))
  clear hown hbel hH hnn hlen hclone hsz hcm eg
  go_wp2_with fail
  refine hsort.mono ?_
  rintro e w2 ⟨rfl, nn, os, hw2⟩
  obtain ⟨hbel, hbg', hgl', hlen, hH⟩ := X.out
  have hH2 : Holds (Value.int .i64) w2 g 0 ((zs.take n).mergeSort fun x y => decide (y ≤ x)).toArray := by
    subst hw2
    exact holds_grow _ _ os g 0 _ (by simpa [putRow, mapBlock, Sort.ahead] using hgl') (holds_putRow _ _ g 0 _ _ (holds_ahead _ w1 nn g 0 _ hH) (by simp))
  have hB2 : Below w.heap.size w w2 := by
    subst hw2
    exact below_grow (Lib.below_putRow hbel hbg') (by have := hbel.size; simpa [putRow, mapBlock, Sort.ahead] using this) os
  have hcell := cell_of_holdsI hH2 (n / 2) (by rw [List.length_mergeSort, hlen]; omega)
  have hv : ((zs.take n).mergeSort fun x y => decide (y ≤ x)).getD (n / 2) 0 = V := by rw [HV.out]; unfold commitOf; rw [hlen]
  rw [hv] at hcell
  have HB := Lib.hid hB2
  clear hw2 hsort hH2 hB2 hv hlen hH hbel hbg hbg' hgl hgl' X
  go_wp2_with (go_at_call 12; refine (hQ _).mono ?_; rintro e w3 ⟨rfl, rfl⟩)
  go_ret
  exact ⟨rfl, HB.out⟩

theorem commit_ex : commitOf ([5, 3, 4].take 3) = 4 := by
  have h : ([5, 3, 4] : List Int).mergeSort (fun x y => decide (y ≤ x)) = [5, 4, 3] := by
    simp [List.mergeSort, List.MergeSort.Internal.splitInTwo, List.merge]
  unfold commitOf
  rw [show ([5, 3, 4] : List Int).take 3 = [5, 3, 4] from rfl, h]
  rfl

end Go.Proofs.Ytoddbmbifgoliaa
