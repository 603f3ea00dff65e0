/-
  The program's split of a path, walked: cut at '/', each piece a name.
-/
import Derived.Test.YtkhoeiapfoaapaaDoorPathName
import Derived.Test.YtkhoeiapfoaapaaDoorPathSegs
import Derived.Test.YtkhoeiapfoaapaaDoorShelf
namespace Go.Proofs.YtkhoeiapfoaapaaDoor
set_option linter.unusedVariables false
set_option linter.unusedSimpArgs false
open Go.RowKit

def okName (x : Bytes) : Bool := nameB (bs x)
def firstBad (L : List Bytes) : Int := if L.all okName then -1 else ((L.findIdx fun x => !okName x : Nat) : Int)
theorem firstBad_sign (L : List Bytes) : decide (0 ≤ firstBad L) = !L.all okName := by
  unfold firstBad
  cases h : L.all okName <;> simp
theorem firstBad_hit (L : List Bytes) (k : Nat) (x : Bytes) (hx : L[k]? = some x) (hb : okName x = false) (hg : ∀ j y, j < k → L[j]? = some y → okName y = true) : firstBad L = k := by
  obtain ⟨hk, rfl⟩ := List.getElem?_eq_some_iff.1 hx
  have h1 : L.all okName = false := by
    rw [List.all_eq_false]
    exact ⟨_, List.getElem_mem hk, by simp [hb]⟩
  unfold firstBad
  rw [if_neg (by simp [h1])]
  have : L.findIdx (fun x => !okName x) = k := by
    rw [List.findIdx_eq hk]
    exact ⟨by simp [hb], fun j hj => by simp [hg j _ hj (List.getElem?_eq_getElem (by omega))]⟩
  rw [this]
theorem firstBad_miss (L : List Bytes) (hg : ∀ j y, j < L.length → L[j]? = some y → okName y = true) : firstBad L = -1 := by
  have h1 : L.all okName = true := by
    rw [List.all_eq_true]
    intro x hx
    obtain ⟨j, hj, rfl⟩ := List.mem_iff_getElem.1 hx
    exact hg j _ hj (List.getElem?_eq_getElem hj)
  unfold firstBad
  rw [if_pos h1]

/-- The cells of a list of texts. -/
def StrsAt (w : World) (b off : Nat) (L : List Bytes) : Prop := ∀ j x, L[j]? = some x → w.cell? ⟨b, off + j, none⟩ = some (.string (bs x))
theorem StrsAt.kept {w w' : World} {b off B : Nat} {L : List Bytes} (h : StrsAt w b off L) (hb : Below B w w') (hlt : b < B) : StrsAt w' b off L :=
  fun j x hx => (hb.cell (p := ⟨b, off + j, none⟩) hlt).trans (h j x hx)

set_option maxRecDepth 100000 in
set_option maxHeartbeats 4000000 in
theorem indexFunc_any (b off c : Nat) (L : List Bytes) (w : World) (hb : b < w.heap.size) (hbig : L.length ≤ 1000) (hc : StrsAt w b off L) :
    Calls Tryd.prog 71 #[.slice (some ⟨b, off, none⟩) L.length c, .func (.func 53) #[] #[]] w fun e w' => e = .returned (.int .i64 (firstBad L)) ∧ Below w.heap.size w w' := by
  have HC := Lib.hid hc
  clear hc
  obtain ⟨N, hN⟩ : ∃ N, N = L.length := ⟨_, rfl⟩
  have HN := Lib.hid hN
  rw [← hN] at hbig ⊢
  clear hN
  go_enter Tryd.func71, Tryd.ntmps71
  go_wp2
  go_loopw [5, 8] (fun _ i wr => ∃ k : Nat, k ≤ N ∧ i = .int .i64 k ∧ Hid (∀ j y, j < k → L[j]? = some y → okName y = true) ∧ Below w.heap.size w wr) (fun _ i _ => N - (intOf i).toNat)
  case atStart => exact ⟨0, by omega, rfl, Lib.hid (fun _ _ h => absurd h (Nat.not_lt_zero _)), Below.refl _ _⟩
  case round =>
    obtain ⟨k, hk, rfl, HG, hB⟩ := hrel
    have HB := Lib.hid hB
    by_cases hlt : k < N
    · obtain ⟨x, hx⟩ : ∃ x, L[k]? = some x := ⟨_, List.getElem?_eq_getElem (by rw [← HN.out]; exact hlt)⟩
      have hcell : wr.cell? ⟨b, off + k, none⟩ = some (.string (bs x)) := (hB.cell (p := ⟨b, off + k, none⟩) hb).trans (HC.out k x hx)
      have HX := Lib.hid hx
      have hcl := closure_any (bs x)
      clear hx hB
      cases ho : nameB (bs x) with
      | true =>
        rw [ho] at hcl
        have HO := Lib.hid ho
        clear ho
        go_wp2_with (go_at_call 53; refine (hcl _).mono ?_; rintro e w1 ⟨rfl, B1⟩)
        have HB1 := Lib.hid (HB.out.trans (B1.mono HB.out.size))
        clear B1
        go_roundw
        case rel =>
          refine ⟨k + 1, by omega, by go_num, Lib.hid fun j y hj hy => ?_, HB1.out⟩
          by_cases e : j = k
          · subst e
            have := HX.out
            rw [hy] at this
            cases this
            exact HO.out
          · exact HG.out j y (by omega) hy
        case measure => simp [intOf]; omega
      | false =>
        rw [ho] at hcl
        have HF := Lib.hid (firstBad_hit L k x HX.out ho HG.out)
        clear ho
        go_wp2_with (go_at_call 53; refine (hcl _).mono ?_; rintro e w1 ⟨rfl, B1⟩)
        have HB1 := Lib.hid (HB.out.trans (B1.mono HB.out.size))
        clear B1
        go_ret
        exact ⟨by rw [HF.out]; rfl, HB1.out⟩
    · obtain rfl : k = N := by omega
      have HF := Lib.hid (firstBad_miss L (fun j y hj hy => HG.out j y (by rw [HN.out]; exact hj) hy))
      clear hB
      go_wp2
      go_ret
      exact ⟨by rw [HF.out]; rfl, HB.out⟩

set_option maxRecDepth 100000 in
theorem containsFunc_any (b off c : Nat) (L : List Bytes) (w : World) (hb : b < w.heap.size) (hbig : L.length ≤ 1000) (hc : StrsAt w b off L) :
    Calls Tryd.prog 52 #[.slice (some ⟨b, off, none⟩) L.length c, .func (.func 53) #[] #[]] w fun e w' => e = .returned (.bool (!L.all okName)) ∧ Below w.heap.size w w' := by
  have hi := indexFunc_any b off c L w hb hbig hc
  rw [← firstBad_sign]
  clear hc
  generalize firstBad L = i at *
  go_enter Tryd.func52, Tryd.ntmps52
  go_wp2_with (go_at_call 71; refine hi.mono ?_; rintro e w1 ⟨rfl, B1⟩)
  go_ret
  exact ⟨rfl, B1⟩
end Go.Proofs.YtkhoeiapfoaapaaDoor
