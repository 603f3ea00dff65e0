/-
  BallotMeet: over whatever arguments can be read.
-/
import Derived.Test.YtoddbmbifgoliaaCommitsLaw
import Derived.Test.YtoddbmbifgoliaaMeet
namespace Go.Proofs.Ytoddbmbifgoliaa
open Go.RowKit Go.ChangeShapes Go.WideShapes
set_option maxRecDepth 100000 in
set_option maxHeartbeats 4000000 in
theorem meet_long (n : Int) (n0 : 0 ≤ n) (n1 : n ≤ 255) (ao bo mo : Option Addr) (la lb lm ca cb cm : Nat) (w : World) (ha : la ≤ 9223372036854775807) (hb : lb ≤ 9223372036854775807) (hm : lm ≤ 9223372036854775807) (h : 200 < la ∨ 200 < lb ∨ 200 < lm) :
    Calls Try.prog 5 #[.int .u8 n, .slice ao la ca, .slice bo lb cb, .slice mo lm cm] w fun e w' => e = .returned (.bool true) ∧ Below w.heap.size w w' := by
  rcases (show 200 < la ∨ (la ≤ 200 ∧ 200 < lb) ∨ (la ≤ 200 ∧ lb ≤ 200 ∧ 200 < lm) by omega) with g | ⟨g1, g2⟩ | ⟨g1, g2, g3⟩
  all_goals
    go_enter Try.func5, Try.ntmps5
    go_wp2
    go_ret
    exact ⟨rfl, Below.refl _ _⟩
theorem Try.cells5 : Try.prog.cellsOf 5 = 1 := by kernel_rfl

theorem bytes_open {H : Type} {enc : TypeId × Value → H} {W : World} {v : Value} {d : DataW H} {p : List MemPlace} (h : DataW.Trod enc Try.prog W 0 (fun _ => true) true 32 v d p) {bb : Nat} (hv : Value.okWide Try.prog W .any bb 32 v) :
    ∃ ao n c, v = .slice ao n c ∧ n ≤ maxLen ∧ ElemsB W ao n := by
  rcases open_row Try.underlying32 Try.underlying5 Try.cells5 h hv with rfl | ⟨a, cap, rfl⟩ | ⟨b, off, cap, L, rfl, hpos, hmax, hc, hw⟩
  · exact ⟨none, 0, 0, rfl, Nat.zero_le _, fun i hi => absurd hi (Nat.not_lt_zero _)⟩
  · exact ⟨some a, 0, cap, rfl, Nat.zero_le _, fun i hi => absurd hi (Nat.not_lt_zero _)⟩
  · refine ⟨_, _, cap, rfl, hmax, fun i hi => ⟨b, off, L.getD i 0, rfl, World.block_lt_of_cell? W _ (hc 0 hpos), hc i hi, ?_⟩⟩
    have : L.getD i 0 ∈ L := by rw [List.getD_eq_getElem?_getD, List.getElem?_eq_getElem hi]; exact List.getElem_mem _
    exact bd_u8 (hw _ this)

theorem meet_law {H : Type} (enc : TypeId × Value → H) (W : World)
    (v0 : Value) (d0 : DataW H) (p0 : List MemPlace) (h0 : DataW.Trod enc Try.prog W 0 (fun _ => true) true 5 v0 d0 p0) (o0 : ∃ b, Value.okWide Try.prog W .any b 5 v0)
    (v1 : Value) (d1 : DataW H) (p1 : List MemPlace) (h1 : DataW.Trod enc Try.prog W 0 (fun _ => true) true 32 v1 d1 p1) (o1 : ∃ b, Value.okWide Try.prog W .any b 32 v1)
    (v2 : Value) (d2 : DataW H) (p2 : List MemPlace) (h2 : DataW.Trod enc Try.prog W 0 (fun _ => true) true 32 v2 d2 p2) (o2 : ∃ b, Value.okWide Try.prog W .any b 32 v2)
    (v3 : Value) (d3 : DataW H) (p3 : List MemPlace) (h3 : DataW.Trod enc Try.prog W 0 (fun _ => true) true 29 v3 d3 p3) (o3 : ∃ b, Value.okWide Try.prog W .any b 29 v3) :
    Calls Try.prog 5 #[v0, v1, v2, v3] W fun e W' => e = .returned (.bool true) ∧ Below W.heap.size W W' := by
  obtain ⟨b0, o0⟩ := o0
  obtain ⟨b1, o1⟩ := o1
  obtain ⟨b2, o2⟩ := o2
  obtain ⟨b3, o3⟩ := o3
  obtain ⟨n, rfl, rfl, rfl, w0⟩ := open_int Try.underlying5 o0 h0
  obtain ⟨n0, n1⟩ := bd_u8 w0
  obtain ⟨ao, la, ca, rfl, ma, eA⟩ := bytes_open h1 o1
  obtain ⟨bo, lb, cb, rfl, mb, eB⟩ := bytes_open h2 o2
  obtain ⟨mo, L, cm, rfl, mm, eM, hcom⟩ : ∃ (mo : Option Addr) (L : List Int) (cm : Nat), v3 = .slice mo L.length cm ∧ L.length ≤ maxLen ∧ NumsL W mo L ∧
      (L.length ≤ 200 → ∃ v, (0 < L.length → v = midOf L) ∧ ∀ W' : World, Below W.heap.size W W' → Calls Try.prog 15 #[.slice mo L.length cm] W' fun e w' => e = .returned (.int .i64 v) ∧ Below W'.heap.size W' w') := by
    rcases open_row Try.underlying29 Try.underlying3 Try.cells3 h3 o3 with rfl | ⟨a, cap, rfl⟩ | ⟨b, off, cap, L, rfl, hpos, hmax, hc, _⟩
    · exact ⟨none, [], 0, rfl, Nat.zero_le _, fun i hi => absurd hi (Nat.not_lt_zero _), fun _ => ⟨0, fun h => absurd h (Nat.not_lt_zero _), fun W' _ => commit_zero _ _ _⟩⟩
    · exact ⟨some a, [], cap, rfl, Nat.zero_le _, fun i hi => absurd hi (Nat.not_lt_zero _), fun _ => ⟨0, fun h => absurd h (Nat.not_lt_zero _), fun W' _ => commit_zero _ _ _⟩⟩
    · have hb : b < W.heap.size := World.block_lt_of_cell? W _ (hc 0 hpos)
      exact ⟨_, L, cap, rfl, hmax, fun i hi => ⟨b, off, rfl, hb, hc i hi⟩, fun hl => ⟨midOf L, fun _ => rfl, fun W' hW => commit_own b off cap L W' hpos hl (fun j hj => (hW.cell (p := ⟨b, off + j, none⟩) hb).trans (hc j hj))⟩⟩
  unfold maxLen at ma mb mm
  by_cases hl : la ≤ 200 ∧ lb ≤ 200 ∧ L.length ≤ 200
  · obtain ⟨l1, l2, l3⟩ := hl
    obtain ⟨v, hv, hcc⟩ := hcom l3
    exact meet_core n n0 n1 ao bo mo la lb ca cb cm L W l1 l2 l3 eA eB eM v (fun h => by rw [hv h]; exact mid_ge L h) (fun h => by rw [hv h]; exact mid_gt L h) hcc counts_true
  · exact meet_long n n0 n1 ao bo mo la lb L.length ca cb cm W (by omega) (by omega) (by omega) (by omega)
end Go.Proofs.Ytoddbmbifgoliaa
