/-
  SessionCounts, walked.
-/
import Derived.Test.YtinkoackknmjlaaCnt
import Derived.Test.YtinkoackknmjlaaNil
import Derived.Deep.RegionHeld3
import Derived.LoopTactic
import Derived.Maps.OwnSet
import Derived.OpenShut
namespace Go.Proofs.Ytinkoackknmjlaa
open Go.RowKit Go.MapKept Go.ChangeMaps Go.Shelf
open Go.Maps (Keyed)

theorem Try.law26 : Keyed Try.prog 26 := Maps.int_keyed Try.underlying26
def uk (x : Int) : Value := .int .u32 x
theorem uk_inj : ∀ x y, uk x = uk y → x = y := by intro x y h; simpa [uk] using h
theorem uk_key {x : Int} (h : U32 x) : ∃ l, keyOf Try.prog 26 (uk x) = some l := ⟨_, Maps.keyOf_int_mk Try.underlying26 h.wf⟩

theorem Try.cells5 : Try.prog.cellsOf 5 = 1 := by kernel_rfl
theorem row_any {w : World} {base : Nat} {e : TypeId} {v : Value} {n : Nat} {xs : List Value} (h : w.ownsRow base e 1 v n xs) :
    ∃ ao cap, v = .slice ao n cap ∧ (∀ k, ao = some ⟨k, 0, none⟩ → base ≤ k ∧ k < w.heap.size) ∧ ∀ i u, xs[i]? = some u → ∃ k, ao = some ⟨k, 0, none⟩ ∧ w.cell? ⟨k, i, none⟩ = some u := by
  rcases h.2 with ⟨rfl, rfl⟩ | ⟨g, cap, cur, rfl, hg, hgb, r⟩
  · refine ⟨none, 0, rfl, (fun k e => (by cases e)), fun i u hu => ?_⟩
    have := h.1
    simp at this
    subst this
    simp at hu
  · refine ⟨some ⟨g, 0, none⟩, cap, rfl, (fun k e => (by cases e; exact ⟨hg, lt_of_block hgb⟩)), fun i u hu => ⟨g, rfl, ?_⟩⟩
    have := h.cells (g := g) rfl i u hu
    unfold Addr.add at this
    split at this
    · rename_i e; subst e; exact this
    · simpa using this

theorem Run.close_yes2 {B b mb : Nat} {W0 w : World} {s n : Int} {g : List (Int × Int)} (R : Run B W0 w b mb s n g) {m : Int} (hm : U32 m) (hl : liveB s n g m = true) :
    Calls Try.prog 9 #[.pointer (some ⟨b, 0, none⟩), .int .u32 m] w fun e w' => e = .returned (.int .i64 0) ∧ Run B W0 w' b mb s n (addS (s, m) g) ∧ Kept (· = mb) w w' :=
  (Ytinkoackknmjlaa.close_yes b mb s n m g w R.tab R.site hm hl).mono fun _ _ ⟨he, hT, hk⟩ => ⟨he, R.of_kept hT hk (fun k h => h ▸ R.hmb), hk⟩
theorem Run.close_no2 {B b mb : Nat} {W0 w : World} {s n : Int} {g : List (Int × Int)} (R : Run B W0 w b mb s n g) {m : Int} (hm : U32 m) (hl : liveB s n g m = false) :
    Calls Try.prog 9 #[.pointer (some ⟨b, 0, none⟩), .int .u32 m] w fun e w' => e = .returned (.int .i64 63) ∧ Run B W0 w' b mb s n g ∧ Kept Nothing w w' :=
  (Ytinkoackknmjlaa.close_no b mb s n m g w R.tab R.site hm hl).mono fun _ _ ⟨he, k, hw⟩ => ⟨he, R.quiet (hw ▸ (Kept.refl _ w).drewN k), hw ▸ (Kept.refl _ w).drewN k⟩

set_option maxRecDepth 100000 in
set_option maxHeartbeats 2000000 in
theorem counts_long (s n : Int) (ao : Option Addr) (len cap : Nat) (w : World) (h : 60 < len) (hm : len ≤ maxLen) : Calls Try.prog 7 #[.int .i64 s, .int .u8 n, .slice ao len cap] w fun e w' => e = .returned (.bool true) ∧ Below w.heap.size w w' := by
  unfold maxLen at hm
  go_enter Try.func7, Try.ntmps7
  go_wp2
  go_ret
  exact ⟨rfl, Below.refl _ _⟩

set_option maxRecDepth 100000 in
set_option maxHeartbeats 4000000 in
theorem counts_some (s : Int) (hs : I64 s) (n : Int) (hn0 : 0 ≤ n) (hn1 : n ≤ 255) (ai : Option Addr) (len cap : Nat) (w : World) (h : len ≤ 60)
    (hcl : ∀ i, i < len → ∃ b off d, ai = some ⟨b, off, none⟩ ∧ b < w.heap.size ∧ w.cell? ⟨b, off + i, none⟩ = some (.int .u8 d) ∧ 0 ≤ d ∧ d ≤ 255) :
    Calls Try.prog 7 #[.int .i64 s, .int .u8 n, .slice ai len cap] w fun e w' => e = .returned (.bool true) ∧ Below w.heap.size w w' := by
  have hmm := @run_makeMap Try.prog
  go_enter Try.func7, Try.ntmps7
  go_wp2_with fail
  refine (new_any s w).mono ?_
  rintro e w1 ⟨rfl, hw1⟩
  have R := Run.new (B := w.heap.size) (W0 := w) (w := w) (Below.refl _ w) (Nat.le_refl _) hs hw1
  have hsz : w.heap.size + 2 ≤ w1.heap.size := by rw [hw1]; simp
  clear hw1
  go_wp2
  have hz0 : 0 ≤ n % 33 := by omega
  have hz1 : n % 33 ≤ 32 := by omega
  generalize n % 33 = z at *
  obtain ⟨K, rfl⟩ := Int.eq_ofNat_of_zero_le hz0
  have hK : K ≤ 32 := by omega
  clear hz0 hz1
  go_loopw [9] (fun i wr => ∃ k : Nat, k ≤ K ∧ i = .int .i64 k ∧ Run w.heap.size w wr (w.heap.size + 1) w.heap.size s k [])
    (fun i _ => K - (intOf i).toNat)
  case atStart => exact ⟨0, by omega, rfl, R⟩
  case round =>
    clear R
    obtain ⟨k, hk, rfl, R1⟩ := hrel
    by_cases hlt : k < K
    · go_wp2_with fail
      refine (R1.open_ok (by omega) (by omega)).mono ?_
      rintro e w2 ⟨rfl, R2⟩
      clear R1
      go_wp2
      go_roundw
      case rel => exact ⟨k + 1, by omega, by go_num, R2⟩
      case measure => simp [intOf]; omega
    · obtain rfl : k = K := by omega
      clear hk hlt
      go_wp2
      have hS0 := SetAt.made Try.prog 26 uk wr
      have hR0 : Run w.heap.size w (wr.alloc (.map #[] 0)) (w.heap.size + 1) w.heap.size s k [] := R1.quiet ((Kept.refl _ wr).alloc _)
      have hgb : w.heap.size + 1 < wr.heap.size := R1.tab.lt
      obtain ⟨gb, hgbe⟩ : ∃ gb, gb = wr.heap.size := ⟨_, rfl⟩
      have hgb1 : w.heap.size + 1 < gb := by omega
      rw [← hgbe] at hS0 ⊢
      clear hgbe R1 hgb
      go_loopw [11] (fun i wq => ∃ j : Nat, j ≤ len ∧ i = .int .i64 j ∧ ∃ G : List Int, SetAt Try.prog 26 uk wq gb G ∧ Run w.heap.size w wq (w.heap.size + 1) w.heap.size s k (withS s G) ∧ ∀ x ∈ G, 1 ≤ x ∧ x ≤ (k : Int))
        (fun i _ => len - (intOf i).toNat)
      case atStart => exact ⟨0, by omega, rfl, [], hS0, hR0, by simp⟩
      case round =>
        clear hS0 hR0
        obtain ⟨j, hj, rfl, G, hS, R2, hG⟩ := hrel
        by_cases hc : j < len ∧ 0 < k
        · obtain ⟨hjl, hk0⟩ := hc
          obtain ⟨b, off, d, hai, hb, hcell, hd0, hd1⟩ := hcl j hjl
          clear hcl
          subst hai
          have hcell := (R2.below.cell (p := ⟨b, off + j, none⟩) hb).trans hcell
          have hk0' : decide ((0 : Int) < (k : Int)) = true := by simp; omega
          go_wp2
          have hy : 1 ≤ (1 + d % (k : Int) % 4294967296) % 4294967296 ∧ (1 + d % (k : Int) % 4294967296) % 4294967296 ≤ (k : Int) := by
            have e1 := Int.emod_nonneg d (show (k : Int) ≠ 0 by omega)
            have e2 := Int.emod_lt_of_pos d (show (0 : Int) < k by omega)
            omega
          generalize (1 + d % (k : Int) % 4294967296) % 4294967296 = y at hy ⊢
          obtain ⟨hy1, hy2⟩ := hy
          have uy : U32 y := ⟨by omega, by omega⟩
          obtain ⟨ly, hly⟩ := uk_key uy
          have hG' : ∀ x ∈ addK y G, 1 ≤ x ∧ x ≤ (k : Int) := fun x hx => (mem_addK.1 hx).elim (fun e => e ▸ ⟨hy1, hy2⟩) (hG x)
          have hLv : liveB s k (withS s G) y = !(G.contains y) := liveB_withS (by omega) hy2
          have hlook : ∀ W, SetAt Try.prog 26 uk W gb G → (Instr.lookup 45 (.map (some gb)) (.int .u32 y) false).run Try.prog W = .ok (.bool (G.contains y)) W := fun W h => h.look Try.law26 uk_inj Try.underlying45 Try.zero4 hly
          have Hlk := Lib.hid hlook
          have hS1 : SetAt Try.prog 26 uk wr.drew gb G := hS.of_block rfl
          have q0 := hlook _ hS1
          have Hq0 := Lib.hid q0
          have R3 : Run w.heap.size w wr.drew (w.heap.size + 1) w.heap.size s k (withS s G) := R2.quiet ((Kept.refl _ wr).drew)
          have HLv := Lib.hid hLv
          have Hly := Lib.hid hly
          clear hlook q0 hLv hly
          cases hcy : G.contains y with
          | false =>
            have q1 : (Instr.lookup 45 (.map (some gb)) (.int .u32 y) false).run Try.prog wr.drew = .ok (.bool false) wr.drew := by
              have := Hq0.out
              rwa [hcy] at this
            have Hq1 := Lib.hid q1
            have hLv2 : liveB s k (withS s G) y = true := by rw [HLv.out, hcy]; rfl
            have HLv2 := Lib.hid hLv2
            have Hcy := Lib.hid hcy
            clear hcy q1 hLv2
            go_region_held3 (fun w' => (Instr.lookup 45 (.map (some gb)) (.int .u32 y) false).run Try.prog w' = .ok (.bool false) w') (first | assumption | exact Hq1.out) (first | (go_at_call 9; refine (R3.close_yes2 uy HLv2.out).mono ?_; rintro e w3 ⟨rfl, R4, K4⟩; have hS4 := hS1.kept K4 (by omega); have q4 := (Hlk.out _ hS4).trans (by rw [Hcy.out])))
            all_goals
              rw [withS_add] at R4
              obtain ⟨o, ho⟩ := hS4.store Try.law26 uk_inj Try.underlying45 Hly.out
              obtain ⟨g1, g2, g3⟩ := ho w3 rfl
              have g1 : (Instr.mapUpdate 45 (.map (some gb)) (.int .u32 y) (.bool true)).run Try.prog w3 = .ok () (setBlock w3 gb o) := g1
              have R5 : Run w.heap.size w (setBlock w3 gb o) (w.heap.size + 1) w.heap.size s k (withS s (addK y G)) := R4.other g3 (fun k hk => by omega) (by omega) (by omega)
              clear ho q4
              go_wp2
              go_roundw
              case rel => exact ⟨j + 1, by omega, by go_num, addK y G, g2, R5, hG'⟩
              case measure => simp [intOf]; omega
          | true =>
            have q1 : (Instr.lookup 45 (.map (some gb)) (.int .u32 y) false).run Try.prog wr.drew = .ok (.bool true) wr.drew := by
              have := Hq0.out
              rwa [hcy] at this
            have Hq1 := Lib.hid q1
            have hLv2 : liveB s k (withS s G) y = false := by rw [HLv.out, hcy]; rfl
            have HLv2 := Lib.hid hLv2
            have Hcy := Lib.hid hcy
            clear hcy q1 hLv2
            go_region_held3 (fun w' => (Instr.lookup 45 (.map (some gb)) (.int .u32 y) false).run Try.prog w' = .ok (.bool true) w') (first | assumption | exact Hq1.out) (first | (go_at_call 9; refine (R3.close_no2 uy HLv2.out).mono ?_; rintro e w3 ⟨rfl, R4, K4⟩; have hS4 := hS1.kept K4 (fun e => e); have q4 := (Hlk.out _ hS4).trans (by rw [Hcy.out])))
            all_goals
              have hadd : addK y G = G := by unfold addK; rw [Hcy.out]; rfl
              obtain ⟨o, ho⟩ := hS4.store Try.law26 uk_inj Try.underlying45 Hly.out
              obtain ⟨g1, g2, g3⟩ := ho w3 rfl
              have g1 : (Instr.mapUpdate 45 (.map (some gb)) (.int .u32 y) (.bool true)).run Try.prog w3 = .ok () (setBlock w3 gb o) := g1
              have R5 : Run w.heap.size w (setBlock w3 gb o) (w.heap.size + 1) w.heap.size s k (withS s G) := R4.other g3 (fun k hk => by omega) (by omega) (by omega)
              rw [hadd] at g2
              clear ho q4 hadd
              go_wp2
              go_roundw
              case rel => exact ⟨j + 1, by omega, by go_num, G, g2, R5, hG⟩
              case measure => simp [intOf]; omega
        · have hdd : (decide ((j : Int) < (len : Int)) && decide ((0 : Int) < (k : Int))) = false := by
            rw [Bool.and_eq_false_iff]; simp; omega
          have hnd := hS.nodup
          have hrest := live_rest s k hnd hG
          have hris := liveUp_rises s k (withS s G) k
          have hmem : ∀ x ∈ liveUp s k (withS s G) k, 1 ≤ x ∧ x ≤ (k : Int) ∧ G.contains x = false := fun x hx => by
            have h1 := liveUp_bd hx
            have h2 := liveUp_mem hx
            rw [liveB_withS (by omega) h1.2] at h2
            exact ⟨h1.1, h1.2, by simpa using h2⟩
          clear hcl
          have Hris := Lib.hid hris
          have Hmem := Lib.hid hmem
          clear hris hmem hnd
          have hdec : (j < len ∧ k ≤ 0) ∨ len ≤ j := by omega
          clear hdd hc
          rcases hdec with ⟨hd1, hd2⟩ | hd1
          all_goals
            go_wp2_with fail
            refine (R2.lives hK).mono ?_
            rintro e w5 ⟨v, rfl, hrow, K5, R5⟩
            obtain ⟨ao, cap', rfl, hao, hcells⟩ := row_any hrow
            have hS5 := hS.kept K5 (fun e => e)
            have hL32 := liveUp_len s k (withS s G) k
            have HC := Lib.hid hcells
            have hMG : (((liveUp s k (withS s G) k).length : Int) != wrap64 ((k : Int) - (G.length : Int))) = false := by
              have : wrap64 ((k : Int) - (G.length : Int)) = (k : Int) - (G.length : Int) := by unfold wrap64; omega
              rw [this]; simp; omega
            clear hrow hcells hao K5 R2 hS hrest
            generalize hLv : liveUp s k (withS s G) k = L at *
            have HLv := Lib.hid hLv
            clear hLv
            have hml : ((G.map (·, true)).length : Int) = (G.length : Int) := by simp
            go_wp2_with (at_len; refine wpList_len_has hS5 (.tmp 65) 45 4 rfl rfl Try.underlying45 rfl ?_)
            go_loopw [14] (fun i wq => ∃ p : Nat, p ≤ L.length ∧ i = .int .i64 p ∧ ∃ q, wq = w5.drewN q) (fun i _ => L.length - (intOf i).toNat)
            case atStart => exact ⟨0, by omega, rfl, 0, rfl⟩
            case round =>
              obtain ⟨p, hp, rfl, q, rfl⟩ := hrel
              by_cases hpl : p < L.length
              · obtain ⟨x, hx⟩ : ∃ x, L[p]? = some x := ⟨L[p], List.getElem?_eq_getElem hpl⟩
                obtain ⟨q1, hq1, hc1⟩ := HC.out p (.int .u32 x) (by rw [List.getElem?_map, hx]; rfl)
                obtain ⟨hx1, hx2, hx3⟩ := Hmem.out x (List.mem_of_getElem? hx)
                obtain ⟨lx, hlx⟩ := uk_key (x := x) ⟨by omega, by omega⟩
                have hlook : ∀ nq, (Instr.lookup 45 (.map (some gb)) (.int .u32 x) false).run Try.prog ((w5.drewN q).drewN nq) = .ok (.bool false) ((w5.drewN q).drewN nq) := fun nq => by
                  have := SetAt.look (w := (w5.drewN q).drewN nq) (hS5.of_block rfl) Try.law26 uk_inj Try.underlying45 Try.zero4 hlx
                  rwa [hx3] at this
                have hlook2 : ∀ nq, (Instr.lookup 45 (.map (some gb)) (.int .u32 x) false).run Try.prog (w5.drewN nq) = .ok (.bool false) (w5.drewN nq) := fun nq => by
                  have := SetAt.look (w := w5.drewN nq) (hS5.of_block rfl) Try.law26 uk_inj Try.underlying45 Try.zero4 hlx
                  rwa [hx3] at this
                subst hq1
                clear hx3 hlx hlook
                by_cases hp0 : 0 < p
                · obtain ⟨y, hy⟩ : ∃ y, L[p - 1]? = some y := ⟨L[p - 1], List.getElem?_eq_getElem (by omega)⟩
                  obtain ⟨q2, hq2, hc2⟩ := HC.out (p - 1) (.int .u32 y) (by rw [List.getElem?_map, hy]; rfl)
                  have hyx : y < x := by
                    have h1 := Hris.out
                    obtain ⟨g1, g2⟩ := List.getElem?_eq_some_iff.1 hx
                    obtain ⟨g3, g4⟩ := List.getElem?_eq_some_iff.1 hy
                    have := List.pairwise_iff_getElem.1 h1 (p - 1) p g3 g1 (by omega)
                    rwa [g2, g4] at this
                  simp only [Option.some.injEq, Addr.mk.injEq, and_true] at hq2
                  rw [← hq2] at hc2
                  clear hq2 hx hy
                  go_wp2
                  all_goals
                    go_quiet (fail)
                    go_wp2
                  all_goals
                    go_roundw
                    case rel => exact ⟨p + 1, by omega, by go_num, _, rfl⟩
                    case measure => simp [intOf]; omega
                · clear hx
                  go_wp2
                  all_goals
                    go_quiet (fail)
                    go_wp2
                  all_goals
                    go_roundw
                    case rel => exact ⟨p + 1, by omega, by go_num, _, rfl⟩
                    case measure => simp [intOf]; omega
              · go_wp2_with fail
                refine (goes_true _).mono ?_
                rintro e v1 ⟨rfl, Bv⟩
                go_wp2
                go_ret
                exact ⟨rfl, (below_drewN R5.below q).trans (Bv.mono (Nat.le_trans R5.hB R5.below.size))⟩

open Go.ChangeShapes Go.WideShapes Go.ChangeAt in
theorem counts_law {H : Type} (enc : TypeId × Value → H) (W : World) (v0 : Value) (d0 : DataW H) (p0 : List MemPlace) (h0 : DataW.Trod enc Try.prog W 0 (fun _ => true) true 3 v0 d0 p0) (o0 : ∃ b, Value.okWide Try.prog W .any b 3 v0)
    (v1 : Value) (d1 : DataW H) (p1 : List MemPlace) (h1 : DataW.Trod enc Try.prog W 0 (fun _ => true) true 5 v1 d1 p1) (o1 : ∃ b, Value.okWide Try.prog W .any b 5 v1)
    (v2 : Value) (d2 : DataW H) (p2 : List MemPlace) (h2 : DataW.Trod enc Try.prog W 0 (fun _ => true) true 47 v2 d2 p2) (o2 : ∃ b, Value.okWide Try.prog W .any b 47 v2) :
    Calls Try.prog 7 #[v0, v1, v2] W fun e W' => e = .returned (.bool true) ∧ Below W.heap.size W W' := by
  obtain ⟨b0, o0⟩ := o0
  obtain ⟨b1, o1⟩ := o1
  obtain ⟨b2, o2⟩ := o2
  obtain ⟨s, rfl, rfl, rfl, ws⟩ := open_int Try.underlying3 o0 h0
  obtain ⟨n, rfl, rfl, rfl, wn⟩ := open_int Try.underlying5 o1 h1
  obtain ⟨a0, len, cap, rfl⟩ := okWide_slice Try.underlying47 o2
  obtain ⟨fuel, hf⟩ := h2
  have un : 0 ≤ n ∧ n ≤ 255 := by
    simp [Lit.wf, IntKind.min, IntKind.max, IntKind.signed, IntKind.bits] at wn
    omega
  rcases open_ints Try.underlying47 Try.underlying5 Try.cells5 hf with ⟨hcs, _⟩ | ⟨a, len', cap', zs, hcs, _, hl, hm, hz, _, hcell, hwz⟩
  · simp [Value.cells] at hcs
    obtain ⟨rfl, rfl, rfl⟩ := hcs
    exact counts_some s (wf_i64 ws) n un.1 un.2 _ 0 _ W (by omega) (fun i hi => absurd hi (Nat.not_lt_zero _))
  · simp [Value.cells] at hcs
    obtain ⟨rfl, rfl, rfl⟩ := hcs
    by_cases hlen : len ≤ 60
    · refine counts_some s (wf_i64 ws) n un.1 un.2 _ len _ W hlen (fun i hi => ?_)
      have hzl : zs.length = cap := by simpa using hz
      obtain ⟨b, off, rfl, hc⟩ := ints_at hcell (by omega)
      have hci := hc i (by omega)
      refine ⟨b, off, _, rfl, World.block_lt_of_cell? _ _ hci, hci, ?_⟩
      have := range_u8 hwz i
      simpa [List.getD] using this
    · exact counts_long s n _ len _ W (by omega) (by unfold maxLen at *; omega)
end Go.Proofs.Ytinkoackknmjlaa
