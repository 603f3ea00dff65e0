/-
  Check, walked: any operation, however deep.
-/
import Derived.Test.YtnclkfhdpkkakaaGreatDoorJOp0
namespace Go.Proofs.YtnclkfhdpkkakaaGreatDoor
set_option linter.unusedVariables false
set_option linter.unusedSimpArgs false
set_option linter.unusedVariables false
set_option linter.unusedSimpArgs false
open Go Go.RowKit Go.Shelf Go.MapKept Go.ChangeMaps Go.Maps Go.Sort

/-- A part, as a check sees it: its kind, how long its data is, how many parts it has. -/
structure PartI where
  kind : Int
  dn : Nat
  pn : Nat
def PartI.bad (i : PartI) : Bool := decide (i.kind < 1) || decide (7 ≤ i.kind) || decide (0 < i.pn)
def PartI.long (i : PartI) : Bool := decide (64 < i.dn)
def checkE (kind : Int) (dn : Nat) (P : List PartI) : Int :=
  if kind < 1 ∨ 7 < kind ∨ 6 < P.length ∨ (decide (kind = 7) ≠ decide (0 < P.length)) then 1
  else if P.any PartI.bad = true then 1 else if 64 < dn ∨ P.any PartI.long = true then 3 else 0
theorem checkE_early {kind : Int} {dn : Nat} {P : List PartI} (h : kind < 1 ∨ 7 < kind ∨ 6 < P.length ∨ (decide (kind = 7) ≠ decide (0 < P.length))) : checkE kind dn P = 1 := if_pos h
theorem checkE_bad {kind : Int} {dn : Nat} {P : List PartI} (h : P.any PartI.bad = true) : checkE kind dn P = 1 := by
  unfold checkE
  split
  · rfl
  · rfl
theorem checkE_part {kind : Int} {dn : Nat} {Q : List PartI} (hk : kind ≠ 7) : (checkE kind dn Q = 1 ∧ PartI.bad ⟨kind, dn, Q.length⟩ = true) ∨ (checkE kind dn Q = 3 ∧ PartI.bad ⟨kind, dn, Q.length⟩ = false ∧ PartI.long ⟨kind, dn, Q.length⟩ = true) ∨ (checkE kind dn Q = 0 ∧ PartI.bad ⟨kind, dn, Q.length⟩ = false ∧ PartI.long ⟨kind, dn, Q.length⟩ = false) := by
  by_cases h : kind < 1 ∨ 7 < kind ∨ 0 < Q.length
  · refine .inl ⟨checkE_early ?_, ?_⟩
    · rcases h with h | h | h
      · exact .inl h
      · exact .inr (.inl h)
      · refine .inr (.inr (.inr ?_))
        rw [decide_eq_false hk, decide_eq_true h]
        simp
    · unfold PartI.bad
      rcases h with h | h | h
      · simp [h]
      · simp [show 7 ≤ kind by omega]
      · simp [h]
  · have hQ : Q = [] := List.eq_nil_of_length_eq_zero (by omega)
    subst hQ
    have hb : PartI.bad ⟨kind, dn, 0⟩ = false := by
      unfold PartI.bad
      simp
      omega
    have he : checkE kind dn [] = if 64 < dn then 3 else 0 := by
      unfold checkE
      rw [if_neg, if_neg (by simp)]
      · simp
      · simp
        omega
    by_cases hd : 64 < dn
    · exact .inr (.inl ⟨by rw [he, if_pos hd], hb, by simp [PartI.long, hd]⟩)
    · exact .inr (.inr ⟨by rw [he, if_neg hd], hb, by simp [PartI.long]; omega⟩)
/-- The parts lie so, n deep. -/
def OpAtN (w : World) : Nat → Option Addr → List PartI → Prop
  | 0, _, P => P = []
  | n + 1, pa, P => ∀ (k : Nat) i, P[k]? = some i → ∃ (b off : Nat) (r : RawO) (Q : List PartI), pa = some ⟨b, off, none⟩ ∧ b < w.heap.size ∧ w.rangeAt b (off + k * 7) r.cells ∧ i = ⟨r.kind, r.dn, r.pn⟩ ∧ r.pn = Q.length ∧ r.dn ≤ maxLen ∧ OpAtN w n r.pa Q
theorem OpAtN.below {w w' : World} (hb : Below w.heap.size w w') : ∀ {n : Nat} {pa : Option Addr} {P : List PartI}, OpAtN w n pa P → OpAtN w' n pa P
  | 0, _, _, h => h
  | n + 1, pa, P, h => fun k i hk => by
    obtain ⟨b, off, r, Q, h1, h2, h3, h4, h5, h6, h7⟩ := h k i hk
    exact ⟨b, off, r, Q, h1, Nat.lt_of_lt_of_le h2 hb.size, range_kept h3 hb h2, h4, h5, h6, h7.below hb⟩
def CheckIs (w : World) (x : Int) (e : Ending) (w' : World) : Prop := e = .returned (.int .i64 x) ∧ Below w.heap.size w w'
/-- What a round needs of a part. -/
def PartsOk (w : World) (pa : Option Addr) (P : List PartI) : Prop := ∀ (k : Nat) i, P[k]? = some i → ∃ (b off : Nat) (r : RawO) (Q : List PartI), pa = some ⟨b, off, none⟩ ∧ b < w.heap.size ∧ w.rangeAt b (off + k * 7) r.cells ∧ i = ⟨r.kind, r.dn, r.pn⟩ ∧ r.pn = Q.length ∧ ∀ w', Below w.heap.size w w' → Calls Tryz.prog 22 #[r.val] w' (CheckIs w' (checkE r.kind r.dn Q))
def ChkSt (w1 : World) (P : List PartI) (k : Nat) (wr : World) : Prop := Below w1.heap.size w1 wr ∧ (P.take k).any PartI.bad = false
theorem any_succ {f : PartI → Bool} {P : List PartI} {k : Nat} {i : PartI} (h : P[k]? = some i) : (P.take (k + 1)).any f = ((P.take k).any f || f i) := by
  rw [List.take_add_one, h]
  simp
set_option maxRecDepth 100000 in
set_option maxHeartbeats 8000000 in
theorem check_step (w : World) (r : RawO) (P : List PartI) (hn : r.pn = P.length) (H : PartsOk w r.pa P) (hdn : r.dn ≤ maxLen) :
    Calls Tryz.prog 22 #[r.val] w (CheckIs w (checkE r.kind r.dn P)) := by
  obtain ⟨kind, path, da, dn, dc, ver, seq, eph, pa, pn, pc⟩ := r
  unfold RawO.val RawO.cells
  dsimp only at hn H hdn ⊢
  unfold maxLen at hdn
  obtain ⟨w1, hw1⟩ : ∃ w1, w1 = w.alloc (.cells #[.int .u8 kind, .string (bs path), .slice da dn dc, .int .i64 ver, .bool seq, .bool eph, .slice pa pn pc] 26) := ⟨_, rfl⟩
  have hb1 : Below w.heap.size w w1 := by rw [hw1]; exact belowA (Below.refl _ w) _
  have hs1 : w.heap.size < w1.heap.size := by rw [hw1]; simp
  have hbox : w1.rangeAt w.heap.size 0 [.int .u8 kind, .string (bs path), .slice da dn dc, .int .i64 ver, .bool seq, .bool eph, .slice pa pn pc] := fun j u hu => by
    rw [hw1, Nat.zero_add, cell_of_row _ _ j _ 26 (0, 0) (heap_alloc_new w _)]
    simpa using hu
  have HB1 := Lib.hid (And.intro hb1 hbox)
  have HH := Lib.hid H
  have HNP := Lib.hid hn
  clear H hb1 hbox
  obtain ⟨lg, hlg⟩ : ∃ lg, lg = decide (64 < dn) := ⟨_, rfl⟩
  have tl : decide ((64 : Int) < (dn : Int)) = lg := by rw [hlg]; simp; omega
  by_cases h1 : kind < 1
  · have hE : checkE kind dn P = 1 := checkE_early (.inl h1)
    rw [hE]
    have t1 : decide (kind < 1) = true := by simpa using h1
    clear hE h1 hn hlg
    go_enter Tryz.func22, Tryz.ntmps22
    go_wp2
    go_ret
    rw [← hw1]
    exact ⟨rfl, HB1.out.1⟩
  have t1 : decide (kind < 1) = false := by simpa using h1
  by_cases h2 : 7 < kind
  · have hE : checkE kind dn P = 1 := checkE_early (.inr (.inl h2))
    rw [hE]
    have t2 : decide ((7 : Int) < kind) = true := by simpa using h2
    clear hE h2 h1 hn hlg
    go_enter Tryz.func22, Tryz.ntmps22
    go_wp2
    go_ret
    rw [← hw1]
    exact ⟨rfl, HB1.out.1⟩
  have t2 : decide ((7 : Int) < kind) = false := by simpa using h2
  by_cases h3 : 6 < pn
  · have hE : checkE kind dn P = 1 := checkE_early (.inr (.inr (.inl (by rw [← hn]; exact h3))))
    rw [hE]
    have t3 : decide ((6 : Int) < (pn : Int)) = true := by simp; omega
    clear hE h2 h1 h3 hn hlg
    go_enter Tryz.func22, Tryz.ntmps22
    go_wp2
    go_ret
    rw [← hw1]
    exact ⟨rfl, HB1.out.1⟩
  have t3 : decide ((6 : Int) < (pn : Int)) = false := by simp; omega
  obtain ⟨b7, hb7⟩ : ∃ b7, b7 = decide (kind = 7) := ⟨_, rfl⟩
  obtain ⟨b0, hb0⟩ : ∃ b0, b0 = decide (0 < pn) := ⟨_, rfl⟩
  have t4 : (kind == 7) = b7 := by rw [hb7]; by_cases h : kind = 7 <;> simp [h]
  have t5 : decide (0 < pn) = b0 := hb0.symm
  by_cases h4 : b7 = b0
  · have hne : ¬ (kind < 1 ∨ 7 < kind ∨ 6 < P.length ∨ (decide (kind = 7) ≠ decide (0 < P.length))) := by
      rw [← hn]
      rintro (h | h | h | h)
      · exact h1 h
      · exact h2 h
      · exact h3 h
      · exact h (by rw [← hb7, ← hb0]; exact h4)
    have HNE := Lib.hid hne
    have hlgP : lg = decide (64 < dn) := hlg
    have HLG := Lib.hid hlgP
    clear hne hn hlg hlgP hb7 hb0
    subst h4
    have hpn : pn ≤ 6 := by omega
    clear h1 h2 h3
    go_enter Tryz.func22, Tryz.ntmps22
    go_wp2
    rw [← hw1]
    clear hw1
    go_loopw [3, 39] (fun lv ci wr => ∃ k : Nat, k ≤ pn ∧ ci = .int .i64 k ∧ lv = .bool (lg || (P.take k).any PartI.long) ∧ Hid (ChkSt w1 P k wr)) (fun _ ci _ => pn - (intOf ci).toNat)
    case atStart => exact ⟨0, by omega, rfl, by simp, Lib.hid ⟨Below.refl _ _, by simp⟩⟩
    case round =>
      obtain ⟨k, hk, rfl, rfl, HS⟩ := hrel
      by_cases hlt : k < pn
      · obtain ⟨i, hi⟩ : ∃ i, P[k]? = some i := ⟨_, List.getElem?_eq_getElem (by rw [← HNP.out]; exact hlt)⟩
        obtain ⟨b, off, ⟨k', p', da', dn', dc', v', sq', ep', pa', pn', pc'⟩, Q, hpa, hbl, hrg, hie, hq, hcall⟩ := HH.out k i hi
        dsimp only at hie hq hcall
        subst hpa
        have hbig : Below w.heap.size w wr := HB1.out.1.trans (HS.out.1.mono (Nat.le_of_lt hs1))
        have hc0 : wr.cell? ⟨w.heap.size, 6, none⟩ = some (.slice (some ⟨b, off, none⟩) pn pc) := (HS.out.1.cell (p := ⟨w.heap.size, 6, none⟩) hs1).trans (HB1.out.2 6 _ rfl)
        have hr2 := range_kept hrg hbig hbl
        have HRG : Hid (wr.rangeAt b (off + k * 7) [.int .u8 k', .string (bs p'), .slice da' dn' dc', .int .i64 v', .bool sq', .bool ep', .slice pa' pn' pc']) := Lib.hid hr2
        obtain ⟨w2, hw2⟩ : ∃ w2, w2 = wr.alloc (.cells #[.int .u8 k', .string (bs p'), .slice da' dn' dc', .int .i64 v', .bool sq', .bool ep', .slice pa' pn' pc'] 26) := ⟨_, rfl⟩
        have hb2 : Below wr.heap.size wr w2 := by rw [hw2]; exact belowA (Below.refl _ wr) _
        have hx2 : w2.rangeAt wr.heap.size 0 [.int .u8 k', .string (bs p'), .slice da' dn' dc', .int .i64 v', .bool sq', .bool ep', .slice pa' pn' pc'] := fun j u hu => by
          rw [hw2, Nat.zero_add, cell_of_row _ _ j _ 26 (0, 0) (heap_alloc_new wr _)]
          simpa using hu
        have hl2 : wr.heap.size < w2.heap.size := by rw [hw2]; simp
        have hcl := hcall w2 (hbig.trans (hb2.mono hbig.size))
        unfold RawO.val RawO.cells at hcl
        dsimp only at hcl
        have HSZO : Hid ((Tryz.prog.info? 26).map (·.size) = some 7) := Lib.hid (by kernel_rfl)
        obtain ⟨x, hx⟩ : ∃ x, x = checkE k' dn' Q := ⟨_, rfl⟩
        rw [← hx] at hcl
        have HCL := Lib.hid hcl
        have HX2 := Lib.hid (And.intro hx2 (And.intro hb2 hw2))
        have HI := Lib.hid (And.intro hi (And.intro hie (And.intro hq hx)))
        have hw64 : IntKind.i64.wrap ((k : Int) + 1) = ((k + 1 : Nat) : Int) := by rw [IntWalk.i64_in _ (by omega)]; omega
        clear hi hie hq hx hcall hcl hbig hr2 hrg hb2 hx2 hw2
        have hsucc : ∀ f : PartI → Bool, (P.take (k + 1)).any f = ((P.take k).any f || f i) := fun f => any_succ HI.out.1
        have HSU := Lib.hid hsucc
        clear hsucc
        go_wp2_with (first
          | (refine wpList_load_mid rfl 26 (.tmp 41) rfl b (off + k * 7) rfl [.int .u8 k', .string (bs p'), .slice da' dn' dc', .int .i64 v', .bool sq', .bool ep', .slice pa' pn' pc'] _ HRG.out Tryz.underlying26 rfl HSZO.out ?_)
          | (rw [← HX2.out.2.2]; refine wpList_load_mid rfl 26 (.tmp 5) rfl wr.heap.size 0 rfl [.int .u8 k', .string (bs p'), .slice da' dn' dc', .int .i64 v', .bool sq', .bool ep', .slice pa' pn' pc'] _ HX2.out.1 Tryz.underlying26 rfl HSZO.out ?_))
        refine HCL.out.mono ?_
        rintro e w3 ⟨rfl, B3⟩
        have y0 : w3.cell? ⟨wr.heap.size, 0, none⟩ = some (.int .u8 k') := (B3.cell (p := ⟨wr.heap.size, 0, none⟩) hl2).trans (HX2.out.1 0 _ rfl)
        have hb3 : Below w1.heap.size w1 w3 := HS.out.1.trans ((HX2.out.2.1.trans (B3.mono HX2.out.2.1.size)).mono HS.out.1.size)
        have HB3 := Lib.hid hb3
        have hbi := HI.out.2.1
        clear B3 hb3
        by_cases h7 : k' = 7
        · have t7 : (k' == 7) = true := by rw [h7]; rfl
          have hE : checkE kind dn P = 1 := checkE_bad (List.any_eq_true.2 ⟨i, List.mem_of_getElem? HI.out.1, by rw [hbi]; simp [PartI.bad, h7]⟩)
          have HE := Lib.hid hE
          clear hE h7 hbi
          go_wp2
          go_ret
          exact ⟨by rw [HE.out]; rfl, HB1.out.1.trans (HB3.out.mono (Nat.le_of_lt hs1))⟩
        · have t7 : (k' == 7) = false := by simpa using h7
          have hpart := checkE_part (kind := k') (dn := dn') (Q := Q) h7
          rw [← HI.out.2.2.2, ← HI.out.2.2.1, ← hbi] at hpart
          clear h7 hbi
          rcases hpart with ⟨hx, hb⟩ | ⟨hx, hb, hl⟩ | ⟨hx, hb, hl⟩
          · have hE : checkE kind dn P = 1 := checkE_bad (List.any_eq_true.2 ⟨i, List.mem_of_getElem? HI.out.1, hb⟩)
            have HE := Lib.hid hE
            subst hx
            clear hE hb
            go_wp2
            go_ret
            exact ⟨by rw [HE.out]; rfl, HB1.out.1.trans (HB3.out.mono (Nat.le_of_lt hs1))⟩
          · have HBL := Lib.hid (And.intro hb hl)
            subst hx
            clear hb hl
            go_wp2
            go_roundw
            case rel => exact ⟨k + 1, by omega, by go_num, by rw [HSU.out, HBL.out.2]; simp, Lib.hid ⟨HB3.out, by rw [HSU.out, HBL.out.1, HS.out.2]; rfl⟩⟩
            case measure => simp [intOf]; omega
          · have HBL := Lib.hid (And.intro hb hl)
            subst hx
            clear hb hl
            go_wp2
            go_roundw
            case rel => exact ⟨k + 1, by omega, by go_num, by rw [HSU.out, HBL.out.2]; simp, Lib.hid ⟨HB3.out, by rw [HSU.out, HBL.out.1, HS.out.2]; rfl⟩⟩
            case measure => simp [intOf]; omega
      · obtain rfl : pn = k := by omega
        obtain ⟨hbe, hnb⟩ := HS.out
        rw [List.take_of_length_le (by rw [← HNP.out]; exact Nat.le_refl _)] at hnb
        obtain ⟨al, hal⟩ : ∃ al, al = (lg || (P.take pn).any PartI.long) := ⟨_, rfl⟩
        rw [← hal]
        have hE : checkE kind dn P = if al = true then 3 else 0 := by
          rw [List.take_of_length_le (by rw [← HNP.out]; exact Nat.le_refl _)] at hal
          unfold checkE
          rw [if_neg HNE.out, if_neg (by rw [hnb]; simp), hal, HLG.out]
          simp
        have HE := Lib.hid hE
        have HBE := Lib.hid hbe
        clear hE hal hnb hbe
        cases al
        all_goals
          go_wp2
          go_ret
          exact ⟨by rw [HE.out]; rfl, HB1.out.1.trans (HBE.out.mono (Nat.le_of_lt hs1))⟩
  · have hE : checkE kind dn P = 1 := checkE_early (.inr (.inr (.inr (by rw [← hn, ← hb7, ← hb0]; exact h4))))
    rw [hE]
    have tn : (b7 != b0) = true := by simpa using h4
    have tn2 : (b7 == b0) = false := by simpa using h4
    have hb : b0 = !b7 := by cases b7 <;> cases b0 <;> simp_all
    clear hE h2 h1 h3 h4 hn hb7 hb0 hlg tn tn2
    subst hb
    go_enter Tryz.func22, Tryz.ntmps22
    go_wp2
    go_ret
    rw [← hw1]
    exact ⟨rfl, HB1.out.1⟩
/-- Check of any operation that can be read. -/
theorem check_any : ∀ (n : Nat) (w : World) (r : RawO) (P : List PartI), r.pn = P.length → OpAtN w n r.pa P → r.dn ≤ maxLen → Calls Tryz.prog 22 #[r.val] w (CheckIs w (checkE r.kind r.dn P))
  | 0, w, r, P, hn, h, hd => by
    have h : P = [] := h
    subst h
    exact check_step w r [] hn (fun k i hk => by simp at hk) hd
  | n + 1, w, r, P, hn, h, hd => check_step w r P hn (fun k i hk => by
      obtain ⟨b, off, r', Q, h1, h2, h3, h4, h5, h6, h7⟩ := h k i hk
      exact ⟨b, off, r', Q, h1, h2, h3, h4, h5, fun w' hb => check_any n w' r' Q h5 (h7.below hb) h6⟩) hd
end Go.Proofs.YtnclkfhdpkkakaaGreatDoor
