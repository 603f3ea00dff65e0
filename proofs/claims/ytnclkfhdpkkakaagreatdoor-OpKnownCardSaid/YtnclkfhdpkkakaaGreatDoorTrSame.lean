/-
  maps.EqualFunc at nodes, walked; Same, walked.
-/
import Derived.Test.YtnclkfhdpkkakaaGreatDoorTrLike
import Derived.Test.YtnclkfhdpkkakaaGreatDoorTr15
import Derived.Maps.RangeWalk
import Derived.Sort.MapsRangeIn
import Derived.Maps.Ext
import Derived.Maps.OwnSet
import Derived.Laws.IdiomRangeMap
import Derived.Deep.LoopGhost
import Derived.Lib.SlMapEqual
namespace Go.Proofs.YtnclkfhdpkkakaaGreatDoor
set_option linter.unusedVariables false
set_option linter.unusedSimpArgs false
set_option linter.unusedVariables false
set_option linter.unusedSimpArgs false
open Go Go.RowKit Go.Shelf Go.MapKept Go.ChangeMaps Go.Maps Go.Sort Go.WideElems

/-- An element read as itself. -/
def valR : Value → Option (DataW Value × List MemPlace) := fun v => some (.held v, [])
theorem owns_val {mb : Nat} {w : World} {m : List (Bytes × Raw)} (hm : HasMap Tryz.prog 9 sv Raw.val w mb m) (hl : m.length ≤ 1000) :
    ∃ es : List (Lit × DataW Value), w.ownsMap Tryz.prog 9 valR mb m.length (.map es) ∧ es.Perm (m.map fun x => (Lit.string x.1, DataW.held x.2.val)) := by
  obtain ⟨es, c, h1, h2, h3, h4⟩ := hm
  have hs : es.size = m.length := by
    have := congrArg List.length h4
    simpa using this
  have hrd : ∀ x ∈ es.toList, ∀ l, keyOf Tryz.prog 9 x.key = some l → WideElems.rd Tryz.prog 9 valR x = some (l, .held x.val) := fun x hx l hk => by
    unfold WideElems.rd
    rw [hk]
    rfl
  refine ⟨_, ⟨es, c, h1, ⟨by rw [hs]; unfold maxLen; omega, h2, fun x hx => ?_⟩, by omega, rfl⟩, ?_⟩
  · obtain ⟨l, hk⟩ := h3 x hx
    exact ⟨_, hrd x hx l hk⟩
  · have hp := WideShapes.sorted_perm (es.toList.map (WideElems.rg Tryz.prog 9 valR))
    have hk : (es.toList.map (WideElems.rg Tryz.prog 9 valR)) = m.map fun x => (Lit.string x.1, DataW.held x.2.val) := by
      apply List.ext_getElem?
      intro i
      have h6 := congrArg (fun l => l[i]?) h4
      simp only [List.getElem?_map] at h6 ⊢
      cases hx : es.toList[i]? with
      | none =>
        rw [hx] at h6
        cases hy : m[i]? with
        | none => rfl
        | some y => rw [hy] at h6; simp at h6
      | some x =>
        rw [hx] at h6
        cases hy : m[i]? with
        | none => rw [hy] at h6; simp at h6
        | some y =>
          rw [hy] at h6
          simp only [Option.map_some, Option.some.injEq, Prod.mk.injEq] at h6
          obtain ⟨l, hk⟩ := h3 x (List.mem_of_getElem? hx)
          have hr := hrd x (List.mem_of_getElem? hx) l hk
          rw [h6.1] at hk
          obtain ⟨_, rfl⟩ := key_len hk
          simp [WideElems.rg, hr, h6.2]
    rw [hk] at hp
    rw [hk]
    exact hp
/-- Are two lists of nodes alike, as maps? -/
def sameM (M M' : List (Bytes × Nd)) : Bool := decide (M.length = M'.length) && M.all (fun x => decide (getA x.1 M' = some x.2))
theorem like_mem {w : World} {lo : Nat → Prop} {p : Bytes} {r : Raw} : ∀ {m : List (Bytes × Raw)} {M : List (Bytes × Nd)}, Like w lo m M → (p, r) ∈ m → ∃ d, (p, d) ∈ M ∧ Reads w lo r d
  | [], [], _, h => by simp at h
  | x :: m, y :: M, h, hm => by
    rcases List.mem_cons.1 hm with e | hm
    · subst e
      exact ⟨y.2, by rw [show (p, y.2) = y from Prod.ext h.1.1 rfl]; exact List.mem_cons_self .., h.1.2⟩
    · obtain ⟨d, h1, h2⟩ := like_mem h.2 hm
      exact ⟨d, List.mem_cons_of_mem _ h1, h2⟩
  | [], _ :: _, h, _ => h.elim
  | _ :: _, [], h, _ => h.elim
theorem like_mem' {w : World} {lo : Nat → Prop} : ∀ {m : List (Bytes × Raw)} {M : List (Bytes × Nd)} {x : Bytes × Nd}, Like w lo m M → x ∈ M → ∃ r, (x.1, r) ∈ m
  | [], [], _, _, h => by simp at h
  | z :: m, y :: M, x, h, hm => by
    rcases List.mem_cons.1 hm with e | hm
    · subst e
      exact ⟨z.2, by rw [show (x.1, z.2) = z from Prod.ext h.1.1.symm rfl]; exact List.mem_cons_self ..⟩
    · obtain ⟨d, h1⟩ := like_mem' h.2 hm
      exact ⟨d, List.mem_cons_of_mem _ h1⟩
  | [], _ :: _, _, h, _ => h.elim
  | _ :: _, [], _, h, _ => h.elim
theorem key_inv {v : Value} {p : Bytes} (h : keyOf Tryz.prog 9 v = some (.string p)) : v = sv p ∧ p.length ≤ maxLen := by
  obtain ⟨s, rfl⟩ := Maps.keyOf_string_inv Tryz.underlying9 h
  obtain ⟨q, rfl⟩ := str_open s
  obtain ⟨h1, h2⟩ := key_len (p := q) h
  cases h2
  exact ⟨rfl, h1⟩
theorem ret_bool {a b : Bool} (h : a = b) : Ending.returned (.bool a) = .returned (.bool b) := by rw [h]
/-- What went over is found alike in the other one. -/
def GoodM (M M' : List (Bytes × Nd)) (left : Lit → Bool) : Prop := ∀ x ∈ M, left (.string x.1) = false → getA x.1 M' = some x.2
theorem GoodM.step {M M' : List (Bytes × Nd)} {left : Lit → Bool} (h : GoodM M M' left) {p : Bytes} {d : Nd} (hn : (M.map (·.1)).Nodup) (hm : (p, d) ∈ M) (hg : getA p M' = some d) : GoodM M M' (fun z => left z && !z.sameKey (.string p)) := fun x hx hl => by
  by_cases hxp : x.1 = p
  · have h1 : getA x.1 M = some x.2 := by
      obtain ⟨j, hj⟩ := List.getElem?_of_mem hx
      exact getA_of_at hn hj
    have h2 : getA p M = some d := by
      obtain ⟨j, hj⟩ := List.getElem?_of_mem hm
      exact getA_of_at hn hj
    rw [hxp] at h1
    rw [h1] at h2
    cases h2
    rw [hxp]
    exact hg
  · refine h x hx ?_
    have : (Lit.string x.1).sameKey (.string p) = false := by
      cases hs : (Lit.string x.1).sameKey (.string p)
      · rfl
      · have := WideAt.sameKey_eq hs
        cases this
        exact absurd rfl hxp
    have hl2 : (left (.string x.1) && !(Lit.string x.1).sameKey (.string p)) = false := hl
    rw [this] at hl2
    simpa using hl2
/-- The state of the loop. -/
structure EqSt (lo lo' : Nat → Prop) (b1 b2 r : Nat) (m m' : List (Bytes × Raw)) (M M' : List (Bytes × Nd)) (es : List (Lit × DataW Value)) (w : World) (left : Lit → Bool) (cnt : Nat) (wr : World) : Prop where
  rg : wr.ranges Tryz.prog 9 valR b1 r m.length (.map es) left cnt
  bl : Below w.heap.size w wr
  good : GoodM M M' left
set_option maxRecDepth 100000 in
set_option maxHeartbeats 8000000 in
theorem equalFunc_any (w : World) (lo lo' : Nat → Prop) (b1 b2 : Nat) (m m' : List (Bytes × Raw)) (M M' : List (Bytes × Nd)) (h1 : HasMap Tryz.prog 9 sv Raw.val w b1 m) (h2 : HasMap Tryz.prog 9 sv Raw.val w b2 m')
    (l1 : Like w lo m M) (l2 : Like w lo' m' M') (f1 : Fit M) (f2 : Fit M') :
    Calls Tryz.prog 54 #[.map (some b1), .map (some b2), .func (.func 55) #[] #[]] w fun e w' => e = .returned (.bool (sameM M M')) ∧ Below w.heap.size w w' := by
  have ql1 := fun ty => h1.run_len Tryz.underlying84 ty
  have ql2 := fun ty => h2.run_len Tryz.underlying84 ty
  rw [l1.len] at ql1
  rw [l2.len] at ql2
  by_cases hsz : M.length = M'.length
  · obtain ⟨es, ho, hp⟩ := owns_val h1 (by have := l1.len; have := f1.len; omega)
    have HIN := Lib.hid (And.intro h1 (And.intro h2 (And.intro l1 (And.intro l2 (And.intro f1 (And.intro f2 (And.intro hp hsz)))))))
    rw [hsz] at ql1
    obtain ⟨R, hR⟩ : ∃ R, R = sameM M M' := ⟨_, rfl⟩
    rw [← hR]
    obtain ⟨es1, hes, hap, hkeys⟩ := ho.entries keyStr
    cases hes
    have HAP := Lib.hid (And.intro hap hkeys)
    have HR := Lib.hid hR
    clear h1 h2 l1 l2 f1 f2 hp hsz hap hkeys hR
    go_enter Tryz.func54, Tryz.ntmps54
    go_wp2_with (at_range; refine wpList_range_own _ rfl _ 84 rfl 9 39 keyStr Tryz.underlying84 valR b1 m.length _ rfl ho ?_; intro w0 hrg0 hg0 hs0)
    have H0 : Hid (EqSt lo lo' b1 b2 w.heap.size m m' M M' es w (Maps.has (.map es)) (Maps.size (.map es : DataW Value)) w0) := Lib.hid ⟨hrg0, ⟨hg0.os, hg0.tape, hg0.output, hg0.size, fun k hk => hg0.block k hk (by simp)⟩, fun x hx h => by
      exfalso
      obtain ⟨h1, h2, l1, l2, f1, f2, hp, hsz⟩ := HIN.out
      obtain ⟨r, hr⟩ := like_mem' l1 hx
      have hin : (Lit.string x.1, DataW.held r.val) ∈ es := hp.mem_iff.2 (List.mem_map.2 ⟨(x.1, r), hr, rfl⟩)
      have : Maps.has (DataW.map es) (.string x.1) = true := List.any_eq_true.2 ⟨_, hin, WideAt.sameKey_self (HAP.out.2 _ hin)⟩
      rw [this] at h
      cases h⟩
    clear ql1 ql2 hrg0 hg0 hs0 ho
    go_frame
    go_loopw [18] (fun _ wr => ∃ (left : Lit → Bool) (cnt : Nat), Hid (EqSt lo lo' b1 b2 w.heap.size m m' M M' es w left cnt wr))
      (fun _ wr => wr.rangeLeft b1 w.heap.size)
    case atStart => exact ⟨_, _, H0⟩
    case round =>
      obtain ⟨left, cnt, HS⟩ := hrel
      go_wp2_with (at_next; refine wpList_next_ranges _ rfl _ rfl 9 keyStr valR id id (fun key _ _ => ⟨key, rfl⟩) (fun v _ _ => ⟨v, rfl⟩) b1 w.heap.size m.length _ _ _ rfl HS.out.rg ?_ ?_)
      · intro _ hl0
        have HL0 := Lib.hid hl0
        clear hl0
        go_wp2
        go_ret
        refine ⟨ret_bool ?_, HS.out.bl⟩
        rw [HR.out]
        unfold sameM
        rw [decide_eq_true HIN.out.2.2.2.2.2.2.2, Bool.true_and]
        exact (List.all_eq_true.2 fun x hx => decide_eq_true (HS.out.good x hx (HL0.out _))).symm
      · intro x c0 kl yd yp w1 cnt1 hkey hlk hv hat hrg1 hlt hg1 hs1 hen
        have hy : (yd, yp) = ((DataW.held c0 : DataW Value), ([] : List MemPlace)) := (Option.some.inj hv).symm
        simp only [Prod.mk.injEq] at hy
        obtain ⟨rfl, rfl⟩ := hy
        obtain ⟨h1, h2, l1, l2, f1, f2, hp, hsz⟩ := HIN.out
        have hmem := hp.mem_iff.1 (Maps.came_mem HAP.out.1 HAP.out.2 hat)
        obtain ⟨⟨p, r⟩, hpm, he⟩ := List.mem_map.1 hmem
        simp only [Prod.mk.injEq, DataW.held.injEq] at he
        obtain ⟨rfl, rfl⟩ := he
        obtain ⟨d, hdm, hrd⟩ := like_mem l1 hpm
        obtain ⟨rfl, hpl⟩ := key_inv hkey
        have hb1 : Below w.heap.size w w1 := ⟨hg1.os.trans HS.out.bl.os, hg1.tape.trans HS.out.bl.tape, hg1.output.trans HS.out.bl.output, Nat.le_trans HS.out.bl.size hg1.size, fun k hk => (hg1.block k (Nat.lt_of_lt_of_le hk HS.out.bl.size) (by simp; omega)).trans (HS.out.bl.block k hk)⟩
        have hkp : (M.map (·.1)).Nodup := by rw [← l1.keys]; exact h1.nodup
        have hbad : getA p M' ≠ some d → R = false := fun hne => by
          rw [HR.out]
          unfold sameM
          rw [Bool.and_eq_false_iff]
          exact .inr (List.all_eq_false.2 ⟨(p, d), hdm, by simpa using hne⟩)
        obtain ⟨lk, hlk2⟩ := sv_key (p := p) hpl
        have hq2 : ∃ (ok : Bool) (r2 : Raw), (∀ W, W.heap[b2]? = w.heap[b2]? → (Instr.lookup 84 (.map (some b2)) (.string (bs p)) true).run Tryz.prog W = .ok (.tuple #[r2.val, .bool ok]) W) ∧ ((ok = false ∧ getA p M' = none) ∨ ∃ d2, ok = true ∧ getA p M' = some d2 ∧ Reads w lo' r2 d2) := by
          rcases l2.get p with ⟨g1, g2⟩ | ⟨r2, d2, g1, g2, g3⟩
          · refine ⟨false, zRaw, fun W hW => ?_, .inl ⟨rfl, g2⟩⟩
            have := (h2.of_block hW).lookup_ok keyStr sv_inj Tryz.underlying84 (zeroZ W) hlk2
            rw [g1] at this
            exact this
          · refine ⟨true, r2, fun W hW => ?_, .inr ⟨d2, rfl, g2, g3⟩⟩
            have := (h2.of_block hW).lookup_ok keyStr sv_inj Tryz.underlying84 (zeroZ W) hlk2
            rw [g1] at this
            exact this
        obtain ⟨ok, r2, hq2, hdec⟩ := hq2
        have hb2l : b2 < w.heap.size := h2.lt
        have hdl : d.data.length ≤ 1000000 := f1.data _ hdm
        have hdl2 : ∀ d2, getA p M' = some d2 → d2.data.length ≤ 1000000 := fun d2 h => by
          obtain ⟨z, hz, he⟩ := getA_mem h
          subst he
          exact f2.data z hz
        obtain ⟨a, n, c, ⟨v1, v2, v3, v4, v5, v6, v7, v8⟩⟩ := r
        obtain ⟨a2, n2, c2, ⟨x1, x2, x3, x4, x5, x6, x7, x8⟩⟩ := r2
        obtain ⟨w2, hw2⟩ : ∃ w2, w2 = w1.alloc (.cells #[.slice a n c, .int .u32 v1, .int .u32 v2, .int .u32 v3, .int .i64 v4, .int .u32 v5, .int .u64 v6, .int .u64 v7, .int .u64 v8] 39) := ⟨_, rfl⟩
        obtain ⟨w3, hw3⟩ : ∃ w3, w3 = w2.alloc (.cells #[.slice a2 n2 c2, .int .u32 x1, .int .u32 x2, .int .u32 x3, .int .i64 x4, .int .u32 x5, .int .u64 x6, .int .u64 x7, .int .u64 x8] 39) := ⟨_, rfl⟩
        have hb12 : Below w1.heap.size w1 w2 := by rw [hw2]; exact belowA (Below.refl _ w1) _
        have hb23 : Below w2.heap.size w2 w3 := by rw [hw3]; exact belowA (Below.refl _ w2) _
        have hb13 : Below w1.heap.size w1 w3 := hb12.trans (hb23.mono hb12.size)
        have hb03 : Below w.heap.size w w3 := hb1.trans (hb13.mono hb1.size)
        have hs2 : w2.heap.size = w1.heap.size + 1 := by rw [hw2]; simp
        have g2 : w3.heap[w1.heap.size]? = some (.cells #[.slice a n c, .int .u32 v1, .int .u32 v2, .int .u32 v3, .int .i64 v4, .int .u32 v5, .int .u64 v6, .int .u64 v7, .int .u64 v8] 39 (0, 0)) := (hb23.block _ (by omega)).trans (by rw [hw2]; exact heap_alloc_new w1 _)
        have g3 : w3.heap[w1.heap.size + 1]? = some (.cells #[.slice a2 n2 c2, .int .u32 x1, .int .u32 x2, .int .u32 x3, .int .i64 x4, .int .u32 x5, .int .u64 x6, .int .u64 x7, .int .u64 x8] 39 (0, 0)) := by
          have := heap_alloc_new w2 (.cells #[.slice a2 n2 c2, .int .u32 x1, .int .u32 x2, .int .u32 x3, .int .i64 x4, .int .u32 x5, .int .u64 x6, .int .u64 x7, .int .u64 x8] 39)
          rw [hs2] at this
          rw [hw3]
          exact this
        have q2 := hq2 w2 ((hb12.block b2 (Nat.lt_of_lt_of_le hb2l hb1.size)).trans (hb1.block b2 hb2l))
        rw [hw2] at q2
        have HG := Lib.hid (And.intro g2 g3)
        have HW := Lib.hid (And.intro hw2 hw3)
        have HK3 := Lib.hid (And.intro hb13 (And.intro hb03 hb1))
        have HRG := Lib.hid (And.intro hrg1 hlt)
        have HRD := Lib.hid (hrd.below hb03)
        have HM := Lib.hid (And.intro hdm (And.intro hkp hbad))
        unfold Raw.val Raw.cells Nums.cells at q2 hen
        dsimp only [id] at q2 hen
        unfold sv at hen
        clear h1 h2 l1 l2 f1 f2 hp hsz hmem hpm hdm hrd hkey hat hrg1 hlt hg1 hs1 hb1 hkp hbad hlk2 hlk hw2 hw3 hb12 hb23 hb13 hs2 g2 g3 hq2
        rcases hdec with ⟨rfl, hnone⟩ | ⟨d2, rfl, hsome, hrd2⟩
        · have HR0 : R = false := HM.out.2.2 (by rw [hnone]; simp)
          subst HR0
          clear hnone hdl2 hb03
          go_wp2
          go_ret
          exact ⟨rfl, belowA (belowA HK3.out.2.2 _) _⟩
        · have hdl2' := hdl2 d2 hsome
          have HL := Lib.hid (like_any w3 lo lo' ⟨a, n, c, ⟨v1, v2, v3, v4, v5, v6, v7, v8⟩⟩ ⟨a2, n2, c2, ⟨x1, x2, x3, x4, x5, x6, x7, x8⟩⟩ d d2 HRD.out (hrd2.below hb03) hdl hdl2')
          have HSM := Lib.hid hsome
          clear hsome hrd2 hdl2 hdl2' hb03
          obtain ⟨i0, i1, i2, i3, i4, i5, i6, i7, i8⟩ := nine HG.out.1
          obtain ⟨j0, j1, j2, j3, j4, j5, j6, j7, j8⟩ := nine HG.out.2
          by_cases hdd : d = d2
          · rw [decide_eq_true hdd] at HL
            have HD := Lib.hid hdd
            clear hdd
            go_wp2_with fail
            rw [← HW.out.1, ← HW.out.2]
            go_wp2_with fail
            refine HL.out.mono ?_
            rintro en w4 ⟨rfl, B4⟩
            have HB4 := Lib.hid (HK3.out.1.trans (B4.mono HK3.out.1.size))
            clear B4
            go_wp2
            have hgr : w1.grownBy w4 none := ⟨HB4.out.os, HB4.out.tape, HB4.out.output, HB4.out.size, fun k hk _ => HB4.out.block k hk⟩
            have hrg4 := HRG.out.1.kept hgr (by simp) (by simp)
            go_roundw
            case rel => exact ⟨_, cnt1, Lib.hid ⟨hrg4, HK3.out.2.2.trans (HB4.out.mono HK3.out.2.2.size), HS.out.good.step HM.out.2.1 HM.out.1 (by rw [HSM.out, HD.out])⟩⟩
            case measure => rw [hrg4.left_eq, HS.out.rg.left_eq]; exact HRG.out.2
          · rw [decide_eq_false hdd] at HL
            have HR0 : R = false := HM.out.2.2 (by rw [HSM.out]; simpa using Ne.symm hdd)
            subst HR0
            clear hdd
            go_wp2_with fail
            rw [← HW.out.1, ← HW.out.2]
            go_wp2_with fail
            refine HL.out.mono ?_
            rintro en w4 ⟨rfl, B4⟩
            have HB4 := Lib.hid (HK3.out.1.trans (B4.mono HK3.out.1.size))
            clear B4
            go_wp2
            go_ret
            exact ⟨rfl, HK3.out.2.2.trans (HB4.out.mono HK3.out.2.2.size)⟩
  · have hR : sameM M M' = false := by unfold sameM; rw [decide_eq_false hsz]; rfl
    rw [hR]
    have hne : ¬ ((M.length : Int) = (M'.length : Int)) := fun e => hsz (by exact_mod_cast e)
    clear h1 h2 l1 l2 f1 f2 hR hsz
    go_enter Tryz.func54, Tryz.ntmps54
    go_wp2
    go_ret
    exact ⟨rfl, Below.refl _ _⟩
section
variable {w : World} {lo lo' : Nat → Prop} {b mb b2 mb2 : Nat} {root root2 : Bytes} {at_ at2 : Int} {M M' : List (Bytes × Nd)}
set_option maxRecDepth 100000 in
theorem sameNil (w : World) : Calls Tryz.prog 31 #[.pointer none, .pointer none] w fun e w' => e = .returned (.bool true) ∧ w' = w := by
  go_enter Tryz.func31, Tryz.ntmps31
  go_wp2
  go_ret
  exact ⟨rfl, rfl⟩
theorem eqNilPd (d : Nat) (w : World) (a : Addr) : (Op.equalIn (d + 1) 33 (.pointer none) (.pointer (some a))).run Tryz.prog w = .ok false w := by
  simp [Op.equalIn, run_underlying Tryz.underlying33]
theorem eqNilP (w : World) (a : Addr) : (binOp .eql 33 (.pointer none) (.pointer (some a))).run Tryz.prog w = .ok (.bool false) w := by
  have h2 : (Op.equal 33 (.pointer none) (.pointer (some a))).run Tryz.prog w = .ok false w := eqNilPd 9999 w a
  simp only [binOp]
  simp [h2]
set_option maxRecDepth 100000 in
theorem sameNil1 (w : World) (b : Nat) : Calls Tryz.prog 31 #[.pointer none, .pointer (some ⟨b, 0, none⟩)] w fun e w' => e = .returned (.bool false) ∧ w' = w := by
  have q := eqNilP w ⟨b, 0, none⟩
  go_enter Tryz.func31, Tryz.ntmps31
  go_wp2
  go_ret
  exact ⟨rfl, rfl⟩
set_option maxRecDepth 100000 in
theorem sameNil2 (w : World) (b : Nat) : Calls Tryz.prog 31 #[.pointer (some ⟨b, 0, none⟩), .pointer none] w fun e w' => e = .returned (.bool false) ∧ w' = w := by
  go_enter Tryz.func31, Tryz.ntmps31
  go_wp2
  go_ret
  exact ⟨rfl, rfl⟩
/-- Are two trees the same? -/
def sameT (root : Bytes) (at_ : Int) (M : List (Bytes × Nd)) (root2 : Bytes) (at2 : Int) (M' : List (Bytes × Nd)) : Bool := decide (root = root2) && (at_ == at2) && sameM M M'
set_option maxRecDepth 100000 in
set_option maxHeartbeats 8000000 in
theorem TreeAt.same_any (T : TreeAt w lo b mb root at_ M) (T2 : TreeAt w lo' b2 mb2 root2 at2 M') (f1 : Fit M) (f2 : Fit M') :
    Calls Tryz.prog 31 #[.pointer (some ⟨b, 0, none⟩), .pointer (some ⟨b2, 0, none⟩)] w fun e w' => e = .returned (.bool (sameT root at_ M root2 at2 M')) ∧ Below w.heap.size w w' := by
  obtain ⟨c0, c1, c2⟩ := T.cells
  obtain ⟨d0, d1, d2⟩ := T2.cells
  obtain ⟨m, hm, hl⟩ := T.map
  obtain ⟨m2, hm2, hl2⟩ := T2.map
  obtain ⟨s, hsM⟩ : ∃ s, s = sameM M M' := ⟨_, rfl⟩
  unfold sameT
  rw [← hsM]
  have hEQ : Always w 54 #[.map (some mb), .map (some mb2), .func (.func 55) #[] #[]] (.bool s) := fun W hW => by
    rw [hsM]
    exact equalFunc_any W lo lo' mb mb2 m m2 M M' (hm.of_block (hW.block _ hm.lt)) (hm2.of_block (hW.block _ hm2.lt)) (hl.imp fun _ _ h => h.below hW) (hl2.imp fun _ _ h => h.below hW) f1 f2
  have HEQ := Lib.hid (hEQ.ext (Below.refl _ w))
  have t1 := eq_bs root root2
  have g : ∀ (p : Addr) v, w.cell? p = some v → ∀ o, (Wext w o).cell? p = some v := fun p v h o => ((Wext.below w o).cell (World.block_lt_of_cell? _ _ h)).trans h
  have e0 := g _ _ c0
  have e1 := g _ _ c1
  have e2 := g _ _ c2
  have e3 := g _ _ d0
  have e4 := g _ _ d1
  have e5 := g _ _ d2
  clear T T2 hsM hm hm2 hl hl2 hEQ c0 c1 c2 d0 d1 d2 g f1 f2
  cases h1 : decide (root = root2)
  all_goals
    rw [h1] at t1
    clear h1
    cases h2 : (at_ == at2)
    all_goals
      go_enter Tryz.func31, Tryz.ntmps31
      go_wp2_with fail
      refine wp_region_ext (by kernel_rfl) (by kernel_rfl) ?_
      repeat (go_big_quiet_step (first | (go_at_call 54; exact HEQ.out _)))
      refine wpQuiet_nil ?_
      intro w' hw'
      obtain ⟨oq, hw''⟩ := hw'
      subst hw''
      go_wp2
      go_ret
      exact ⟨rfl, Wext.below w oq⟩
end
end Go.Proofs.YtnclkfhdpkkakaaGreatDoor
