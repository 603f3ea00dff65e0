/-
  maps.EqualFunc at nodes, walked; Same, walked. The reference's Texts: are two lists of texts the same?, walked. A tree in a run: one bundle; its methods. What holds of a tree's nodes, whatever effects came: the root is there, each other node has its parent there. An operation on a tree's nodes: its error, its effects, its answer; effects fit.
-/
import Derived.Test.YtnclkfhdpkkakaaGreatDoorQ13
import Derived.Test.YtnclkfhdpkkakaaGreatDoorQ16
import Derived.Maps.RangeWalk
import Derived.Sort.MapsRangeIn
import Derived.Maps.Ext
import Derived.Maps.OwnSet
import Derived.Laws.IdiomRangeMap
import Derived.Deep.LoopGhost
import Derived.Lib.SlMapEqual
import Derived.Test.YtnclkfhdpkkakaaGreatDoorQ9
import Derived.Test.YtnclkfhdpkkakaaGreatDoorQ7
import Derived.Laws.IdiomStrings
import Derived.Laws.BytesArg
import Derived.Test.YtnclkfhdpkkakaaGreatDoorQ15
import Derived.Lib.ItoaNum
namespace Go.Proofs.YtnclkfhdpkkakaaGreatDoor
set_option linter.unusedVariables false
set_option linter.unusedSimpArgs false
set_option linter.unusedVariables false
set_option linter.unusedSimpArgs false
open Go Go.RowKit Go.Shelf Go.MapKept Go.ChangeMaps Go.Maps Go.Sort Go.WideElems
def valR : Value → Option (DataW Value × List MemPlace) := fun v => some (.held v, [])
theorem owns_val {mb : Nat} {w : World} {m : List (Bytes × Raw)} (hm : HasMap Tryz.prog 9 sv Raw.val w mb m) (hl : m.length ≤ 1000) :
  ∃ es : List (Lit × DataW Value), w.ownsMap Tryz.prog 9 valR mb m.length (.map es) ∧ es.Perm (m.map fun x => (Lit.string x.1, DataW.held x.2.val)) := by
 obtain ⟨es, c, h1, h2, h3, h4⟩ := hm
 have hs : es.size = m.length := by
  have := congrArg List.length h4
  simpa using this
 have hrd : ∀ x ∈ es.toList, ∀ l, keyOf Tryz.prog 9 x.key = some l → WideElems.rd Tryz.prog 9 valR x = some (l, .held x.val) := fun x hx l hk => by
  unfold WideElems.rd
  rw [hk]
  rfl
 refine ⟨_, ⟨es, c, h1, ⟨by rw [hs]; unfold maxLen; omega, h2, fun x hx => ?_⟩, by omega, rfl⟩, ?_⟩
 ·obtain ⟨l, hk⟩ := h3 x hx
  exact ⟨_, hrd x hx l hk⟩
 ·have hp := WideShapes.sorted_perm (es.toList.map (WideElems.rg Tryz.prog 9 valR))
  have hk : (es.toList.map (WideElems.rg Tryz.prog 9 valR)) = m.map fun x => (Lit.string x.1, DataW.held x.2.val) := by
   apply List.ext_getElem?
   intro i
   have h6 := congrArg (fun l => l[i]?) h4
   simp only [List.getElem?_map] at h6 ⊢
   cases hx : es.toList[i]? with
   | none =>
    rw [hx] at h6
    cases hy : m[i]? with
    | none => rfl
    | some y => rw [hy] at h6; simp at h6
   | some x =>
    rw [hx] at h6
    cases hy : m[i]? with
    | none => rw [hy] at h6; simp at h6
    | some y =>
     rw [hy] at h6
     simp only [Option.map_some, Option.some.injEq, Prod.mk.injEq] at h6
     obtain ⟨l, hk⟩ := h3 x (List.mem_of_getElem? hx)
     have hr := hrd x (List.mem_of_getElem? hx) l hk
     rw [h6.1] at hk
     obtain ⟨_, rfl⟩ := key_len hk
     simp [WideElems.rg, hr, h6.2]
  rw [hk] at hp
  rw [hk]
  exact hp
def sameM (M M' : List (Bytes × Nd)) : Bool := decide (M.length = M'.length) && M.all (fun x => decide (getA x.1 M' = some x.2))
theorem like_mem {w : World} {lo : Nat → Prop} {p : Bytes} {r : Raw} : ∀ {m : List (Bytes × Raw)} {M : List (Bytes × Nd)}, Like w lo m M → (p, r) ∈ m → ∃ d, (p, d) ∈ M ∧ Reads w lo r d
 | [], [], _, h => by simp at h
 | x :: m, y :: M, h, hm => by
  rcases List.mem_cons.1 hm with e | hm
  ·subst e
   exact ⟨y.2, by rw [show (p, y.2) = y from Prod.ext h.1.1 rfl]; exact List.mem_cons_self .., h.1.2⟩
  ·obtain ⟨d, h1, h2⟩ := like_mem h.2 hm
   exact ⟨d, List.mem_cons_of_mem _ h1, h2⟩
 | [], _ :: _, h, _ => h.elim
 | _ :: _, [], h, _ => h.elim
theorem like_mem' {w : World} {lo : Nat → Prop} : ∀ {m : List (Bytes × Raw)} {M : List (Bytes × Nd)} {x : Bytes × Nd}, Like w lo m M → x ∈ M → ∃ r, (x.1, r) ∈ m
 | [], [], _, _, h => by simp at h
 | z :: m, y :: M, x, h, hm => by
  rcases List.mem_cons.1 hm with e | hm
  ·subst e
   exact ⟨z.2, by rw [show (x.1, z.2) = z from Prod.ext h.1.1.symm rfl]; exact List.mem_cons_self ..⟩
  ·obtain ⟨d, h1⟩ := like_mem' h.2 hm
   exact ⟨d, List.mem_cons_of_mem _ h1⟩
 | [], _ :: _, _, h, _ => h.elim
 | _ :: _, [], _, h, _ => h.elim
theorem key_inv {v : Value} {p : Bytes} (h : keyOf Tryz.prog 9 v = some (.string p)) : v = sv p ∧ p.length ≤ maxLen := by
 obtain ⟨s, rfl⟩ := Maps.keyOf_string_inv Tryz.underlying9 h
 obtain ⟨q, rfl⟩ := str_open s
 obtain ⟨h1, h2⟩ := key_len (p := q) h
 cases h2
 exact ⟨rfl, h1⟩
theorem ret_bool {a b : Bool} (h : a = b) : Ending.returned (.bool a) = .returned (.bool b) := by rw [h]
def GoodM (M M' : List (Bytes × Nd)) (left : Lit → Bool) : Prop := ∀ x ∈ M, left (.string x.1) = false → getA x.1 M' = some x.2
theorem GoodM.step {M M' : List (Bytes × Nd)} {left : Lit → Bool} (h : GoodM M M' left) {p : Bytes} {d : Nd} (hn : (M.map (·.1)).Nodup) (hm : (p, d) ∈ M) (hg : getA p M' = some d) : GoodM M M' (fun z => left z && !z.sameKey (.string p)) := fun x hx hl => by
 by_cases hxp : x.1 = p
 ·have h1 : getA x.1 M = some x.2 := by
   obtain ⟨j, hj⟩ := List.getElem?_of_mem hx
   exact getA_of_at hn hj
  have h2 : getA p M = some d := by
   obtain ⟨j, hj⟩ := List.getElem?_of_mem hm
   exact getA_of_at hn hj
  rw [hxp] at h1
  rw [h1] at h2
  cases h2
  rw [hxp]
  exact hg
 ·refine h x hx ?_
  have : (Lit.string x.1).sameKey (.string p) = false := by
   cases hs : (Lit.string x.1).sameKey (.string p)
   ·rfl
   ·have := WideAt.sameKey_eq hs
    cases this
    exact absurd rfl hxp
  have hl2 : (left (.string x.1) && !(Lit.string x.1).sameKey (.string p)) = false := hl
  rw [this] at hl2
  simpa using hl2
structure EqSt (lo lo' : Nat → Prop) (b1 b2 r : Nat) (m m' : List (Bytes × Raw)) (M M' : List (Bytes × Nd)) (es : List (Lit × DataW Value)) (w : World) (left : Lit → Bool) (cnt : Nat) (wr : World) : Prop where
 rg : wr.ranges Tryz.prog 9 valR b1 r m.length (.map es) left cnt
 bl : Below w.heap.size w wr
 good : GoodM M M' left
set_option maxRecDepth 100000 in
set_option maxHeartbeats 8000000 in
theorem equalFunc_any (w : World) (lo lo' : Nat → Prop) (b1 b2 : Nat) (m m' : List (Bytes × Raw)) (M M' : List (Bytes × Nd)) (h1 : HasMap Tryz.prog 9 sv Raw.val w b1 m) (h2 : HasMap Tryz.prog 9 sv Raw.val w b2 m')
  (l1 : Like w lo m M) (l2 : Like w lo' m' M') (f1 : Fit M) (f2 : Fit M') :
  Calls Tryz.prog 54 #[.map (some b1), .map (some b2), .func (.func 55) #[] #[]] w fun e w' => e = .returned (.bool (sameM M M')) ∧ Below w.heap.size w w' := by
 have ql1 := fun ty => h1.run_len Tryz.underlying84 ty
 have ql2 := fun ty => h2.run_len Tryz.underlying84 ty
 rw [l1.len] at ql1
 rw [l2.len] at ql2
 by_cases hsz : M.length = M'.length
 ·obtain ⟨es, ho, hp⟩ := owns_val h1 (by have := l1.len; have := f1.len; omega)
  have HIN := Lib.hid (And.intro h1 (And.intro h2 (And.intro l1 (And.intro l2 (And.intro f1 (And.intro f2 (And.intro hp hsz)))))))
  rw [hsz] at ql1
  obtain ⟨R, hR⟩ : ∃ R, R = sameM M M' := ⟨_, rfl⟩
  rw [← hR]
  obtain ⟨es1, hes, hap, hkeys⟩ := ho.entries keyStr
  cases hes
  have HAP := Lib.hid (And.intro hap hkeys)
  have HR := Lib.hid hR
  clear h1 h2 l1 l2 f1 f2 hp hsz hap hkeys hR
  go_enter Tryz.func54, Tryz.ntmps54
  go_wp2_with (at_range; refine wpList_range_own _ rfl _ 84 rfl 9 39 keyStr Tryz.underlying84 valR b1 m.length _ rfl ho ?_; intro w0 hrg0 hg0 hs0)
  have H0 : Hid (EqSt lo lo' b1 b2 w.heap.size m m' M M' es w (Maps.has (.map es)) (Maps.size (.map es : DataW Value)) w0) := Lib.hid ⟨hrg0, ⟨hg0.os, hg0.tape, hg0.output, hg0.size, fun k hk => hg0.block k hk (by simp)⟩, fun x hx h => by
   exfalso
   obtain ⟨h1, h2, l1, l2, f1, f2, hp, hsz⟩ := HIN.out
   obtain ⟨r, hr⟩ := like_mem' l1 hx
   have hin : (Lit.string x.1, DataW.held r.val) ∈ es := hp.mem_iff.2 (List.mem_map.2 ⟨(x.1, r), hr, rfl⟩)
   have : Maps.has (DataW.map es) (.string x.1) = true := List.any_eq_true.2 ⟨_, hin, WideAt.sameKey_self (HAP.out.2 _ hin)⟩
   rw [this] at h
   cases h⟩
  clear ql1 ql2 hrg0 hg0 hs0 ho
  go_frame
  go_loopw [18] (fun _ wr => ∃ (left : Lit → Bool) (cnt : Nat), Hid (EqSt lo lo' b1 b2 w.heap.size m m' M M' es w left cnt wr))
   (fun _ wr => wr.rangeLeft b1 w.heap.size)
  case atStart => exact ⟨_, _, H0⟩
  case round =>
   obtain ⟨left, cnt, HS⟩ := hrel
   go_wp2_with (at_next; refine wpList_next_ranges _ rfl _ rfl 9 keyStr valR id id (fun key _ _ => ⟨key, rfl⟩) (fun v _ _ => ⟨v, rfl⟩) b1 w.heap.size m.length _ _ _ rfl HS.out.rg ?_ ?_)
   ·intro _ hl0
    have HL0 := Lib.hid hl0
    clear hl0
    go_wp2
    go_ret
    refine ⟨ret_bool ?_, HS.out.bl⟩
    rw [HR.out]
    unfold sameM
    rw [decide_eq_true HIN.out.2.2.2.2.2.2.2, Bool.true_and]
    exact (List.all_eq_true.2 fun x hx => decide_eq_true (HS.out.good x hx (HL0.out _))).symm
   ·intro x c0 kl yd yp w1 cnt1 hkey hlk hv hat hrg1 hlt hg1 hs1 hen
    have hy : (yd, yp) = ((DataW.held c0 : DataW Value), ([] : List MemPlace)) := (Option.some.inj hv).symm
    simp only [Prod.mk.injEq] at hy
    obtain ⟨rfl, rfl⟩ := hy
    obtain ⟨h1, h2, l1, l2, f1, f2, hp, hsz⟩ := HIN.out
    have hmem := hp.mem_iff.1 (Maps.came_mem HAP.out.1 HAP.out.2 hat)
    obtain ⟨⟨p, r⟩, hpm, he⟩ := List.mem_map.1 hmem
    simp only [Prod.mk.injEq, DataW.held.injEq] at he
    obtain ⟨rfl, rfl⟩ := he
    obtain ⟨d, hdm, hrd⟩ := like_mem l1 hpm
    obtain ⟨rfl, hpl⟩ := key_inv hkey
    have hb1 : Below w.heap.size w w1 := ⟨hg1.os.trans HS.out.bl.os, hg1.tape.trans HS.out.bl.tape, hg1.output.trans HS.out.bl.output, Nat.le_trans HS.out.bl.size hg1.size, fun k hk => (hg1.block k (Nat.lt_of_lt_of_le hk HS.out.bl.size) (by simp; omega)).trans (HS.out.bl.block k hk)⟩
    have hkp : (M.map (·.1)).Nodup := by rw [← l1.keys]; exact h1.nodup
    have hbad : getA p M' ≠ some d → R = false := fun hne => by
     rw [HR.out]
     unfold sameM
     rw [Bool.and_eq_false_iff]
     exact .inr (List.all_eq_false.2 ⟨(p, d), hdm, by simpa using hne⟩)
    obtain ⟨lk, hlk2⟩ := sv_key (p := p) hpl
    have hq2 : ∃ (ok : Bool) (r2 : Raw), (∀ W, W.heap[b2]? = w.heap[b2]? → (Instr.lookup 84 (.map (some b2)) (.string (bs p)) true).run Tryz.prog W = .ok (.tuple #[r2.val, .bool ok]) W) ∧ ((ok = false ∧ getA p M' = none) ∨ ∃ d2, ok = true ∧ getA p M' = some d2 ∧ Reads w lo' r2 d2) := by
     rcases l2.get p with ⟨g1, g2⟩ | ⟨r2, d2, g1, g2, g3⟩
     ·refine ⟨false, zRaw, fun W hW => ?_, .inl ⟨rfl, g2⟩⟩
      have := (h2.of_block hW).lookup_ok keyStr sv_inj Tryz.underlying84 (zeroZ W) hlk2
      rw [g1] at this
      exact this
     ·refine ⟨true, r2, fun W hW => ?_, .inr ⟨d2, rfl, g2, g3⟩⟩
      have := (h2.of_block hW).lookup_ok keyStr sv_inj Tryz.underlying84 (zeroZ W) hlk2
      rw [g1] at this
      exact this
    obtain ⟨ok, r2, hq2, hdec⟩ := hq2
    have hb2l : b2 < w.heap.size := h2.lt
    have hdl : d.data.length ≤ 1000000 := f1.data _ hdm
    have hdl2 : ∀ d2, getA p M' = some d2 → d2.data.length ≤ 1000000 := fun d2 h => by
     obtain ⟨z, hz, he⟩ := getA_mem h
     subst he
     exact f2.data z hz
    obtain ⟨a, n, c, ⟨v1, v2, v3, v4, v5, v6, v7, v8⟩⟩ := r
    obtain ⟨a2, n2, c2, ⟨x1, x2, x3, x4, x5, x6, x7, x8⟩⟩ := r2
    obtain ⟨w2, hw2⟩ : ∃ w2, w2 = w1.alloc (.cells #[.slice a n c, .int .u32 v1, .int .u32 v2, .int .u32 v3, .int .i64 v4, .int .u32 v5, .int .u64 v6, .int .u64 v7, .int .u64 v8] 39) := ⟨_, rfl⟩
    obtain ⟨w3, hw3⟩ : ∃ w3, w3 = w2.alloc (.cells #[.slice a2 n2 c2, .int .u32 x1, .int .u32 x2, .int .u32 x3, .int .i64 x4, .int .u32 x5, .int .u64 x6, .int .u64 x7, .int .u64 x8] 39) := ⟨_, rfl⟩
    have hb12 : Below w1.heap.size w1 w2 := by rw [hw2]; exact belowA (Below.refl _ w1) _
    have hb23 : Below w2.heap.size w2 w3 := by rw [hw3]; exact belowA (Below.refl _ w2) _
    have hb13 : Below w1.heap.size w1 w3 := hb12.trans (hb23.mono hb12.size)
    have hb03 : Below w.heap.size w w3 := hb1.trans (hb13.mono hb1.size)
    have hs2 : w2.heap.size = w1.heap.size + 1 := by rw [hw2]; simp
    have g2 : w3.heap[w1.heap.size]? = some (.cells #[.slice a n c, .int .u32 v1, .int .u32 v2, .int .u32 v3, .int .i64 v4, .int .u32 v5, .int .u64 v6, .int .u64 v7, .int .u64 v8] 39 (0, 0)) := (hb23.block _ (by omega)).trans (by rw [hw2]; exact heap_alloc_new w1 _)
    have g3 : w3.heap[w1.heap.size + 1]? = some (.cells #[.slice a2 n2 c2, .int .u32 x1, .int .u32 x2, .int .u32 x3, .int .i64 x4, .int .u32 x5, .int .u64 x6, .int .u64 x7, .int .u64 x8] 39 (0, 0)) := by
     have := heap_alloc_new w2 (.cells #[.slice a2 n2 c2, .int .u32 x1, .int .u32 x2, .int .u32 x3, .int .i64 x4, .int .u32 x5, .int .u64 x6, .int .u64 x7, .int .u64 x8] 39)
     rw [hs2] at this
     rw [hw3]
     exact this
    have q2 := hq2 w2 ((hb12.block b2 (Nat.lt_of_lt_of_le hb2l hb1.size)).trans (hb1.block b2 hb2l))
    rw [hw2] at q2
    have HG := Lib.hid (And.intro g2 g3)
    have HW := Lib.hid (And.intro hw2 hw3)
    have HK3 := Lib.hid (And.intro hb13 (And.intro hb03 hb1))
    have HRG := Lib.hid (And.intro hrg1 hlt)
    have HRD := Lib.hid (hrd.below hb03)
    have HM := Lib.hid (And.intro hdm (And.intro hkp hbad))
    unfold Raw.val Raw.cells Nums.cells at q2 hen
    dsimp only [id] at q2 hen
    unfold sv at hen
    clear h1 h2 l1 l2 f1 f2 hp hsz hmem hpm hdm hrd hkey hat hrg1 hlt hg1 hs1 hb1 hkp hbad hlk2 hlk hw2 hw3 hb12 hb23 hb13 hs2 g2 g3 hq2
    rcases hdec with ⟨rfl, hnone⟩ | ⟨d2, rfl, hsome, hrd2⟩
    ·have HR0 : R = false := HM.out.2.2 (by rw [hnone]; simp)
     subst HR0
     clear hnone hdl2 hb03
     go_wp2
     go_ret
     exact ⟨rfl, belowA (belowA HK3.out.2.2 _) _⟩
    ·have hdl2' := hdl2 d2 hsome
     have HL := Lib.hid (like_any w3 lo lo' ⟨a, n, c, ⟨v1, v2, v3, v4, v5, v6, v7, v8⟩⟩ ⟨a2, n2, c2, ⟨x1, x2, x3, x4, x5, x6, x7, x8⟩⟩ d d2 HRD.out (hrd2.below hb03) hdl hdl2')
     have HSM := Lib.hid hsome
     clear hsome hrd2 hdl2 hdl2' hb03
     obtain ⟨i0, i1, i2, i3, i4, i5, i6, i7, i8⟩ := nine HG.out.1
     obtain ⟨j0, j1, j2, j3, j4, j5, j6, j7, j8⟩ := nine HG.out.2
     by_cases hdd : d = d2
     ·rw [decide_eq_true hdd] at HL
      have HD := Lib.hid hdd
      clear hdd
      go_wp2_with fail
      rw [← HW.out.1, ← HW.out.2]
      go_wp2_with fail
      refine HL.out.mono ?_
      rintro en w4 ⟨rfl, B4⟩
      have HB4 := Lib.hid (HK3.out.1.trans (B4.mono HK3.out.1.size))
      clear B4
      go_wp2
      have hgr : w1.grownBy w4 none := ⟨HB4.out.os, HB4.out.tape, HB4.out.output, HB4.out.size, fun k hk _ => HB4.out.block k hk⟩
      have hrg4 := HRG.out.1.kept hgr (by simp) (by simp)
      go_roundw
      case rel => exact ⟨_, cnt1, Lib.hid ⟨hrg4, HK3.out.2.2.trans (HB4.out.mono HK3.out.2.2.size), HS.out.good.step HM.out.2.1 HM.out.1 (by rw [HSM.out, HD.out])⟩⟩
      case measure => rw [hrg4.left_eq, HS.out.rg.left_eq]; exact HRG.out.2
     ·rw [decide_eq_false hdd] at HL
      have HR0 : R = false := HM.out.2.2 (by rw [HSM.out]; simpa using Ne.symm hdd)
      subst HR0
      clear hdd
      go_wp2_with fail
      rw [← HW.out.1, ← HW.out.2]
      go_wp2_with fail
      refine HL.out.mono ?_
      rintro en w4 ⟨rfl, B4⟩
      have HB4 := Lib.hid (HK3.out.1.trans (B4.mono HK3.out.1.size))
      clear B4
      go_wp2
      go_ret
      exact ⟨rfl, HK3.out.2.2.trans (HB4.out.mono HK3.out.2.2.size)⟩
 ·have hR : sameM M M' = false := by unfold sameM; rw [decide_eq_false hsz]; rfl
  rw [hR]
  have hne : ¬ ((M.length : Int) = (M'.length : Int)) := fun e => hsz (by exact_mod_cast e)
  clear h1 h2 l1 l2 f1 f2 hR hsz
  go_enter Tryz.func54, Tryz.ntmps54
  go_wp2
  go_ret
  exact ⟨rfl, Below.refl _ _⟩
section
variable {w : World} {lo lo' : Nat → Prop} {b mb b2 mb2 : Nat} {root root2 : Bytes} {at_ at2 : Int} {M M' : List (Bytes × Nd)}
def sameT (root : Bytes) (at_ : Int) (M : List (Bytes × Nd)) (root2 : Bytes) (at2 : Int) (M' : List (Bytes × Nd)) : Bool := decide (root = root2) && (at_ == at2) && sameM M M'
set_option maxRecDepth 100000 in
set_option maxHeartbeats 8000000 in
theorem TreeAt.same_any (T : TreeAt w lo b mb root at_ M) (T2 : TreeAt w lo' b2 mb2 root2 at2 M') (f1 : Fit M) (f2 : Fit M') :
  Calls Tryz.prog 31 #[.pointer (some ⟨b, 0, none⟩), .pointer (some ⟨b2, 0, none⟩)] w fun e w' => e = .returned (.bool (sameT root at_ M root2 at2 M')) ∧ Below w.heap.size w w' := by
 obtain ⟨c0, c1, c2⟩ := T.cells
 obtain ⟨d0, d1, d2⟩ := T2.cells
 obtain ⟨m, hm, hl⟩ := T.map
 obtain ⟨m2, hm2, hl2⟩ := T2.map
 obtain ⟨s, hsM⟩ : ∃ s, s = sameM M M' := ⟨_, rfl⟩
 unfold sameT
 rw [← hsM]
 have hEQ : Always w 54 #[.map (some mb), .map (some mb2), .func (.func 55) #[] #[]] (.bool s) := fun W hW => by
  rw [hsM]
  exact equalFunc_any W lo lo' mb mb2 m m2 M M' (hm.of_block (hW.block _ hm.lt)) (hm2.of_block (hW.block _ hm2.lt)) (hl.imp fun _ _ h => h.below hW) (hl2.imp fun _ _ h => h.below hW) f1 f2
 have HEQ := Lib.hid (hEQ.ext (Below.refl _ w))
 have t1 := eq_bs root root2
 have g : ∀ (p : Addr) v, w.cell? p = some v → ∀ o, (Wext w o).cell? p = some v := fun p v h o => ((Wext.below w o).cell (World.block_lt_of_cell? _ _ h)).trans h
 have e0 := g _ _ c0
 have e1 := g _ _ c1
 have e2 := g _ _ c2
 have e3 := g _ _ d0
 have e4 := g _ _ d1
 have e5 := g _ _ d2
 clear T T2 hsM hm hm2 hl hl2 hEQ c0 c1 c2 d0 d1 d2 g f1 f2
 cases h1 : decide (root = root2)
 all_goals
  rw [h1] at t1
  clear h1
  cases h2 : (at_ == at2)
  all_goals
   go_enter Tryz.func31, Tryz.ntmps31
   go_wp2_with fail
   refine wp_region_ext (by kernel_rfl) (by kernel_rfl) ?_
   repeat (go_big_quiet_step (first | (go_at_call 54; exact HEQ.out _)))
   refine wpQuiet_nil ?_
   intro w' hw'
   obtain ⟨oq, hw''⟩ := hw'
   subst hw''
   go_wp2
   go_ret
   exact ⟨rfl, Wext.below w oq⟩
end
end Go.Proofs.YtnclkfhdpkkakaaGreatDoor
namespace Go.Proofs.YtnclkfhdpkkakaaGreatDoor
set_option linter.unusedVariables false
set_option linter.unusedSimpArgs false
open Go.RowKit
set_option maxRecDepth 100000 in
set_option maxHeartbeats 2000000 in
theorem texts_any (a b : Option Addr) (c d B1 B2 : Nat) (L M : List Bytes) (w : World) (hl : L.length ≤ 1000) (hm : M.length ≤ 1000) (S1 : StrSl w B1 a L) (S2 : StrSl w B2 b M) :
  Calls Tryz.prog 24 #[.slice a L.length c, .slice b M.length d] w fun e w' => e = .returned (.bool (decide (L = M))) ∧ ∃ q, w' = w.drewN q := by
 obtain ⟨R, hR⟩ : ∃ R, R = decide (L = M) := ⟨_, rfl⟩
 rw [← hR]
 have HR := Lib.hid hR
 have X1 := Lib.hid S1
 have X2 := Lib.hid S2
 clear hR S1 S2
 obtain ⟨n, hn⟩ : ∃ n, n = L.length := ⟨_, rfl⟩
 obtain ⟨k, hk⟩ : ∃ k, k = M.length := ⟨_, rfl⟩
 have HN := Lib.hid hn
 have HK := Lib.hid hk
 rw [← hn] at hl ⊢
 rw [← hk] at hm ⊢
 clear hn hk
 by_cases hle : n = k
 ·have HE := Lib.hid hle
  have t0 : ((n : Int) != (k : Int)) = false := by rw [hle]; simp
  clear hle
  go_enter Tryz.func24, Tryz.ntmps24
  go_wp2
  go_loopw [5] (fun i wr => ∃ m : Nat, m ≤ n ∧ i = .int .i64 m ∧ Hid (L.take m = M.take m) ∧ ∃ q, wr = w.drewN q) (fun i _ => n - (intOf i).toNat)
  case atStart => exact ⟨0, by omega, rfl, Lib.hid rfl, 0, rfl⟩
  case round =>
   obtain ⟨m, hm, rfl, HT0, q, rfl⟩ := hrel
   by_cases hlt : m < n
   ·have hlt2 : m < k := by rw [← HE.out]; exact hlt
    obtain ⟨x, hx⟩ : ∃ x, L[m]? = some x := ⟨_, List.getElem?_eq_getElem (by rw [← HN.out]; exact hlt)⟩
    obtain ⟨y, hy⟩ : ∃ y, M[m]? = some y := ⟨_, List.getElem?_eq_getElem (by rw [← HK.out]; exact hlt2)⟩
    obtain ⟨g, off, rfl, _, hc1⟩ := X1.out m x hx
    obtain ⟨g2, off2, rfl, _, hc2⟩ := X2.out m y hy
    have HT := Lib.hid (take_step L M m x y hx hy HT0.out)
    by_cases hxy : x = y
    ·subst hxy
     have HE2 := Lib.hid (HT.out.2 rfl)
     have ht : ((bs x).toList == (bs x).toList) = true := by simp
     clear hx hy HT
     go_wp2
     go_quiet (fail)
     go_wp2
     go_roundw
     case rel => exact ⟨m + 1, by omega, by go_num, HE2, _, rfl⟩
     case measure => simp [intOf]; omega
    ·have ht : ((bs x).toList == (bs y).toList) = false := by
      rw [toList_bs, toList_bs]
      simpa using hxy
     have hrf : R = false := by
      rw [HR.out]
      have : ¬ L = M := fun e => by
       apply hxy
       rw [e, hy] at hx
       exact (Option.some.inj hx).symm
      simp [this]
     subst hrf
     clear hx hy HT hxy
     go_wp2
     go_quiet (fail)
     go_wp2
     go_ret
     exact ⟨rfl, _, World.drewN_drewN _ _ _⟩
   ·obtain rfl : m = n := by omega
    have hrt : R = true := by
     rw [HR.out]
     have h1 := HT0.out
     rw [HN.out, List.take_length, ← HN.out, HE.out, HK.out, List.take_length] at h1
     simp [h1]
    subst hrt
    go_wp2
    go_ret
    exact ⟨rfl, _, rfl⟩
 ·have t0 : ((n : Int) != (k : Int)) = true := by
   rw [bne_iff_ne]
   omega
  have hrf : R = false := by
   rw [HR.out]
   have : ¬ L = M := fun e => hle (by rw [HN.out, HK.out, e])
   simp [this]
  subst hrf
  clear hle
  go_enter Tryz.func24, Tryz.ntmps24
  go_wp2
  go_ret
  exact ⟨rfl, 0, rfl⟩
end Go.Proofs.YtnclkfhdpkkakaaGreatDoor
namespace Go.Proofs.YtnclkfhdpkkakaaGreatDoor
set_option linter.unusedVariables false
set_option linter.unusedSimpArgs false
set_option linter.unusedVariables false
set_option linter.unusedSimpArgs false
open Go Go.RowKit Go.Shelf Go.MapKept Go.ChangeMaps Go.Maps Go.Sort
theorem conv_any {w : World} {lo : Nat → Prop} {hi : Nat} {a : Option Addr} {D : Bytes} {c : Nat} (h : ByteSl w lo hi a D) (hn : a = none → D = [] ∧ c = 0) : (convert 23 9 (.slice a D.length c)).run Tryz.prog w = .ok (.string (bs D)) w := by
 cases a with
 | none =>
  obtain ⟨rfl, rfl⟩ := hn rfl
  exact run_convert_bytes_nil w 23 5 Tryz.underlying23 Tryz.underlying5 0 0 9 Tryz.underlying9
 | some ad =>
  refine run_convert_bytes_back w 23 9 5 ad c D Tryz.underlying23 Tryz.underlying5 Tryz.underlying9 fun j hj => ?_
  obtain ⟨b, off, e, _, _, h4⟩ := h j D[j] (List.getElem?_eq_getElem hj)
  cases e
  rw [Addr.add_mid]
  exact h4
theorem RowC.sl {w : World} {base : Nat} {a : Option Addr} {n c : Nat} {L : List Bytes} (h : RowC w base (.slice a n c) L) : n = L.length ∧ StrSl w w.heap.size a L := by
 rcases h with ⟨h1, rfl⟩ | ⟨g, cap, h1, h2, h3, h4, h5⟩
 ·cases h1
  exact ⟨rfl, StrSl.nil _ _ _⟩
 ·cases h1
  refine ⟨rfl, fun k p hk => ⟨g, 0, rfl, h3, ?_⟩⟩
  rw [Nat.zero_add]
  exact h5 k p hk
structure TR (w0 w : World) (b : Nat) (root : Bytes) (at_ : Int) (M : List (Bytes × Nd)) : Prop where
 tree : ∃ lo mb, TreeAt w lo b mb root at_ M
 bl : Below w0.heap.size w0 w
 hb : w0.heap.size ≤ b
 fit : Fit M
 rl : root.length ≤ 1000
 hm : MaxInt w0
def atA (root : Bytes) (at_ : Int) (M : List (Bytes × Nd)) (E : List Eff) : Int := if (applyA root M E).1 = 0 then at_ + 1 else at_
def nodesA (root : Bytes) (M : List (Bytes × Nd)) (E : List Eff) : List (Bytes × Nd) := if (applyA root M E).1 = 0 then (applyA root M E).2 else M
theorem Fit.nodes {root : Bytes} {M : List (Bytes × Nd)} {E : List Eff} (h : Fit M) (hE : ∀ e ∈ E, FitE e) : Fit (nodesA root M E) := by
 unfold nodesA
 split
 ·exact h.all hE
 ·exact h
section
variable {w0 w : World} {b b2 : Nat} {root root2 : Bytes} {at_ at2 : Int} {M M2 : List (Bytes × Nd)}
theorem TR.lt (R : TR w0 w b root at_ M) : b < w.heap.size := by
 obtain ⟨lo, mb, T⟩ := R.tree
 exact lt_of_block T.blk
theorem TR.max (R : TR w0 w b root at_ M) : MaxInt w := R.hm.kept R.bl
theorem TR.below (R : TR w0 w b root at_ M) {w' : World} (hb : Below w.heap.size w w') : TR w0 w' b root at_ M := by
 obtain ⟨lo, mb, T⟩ := R.tree
 exact ⟨⟨lo, mb, T.below hb⟩, R.bl.trans (hb.mono R.bl.size), R.hb, R.fit, R.rl, R.hm⟩
theorem TR.short (R : TR w0 w b root at_ M) : M.length ≤ 1000 := Nat.le_trans R.fit.len (by omega)
theorem TR.other (R : TR w0 w b root at_ M) (R2 : TR w0 w b2 root2 at2 M2) (hne : b ≠ b2) {w' : World} (hk : Kept (· = b2) w w') : TR w0 w' b root at_ M := by
 obtain ⟨lo, mb, T⟩ := R.tree
 obtain ⟨lo2, mb2, T2⟩ := R2.tree
 obtain ⟨m, hm, hl⟩ := T.map
 have hbm : mb ≠ b2 := fun e => by
  obtain ⟨es, c, h1, _⟩ := hm
  rw [e, T2.blk] at h1
  cases h1
 exact ⟨⟨lo, mb, ⟨(hk.block b (lt_of_block T.blk) hne).trans T.blk, m, hm.of_block (hk.block _ hm.lt hbm), hl.imp fun r d h => h.turn T2.blk hk⟩⟩, R.bl.trans (hk.below R.bl.size (fun k h => by have := R2.hb; omega)), R.hb, R.fit, R.rl, R.hm⟩
theorem TR.new (hb : Below w0.heap.size w0 w) (hm : MaxInt w0) (hl : root.length ≤ 1000) (h : (partsL root).isSome = true) :
  Calls Tryz.prog 27 #[.string (bs root)] w fun e w' => ∃ b, e = .returned (.tuple #[.pointer (some ⟨b, 0, none⟩), .int .i64 0]) ∧ TR w0 w' b root 0 [(root, zNd)] ∧ w.heap.size ≤ b ∧ Below w.heap.size w w' :=
 (new_yes root w (hm.kept hb) hl h).mono fun e w' ⟨b, mb, he, T, h1, h2, h3, h4⟩ => ⟨b, he, ⟨⟨_, mb, T⟩, hb.trans (h4.mono hb.size), Nat.le_trans hb.size h1, ⟨by simp, by simpa using hl, by simp [zNd]⟩, hl, hm⟩, h1, h4⟩
theorem TR.clone (R : TR w0 w b root at_ M) :
  Calls Tryz.prog 23 #[.pointer (some ⟨b, 0, none⟩)] w fun e w' => ∃ b', e = .returned (.pointer (some ⟨b', 0, none⟩)) ∧ TR w0 w' b' root at_ M ∧ w.heap.size ≤ b' ∧ Below w.heap.size w w' := by
 obtain ⟨lo, mb, T⟩ := R.tree
 exact T.clone_any.mono fun e w' ⟨b', mb', he, T', h1, h2, h3, h4⟩ => ⟨b', he, ⟨⟨lo, mb', T'⟩, R.bl.trans (h4.mono R.bl.size), Nat.le_trans R.bl.size h1, R.fit, R.rl, R.hm⟩, h1, h4⟩
theorem TR.at_any (R : TR w0 w b root at_ M) : Calls Tryz.prog 17 #[.pointer (some ⟨b, 0, none⟩)] w fun e w' => e = .returned (.int .u64 at_) ∧ w = w' := by
 obtain ⟨lo, mb, T⟩ := R.tree
 exact T.at_any.mono fun e w' ⟨h1, h2⟩ => ⟨h1, h2.symm⟩
theorem TR.get (R : TR w0 w b root at_ M) (p : Bytes) (hp : p.length ≤ maxLen) :
  Calls Tryz.prog 19 #[.pointer (some ⟨b, 0, none⟩), .string (bs p)] w fun e w' => ∃ r : Raw, e = .returned (.tuple #[r.val, .bool (getA p M).isSome]) ∧ Reads w' (From w.heap.size) r ((getA p M).getD zNd) ∧ Below w.heap.size w w' ∧ Free w.heap.size w' r.a := by
 obtain ⟨lo, mb, T⟩ := R.tree
 exact T.get_any p hp R.fit.data
theorem TR.paths (R : TR w0 w b root at_ M) :
  Calls Tryz.prog 26 #[.pointer (some ⟨b, 0, none⟩)] w fun e w' => ∃ a c, e = .returned (.slice a M.length c) ∧ StrSl w' w'.heap.size a (keysS M) ∧ Below w.heap.size w w' := by
 obtain ⟨lo, mb, T⟩ := R.tree
 refine (T.paths_any R.short R.fit.path).mono ?_
 rintro e w' ⟨v, rfl, hr, hb⟩
 obtain ⟨a, c, rfl, _⟩ := hr.c.form
 exact ⟨a, c, by rw [keysS_len], hr.c.sl.2, hb⟩
theorem TR.kids (R : TR w0 w b root at_ M) (p : Bytes) :
  Calls Tryz.prog 28 #[.pointer (some ⟨b, 0, none⟩), .string (bs p)] w fun e w' => ∃ a c, e = .returned (.slice a (kidsS root M p).length c) ∧ StrSl w' w'.heap.size a (kidsS root M p) ∧ Below w.heap.size w w' := by
 obtain ⟨lo, mb, T⟩ := R.tree
 refine (T.kids_any R.short R.max R.fit.path p).mono ?_
 rintro e w' ⟨v, rfl, hr, hb⟩
 obtain ⟨a, c, rfl, _⟩ := hr.form
 exact ⟨a, c, rfl, hr.sl.2, hb⟩
theorem TR.apply (R : TR w0 w b root at_ M) (h0 : 0 ≤ at_) (h1 : at_ ≤ 1000000000) (ao : Option Addr) (cap : Nat) (L : List RawE) (E : List Eff) {lr : Nat → Prop}
  (hL : LikeE w lr L E) (hA : EffsAt w w.heap.size ao L) (hE : ∀ e ∈ E, FitE e) (hbig : L.length ≤ 1000000) :
  Calls Tryz.prog 18 #[.pointer (some ⟨b, 0, none⟩), .slice ao L.length cap] w fun e w' => e = .returned (.int .i64 (applyA root M E).1) ∧ TR w0 w' b root (atA root at_ M E) (nodesA root M E) ∧ Kept (· = b) w w' := by
 obtain ⟨lo, mb, T⟩ := R.tree
 refine (T.apply_any R.max R.fit R.rl h0 h1 ao cap L E hL hA hE hbig).mono ?_
 rintro e w' ⟨mb', rfl, T', hk⟩
 exact ⟨rfl, ⟨⟨_, mb', T'⟩, R.bl.trans (hk.below R.bl.size (fun k h => by have := R.hb; omega)), R.hb, R.fit.nodes hE, R.rl, R.hm⟩, hk⟩
theorem TR.same (R : TR w0 w b root at_ M) (R2 : TR w0 w b2 root2 at2 M2) :
  Calls Tryz.prog 31 #[.pointer (some ⟨b, 0, none⟩), .pointer (some ⟨b2, 0, none⟩)] w fun e w' => e = .returned (.bool (sameT root at_ M root2 at2 M2)) ∧ Below w.heap.size w w' := by
 obtain ⟨lo, mb, T⟩ := R.tree
 obtain ⟨lo2, mb2, T2⟩ := R2.tree
 exact T.same_any T2 R.fit R2.fit
end
theorem effs_one (w : World) (r : RawE) : EffsAt (w.alloc (.cells r.cells.toArray 88)) (w.alloc (.cells r.cells.toArray 88)).heap.size (some ⟨w.heap.size, 0, none⟩) [r] := by
 intro k q hk
 have hk0 : k = 0 := by have := (List.getElem?_eq_some_iff.1 hk).1; simp at this; exact this
 subst hk0
 simp at hk
 subst hk
 refine ⟨w.heap.size, 0, rfl, by simp, fun j v hv => ?_⟩
 rw [show 0 + 0 * 11 + j = j by omega, cell_of_row _ _ j _ 88 (0, 0) (heap_alloc_new w _)]
 simpa using hv
theorem rawE_len (r : RawE) : r.cells.length = 11 := rfl
theorem effs_two (w : World) (r s : RawE) : EffsAt (w.alloc (.cells (r.cells ++ s.cells).toArray 88)) (w.alloc (.cells (r.cells ++ s.cells).toArray 88)).heap.size (some ⟨w.heap.size, 0, none⟩) [r, s] := by
 intro k q hk
 rcases (show k = 0 ∨ k = 1 by have := (List.getElem?_eq_some_iff.1 hk).1; simp at this; omega) with rfl | rfl
 ·simp at hk
  subst hk
  refine ⟨w.heap.size, 0, rfl, by simp, fun j v hv => ?_⟩
  rw [show 0 + 0 * 11 + j = j by omega, cell_of_row _ _ j _ 88 (0, 0) (heap_alloc_new w _)]
  have hj := (List.getElem?_eq_some_iff.1 hv).1
  simpa [List.getElem?_append_left hj] using hv
 ·simp at hk
  subst hk
  refine ⟨w.heap.size, 0, rfl, by simp, fun j v hv => ?_⟩
  rw [show 0 + 1 * 11 + j = 11 + j by omega, cell_of_row _ _ (11 + j) _ 88 (0, 0) (heap_alloc_new w _)]
  have : (r.cells ++ s.cells)[11 + j]? = some v := by rw [List.getElem?_append_right (by rw [rawE_len]; omega), rawE_len, show 11 + j - 11 = j by omega]; exact hv
  simpa using this
theorem like_one {w : World} {lo : Nat → Prop} {r : RawE} {e : Eff} (h : ReadsE w lo r e) : LikeE w lo [r] [e] := ⟨rfl, fun k r' e' h1 h2 => by
 have hk0 : k = 0 := by have := (List.getElem?_eq_some_iff.1 h1).1; simp at this; exact this
 subst hk0
 simp at h1 h2
 subst h1 h2
 exact h⟩
theorem like_two {w : World} {lo : Nat → Prop} {r s : RawE} {e f : Eff} (h : ReadsE w lo r e) (g : ReadsE w lo s f) : LikeE w lo [r, s] [e, f] := ⟨rfl, fun k r' e' h1 h2 => by
 rcases (show k = 0 ∨ k = 1 by have := (List.getElem?_eq_some_iff.1 h1).1; simp at this; omega) with rfl | rfl
 ·simp at h1 h2
  subst h1 h2
  exact h
 ·simp at h1 h2
  subst h1 h2
  exact g⟩
end Go.Proofs.YtnclkfhdpkkakaaGreatDoor
namespace Go.Proofs.YtnclkfhdpkkakaaGreatDoor
set_option linter.unusedVariables false
set_option linter.unusedSimpArgs false
set_option linter.unusedVariables false
set_option linter.unusedSimpArgs false
theorem prefix_le : ∀ {a b : Bytes}, a <+: b → a ≤ b
 | [], b, _ => List.nil_le b
 | x :: a, [], h => by simp at h
 | x :: a, y :: b, h => by
  obtain ⟨rfl, h2⟩ := List.cons_prefix_cons.1 h
  exact List.cons_le_cons_iff.2 (.inr ⟨rfl, prefix_le h2⟩)
theorem under_of {q root : Bytes} (h : underB q root = true) : ∃ L R, partsL q = some L ∧ partsL root = some R ∧ R <+: L := by
 unfold underB at h
 cases hq : partsL q with
 | none => rw [hq] at h; simp at h
 | some L =>
  cases hr : partsL root with
  | none => rw [hq, hr] at h; simp at h
  | some R => exact ⟨L, R, rfl, rfl, (under_parts hq hr).1 (by unfold underB; rw [hq, hr]; rw [hq, hr] at h; exact h)⟩
theorem slashed_append (A B : List Bytes) : slashed (A ++ B) = slashed A ++ slashed B := by simp [slashed]
theorem root_le {q root : Bytes} (h : underB q root = true) : root ≤ q := by
 obtain ⟨L, R, h1, h2, t, rfl⟩ := under_of h
 have e1 := ofL_parts h1
 have e2 := ofL_parts h2
 rw [← e1, ← e2]
 refine prefix_le ?_
 cases R with
 | nil =>
  cases t with
  | nil => exact List.prefix_refl _
  | cons x t =>
   rw [List.nil_append, ofL_nil, ofL_cons]
   exact ⟨x ++ slashed t, by simp [slashed]⟩
 | cons y R =>
  rw [List.cons_append, ofL_cons, ofL_cons, ← List.cons_append, slashed_append]
  exact List.prefix_append _ _
theorem under_parent {q root : Bytes} (h : underB q root = true) (hne : q ≠ root) : underB (parentL q) root = true ∧ parentL q ≠ q := by
 obtain ⟨L, R, h1, h2, t, rfl⟩ := under_of h
 have e1 := ofL_parts h1
 have e2 := ofL_parts h2
 have ht : t ≠ [] := fun e => hne (by rw [← e1, ← e2, e, List.append_nil])
 have hk : (R ++ t).length - 1 < (R ++ t).length := by
  have : 0 < t.length := List.length_pos_iff.2 ht
  simp
  omega
 have hp := parent_take h1 ((R ++ t).length - 1) hk
 have hs := shorter h1 ((R ++ t).length - 1) hk
 rw [show (R ++ t).length - 1 + 1 = (R ++ t).length by omega, List.take_length, e1] at hp hs
 refine ⟨?_, fun e => ?_⟩
 ·rw [hp]
  refine (under_parts (parts_take h1 _) h2).2 ?_
  have hl : 0 < t.length := List.length_pos_iff.2 ht
  rw [List.take_append, List.take_of_length_le (by simp; omega)]
  exact List.prefix_append _ _
 ·rw [hp] at e
  rw [e] at hs
  omega
structure Inv (root : Bytes) (M : List (Bytes × Nd)) : Prop where
 nodup : (M.map (·.1)).Nodup
 has : root ∈ M.map (·.1)
 under : ∀ q ∈ M.map (·.1), underB q root = true
 parent : ∀ q ∈ M.map (·.1), q ≠ root → parentL q ∈ M.map (·.1)
theorem getA_some {p : Bytes} : ∀ {M : List (Bytes × Nd)}, (getA p M).isSome = true ↔ p ∈ M.map (·.1)
 | [] => by simp [getA]
 | y :: M => by
  unfold getA
  split
  ·rename_i h; simp [h]
  ·rename_i h
   rw [getA_some]
   simp [Ne.symm h]
theorem getA_no {p : Bytes} {M : List (Bytes × Nd)} : (getA p M).isSome = false ↔ p ∉ M.map (·.1) := by
 rw [← getA_some]
 simp
theorem putA_keys {p : Bytes} {d : Nd} : ∀ {M : List (Bytes × Nd)}, (putA p d M).map (·.1) = if (getA p M).isSome then M.map (·.1) else M.map (·.1) ++ [p]
 | [] => by simp [putA, getA]
 | y :: M => by
  unfold putA getA
  split
  ·rename_i h; simp [h]
  ·rw [List.map_cons, putA_keys]
   split <;> simp
theorem delA_keys {p : Bytes} : ∀ {M : List (Bytes × Nd)}, (M.map (·.1)).Nodup → ∀ q, q ∈ (delA p M).map (·.1) ↔ q ∈ M.map (·.1) ∧ q ≠ p
 | [], _, q => by simp [delA]
 | y :: M, hn, q => by
  simp only [List.map_cons, List.nodup_cons] at hn
  unfold delA
  split
  ·rename_i h
   subst h
   simp only [List.map_cons, List.mem_cons]
   constructor
   ·intro hq
    exact ⟨.inr hq, fun e => hn.1 (e ▸ hq)⟩
   ·rintro ⟨rfl | hq, h2⟩
    ·exact absurd rfl h2
    ·exact hq
  ·rename_i h
   simp only [List.map_cons, List.mem_cons]
   rw [delA_keys hn.2]
   constructor
   ·rintro (rfl | ⟨h1, h2⟩)
    ·exact ⟨.inl rfl, h⟩
    ·exact ⟨.inr h1, h2⟩
   ·rintro ⟨rfl | h1, h2⟩
    ·exact .inl rfl
    ·exact .inr ⟨h1, h2⟩
theorem Inv.made {root : Bytes} (h : (partsL root).isSome = true) (d : Nd) : Inv root [(root, d)] := by
 obtain ⟨R, hR⟩ := Option.isSome_iff_exists.1 h
 refine ⟨by simp, by simp, ?_, ?_⟩
 ·intro q hq
  simp at hq
  subst hq
  exact (under_parts hR hR).2 (List.prefix_refl _)
 ·intro q hq hne
  simp at hq
  exact absurd hq hne
theorem Inv.one {root : Bytes} {M : List (Bytes × Nd)} (I : Inv root M) (e : Eff) : Inv root (oneM root M e) := by
 unfold oneM
 split
 ·exact I
 ·rename_i hu
  have hu : underB e.path root = true := by simpa using hu
  split
  ·unfold goneM
   split
   ·rename_i h0
    unfold goneE at h0
    split at h0
    ·cases h0
    ·rename_i h1
     split at h0
     ·cases h0
     ·split at h0
      ·cases h0
      ·rename_i h2
       rw [kids_pos] at h2
       have hk := delA_keys (p := e.path) I.nodup
       refine ⟨I.nodup.sublist (delA_sub.map _), (hk root).2 ⟨I.has, fun e1 => h1 e1.symm⟩, fun q hq => I.under q ((hk q).1 hq).1, fun q hq hne => ?_⟩
       have hq2 := (hk q).1 hq
       refine (hk _).2 ⟨I.parent q hq2.1 hne, fun e1 => h2 ?_⟩
       obtain ⟨x, hx, rfl⟩ := List.mem_map.1 hq2.1
       refine List.any_eq_true.2 ⟨x, hx, ?_⟩
       unfold kidB
       rw [decide_eq_false hq2.2, decide_eq_false hne, decide_eq_true e1]
       rfl
   ·exact I
  ·unfold putM
   split
   ·rename_i h0
    unfold putE at h0
    split at h0
    ·cases h0
    ·rename_i h1
     have hpar : e.path = root ∨ parentL e.path ∈ M.map (·.1) := by
      by_cases hr : e.path = root
      ·exact .inl hr
      ·refine .inr (getA_some.1 ?_)
       cases hg : (getA (parentL e.path) M).isSome
       ·exact absurd ⟨hr, hg⟩ h1
       ·rfl
     rw [show Inv root (putA e.path e.node M) ↔ Inv root (putA e.path e.node M) from Iff.rfl]
     have hk : (putA e.path e.node M).map (·.1) = _ := putA_keys
     cases hs : (getA e.path M).isSome with
     | true =>
      rw [hs, if_pos rfl] at hk
      exact ⟨by rw [hk]; exact I.nodup, by rw [hk]; exact I.has, by rw [hk]; exact I.under, by rw [hk]; exact I.parent⟩
     | false =>
      rw [hs, if_neg (by simp)] at hk
      have hno := getA_no.1 hs
      refine ⟨?_, ?_, ?_, ?_⟩
      ·rw [hk]
       exact List.nodup_append.2 ⟨I.nodup, by simp, fun a ha b hb e1 => by simp at hb; subst hb; subst e1; exact hno ha⟩
      ·rw [hk]; exact List.mem_append_left _ I.has
      ·intro q hq
       rw [hk] at hq
       rcases List.mem_append.1 hq with h | h
       ·exact I.under q h
       ·simp at h; subst h; exact hu
      ·intro q hq hne
       rw [hk] at hq ⊢
       refine List.mem_append_left _ ?_
       rcases List.mem_append.1 hq with h | h
       ·exact I.parent q h hne
       ·simp at h
        subst h
        rcases hpar with h | h
        ·exact absurd h hne
        ·exact h
   ·exact I
theorem Inv.all {root : Bytes} : ∀ {E : List Eff} {M : List (Bytes × Nd)}, Inv root M → Inv root (applyA root M E).2
 | [], M, h => h
 | e :: E, M, h => by
  unfold applyA
  split
  ·exact Inv.all (h.one e)
  ·exact h
theorem Inv.nodes {root : Bytes} {M : List (Bytes × Nd)} {E : List Eff} (h : Inv root M) : Inv root (nodesA root M E) := by
 unfold nodesA
 split
 ·exact h.all
 ·exact h
theorem keysS_mem {M : List (Bytes × Nd)} {q : Bytes} : q ∈ keysS M ↔ q ∈ M.map (·.1) := (sortS_perm _).mem_iff
theorem keysS_nodup {M : List (Bytes × Nd)} (h : (M.map (·.1)).Nodup) : (keysS M).Nodup := (sortS_perm _).nodup_iff.2 h
theorem keysS_lt {M : List (Bytes × Nd)} (h : (M.map (·.1)).Nodup) {i j : Nat} {p q : Bytes} (hi : (keysS M)[i]? = some p) (hj : (keysS M)[j]? = some q) (hij : i < j) : p < q := by
 obtain ⟨hi1, hi2⟩ := List.getElem?_eq_some_iff.1 hi
 obtain ⟨hj1, hj2⟩ := List.getElem?_eq_some_iff.1 hj
 have h1 := List.pairwise_iff_getElem.1 (show (keysS M).Pairwise (fun x y => x ≤ y) from sortS_sorted _) i j hi1 hj1 hij
 have h1 : p ≤ q := by rw [← hi2, ← hj2]; exact h1
 have h2 : p ≠ q := fun e => by
  have h3 := List.pairwise_iff_getElem.1 (keysS_nodup h) i j hi1 hj1 hij
  exact h3 (by rw [hi2, hj2, e])
 by_cases h4 : p < q
 ·exact h4
 ·exact absurd (List.le_antisymm h1 (List.not_lt.1 h4)) h2
theorem Inv.first {root : Bytes} {M : List (Bytes × Nd)} (I : Inv root M) : (keysS M)[0]? = some root := by
 have hr := keysS_mem.2 I.has
 obtain ⟨j, hj⟩ := List.getElem?_of_mem hr
 by_cases h0 : j = 0
 ·subst h0; exact hj
 ·exfalso
  obtain ⟨p, hp⟩ : ∃ p, (keysS M)[0]? = some p := ⟨_, List.getElem?_eq_getElem (by have := (List.getElem?_eq_some_iff.1 hj).1; omega)⟩
  have h1 := keysS_lt I.nodup hp hj (by omega)
  have h2 := root_le (I.under p (keysS_mem.1 (List.mem_of_getElem? hp)))
  exact absurd (List.not_lt.2 h2) (by simpa using h1)
theorem sum_map_add {α : Type} (f g : α → Nat) : ∀ L : List α, (L.map fun x => f x + g x).sum = (L.map f).sum + (L.map g).sum
 | [] => rfl
 | x :: L => by
  simp only [List.map_cons, List.sum_cons]
  rw [sum_map_add f g L]
  omega
theorem sum_zero {α : Type} : ∀ L : List α, (L.map fun _ => 0).sum = 0
 | [] => rfl
 | x :: L => by simp only [List.map_cons, List.sum_cons, sum_zero L]
theorem count_swap {α β : Type} (R : α → β → Bool) : ∀ (K : List α) (L : List β), (K.map fun p => (L.filter (R p)).length).sum = (L.map fun q => (K.filter fun p => R p q).length).sum
 | [], L => by simp only [List.map_nil, List.sum_nil, List.filter_nil, List.length_nil]; exact (sum_zero L).symm
 | p :: K, L => by
  rw [List.map_cons, List.sum_cons, count_swap R K L]
  have h1 : ∀ q, ((p :: K).filter fun p => R p q).length = (if R p q then 1 else 0) + (K.filter fun p => R p q).length := fun q => by
   rw [List.filter_cons]
   cases R p q <;> simp
   omega
  simp only [h1]
  rw [sum_map_add]
  congr 1
  induction L with
  | nil => rfl
  | cons q L ih =>
   rw [List.filter_cons, List.map_cons, List.sum_cons, ← ih]
   cases R p q <;> simp
   omega
theorem filter_eq_one {a : Bytes} : ∀ {K : List Bytes}, K.Nodup → a ∈ K → (K.filter fun p => decide (p = a)).length = 1
 | [], _, h => by simp at h
 | x :: K, hn, h => by
  simp only [List.nodup_cons] at hn
  rw [List.filter_cons]
  by_cases hx : x = a
  ·subst hx
   have : K.filter (fun p => decide (p = x)) = [] := List.filter_eq_nil_iff.2 fun p hp => by
    simp only [decide_eq_true_eq]
    exact fun e => hn.1 (e ▸ hp)
   simp [this]
  ·rw [if_neg (by simpa using hx)]
   exact filter_eq_one hn.2 (by simpa [Ne.symm hx] using h)
theorem Inv.kids {root : Bytes} {M : List (Bytes × Nd)} (I : Inv root M) : ((keysS M).map fun p => (kidsS root M p).length).sum = M.length - 1 := by
 have hK := keysS_nodup I.nodup
 have h1 : ∀ p, (kidsS root M p).length = ((keysS M).filter (kidB root p)).length := fun p => by
  unfold kidsS
  rw [(sortS_perm _).length_eq, List.length_map]
 simp only [h1]
 rw [count_swap (kidB root) (keysS M) (keysS M)]
 have h2 : ∀ q ∈ keysS M, ((keysS M).filter fun p => kidB root p q).length = if q = root then 0 else 1 := fun q hq => by
  have hq' := keysS_mem.1 hq
  by_cases hr : q = root
  ·rw [if_pos hr]
   have : ((keysS M).filter fun p => kidB root p q) = [] := List.filter_eq_nil_iff.2 fun p _ => by unfold kidB; rw [decide_eq_true hr]; simp
   rw [this]
   rfl
  ·rw [if_neg hr]
   have hp := keysS_mem.2 (I.parent q hq' hr)
   have hu := under_parent (I.under q hq') hr
   have : ((keysS M).filter fun p => kidB root p q) = (keysS M).filter fun p => decide (p = parentL q) := List.filter_congr fun p _ => by
    unfold kidB
    rw [decide_eq_false hr]
    by_cases hpq : p = parentL q
    ·subst hpq
     rw [decide_eq_false (Ne.symm hu.2)]
     simp
    ·rw [decide_eq_false hpq, decide_eq_false (Ne.symm hpq)]
     simp
   rw [this]
   exact filter_eq_one hK hp
 rw [List.map_congr_left h2]
 have h3 : ∀ L : List Bytes, (L.map fun q => if q = root then 0 else 1).sum + (L.filter fun q => decide (q = root)).length = L.length := by
  intro L
  induction L with
  | nil => rfl
  | cons q L ih =>
   rw [List.map_cons, List.sum_cons, List.filter_cons, List.length_cons]
   by_cases hq : q = root
   ·simp only [hq, if_true, decide_true, List.length_cons]
    omega
   ·simp only [if_neg hq, decide_eq_false hq]
    simp
    omega
 have h4 := h3 (keysS M)
 rw [filter_eq_one hK (keysS_mem.2 I.has), keysS_len] at h4
 omega
end Go.Proofs.YtnclkfhdpkkakaaGreatDoor
namespace Go.Proofs.YtnclkfhdpkkakaaGreatDoor
set_option linter.unusedVariables false
set_option linter.unusedSimpArgs false
set_option linter.unusedVariables false
set_option linter.unusedSimpArgs false
structure Sess where
 site : Int
 n : Int
 deriving DecidableEq
structure Opl where
 kind : Int
 path : Bytes
 data : Bytes
 ver : Int
 seq : Bool
 eph : Bool
 deriving DecidableEq
structure Ans where
 path : Bytes
 node : Nd
 kids : List Bytes
 deriving DecidableEq
def noAns : Ans := ⟨[], zNd, []⟩
def inc32 (n : Int) : Int := IntKind.u32.wrap (n + 1)
def digs (n : Int) : Bytes := List.replicate (10 - (Lib.decDigits n.toNat).length) 48 ++ Lib.decDigits n.toNat
def upN (d : Nd) (at_ : Int) : Nd := ⟨d.data, { d.num with kin := inc32 d.num.kin, tch := at_ }⟩
def nextN (d : Nd) : Nd := ⟨d.data, { d.num with next := inc32 d.num.next }⟩
def newN (data : Bytes) (at_ : Int) (who : Sess) (eph : Bool) : Nd := ⟨data, ⟨0, 0, 0, if eph then who.site else 0, if eph then who.n else 0, at_, at_, at_⟩⟩
def setN (d : Nd) (data : Bytes) (at_ : Int) : Nd := ⟨data, { d.num with ver := inc32 d.num.ver, chg := at_ }⟩
def noSess (s n : Int) : Bool := decide (s = 0) && decide (n = 0)
def newPath (M : List (Bytes × Nd)) (o : Opl) : Bytes := if o.seq then o.path ++ digs ((getA (parentL o.path) M).getD zNd).num.next else o.path
def createE (root : Bytes) (M : List (Bytes × Nd)) (who : Sess) (o : Opl) : Int :=
 if o.path = root then (if o.seq then 30 else 32)
 else if (partsL (newPath M o)).isSome = false then 30
 else match getA (parentL (newPath M o)) M with
 | none => 31
 | some u => if noSess u.num.os u.num.on = false then 34 else if o.eph = true ∧ noSess who.site who.n = true then 63 else if (getA (newPath M o) M).isSome = true then 32 else if 48 ≤ M.length then 36 else 0
def createU (M : List (Bytes × Nd)) (at_ : Int) (o : Opl) : Nd := if o.seq then nextN (upN ((getA (parentL (newPath M o)) M).getD zNd) at_) else upN ((getA (parentL (newPath M o)) M).getD zNd) at_
def createX (M : List (Bytes × Nd)) (at_ : Int) (who : Sess) (o : Opl) : List Eff := [⟨parentL (newPath M o), false, createU M at_ o⟩, ⟨newPath M o, false, newN o.data at_ who o.eph⟩]
def verE (M : List (Bytes × Nd)) (o : Opl) : Int := match getA o.path M with
 | none => 31
 | some d => if 0 ≤ o.ver ∧ o.ver ≠ IntKind.i64.wrap d.num.ver then 35 else 0
def removeE (root : Bytes) (M : List (Bytes × Nd)) (o : Opl) : Int := if o.path = root then 30 else if verE M o ≠ 0 then verE M o else if 0 < (kidsS root M o.path).length then 33 else 0
def removeX (M : List (Bytes × Nd)) (at_ : Int) (o : Opl) : List Eff := [⟨o.path, true, zNd⟩, ⟨parentL o.path, false, upN ((getA (parentL o.path) M).getD zNd) at_⟩]
def nodeAt (M : List (Bytes × Nd)) (p : Bytes) : Nd := (getA p M).getD zNd
def setX (M : List (Bytes × Nd)) (at_ : Int) (o : Opl) : List Eff := [⟨o.path, false, setN (nodeAt M o.path) o.data at_⟩]
def opE (root : Bytes) (M : List (Bytes × Nd)) (who : Sess) (o : Opl) : Int :=
 if underB o.path root = false then 30
 else if o.kind = 1 then createE root M who o
 else if o.kind = 2 then removeE root M o
 else if o.kind = 3 ∨ o.kind = 4 then verE M o
 else if (getA o.path M).isSome = false then 31 else 0
def opX (M : List (Bytes × Nd)) (at_ : Int) (who : Sess) (o : Opl) : List Eff :=
 if o.kind = 1 then createX M at_ who o else if o.kind = 2 then removeX M at_ o else if o.kind = 3 then setX M at_ o else []
def opA (root : Bytes) (M : List (Bytes × Nd)) (at_ : Int) (who : Sess) (o : Opl) : Ans :=
 if o.kind = 1 then ⟨newPath M o, newN o.data at_ who o.eph, []⟩
 else if o.kind = 2 then ⟨o.path, zNd, []⟩
 else if o.kind = 3 then ⟨o.path, setN (nodeAt M o.path) o.data at_, []⟩
 else if o.kind = 6 then ⟨o.path, nodeAt M o.path, kidsS root M o.path⟩
 else ⟨o.path, nodeAt M o.path, []⟩
theorem segs_more (d : Bytes) (hd : (47 : UInt8) ∉ d) : ∀ r : Bytes, segs (r ++ d) = (segs r).dropLast ++ [(segs r).getLast (segs_ne r) ++ d]
 | [] => by
  rw [List.nil_append, segs_alone d hd]
  simp [segs]
 | c :: r => by
  have ih := segs_more d hd r
  by_cases hc : c = 47
  ·subst hc
   rw [List.cons_append, segs_slash, ih]
   simp only [segs_slash]
   rw [List.dropLast_cons_of_ne_nil (segs_ne r), List.getLast_cons (segs_ne r)]
   rfl
  ·obtain ⟨h, t, e1, e2⟩ := segs_other c r hc
   obtain ⟨h', t', e3, e4⟩ := segs_other c (r ++ d) hc
   rw [List.cons_append, e4]
   rw [ih] at e3
   simp only [e1] at e3
   simp only [e2]
   cases t with
   | nil =>
    simp at e3
    obtain ⟨rfl, rfl⟩ := e3
    simp
   | cons y t =>
    simp at e3
    obtain ⟨rfl, rfl⟩ := e3
    simp
theorem dec_free : ∀ u : Nat, (47 : UInt8) ∉ Lib.decDigits u := fun u => by
 induction u using Nat.strongRecOn with
 | ind u ih =>
  intro h
  rw [Lib.decDigits] at h
  have key : ∀ n : Nat, n < 10 → (47 : UInt8) ≠ UInt8.ofNat (48 + n) := fun n hn e => by
   have := congrArg UInt8.toNat e
   rw [UInt8.toNat_ofNat'] at this
   have h47 : (47 : UInt8).toNat = 47 := rfl
   omega
  split at h
  ·rename_i h10
   simp only [List.mem_singleton] at h
   exact key u h10 h
  ·rcases List.mem_append.1 h with h | h
   ·exact ih (u / 10) (by omega) h
   ·simp only [List.mem_singleton] at h
    exact key (u % 10) (by omega) h
theorem digs_free (n : Int) : (47 : UInt8) ∉ digs n := by
 intro h
 unfold digs at h
 rcases List.mem_append.1 h with h | h
 ·exact absurd (List.mem_replicate.1 h).2 (by decide)
 ·exact dec_free _ h
theorem newPath_ok {root : Bytes} {M : List (Bytes × Nd)} {o : Opl} (hu : underB o.path root = true) (hne : o.path ≠ root) (hok : (partsL (newPath M o)).isSome = true) :
  underB (newPath M o) root = true ∧ newPath M o ≠ root ∧ parentL (newPath M o) = parentL o.path := by
 unfold newPath at hok ⊢
 cases hs : o.seq with
 | false => simp only [hs, Bool.false_eq_true, if_false] at hok ⊢; exact ⟨hu, hne, trivial⟩
 | true =>
  simp only [hs, if_true] at hok ⊢
  have hd := digs_free ((getA (parentL o.path) M).getD zNd).num.next
  generalize digs ((getA (parentL o.path) M).getD zNd).num.next = d at hok hd ⊢
  obtain ⟨LP, R, h1, h2, t, ht⟩ := under_of hu
  have e1 := ofL_parts h1
  have e2 := ofL_parts h2
  have htn : t ≠ [] := fun e => hne (by rw [← e1, ← e2, ← ht, e, List.append_nil])
  obtain ⟨L', hL'⟩ := Option.isSome_iff_exists.1 hok
  obtain ⟨r, hr, _, hcase⟩ := partsL_some h1
  rcases hcase with ⟨rfl, rfl⟩ | ⟨hrn, rfl, hall⟩
  ·exact absurd (List.append_eq_nil_iff.1 ht).2 htn
  ·obtain ⟨r', hr', _, hcase'⟩ := partsL_some hL'
   have hrr : r' = r ++ d := by
    rw [hr, List.cons_append] at hr'
    exact (List.cons.inj hr').2.symm
   subst hrr
   rcases hcase' with ⟨h0, _⟩ | ⟨_, rfl, _⟩
   ·exact absurd (List.append_eq_nil_iff.1 h0).1 hrn
   ·obtain ⟨y, hseg⟩ : ∃ y, segs (r ++ d) = (segs r).dropLast ++ [y] := ⟨_, segs_more d hd r⟩
    have hdl : (segs (r ++ d)).dropLast = (segs r).dropLast := by rw [hseg, List.dropLast_concat]
    refine ⟨?_, ?_, ?_⟩
    ·refine (under_parts hL' h2).2 ?_
     rw [hseg, ← ht, List.dropLast_append_of_ne_nil htn, List.append_assoc]
     exact List.prefix_append _ _
    ·intro e
     rw [e, h2] at hL'
     have hlen := congrArg List.length (Option.some.inj hL')
     rw [hseg, ← ht, List.dropLast_append_of_ne_nil htn] at hlen
     have := List.length_pos_iff.2 htn
     simp at hlen
     try omega
    ·unfold parentL
     rw [h1, hL']
     dsimp only
     rw [if_neg (segs_ne _), if_neg (segs_ne _), hdl]
section
variable {root : Bytes} {M : List (Bytes × Nd)} {at_ : Int} {who : Sess} {o : Opl}
theorem put_fits {p : Bytes} {d : Nd} (hu : underB p root = true) (hp : p = root ∨ (getA (parentL p) M).isSome = true) (h : (getA p M).isSome = true ∨ M.length < 48) : oneE root M ⟨p, false, d⟩ = 0 ∧ oneM root M ⟨p, false, d⟩ = putA p d M := by
 have h0 : putE root M p = 0 := by
  unfold putE
  rw [if_neg, if_neg]
  ·rintro ⟨h1, h2⟩
   rcases h with h3 | h3
   ·rw [h3] at h1; cases h1
   ·omega
  ·rintro ⟨h1, h2⟩
   rcases hp with h3 | h3
   ·exact h1 h3
   ·rw [h3] at h2; cases h2
 have hn : ¬ underB p root = false := by rw [hu]; simp
 unfold oneE oneM putM
 dsimp only
 rw [if_neg hn, if_neg hn, if_neg (by simp), if_neg (by simp), h0]
 exact ⟨rfl, rfl⟩
theorem put_there {p : Bytes} {d : Nd} (I : Inv root M) (h : (getA p M).isSome = true) : oneE root M ⟨p, false, d⟩ = 0 ∧ oneM root M ⟨p, false, d⟩ = putA p d M := by
 have hm := getA_some.1 h
 refine put_fits (I.under p hm) ?_ (.inl h)
 by_cases hr : p = root
 ·exact .inl hr
 ·exact .inr (getA_some.2 (I.parent p hm hr))
theorem applyA_two {e f : Eff} (h1 : oneE root M e = 0) (h2 : oneE root (oneM root M e) f = 0) : applyA root M [e, f] = (0, oneM root (oneM root M e) f) := by
 rw [applyA_pos h1, applyA_pos h2]
 rfl
theorem applyA_one {e : Eff} (h1 : oneE root M e = 0) : applyA root M [e] = (0, oneM root M e) := by
 rw [applyA_pos h1]
 rfl
def createM (M : List (Bytes × Nd)) (at_ : Int) (who : Sess) (o : Opl) : List (Bytes × Nd) := putA (newPath M o) (newN o.data at_ who o.eph) (putA (parentL (newPath M o)) (createU M at_ o) M)
theorem create_parts (h : createE root M who o = 0) : o.path ≠ root ∧ (partsL (newPath M o)).isSome = true ∧ (∃ u, getA (parentL (newPath M o)) M = some u ∧ noSess u.num.os u.num.on = true) ∧ ¬ (o.eph = true ∧ noSess who.site who.n = true) ∧ (getA (newPath M o) M).isSome = false ∧ M.length < 48 := by
 unfold createE at h
 split at h
 ·split at h <;> cases h
 ·rename_i h1
  split at h
  ·cases h
  ·rename_i h2
   split at h
   ·cases h
   ·rename_i u hu
    split at h
    ·cases h
    ·rename_i h3
     split at h
     ·cases h
     ·rename_i h4
      split at h
      ·cases h
      ·rename_i h5
       split at h
       ·cases h
       ·rename_i h6
        exact ⟨h1, by cases hb : (partsL (newPath M o)).isSome; exact absurd hb h2; rfl, ⟨u, hu, by simpa using h3⟩, h4, by simpa using h5, by omega⟩
theorem create_fits (I : Inv root M) (hu : underB o.path root = true) (h : createE root M who o = 0) : applyA root M (createX M at_ who o) = (0, createM M at_ who o) := by
 obtain ⟨h1, h2, ⟨u, h3, _⟩, _, h5, h6⟩ := create_parts h
 obtain ⟨g1, g2, g3⟩ := newPath_ok hu h1 h2
 have hs : (getA (parentL (newPath M o)) M).isSome = true := by rw [h3]; rfl
 obtain ⟨a1, a2⟩ := put_there (d := createU M at_ o) I hs
 have hne : newPath M o ≠ parentL (newPath M o) := fun e => (under_parent g1 g2).2 e.symm
 obtain ⟨b1, b2⟩ := put_fits (M := putA (parentL (newPath M o)) (createU M at_ o) M) (d := newN o.data at_ who o.eph) g1 (.inr (by rw [getA_putA_same]; rfl)) (.inr (by rw [putA_length, hs]; exact h6))
 unfold createX createM
 rw [applyA_two a1 (by rw [a2]; exact b1), a2, b2]
theorem ver_there (h : verE M o = 0) : ∃ d, getA o.path M = some d ∧ ¬ (0 ≤ o.ver ∧ o.ver ≠ IntKind.i64.wrap d.num.ver) := by
 unfold verE at h
 split at h
 ·cases h
 ·rename_i d hd
  split at h
  ·cases h
  ·rename_i h2; exact ⟨d, hd, h2⟩
def setM (M : List (Bytes × Nd)) (at_ : Int) (o : Opl) : List (Bytes × Nd) := putA o.path (setN (nodeAt M o.path) o.data at_) M
theorem set_fits (I : Inv root M) (h : verE M o = 0) : applyA root M (setX M at_ o) = (0, setM M at_ o) := by
 obtain ⟨d, hd, _⟩ := ver_there h
 obtain ⟨a1, a2⟩ := put_there (d := setN (nodeAt M o.path) o.data at_) I (by rw [hd]; rfl)
 unfold setX setM
 rw [applyA_one a1, a2]
def removeM (M : List (Bytes × Nd)) (at_ : Int) (o : Opl) : List (Bytes × Nd) := putA (parentL o.path) (upN ((getA (parentL o.path) M).getD zNd) at_) (delA o.path M)
theorem remove_parts (h : removeE root M o = 0) : o.path ≠ root ∧ verE M o = 0 ∧ (kidsS root M o.path).length = 0 := by
 unfold removeE at h
 split at h
 ·cases h
 ·rename_i h1
  split at h
  ·rename_i h2; exact absurd h h2
  ·rename_i h2
   split at h
   ·cases h
   ·rename_i h3; exact ⟨h1, by simpa using h2, by omega⟩
theorem remove_fits (I : Inv root M) (hu : underB o.path root = true) (h : removeE root M o = 0) : applyA root M (removeX M at_ o) = (0, removeM M at_ o) := by
 obtain ⟨h1, h2, h3⟩ := remove_parts h
 obtain ⟨d, hd, _⟩ := ver_there h2
 have hs : (getA o.path M).isSome = true := by rw [hd]; rfl
 have hg : goneE root M o.path = 0 := by unfold goneE; rw [if_neg h1, if_neg (by rw [hs]; simp), if_neg (by omega)]
 have hn : ¬ underB o.path root = false := by rw [hu]; simp
 have a1 : oneE root M ⟨o.path, true, zNd⟩ = 0 := by unfold oneE; dsimp only; rw [if_neg hn, if_pos rfl, hg]
 have a2 : oneM root M ⟨o.path, true, zNd⟩ = delA o.path M := by unfold oneM goneM; dsimp only; rw [if_neg hn, if_pos rfl, hg]; rfl
 have I2 : Inv root (delA o.path M) := by rw [← a2]; exact I.one _
 have hpar := I.parent o.path (getA_some.1 hs) h1
 have hp2 : (getA (parentL o.path) (delA o.path M)).isSome = true := getA_some.2 ((delA_keys I.nodup _).2 ⟨hpar, (under_parent hu h1).2⟩)
 obtain ⟨b1, b2⟩ := put_there (d := upN ((getA (parentL o.path) M).getD zNd) at_) I2 hp2
 unfold removeX removeM
 rw [applyA_two a1 (by rw [a2]; exact b1), a2, b2]
end
end Go.Proofs.YtnclkfhdpkkakaaGreatDoor
