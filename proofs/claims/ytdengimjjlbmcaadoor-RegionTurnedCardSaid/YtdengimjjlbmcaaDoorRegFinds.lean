/-
  The example beside each law of the chapter; and the chapter's contracts at every later world.
-/
import Derived.Test.YtdengimjjlbmcaaDoorRegAll2
namespace Go.Proofs.YtdengimjjlbmcaaDoor
set_option linter.unusedVariables false
set_option linter.unusedSimpArgs false
open Go.RowKit

/-! reckoning -/
def deepC (r : Bytes) : Nat := match partsC r with
  | none => 0
  | some L => L.length
theorem deepN_eq (r : Bytes) : deepN r = deepC r := by unfold deepN deepC; rw [partsL_eq]; rfl
def ofToC (L : List Bytes) (p : Bytes) : Nat → Int × Int
  | 0 => (-1, -1)
  | k + 1 => match L[k]? with
    | none => ofToC L p k
    | some r => if underC p r = true ∧ (ofToC L p k).2 < (deepC r : Int) then ((k : Int), (deepC r : Int)) else ofToC L p k
theorem ofTo_eq (L : List Bytes) (p : Bytes) : ∀ k, ofTo L p k = ofToC L p k
  | 0 => rfl
  | k + 1 => by
    unfold ofTo ofToC
    rw [ofTo_eq L p k]
    cases L[k]? with
    | none => rfl
    | some r =>
      dsimp only
      unfold ofStep
      rw [underB_eq, deepN_eq]
def ofC (L : List Bytes) (p : Bytes) : Int := (ofToC L p L.length).1
theorem ofB_eq (L : List Bytes) (p : Bytes) : ofB L p = ofC L p := by unfold ofB ofC; rw [ofTo_eq]
def allC (L P : List Bytes) : Int × Int := match P with
  | [] => (0, 60)
  | x :: P => if ofC L x < 0 ∨ (x :: P).any (fun y => ofC L y != ofC L x) = true then (0, 60) else (ofC L x, 0)
theorem allAt_eq (L P : List Bytes) : allAt L P = allC L P := by
  cases P with
  | nil => rfl
  | cons x P => rw [allAt_cons]; simp only [ofB_eq]; rfl
theorem allV_eq (L : List Bytes) (p : Bytes) (Q : List Bytes) : allV L p Q = allC L (if Q = [] then [p] else Q) := by unfold allV; rw [allAt_eq]
def checkC (L : List Bytes) : Int := if L.length < 1 ∨ 4 < L.length ∨ ¬ L.Nodup then 1 else if L.all (fun x => (partsC x).isSome) then 0 else 30
theorem checkL_eq (L : List Bytes) : checkL L = checkC L := by unfold checkL checkC; simp only [partsL_eq]

/-! later worlds -/
theorem later_of' {w : World} {n : Nat} {args : Array Value} {r : Value} (h : ∀ W, Below w.heap.size w W → Calls Tryd.prog n args W fun e w' => e = .returned r ∧ Below W.heap.size W w') : Later w n args r :=
  fun W hW => (h W hW).mono fun e w' ⟨he, hb⟩ => ⟨he, hW.trans (hb.mono hW.size)⟩
/-- In whatever later world: it answers r, and adds blocks alone. -/
def Always (w : World) (n : Nat) (args : Array Value) (r : Value) : Prop := ∀ W, Below w.heap.size w W → Calls Tryd.prog n args W fun e w' => e = .returned r ∧ Below W.heap.size W w'
theorem Always.later {w : World} {n : Nat} {args : Array Value} {r : Value} (h : Always w n args r) : Later w n args r := later_of' h
theorem Always.ext {w w2 : World} {n : Nat} {args : Array Value} {r : Value} (h : Always w n args r) (h2 : Below w.heap.size w w2) : ∀ o, Calls Tryd.prog n args (Wext w2 o) fun e w' => e = .returned r ∧ ∃ o', w' = Wext w2 o' :=
  fun o => (h _ (h2.trans ((Wext.below w2 o).mono h2.size))).mono fun _ _ ⟨he, hb⟩ => ⟨he, below_ext ((Wext.below w2 o).trans (hb.mono (Wext.below w2 o).size))⟩
theorem Always.from {w w2 : World} {n : Nat} {args : Array Value} {r : Value} (h : Always w n args r) (h2 : Below w.heap.size w w2) : Always w2 n args r := fun W hW => h W (h2.trans (hW.mono h2.size))
theorem always_under {w : World} (hm : MaxInt w) (p q : Bytes) (hp : p.length ≤ 1000) (hq : q.length ≤ 1000) : Always w 17 #[.string (bs p), .string (bs q)] (.bool (underB p q)) :=
  fun W hW => under_any p q (size_max hp (Nat.le_refl _)) (size_max hq (Nat.le_refl _)) W (hm.kept hW)
section
variable {w : World} (hm : MaxInt w) (ao : Option Addr) (c : Nat) (L : List Bytes) (hbig : L.length ≤ 1000) (hL : ∀ r ∈ L, r.length ≤ 1000) (hc : StrSl w w.heap.size ao L)
include hm hbig hL hc
theorem always_gOf (p : Bytes) (hp : p.length ≤ 1000) : Always w 12 #[.slice ao L.length c, .string (bs p)] (.int .i64 (ofB L p)) :=
  fun W hW => of_region ao c L p W (hm.kept hW) hbig hp hL ((hc.kept hW).mono hW.size)
theorem later_gOf (p : Bytes) (hp : p.length ≤ 1000) : Later w 12 #[.slice ao L.length c, .string (bs p)] (.int .i64 (ofB L p)) :=
  later_of' fun W hW => of_region ao c L p W (hm.kept hW) hbig hp hL ((hc.kept hW).mono hW.size)
omit hm in
theorem always_rgOf (p : Bytes) (hp : p.length ≤ 1000) : Always w 13 #[.slice ao L.length c, .string (bs p)] (.int .i64 (ofB L p)) :=
  fun W hW => refOf_region ao c L p W hbig hp hL ((hc.kept hW).mono hW.size)
omit hm in
theorem later_rgOf (p : Bytes) (hp : p.length ≤ 1000) : Later w 13 #[.slice ao L.length c, .string (bs p)] (.int .i64 (ofB L p)) :=
  later_of' fun W hW => refOf_region ao c L p W hbig hp hL ((hc.kept hW).mono hW.size)
theorem always_gCheck : Always w 10 #[.slice ao L.length c] (.int .i64 (checkL L)) :=
  fun W hW => check_region ao c L W (hm.kept hW) hbig hL ((hc.kept hW).mono hW.size)
theorem later_gCheck : Later w 10 #[.slice ao L.length c] (.int .i64 (checkL L)) :=
  later_of' fun W hW => check_region ao c L W (hm.kept hW) hbig hL ((hc.kept hW).mono hW.size)
omit hm in
theorem always_rgCheck : Always w 11 #[.slice ao L.length c] (.int .i64 (checkL L)) :=
  fun W hW => refCheck_region ao c L W hbig hL ((hc.kept hW).mono hW.size)
omit hm in
theorem later_rgCheck : Later w 11 #[.slice ao L.length c] (.int .i64 (checkL L)) :=
  later_of' fun W hW => refCheck_region ao c L W hbig hL ((hc.kept hW).mono hW.size)
theorem always_gAll (k0 k2 k3 k4 k5 : Value) (po : Option Addr) (pc : Nat) (p : Bytes) (Q : List Bytes) (hp : p.length ≤ 1000) (hQn : Q.length ≤ 1000) (hQl : ∀ r ∈ Q, r.length ≤ 1000) (hq : OpsAt w w.heap.size po Q) : Always w 15 #[.slice ao L.length c, .agg #[k0, .string (bs p), k2, k3, k4, k5, .slice po Q.length pc]] (.tuple #[.int .i64 (allV L p Q).1, .int .i64 (allV L p Q).2]) :=
  fun W hW => by
    by_cases h0 : Q = []
    · subst h0
      exact all_one k0 k2 k3 k4 k5 ao po c pc L p W (hm.kept hW) hbig hp hL ((hc.kept hW).mono hW.size)
    · exact all_many k0 k2 k3 k4 k5 ao po c pc L Q p W (hm.kept hW) hbig hL ((hc.kept hW).mono hW.size) h0 hQn hQl ((hq.kept hW).mono hW.size)
theorem later_gAll (k0 k2 k3 k4 k5 : Value) (po : Option Addr) (pc : Nat) (p : Bytes) (Q : List Bytes) (hp : p.length ≤ 1000) (hQn : Q.length ≤ 1000) (hQl : ∀ r ∈ Q, r.length ≤ 1000) (hq : OpsAt w w.heap.size po Q) : Later w 15 #[.slice ao L.length c, .agg #[k0, .string (bs p), k2, k3, k4, k5, .slice po Q.length pc]] (.tuple #[.int .i64 (allV L p Q).1, .int .i64 (allV L p Q).2]) :=
  later_of' fun W hW => by
    by_cases h0 : Q = []
    · subst h0
      exact all_one k0 k2 k3 k4 k5 ao po c pc L p W (hm.kept hW) hbig hp hL ((hc.kept hW).mono hW.size)
    · exact all_many k0 k2 k3 k4 k5 ao po c pc L Q p W (hm.kept hW) hbig hL ((hc.kept hW).mono hW.size) h0 hQn hQl ((hq.kept hW).mono hW.size)
omit hm in
theorem always_rgAll (k0 k2 k3 k4 k5 : Value) (po : Option Addr) (pc : Nat) (p : Bytes) (Q : List Bytes) (hp : p.length ≤ 1000) (hQn : Q.length ≤ 1000) (hQl : ∀ r ∈ Q, r.length ≤ 1000) (hq : OpsAt w w.heap.size po Q) : Always w 16 #[.slice ao L.length c, .agg #[k0, .string (bs p), k2, k3, k4, k5, .slice po Q.length pc]] (.tuple #[.int .i64 (allV L p Q).1, .int .i64 (allV L p Q).2]) :=
  fun W hW => refAll_any k0 k2 k3 k4 k5 ao po c pc L Q p W hbig hp hL ((hc.kept hW).mono hW.size) hQn hQl ((hq.kept hW).mono hW.size)
omit hm in
theorem later_rgAll (k0 k2 k3 k4 k5 : Value) (po : Option Addr) (pc : Nat) (p : Bytes) (Q : List Bytes) (hp : p.length ≤ 1000) (hQn : Q.length ≤ 1000) (hQl : ∀ r ∈ Q, r.length ≤ 1000) (hq : OpsAt w w.heap.size po Q) : Later w 16 #[.slice ao L.length c, .agg #[k0, .string (bs p), k2, k3, k4, k5, .slice po Q.length pc]] (.tuple #[.int .i64 (allV L p Q).1, .int .i64 (allV L p Q).2]) :=
  later_of' fun W hW => refAll_any k0 k2 k3 k4 k5 ao po c pc L Q p W hbig hp hL ((hc.kept hW).mono hW.size) hQn hQl ((hq.kept hW).mono hW.size)
end
/-- A later contract, said from a later world. -/
theorem Later.from {w W : World} {n : Nat} {args : Array Value} {r : Value} (h : Later w n args r) (hW : Below w.heap.size w W) : ∀ V, Below W.heap.size W V → Calls Tryd.prog n args V fun e w' => e = .returned r ∧ Below w.heap.size w w' :=
  fun V hV => h V (hW.trans (hV.mono hW.size))

/-! finds -/
theorem range_new {w W : World} {cs : Array Value} {t : TypeId} (hW : Below (w.alloc (.cells cs t)).heap.size (w.alloc (.cells cs t)) W) (o : Nat) (sub : List Value) (h : (cs.toList.drop o).take sub.length = sub) : W.rangeAt w.heap.size o sub := by
  intro j v hj
  refine (new_cell hW (o + j) v ?_).1
  have hlt := (List.getElem?_eq_some_iff.1 hj).1
  rw [← h, List.getElem?_take, if_pos hlt, List.getElem?_drop] at hj
  simpa using hj
def exL : List Bytes := [[47, 97], [47, 97, 47, 98], [47, 99]]
theorem ex_strs {w W : World} (hW : Below (w.alloc (.cells #[.string (bs [47, 97]), .string (bs [47, 97, 47, 98]), .string (bs [47, 99])] 9)).heap.size (w.alloc (.cells #[.string (bs [47, 97]), .string (bs [47, 97, 47, 98]), .string (bs [47, 99])] 9)) W) :
    StrSl W W.heap.size (some ⟨w.heap.size, 0, none⟩) exL := by
  have hlt : w.heap.size < W.heap.size := by have := hW.size; simp at this; omega
  intro k p hk
  refine ⟨_, _, rfl, hlt, ?_⟩
  rw [Nat.zero_add]
  match k, hk with
  | 0, hk => cases hk; exact (new_cell hW 0 _ rfl).1
  | 1, hk => cases hk; exact (new_cell hW 1 _ rfl).1
  | 2, hk => cases hk; exact (new_cell hW 2 _ rfl).1
  | k + 3, hk => simp [exL] at hk
def opCells (p : Bytes) : List Value := [.int .u8 0, .string (bs p), .slice none 0 0, .int .i64 0, .bool false, .bool false, .slice none 0 0]
theorem ex_ops {w W : World} {p q : Bytes} (hW : Below (w.alloc (.cells (opCells p ++ opCells q).toArray 32)).heap.size (w.alloc (.cells (opCells p ++ opCells q).toArray 32)) W) :
    OpsAt W W.heap.size (some ⟨w.heap.size, 0, none⟩) [p, q] := by
  have hlt : w.heap.size < W.heap.size := by have := hW.size; simp at this; omega
  intro k x hk
  refine ⟨_, _, ⟨0, none, 0, 0, 0, false, false, none, 0, 0⟩, rfl, hlt, ?_⟩
  match k, hk with
  | 0, hk => cases hk; exact range_new hW _ _ rfl
  | 1, hk => cases hk; exact range_new hW _ _ rfl
  | k + 2, hk => simp at hk

set_option maxRecDepth 100000 in
set_option maxHeartbeats 4000000 in
theorem finds_true (w : World) (hm : MaxInt w) : Calls Tryd.prog 14 #[] w fun e w' => e = .returned (.bool true) ∧ Below w.heap.size w w' := by
  have v1 : allV exL [] [[47, 97, 47, 120], [47, 97, 47, 121]] = (0, 0) := by rw [allV_eq]; decide +kernel
  have v2 : allV exL [] [[47, 97, 47, 120], [47, 97, 47, 98]] = (0, 60) := by rw [allV_eq]; decide +kernel
  have v3 : ofB exL [47, 97, 47, 120] = 0 := by rw [ofB_eq]; decide +kernel
  have v4 : ofB exL [47, 97, 47, 98, 47, 120] = 1 := by rw [ofB_eq]; decide +kernel
  have v5 : ofB exL [47, 97, 98] = -1 := by rw [ofB_eq]; decide +kernel
  have v6 : checkL exL = 0 := by rw [checkL_eq]; decide +kernel
  obtain ⟨A, hA⟩ : ∃ A, A = w.alloc (.cells #[.string ⟨#[47, 97]⟩, .string ⟨#[47, 97, 47, 98]⟩, .string ⟨#[47, 99]⟩] 9) := ⟨_, rfl⟩
  have hwA : Below w.heap.size w A := by rw [hA]; exact belowA (Below.refl _ w) _
  have hmA : MaxInt A := hm.kept hwA
  have hs : ∀ W, Below A.heap.size A W → StrSl W W.heap.size (some ⟨w.heap.size, 0, none⟩) exL := fun W hW => ex_strs (hA ▸ hW)
  have hl1 : exL.length ≤ 1000 := by decide
  have hl2 : ∀ r ∈ exL, r.length ≤ 1000 := by decide
  have c1 : ∀ W, Below A.heap.size A W → Calls Tryd.prog 15 #[.slice (some ⟨w.heap.size, 0, none⟩) 3 3, .agg #[.int .u8 7, .string ⟨#[]⟩, .slice none 0 0, .int .i64 0, .bool false, .bool false, .slice (some ⟨W.heap.size, 0, none⟩) 2 2]]
      (W.alloc (.cells #[.int .u8 0, .string ⟨#[47, 97, 47, 120]⟩, .slice none 0 0, .int .i64 0, .bool false, .bool false, .slice none 0 0, .int .u8 0, .string ⟨#[47, 97, 47, 121]⟩, .slice none 0 0, .int .i64 0, .bool false, .bool false, .slice none 0 0] 32)) fun e w' => e = .returned (.tuple #[.int .i64 0, .int .i64 0]) ∧ Below A.heap.size A w' := fun W hW => by
    have hW2 : Below A.heap.size A (W.alloc (.cells #[.int .u8 0, .string ⟨#[47, 97, 47, 120]⟩, .slice none 0 0, .int .i64 0, .bool false, .bool false, .slice none 0 0, .int .u8 0, .string ⟨#[47, 97, 47, 121]⟩, .slice none 0 0, .int .i64 0, .bool false, .bool false, .slice none 0 0] 32)) := hW.alloc hW.size _
    have h := later_gAll (w := W.alloc (.cells #[.int .u8 0, .string ⟨#[47, 97, 47, 120]⟩, .slice none 0 0, .int .i64 0, .bool false, .bool false, .slice none 0 0, .int .u8 0, .string ⟨#[47, 97, 47, 121]⟩, .slice none 0 0, .int .i64 0, .bool false, .bool false, .slice none 0 0] 32)) (hmA.kept hW2) (some ⟨w.heap.size, 0, none⟩) 3 exL hl1 hl2 (hs _ hW2) (.int .u8 7) (.slice none 0 0) (.int .i64 0) (.bool false) (.bool false)
      (some ⟨W.heap.size, 0, none⟩) 2 [] [[47, 97, 47, 120], [47, 97, 47, 121]] (by decide) (by decide) (by decide) (ex_ops (Below.refl _ _)) _ (Below.refl _ _)
    rw [v1] at h
    exact h.mono fun e w' ⟨he, hb⟩ => ⟨he, hW2.trans (hb.mono hW2.size)⟩
  have c2 : ∀ W, Below A.heap.size A W → Calls Tryd.prog 15 #[.slice (some ⟨w.heap.size, 0, none⟩) 3 3, .agg #[.int .u8 7, .string ⟨#[]⟩, .slice none 0 0, .int .i64 0, .bool false, .bool false, .slice (some ⟨W.heap.size, 0, none⟩) 2 2]]
      (W.alloc (.cells #[.int .u8 0, .string ⟨#[47, 97, 47, 120]⟩, .slice none 0 0, .int .i64 0, .bool false, .bool false, .slice none 0 0, .int .u8 0, .string ⟨#[47, 97, 47, 98]⟩, .slice none 0 0, .int .i64 0, .bool false, .bool false, .slice none 0 0] 32)) fun e w' => e = .returned (.tuple #[.int .i64 0, .int .i64 60]) ∧ Below A.heap.size A w' := fun W hW => by
    have hW2 : Below A.heap.size A (W.alloc (.cells #[.int .u8 0, .string ⟨#[47, 97, 47, 120]⟩, .slice none 0 0, .int .i64 0, .bool false, .bool false, .slice none 0 0, .int .u8 0, .string ⟨#[47, 97, 47, 98]⟩, .slice none 0 0, .int .i64 0, .bool false, .bool false, .slice none 0 0] 32)) := hW.alloc hW.size _
    have h := later_gAll (w := W.alloc (.cells #[.int .u8 0, .string ⟨#[47, 97, 47, 120]⟩, .slice none 0 0, .int .i64 0, .bool false, .bool false, .slice none 0 0, .int .u8 0, .string ⟨#[47, 97, 47, 98]⟩, .slice none 0 0, .int .i64 0, .bool false, .bool false, .slice none 0 0] 32)) (hmA.kept hW2) (some ⟨w.heap.size, 0, none⟩) 3 exL hl1 hl2 (hs _ hW2) (.int .u8 7) (.slice none 0 0) (.int .i64 0) (.bool false) (.bool false)
      (some ⟨W.heap.size, 0, none⟩) 2 [] [[47, 97, 47, 120], [47, 97, 47, 98]] (by decide) (by decide) (by decide) (ex_ops (Below.refl _ _)) _ (Below.refl _ _)
    rw [v2] at h
    exact h.mono fun e w' ⟨he, hb⟩ => ⟨he, hW2.trans (hb.mono hW2.size)⟩
  have c3 := later_gOf (w := A) hmA (some ⟨w.heap.size, 0, none⟩) 3 exL hl1 hl2 (hs A (Below.refl _ _)) [47, 97, 47, 120] (by decide)
  rw [v3] at c3
  have c4 := later_gOf (w := A) hmA (some ⟨w.heap.size, 0, none⟩) 3 exL hl1 hl2 (hs A (Below.refl _ _)) [47, 97, 47, 98, 47, 120] (by decide)
  rw [v4] at c4
  have c5 := later_gOf (w := A) hmA (some ⟨w.heap.size, 0, none⟩) 3 exL hl1 hl2 (hs A (Below.refl _ _)) [47, 97, 98] (by decide)
  rw [v5] at c5
  have c6 := later_gCheck (w := A) hmA (some ⟨w.heap.size, 0, none⟩) 3 exL hl1 hl2 (hs A (Below.refl _ _))
  rw [v6] at c6
  rw [show exL.length = 3 from rfl] at c3 c4 c5 c6
  have C1 := Lib.hid c1
  have C2 := Lib.hid c2
  have C3 := Lib.hid c3
  have C4 := Lib.hid c4
  have C5 := Lib.hid c5
  have C6 := Lib.hid c6
  have HWA := Lib.hid hwA
  clear c1 c2 c3 c4 c5 c6 v1 v2 v3 v4 v5 v6 hs hl1 hl2 hm hmA hwA
  go_enter Tryd.func14, Tryd.ntmps14
  go_wp2_with fail
  rw [show w.heap.size + 1 = A.heap.size from by rw [hA]; simp, ← hA]
  refine (C1.out A (Below.refl _ _)).mono ?_
  rintro e w1 ⟨rfl, B1⟩
  have HB1 := Lib.hid B1
  clear B1 hA
  go_wp2_with fail
  refine (C2.out _ HB1.out).mono ?_
  rintro e w2 ⟨rfl, B2⟩
  have HB2 := Lib.hid B2
  clear B2
  go_wp2_with fail
  refine (C3.out _ HB2.out).mono ?_
  rintro e wa1 ⟨rfl, Ba1⟩
  have Xa1 := Lib.hid Ba1
  clear Ba1
  go_wp2_with fail
  refine (C4.out _ Xa1.out).mono ?_
  rintro e wa2 ⟨rfl, Ba2⟩
  have Xa2 := Lib.hid Ba2
  clear Ba2
  go_wp2_with fail
  refine (C5.out _ Xa2.out).mono ?_
  rintro e wa3 ⟨rfl, Ba3⟩
  have Xa3 := Lib.hid Ba3
  clear Ba3
  go_wp2_with fail
  refine (C6.out _ Xa3.out).mono ?_
  rintro e wa4 ⟨rfl, Ba4⟩
  have Xa4 := Lib.hid Ba4
  clear Ba4
  go_wp2
  go_ret
  exact ⟨rfl, HWA.out.trans (Xa4.out.mono HWA.out.size)⟩
theorem later_finds (w : World) (hm : MaxInt w) : Later w 14 #[] (.bool true) := later_of hm fun W h => finds_true W h
end Go.Proofs.YtdengimjjlbmcaaDoor
