/-
  A region that draws its order, walked by hand: what yields is taken first, a call or a store that alone may come up comes up. The doer's check, walked. The doer's kids, walked. The doer's remove, walked. The closure that recovers, walked in both modes.
-/
import Derived.Test.YtnclkfhdpkkakaaGreatDoorQ26
import Derived.Recover
namespace Go.Proofs.YtnclkfhdpkkakaaGreatDoor
set_option linter.unusedVariables false
set_option linter.unusedSimpArgs false
set_option linter.unusedVariables false
set_option linter.unusedSimpArgs false
open Go Go.RowKit Go.Shelf Go.MapKept Go.ChangeMaps Go.Maps Go.Sort
section
variable {P : Program} {l : List Oper} {Q : Exit → Act → World → Prop} {md : Region.Mode} {S : World → Prop}
theorem drop_get {i : Nat} {oi : Oper} {r : List Oper} (h : l.drop i = oi :: r) : l.toArray[i]? = some oi := by
 have h1 : (l.drop i)[0]? = some oi := by rw [h]; rfl
 rw [List.getElem?_drop, Nat.add_zero] at h1
 simpa using h1
theorem took_in (i : Nat) {oi : Oper} {r : List Oper} {v : Value} {fuel : Nat} {listed : Array Bool} {a : Act} {w : World} (hi : l.drop i = oi :: r)
  (hs : Region.noSelect l.toArray = true) (hf : Region.free md l.toArray listed i = true) (hr : (Region.ready md l.toArray listed).contains i = true)
  (hw : Region.wanted oi (yielded l.toArray a.tmps) = true) (hS : S w) (hy : ∀ w', S w' → (execOp a.eval oi).run P w' = .ok (.value v) w')
  (hQ : ∀ c a w, Q (.panic c) (a.put oi.dst v) w → Q (.panic c) a w)
  (h : wpAnyH P md l.toArray Q S fuel (listed.setIfInBounds i true) (a.put oi.dst v) w) : wpAnyH P md l.toArray Q S (fuel + 1) listed a w :=
 wpAnyH_take (drop_get hi) hs hf hr hQ (.inl ⟨hw, hy⟩) hS h
theorem took_load (i : Nat) {oi : Oper} {r : List Oper} {fuel : Nat} {listed : Array Bool} {a : Act} {w : World} (hi : l.drop i = oi :: r)
  (hs : Region.noSelect l.toArray = true) (hf : Region.free md l.toArray listed i = true) (hr : (Region.ready md l.toArray listed).contains i = true)
  (hw : Region.wanted oi (yielded l.toArray a.tmps) = true) (hS : S w) (ty : TypeId) (x : Operand) (ho : oi.op = .load ty x)
  (b o : Nat) (hx : a.eval x = .pointer (some ⟨b, o, none⟩)) (cs : List Value) (d : TypeDesc) (hc : ∀ w', S w' → w'.rangeAt b o cs)
  (hu : P.underlying ty = some d) (hd : d.isRow = true) (hn : (P.info? ty).map (·.size) = some cs.length)
  (hQ : ∀ c a w, Q (.panic c) (a.put oi.dst (.agg cs.toArray)) w → Q (.panic c) a w)
  (h : wpAnyH P md l.toArray Q S fuel (listed.setIfInBounds i true) (a.put oi.dst (.agg cs.toArray)) w) : wpAnyH P md l.toArray Q S (fuel + 1) listed a w :=
 wpAnyH_take (drop_get hi) hs hf hr hQ (yieldsIf_load_mid hw ty x ho b o hx cs d hc hu hd hn) hS h
theorem took_not (i : Nat) {oi : Oper} {r : List Oper} {fuel : Nat} {listed : Array Bool} {a : Act} {w : World} (hi : l.drop i = oi :: r)
  (hs : Region.noSelect l.toArray = true) (hf : Region.free md l.toArray listed i = true) (hr : (Region.ready md l.toArray listed).contains i = true)
  (hw : Region.wanted oi (yielded l.toArray a.tmps) = false) (hS : S w)
  (hQ : ∀ c a w, Q (.panic c) (a.put oi.dst undef) w → Q (.panic c) a w)
  (h : wpAnyH P md l.toArray Q S fuel (listed.setIfInBounds i true) (a.put oi.dst undef) w) : wpAnyH P md l.toArray Q S (fuel + 1) listed a w :=
 wpAnyH_take (drop_get hi) hs hf hr hQ (.inr ⟨hw, rfl⟩) hS h
theorem ran_in (i : Nat) {oi : Oper} {r : List Oper} {fuel : Nat} {listed : Array Bool} {a : Act} {w : World} (hi : l.drop i = oi :: r)
  (hr : Region.ready md l.toArray listed = [i]) (hw : Region.wanted oi (yielded l.toArray a.tmps) = true)
  (h : Oper.wp P oi a w (fun a' w' => S w' ∧ wpAnyH P md l.toArray Q S fuel (listed.setIfInBounds i true) a' w') Q) : wpAnyH P md l.toArray Q S (fuel + 1) listed a w := by
 refine wpAnyH_all hr (by simp) fun j hj => ?_
 have hji : j = i := by simpa using hj
 subst hji
 unfold wpOp
 rw [drop_get hi]
 dsimp only
 rw [if_pos hw]
 exact .inl h
theorem call_in (i : Nat) {oi : Oper} {r : List Oper} {fuel : Nat} {listed : Array Bool} {a : Act} {w : World} (hi : l.drop i = oi :: r)
  (hr : Region.ready md l.toArray listed = [i]) (hw : Region.wanted oi (yielded l.toArray a.tmps) = true)
  (f : FuncId) (args : Array Value) (hx : (execOp a.eval oi).run P w = .ok (.enter f args) w)
  (h : Calls P f args w (fun
   | .returned v, w' => S w' ∧ wpAnyH P md l.toArray Q S fuel (listed.setIfInBounds i true) (a.put oi.dst v) w'
   | .panicked c, w' => Q (.panic c) a w'
   | .outgrown, _ => False)) : wpAnyH P md l.toArray Q S (fuel + 1) listed a w := by
 refine ran_in i hi hr hw ?_
 unfold Oper.wp
 rw [hx, Oper.upon_enter]
 refine Calls.mono h fun e w' he => ?_
 cases e with
 | returned v => exact he
 | panicked c => exact he
 | outgrown => exact (he : False).elim
theorem store_in (i : Nat) {oi : Oper} {r : List Oper} {fuel : Nat} {listed : Array Bool} {a : Act} {w : World} (hi : l.drop i = oi :: r)
  (hr : Region.ready md l.toArray listed = [i]) (hw : Region.wanted oi (yielded l.toArray a.tmps) = true)
  (ty : TypeId) (x y : Operand) (ho : oi.op = .store ty x y)
  (b o : Nat) (cells : Array Value) (hx : a.eval x = .pointer (some ⟨b, o, none⟩)) (hy : a.eval y = .agg cells)
  (ht : w.there b o cells.size) (hn : (P.info? ty).map (·.size) = some cells.size) (h1 : cells.all (·.oneCell') = true)
  (hS : S (w.setCells b o cells.toList)) (h : wpAnyH P md l.toArray Q S fuel (listed.setIfInBounds i true) (a.put oi.dst undef) (w.setCells b o cells.toList)) : wpAnyH P md l.toArray Q S (fuel + 1) listed a w :=
 ran_in i hi hr hw (wp_store_mid ty x y ho b o cells hx hy ht hn h1 ⟨hS, h⟩)
theorem do_in (i : Nat) {oi : Oper} {r : List Oper} {fuel : Nat} {listed : Array Bool} {a : Act} {w : World} (hi : l.drop i = oi :: r)
  (hr : Region.ready md l.toArray listed = [i]) (hw : Region.wanted oi (yielded l.toArray a.tmps) = true) (w' : World)
  (hx : (execOp a.eval oi).run P w = .ok .skip w') (hS : S w') (h : wpAnyH P md l.toArray Q S fuel (listed.setIfInBounds i true) (a.put oi.dst undef) w') : wpAnyH P md l.toArray Q S (fuel + 1) listed a w := by
 refine ran_in i hi hr hw ?_
 unfold Oper.wp
 rw [hx, Oper.upon_skip]
 exact ⟨hS, h⟩
theorem give_in (i : Nat) {oi : Oper} {r : List Oper} {fuel : Nat} {listed : Array Bool} {a : Act} {w : World} (hi : l.drop i = oi :: r)
  (hr : Region.ready md l.toArray listed = [i]) (hw : Region.wanted oi (yielded l.toArray a.tmps) = true) (v : Value) (w' : World)
  (hx : (execOp a.eval oi).run P w = .ok (.value v) w') (hS : S w') (h : wpAnyH P md l.toArray Q S fuel (listed.setIfInBounds i true) (a.put oi.dst v) w') : wpAnyH P md l.toArray Q S (fuel + 1) listed a w := by
 refine ran_in i hi hr hw ?_
 unfold Oper.wp
 rw [hx, Oper.upon_value]
 exact ⟨hS, h⟩
theorem putS : (∀ (a : Act) (d : Tmp) (v : Value), a.put (some d) v = { a with tmps := a.tmps.setIfInBounds d v }) ∧ (∀ (a : Act) (v : Value), a.put none v = a) ∧ (∀ (l : List Value) (i : Nat) (v : Value), l.toArray.setIfInBounds i v = (l.set i v).toArray) ∧ (∀ (x : Value) (l : List Value) (v : Value), (x :: l).set 0 v = v :: l) ∧ (∀ (x : Value) (l : List Value) (i : Nat) (v : Value), (x :: l).set (i + 1) v = x :: l.set i v) :=
 ⟨fun _ _ _ => rfl, fun _ _ => rfl, fun l i v => List.setIfInBounds_toArray .., fun _ _ _ => rfl, fun _ _ _ _ => rfl⟩
theorem tI (i : Nat) {oi : Oper} {r : List Oper} {v : Value} {fuel : Nat} {listed : Array Bool} {a : Act} {w : World} (hi : l.drop i = oi :: r) (hS : S w)
  (h : wpAnyH P md l.toArray Q S fuel (listed.setIfInBounds i true) (a.put oi.dst v) w)
  (hs : Region.noSelect l.toArray = true := by kernel_rfl) (hf : Region.free md l.toArray listed i = true := by kernel_rfl) (hr : (Region.ready md l.toArray listed).contains i = true := by kernel_rfl)
  (hw : Region.wanted oi (yielded l.toArray a.tmps) = true := by kernel_rfl) (hy : ∀ w', S w' → (execOp a.eval oi).run P w' = .ok (.value v) w' := by intro w' hS'; go_simp <;> rfl)
  (hQ : ∀ c a w, Q (.panic c) (a.put oi.dst v) w → Q (.panic c) a w := by exact fun _ _ _ h => h) : wpAnyH P md l.toArray Q S (fuel + 1) listed a w :=
 took_in i hi hs hf hr hw hS hy hQ h
theorem tJ (i : Nat) {oi : Oper} {r : List Oper} {v : Value} {fuel : Nat} {listed : Array Bool} {a : Act} {w : World} {C : World → Prop} (hi : l.drop i = oi :: r) (hS : S w) (hC : ∀ w', S w' → C w')
  (h : wpAnyH P md l.toArray Q S fuel (listed.setIfInBounds i true) (a.put oi.dst v) w)
  (hs : Region.noSelect l.toArray = true := by kernel_rfl) (hf : Region.free md l.toArray listed i = true := by kernel_rfl) (hr : (Region.ready md l.toArray listed).contains i = true := by kernel_rfl)
  (hw : Region.wanted oi (yielded l.toArray a.tmps) = true := by kernel_rfl) (hy : ∀ w', S w' → C w' → (execOp a.eval oi).run P w' = .ok (.value v) w' := by intro w' hS' this; go_simp <;> rfl)
  (hQ : ∀ c a w, Q (.panic c) (a.put oi.dst v) w → Q (.panic c) a w := by exact fun _ _ _ h => h) : wpAnyH P md l.toArray Q S (fuel + 1) listed a w :=
 took_in i hi hs hf hr hw hS (fun w' h => hy w' h (hC w' h)) hQ h
theorem tL (i : Nat) {oi : Oper} {r : List Oper} {fuel : Nat} {listed : Array Bool} {a : Act} {w : World} (hi : l.drop i = oi :: r) (hS : S w) (ty : TypeId) (x : Operand)
  (b o : Nat) (cs : List Value) {d : TypeDesc} (hc : ∀ w', S w' → w'.rangeAt b o cs) (hu : P.underlying ty = some d) (hn : (P.info? ty).map (·.size) = some cs.length)
  (h : wpAnyH P md l.toArray Q S fuel (listed.setIfInBounds i true) (a.put oi.dst (.agg cs.toArray)) w) (ho : oi.op = .load ty x := by rfl) (hx : a.eval x = .pointer (some ⟨b, o, none⟩) := by rfl) (hd : d.isRow = true := by rfl)
  (hs : Region.noSelect l.toArray = true := by kernel_rfl) (hf : Region.free md l.toArray listed i = true := by kernel_rfl) (hr : (Region.ready md l.toArray listed).contains i = true := by kernel_rfl)
  (hw : Region.wanted oi (yielded l.toArray a.tmps) = true := by kernel_rfl) (hQ : ∀ c a w, Q (.panic c) (a.put oi.dst (.agg cs.toArray)) w → Q (.panic c) a w := by exact fun _ _ _ h => h) : wpAnyH P md l.toArray Q S (fuel + 1) listed a w :=
 took_load i hi hs hf hr hw hS ty x ho b o hx cs d hc hu hd hn hQ h
theorem tN (i : Nat) {oi : Oper} {r : List Oper} {fuel : Nat} {listed : Array Bool} {a : Act} {w : World} (hi : l.drop i = oi :: r) (hS : S w)
  (h : wpAnyH P md l.toArray Q S fuel (listed.setIfInBounds i true) (a.put oi.dst undef) w)
  (hs : Region.noSelect l.toArray = true := by kernel_rfl) (hf : Region.free md l.toArray listed i = true := by kernel_rfl) (hr : (Region.ready md l.toArray listed).contains i = true := by kernel_rfl)
  (hw : Region.wanted oi (yielded l.toArray a.tmps) = false := by kernel_rfl) (hQ : ∀ c a w, Q (.panic c) (a.put oi.dst undef) w → Q (.panic c) a w := by exact fun _ _ _ h => h) : wpAnyH P md l.toArray Q S (fuel + 1) listed a w :=
 took_not i hi hs hf hr hw hS hQ h
theorem cI (i : Nat) {oi : Oper} {r : List Oper} {fuel : Nat} {listed : Array Bool} {a : Act} {w : World} (hi : l.drop i = oi :: r) {f : FuncId} {args : Array Value}
  (h : Calls P f args w (fun
   | .returned v, w' => S w' ∧ wpAnyH P md l.toArray Q S fuel (listed.setIfInBounds i true) (a.put oi.dst v) w'
   | .panicked c, w' => Q (.panic c) a w'
   | .outgrown, _ => False))
  (hr : Region.ready md l.toArray listed = [i] := by kernel_rfl) (hw : Region.wanted oi (yielded l.toArray a.tmps) = true := by rfl)
  (hx : (execOp a.eval oi).run P w = .ok (.enter f args) w := by go_simp <;> first | rfl | exact ⟨rfl, rfl⟩) : wpAnyH P md l.toArray Q S (fuel + 1) listed a w :=
 call_in i hi hr hw f args hx h
theorem sI (i : Nat) {oi : Oper} {r : List Oper} {fuel : Nat} {listed : Array Bool} {a : Act} {w : World} (hi : l.drop i = oi :: r) (ty : TypeId) (x y : Operand) (b o : Nat) (cells : Array Value)
  (ht : w.there b o cells.size) (hn : (P.info? ty).map (·.size) = some cells.size) (h1 : cells.all (·.oneCell') = true)
  (hS : S (w.setCells b o cells.toList)) (h : wpAnyH P md l.toArray Q S fuel (listed.setIfInBounds i true) (a.put oi.dst undef) (w.setCells b o cells.toList))
  (ho : oi.op = .store ty x y := by rfl) (hx : a.eval x = .pointer (some ⟨b, o, none⟩) := by rfl) (hy : a.eval y = .agg cells := by rfl)
  (hr : Region.ready md l.toArray listed = [i] := by kernel_rfl) (hw : Region.wanted oi (yielded l.toArray a.tmps) = true := by rfl) : wpAnyH P md l.toArray Q S (fuel + 1) listed a w :=
 store_in i hi hr hw ty x y ho b o cells hx hy ht hn h1 hS h
theorem gI (i : Nat) {oi : Oper} {r : List Oper} {fuel : Nat} {listed : Array Bool} {a : Act} {w : World} (hi : l.drop i = oi :: r) (v : Value) (w' : World) (hS : S w')
  (h : wpAnyH P md l.toArray Q S fuel (listed.setIfInBounds i true) (a.put oi.dst v) w')
  (hr : Region.ready md l.toArray listed = [i] := by kernel_rfl) (hw : Region.wanted oi (yielded l.toArray a.tmps) = true := by rfl)
  (hx : (execOp a.eval oi).run P w = .ok (.value v) w' := by go_simp <;> first | rfl | exact ⟨rfl, rfl⟩) : wpAnyH P md l.toArray Q S (fuel + 1) listed a w :=
 give_in i hi hr hw v w' hx hS h
theorem rB {id : Nat} {a : Act} {w : World} (h : ∀ wd, Below w.heap.size w wd → wpAnyH P .any l.toArray Q (fun w' => Below w.heap.size w w') l.toArray.size (Array.replicate l.toArray.size false) a wd) (hm : P.follows .mixedOrders = true := by kernel_rfl) : (Code.region id l.toArray true).wp P Q a w :=
 wp_region_held_drew (S := fun w' => Below w.heap.size w w') hm (Below.refl _ w).drew (fun hS => h _ hS)
end
theorem op_boxes (w : World) (ok : Int) (op : Bytes) (oa : Option Addr) (on oc : Nat) (ov : Int) (os oe : Bool) (pa : Option Addr) (pn pc : Nat) :
  ∃ w1, w1 = (w.alloc (.cells #[.int .u8 ok, .string (bs op), .slice oa on oc, .int .i64 ov, .bool os, .bool oe, .slice pa pn pc] 26)).alloc (.cells #[.int .i64 0, .string ⟨#[]⟩, .slice none 0 0, .int .u32 0, .int .u32 0, .int .u32 0, .int .i64 0, .int .u32 0, .int .u64 0, .int .u64 0, .int .u64 0, .slice none 0 0, .slice none 0 0] 43) ∧ Below w.heap.size w w1 ∧ w1.heap.size = w.heap.size + 2
   ∧ w1.heap[w.heap.size]? = some (.cells #[.int .u8 ok, .string (bs op), .slice oa on oc, .int .i64 ov, .bool os, .bool oe, .slice pa pn pc] 26 (0, 0)) ∧ w1.heap[w.heap.size + 1]? = some (.cells #[.int .i64 0, .string ⟨#[]⟩, .slice none 0 0, .int .u32 0, .int .u32 0, .int .u32 0, .int .i64 0, .int .u32 0, .int .u64 0, .int .u64 0, .int .u64 0, .slice none 0 0, .slice none 0 0] 43 (0, 0)) ∧ w1.rangeAt w.heap.size 0 [.int .u8 ok, .string (bs op), .slice oa on oc, .int .i64 ov, .bool os, .bool oe, .slice pa pn pc] := by
 have k0 : ((w.alloc (.cells #[.int .u8 ok, .string (bs op), .slice oa on oc, .int .i64 ov, .bool os, .bool oe, .slice pa pn pc] 26)).alloc (.cells #[.int .i64 0, .string ⟨#[]⟩, .slice none 0 0, .int .u32 0, .int .u32 0, .int .u32 0, .int .i64 0, .int .u32 0, .int .u64 0, .int .u64 0, .int .u64 0, .slice none 0 0, .slice none 0 0] 43)).heap[w.heap.size]? = some (.cells #[.int .u8 ok, .string (bs op), .slice oa on oc, .int .i64 ov, .bool os, .bool oe, .slice pa pn pc] 26 (0, 0)) := (heap_alloc_old _ _ (by simp)).trans (heap_alloc_new w _)
 refine ⟨_, rfl, belowA (belowA (Below.refl _ w) _) _, by simp, k0, ?_, ?_⟩
 ·have := heap_alloc_new (w.alloc (.cells #[.int .u8 ok, .string (bs op), .slice oa on oc, .int .i64 ov, .bool os, .bool oe, .slice pa pn pc] 26)) (.cells #[.int .i64 0, .string ⟨#[]⟩, .slice none 0 0, .int .u32 0, .int .u32 0, .int .u32 0, .int .i64 0, .int .u32 0, .int .u64 0, .int .u64 0, .int .u64 0, .slice none 0 0, .slice none 0 0] 43)
  rw [World.size_alloc] at this
  exact this
 ·intro j u hu
  rw [Nat.zero_add, cell_of_row _ _ j _ 26 (0, 0) k0]
  simpa using hu
theorem range_set {w : World} {b o B o' : Nat} {cs cs' : List Value} (h : w.rangeAt b o cs) (hn : b ≠ B) : (w.setCells B o' cs').rangeAt b o cs := fun j u hu => by
 have hk : Kept (· = B) w (w.setCells B o' cs') := Kept.setCells (S := (· = B)) (p := B) rfl _ o' (Kept.refl _ w)
 have h1 := h j u hu
 exact (hk.cell (p := ⟨b, o + j, none⟩) (World.block_lt_of_cell? _ _ h1) (fun e => hn e)).trans h1
end Go.Proofs.YtnclkfhdpkkakaaGreatDoor
namespace Go.Proofs.YtnclkfhdpkkakaaGreatDoor
set_option linter.unusedVariables false
set_option linter.unusedSimpArgs false
open Go Go.RowKit Go.Shelf Go.MapKept Go.ChangeMaps Go.Maps Go.Sort
section
variable {X : Nat → Prop} {w0 w : World} {d b : Nat} {root : Bytes} {at_ cnt : Int} {M : List (Bytes × Nd)} {who : Sess} {v : Value} {L : List RawE} {E : List Eff}
set_option maxRecDepth 100000 in
set_option maxHeartbeats 8000000 in
theorem DoerAt.check_ok (D : DoerAt X w0 w d b root at_ cnt M who v L E) (r : RawO) (o : Opl) {lo : Nat → Prop} (hr : LeafO w lo r o) (hp : o.path.length ≤ 1000) {nd : Nd} (h : getA o.path M = some nd) (hv : ¬ (0 ≤ o.ver ∧ o.ver ≠ IntKind.i64.wrap nd.num.ver)) :
  Calls Tryz.prog 88 #[.pointer (some ⟨d, 0, none⟩), r.val] w (OpDone X w0 w d b root at_ cnt M M who v E ⟨o.path, nd, []⟩) := by
 obtain ⟨ok, op, oa, on, oc, ov, os, oe, pa, pn, pc⟩ := r
 obtain ⟨okd, opp, odata, over, oseq, oeph⟩ := o
 obtain ⟨q1, q2, q3, q4, q5, q6, q7, q8⟩ := hr
 clear q6 q7 q8
 dsimp only at q1 q2 q3 q4 q5 hp h hv
 subst q1 q2 q3 q4 q5
 unfold RawO.val RawO.cells
 try dsimp only
 obtain ⟨w1, hw1, hb1, hs1, k0, k1, ho1⟩ := op_boxes w ok op oa on oc ov os oe pa pn pc
 have HSO : Hid ((Tryz.prog.info? 26).map (·.size) = some 7) := Lib.hid (by kernel_rfl)
 have HSR : Hid ((Tryz.prog.info? 43).map (·.size) = some 13) := Lib.hid (by kernel_rfl)
 have D1 := D.below hb1
 have H1 := Lib.hid (And.intro hb1 (And.intro hs1 (And.intro k0 (And.intro k1 (And.intro hw1 ho1)))))
 have hg := fun (w' : World) (hb : Below w1.heap.size w1 w') => (D1.below hb).ver_ok ⟨ok, op, oa, on, oc, ov, os, oe, pa, pn, pc⟩ hp h hv
 unfold RawO.val RawO.cells at hg
 dsimp only at hg
 have HG := Lib.hid hg
 have HD := Lib.hid D
 have y1 : ∀ w', World.rangeAt w' w.heap.size 0 [.int .u8 ok, .string (bs op), .slice oa on oc, .int .i64 ov, .bool os, .bool oe, .slice pa pn pc] → w'.cell? ⟨w.heap.size, 1, none⟩ = some (.string (bs op)) := fun w' h => h 1 _ rfl
 have hs0 : w.heap.size < w1.heap.size := by omega
 have HR1 := Lib.hid ho1
 clear D D1 hg hb1 hs1 k0 k1 hw1 ho1 h hv
 go_enter Tryz.func88, Tryz.ntmps88
 go_wp2_with fail
 rw [← H1.out.2.2.2.2.1]
 refine wp_region_held_drew (S := fun w' => World.rangeAt w' w.heap.size 0 [.int .u8 ok, .string (bs op), .slice oa on oc, .int .i64 ov, .bool os, .bool oe, .slice pa pn pc]) (by kernel_rfl) HR1.out (fun hS => ?_)
 refine tI 0 rfl hS ?_
 refine tJ 1 rfl hS y1 ?_
 refine tI 2 rfl hS ?_
 refine tL 3 rfl hS 26 (.tmp 3) w.heap.size 0 [.int .u8 ok, .string (bs op), .slice oa on oc, .int .i64 ov, .bool os, .bool oe, .slice pa pn pc] (fun _ h => h) Tryz.underlying26 HSO.out ?_
 simp only [putS]
 refine cI 4 rfl ?_
 refine (HG.out _ (Below.refl _ _).drew).mono ?_
 rintro e w2 ⟨⟨ra, rn, rc, ⟨r1, r2, r3, r4, r5, r6, r7, r8⟩⟩, rfl, hrd, B2', hfree⟩
 have B2 : Below w1.heap.size w1 w2 := (Below.refl _ w1).drew.trans B2'
 have ht2 : w2.there (w.heap.size + 1) 0 13 := there_of ((B2.block _ (by have := H1.out.2.1; omega)).trans H1.out.2.2.2.1) (by simp)
 have ct : World.rangeAt w2 w.heap.size 0 [.int .u8 ok, .string (bs op), .slice oa on oc, .int .i64 ov, .bool os, .bool oe, .slice pa pn pc] := range_kept HR1.out B2 hs0
 have H2 := Lib.hid (And.intro ht2 (And.intro hrd B2))
 clear ht2 hrd B2 B2' hfree hS
 unfold Raw.val Raw.cells Nums.cells
 try dsimp only
 refine ⟨ct, ?_⟩
 try dsimp only
 simp only [putS]
 refine tI 5 rfl ct ?_
 simp only [putS]
 have HON : Hid ((#[.int .i64 0, .string (bs op), .slice ra rn rc, .int .u32 r1, .int .u32 r2, .int .u32 r3, .int .i64 r4, .int .u32 r5, .int .u64 r6, .int .u64 r7, .int .u64 r8, .slice none 0 0, .slice none 0 0] : Array Value).all (·.oneCell') = true) := Lib.hid (by simp [Value.oneCell'])
 refine sI 6 rfl 43 (.tmp 4) (.tmp 10) (w.heap.size + 1) 0 #[.int .i64 0, .string (bs op), .slice ra rn rc, .int .u32 r1, .int .u32 r2, .int .u32 r3, .int .i64 r4, .int .u32 r5, .int .u64 r6, .int .u64 r7, .int .u64 r8, .slice none 0 0, .slice none 0 0] H2.out.1 HSR.out HON.out (range_set ct (by omega)) ?_
 simp only [putS]
 refine wpAnyH_done (by kernel_rfl) ?_ _
 go_wp2_with fail
 refine bodyPost_ret (results_cell_mid rfl _ _ (w.heap.size + 1) 0 [.int .i64 0, .string (bs op), .slice ra rn rc, .int .u32 r1, .int .u32 r2, .int .u32 r3, .int .i64 r4, .int .u32 r5, .int .u64 r6, .int .u64 r7, .int .u64 r8, .slice none 0 0, .slice none 0 0] _ rfl (World.rangeAt_setCells_same _ _ _ _ H2.out.1) Tryz.underlying43 rfl HSR.out) rfl ?_
 obtain ⟨hb1, hs1, k0, k1, _, _⟩ := H1.out
 obtain ⟨g1, g2, g3⟩ := H2.out
 have K9 : Kept (· = w.heap.size + 1) w2 (w2.setCells (w.heap.size + 1) 0 [.int .i64 0, .string (bs op), .slice ra rn rc, .int .u32 r1, .int .u32 r2, .int .u32 r3, .int .i64 r4, .int .u32 r5, .int .u64 r6, .int .u64 r7, .int .u64 r8, .slice none 0 0, .slice none 0 0]) := Kept.setCells (S := (· = w.heap.size + 1)) (p := w.heap.size + 1) rfl _ 0 (Kept.refl _ w2)
 have hb2 : Below w.heap.size w w2 := hb1.trans (g3.mono hb1.size)
 have D9 := (HD.out.below hb2).turn ((g3.block (w.heap.size + 1) (by omega)).trans k1) zr_free (by decide) (by decide) (by decide) (by have := HD.out.tree.bl.size; omega) K9
 refine ⟨⟨v, _, ⟨ra, rn, rc, ⟨r1, r2, r3, r4, r5, r6, r7, r8⟩⟩, none, 0, rfl, D9, fun k h => .inl h, ?_, StrLo.nil _ _ _⟩, ?_⟩
 ·refine (g2.cells (fun k hk e => by have hk : w1.heap.size ≤ k := hk; omega) _).mono (fun k hk => ?_)
  have hk : w1.heap.size ≤ k := hk
  refine ⟨by omega, fun e => ?_⟩
  have := (HD.out.row.own.lt k e).2
  omega
 ·exact (Kept.ofBelow hb2).newK K9 (by omega)
set_option maxRecDepth 100000 in
set_option maxHeartbeats 8000000 in
theorem DoerAt.check_err (D : DoerAt X w0 w d b root at_ cnt M who v L E) (r : RawO) (o : Opl) {lo : Nat → Prop} (hr : LeafO w lo r o) (hp : o.path.length ≤ 1000) {x : Int} (h : verE M o = x) (hv : x ≠ 0) :
  Calls Tryz.prog 88 #[.pointer (some ⟨d, 0, none⟩), r.val] w (OpFail w x) := by
 obtain ⟨ok, op, oa, on, oc, ov, os, oe, pa, pn, pc⟩ := r
 obtain ⟨okd, opp, odata, over, oseq, oeph⟩ := o
 obtain ⟨q1, q2, q3, q4, q5, q6, q7, q8⟩ := hr
 clear q6 q7 q8
 dsimp only at q1 q2 q3 q4 q5 hp h hv
 subst q1 q2 q3 q4 q5
 unfold RawO.val RawO.cells
 try dsimp only
 obtain ⟨w1, hw1, hb1, hs1, k0, k1, ho1⟩ := op_boxes w ok op oa on oc ov os oe pa pn pc
 have HSO : Hid ((Tryz.prog.info? 26).map (·.size) = some 7) := Lib.hid (by kernel_rfl)
 have HSR : Hid ((Tryz.prog.info? 43).map (·.size) = some 13) := Lib.hid (by kernel_rfl)
 have D1 := D.below hb1
 have H1 := Lib.hid (And.intro hb1 (And.intro hs1 (And.intro k0 (And.intro k1 (And.intro hw1 ho1)))))
 have hg := fun (w' : World) (hb : Below w1.heap.size w1 w') => (D1.below hb).ver_err ⟨ok, op, oa, on, oc, ov, os, oe, pa, pn, pc⟩ ⟨ok, op, odata, ov, os, oe⟩ rfl rfl hp h hv
 unfold RawO.val RawO.cells OpFail at hg
 dsimp only at hg
 have HG := Lib.hid hg
 have y1 : ∀ w', World.rangeAt w' w.heap.size 0 [.int .u8 ok, .string (bs op), .slice oa on oc, .int .i64 ov, .bool os, .bool oe, .slice pa pn pc] → w'.cell? ⟨w.heap.size, 1, none⟩ = some (.string (bs op)) := fun w' h => h 1 _ rfl
 have hs0 : w.heap.size < w1.heap.size := by omega
 have HR1 := Lib.hid ho1
 clear D D1 hg hb1 hs1 k0 k1 hw1 ho1 h hv
 go_enter Tryz.func88, Tryz.ntmps88
 go_wp2_with fail
 rw [← H1.out.2.2.2.2.1]
 refine wp_region_held_drew (S := fun w' => World.rangeAt w' w.heap.size 0 [.int .u8 ok, .string (bs op), .slice oa on oc, .int .i64 ov, .bool os, .bool oe, .slice pa pn pc]) (by kernel_rfl) HR1.out (fun hS => ?_)
 refine tI 0 rfl hS ?_
 refine tJ 1 rfl hS y1 ?_
 refine tI 2 rfl hS ?_
 refine tL 3 rfl hS 26 (.tmp 3) w.heap.size 0 [.int .u8 ok, .string (bs op), .slice oa on oc, .int .i64 ov, .bool os, .bool oe, .slice pa pn pc] (fun _ h => h) Tryz.underlying26 HSO.out ?_
 simp only [putS]
 refine cI 4 rfl ?_
 refine (HG.out _ (Below.refl _ _).drew).mono ?_
 rintro e w2 ⟨rfl, B2'⟩
 have HB2 := Lib.hid (H1.out.1.trans (((Below.refl _ w1).drew.trans B2').mono H1.out.1.size))
 clear B2' hS
 unfold panicV
 try dsimp only
 go_wp2_with fail
 exact ⟨rfl, rfl, HB2.out⟩
end
end Go.Proofs.YtnclkfhdpkkakaaGreatDoor
namespace Go.Proofs.YtnclkfhdpkkakaaGreatDoor
set_option linter.unusedVariables false
set_option linter.unusedSimpArgs false
open Go Go.RowKit Go.Shelf Go.MapKept Go.ChangeMaps Go.Maps Go.Sort
theorem Reads.keptS {w w' : World} {lo S : Nat → Prop} {r : Raw} {nd : Nd} (h : Reads w lo r nd) (hk : Kept S w w') (hn : ∀ k, lo k → k < w.heap.size → ¬ S k) : Reads w' lo r nd :=
 ⟨h.num, h.len, (h.data.kept hk (Nat.le_refl _) (fun b hb hl _ => hn b hb hl)).mono (fun _ h => h) hk.size, h.nil⟩
theorem rep_free (x : Int) (p : ByteArray) (a k q : Option Addr) (n c r1 r2 r3 r4 r5 r6 r7 r8 kn kc qn qc) : ∀ y ∈ (#[.int .i64 x, .string p, .slice a n c, .int .u32 r1, .int .u32 r2, .int .u32 r3, .int .i64 r4, .int .u32 r5, .int .u64 r6, .int .u64 r7, .int .u64 r8, .slice k kn kc, .slice q qn qc] : Array Value).toList, ∀ m, y ≠ .int .u8 m := by
 intro y hy m
 simp at hy
 rcases hy with rfl | rfl | rfl | rfl | rfl | rfl | rfl | rfl | rfl | rfl | rfl | rfl | rfl <;> simp
section
variable {X : Nat → Prop} {w0 w : World} {d b : Nat} {root : Bytes} {at_ cnt : Int} {M : List (Bytes × Nd)} {who : Sess} {v : Value} {L : List RawE} {E : List Eff}
theorem DoerAt.kidsC (D : DoerAt X w0 w d b root at_ cnt M who v L E) (p : Bytes) :
  Calls Tryz.prog 28 #[.pointer (some ⟨b, 0, none⟩), .string (bs p)] w fun e w' => ∃ a c, e = .returned (.slice a (kidsS root M p).length c) ∧ StrLo w' (From w.heap.size) a (kidsS root M p) ∧ Below w.heap.size w w' := by
 have R := D.tree
 obtain ⟨lo, mb, T⟩ := R.tree
 refine (T.kids_any R.short R.max R.fit.path p).mono ?_
 rintro e w' ⟨v, rfl, hr, hb⟩
 rcases hr with ⟨rfl, h0⟩ | ⟨g, cap, rfl, h2, h3, h4, h5⟩
 ·rw [h0]
  exact ⟨none, 0, rfl, StrLo.nil _ _ _, hb⟩
 ·refine ⟨_, cap, rfl, fun k q hk => ⟨g, 0, rfl, h2, h3, ?_⟩, hb⟩
  rw [Nat.zero_add]
  exact h5 k q hk
set_option maxRecDepth 100000 in
set_option maxHeartbeats 8000000 in
theorem DoerAt.kids_none (D : DoerAt X w0 w d b root at_ cnt M who v L E) (r : RawO) (o : Opl) {lo : Nat → Prop} (hr : LeafO w lo r o) (hp : o.path.length ≤ 1000) (h : getA o.path M = none) :
  Calls Tryz.prog 90 #[.pointer (some ⟨d, 0, none⟩), r.val] w (OpFail w 31) := by
 obtain ⟨ok, op, oa, on, oc, ov, os, oe, pa, pn, pc⟩ := r
 obtain ⟨okd, opp, odata, over, oseq, oeph⟩ := o
 obtain ⟨q1, q2, q3, q4, q5, q6, q7, q8⟩ := hr
 clear q6 q7 q8
 dsimp only at q1 q2 q3 q4 q5 hp h
 subst q1 q2 q3 q4 q5
 unfold RawO.val RawO.cells
 try dsimp only
 obtain ⟨w1, hw1, hb1, hs1, k0, k1, ho1⟩ := op_boxes w ok op oa on oc ov os oe pa pn pc
 have HSO : Hid ((Tryz.prog.info? 26).map (·.size) = some 7) := Lib.hid (by kernel_rfl)
 have HSR : Hid ((Tryz.prog.info? 43).map (·.size) = some 13) := Lib.hid (by kernel_rfl)
 have D1 := D.below hb1
 have H1 := Lib.hid (And.intro hb1 (And.intro hs1 (And.intro k0 (And.intro k1 (And.intro hw1 ho1)))))
 have y1 : w1.cell? ⟨w.heap.size, 1, none⟩ = some (.string (bs op)) := ho1 1 _ rfl
 have hg := D1.told_none op hp h
 have HG := Lib.hid hg
 clear D D1 hg h hb1 hs1 k0 k1 hw1 ho1
 go_enter Tryz.func90, Tryz.ntmps90
 go_wp2_with (rw [← H1.out.2.2.2.2.1])
 refine HG.out.mono ?_
 rintro e w2 ⟨rfl, B2⟩
 have HB2 := Lib.hid (H1.out.1.trans (B2.mono H1.out.1.size))
 clear B2
 unfold panicV
 go_wp2
 exact ⟨rfl, rfl, HB2.out⟩
set_option maxRecDepth 100000 in
set_option maxHeartbeats 8000000 in
theorem DoerAt.kids_ok (D : DoerAt X w0 w d b root at_ cnt M who v L E) (r : RawO) (o : Opl) {lo : Nat → Prop} (hr : LeafO w lo r o) (hp : o.path.length ≤ 1000) {nd : Nd} (h : getA o.path M = some nd) :
  Calls Tryz.prog 90 #[.pointer (some ⟨d, 0, none⟩), r.val] w (OpDone X w0 w d b root at_ cnt M M who v E ⟨o.path, nd, kidsS root M o.path⟩) := by
 obtain ⟨ok, op, oa, on, oc, ov, os, oe, pa, pn, pc⟩ := r
 obtain ⟨okd, opp, odata, over, oseq, oeph⟩ := o
 obtain ⟨q1, q2, q3, q4, q5, q6, q7, q8⟩ := hr
 clear q6 q7 q8
 dsimp only at q1 q2 q3 q4 q5 hp h
 subst q1 q2 q3 q4 q5
 unfold RawO.val RawO.cells
 try dsimp only
 obtain ⟨w1, hw1, hb1, hs1, k0, k1, ho1⟩ := op_boxes w ok op oa on oc ov os oe pa pn pc
 have HSO : Hid ((Tryz.prog.info? 26).map (·.size) = some 7) := Lib.hid (by kernel_rfl)
 have HSR : Hid ((Tryz.prog.info? 43).map (·.size) = some 13) := Lib.hid (by kernel_rfl)
 have D1 := D.below hb1
 have H1 := Lib.hid (And.intro hb1 (And.intro hs1 (And.intro k0 (And.intro k1 (And.intro hw1 ho1)))))
 have y1 : w1.cell? ⟨w.heap.size, 1, none⟩ = some (.string (bs op)) := ho1 1 _ rfl
 have hg := D1.told_some op hp h
 have HG := Lib.hid hg
 have HD := Lib.hid D
 have HDL := Lib.hid D.lt
 clear D D1 hg h hb1 hs1 k0 k1 hw1 ho1
 go_enter Tryz.func90, Tryz.ntmps90
 go_wp2_with (rw [← H1.out.2.2.2.2.1])
 refine HG.out.mono ?_
 rintro e w2 ⟨⟨ra, rn, rc, ⟨r1, r2, r3, r4, r5, r6, r7, r8⟩⟩, rfl, hrd, B2, hfree⟩
 unfold repCells Raw.cells Nums.cells
 dsimp only [List.cons_append, List.nil_append]
 obtain ⟨w3, hw3⟩ : ∃ w3, w3 = w2.alloc (.cells #[.int .i64 0, .string (bs op), .slice ra rn rc, .int .u32 r1, .int .u32 r2, .int .u32 r3, .int .i64 r4, .int .u32 r5, .int .u64 r6, .int .u64 r7, .int .u64 r8, .slice none 0 0, .slice none 0 0] 43) := ⟨_, rfl⟩
 have hb3 : Below w2.heap.size w2 w3 := by rw [hw3]; exact belowA (Below.refl _ w2) _
 have k3 : w3.heap[w2.heap.size]? = some (.cells #[.int .i64 0, .string (bs op), .slice ra rn rc, .int .u32 r1, .int .u32 r2, .int .u32 r3, .int .i64 r4, .int .u32 r5, .int .u64 r6, .int .u64 r7, .int .u64 r8, .slice none 0 0, .slice none 0 0] 43 (0, 0)) := by rw [hw3]; exact heap_alloc_new w2 _
 have hb13 : Below w1.heap.size w1 w3 := B2.trans (hb3.mono B2.size)
 have hs3 : w3.heap.size = w2.heap.size + 1 := by rw [hw3]; simp
 have D3 := (HD.out.below H1.out.1).below hb13
 have y0 : ∀ w', Kept (· = w2.heap.size) w3 w' → w'.cell? ⟨d, 0, none⟩ = some (.pointer (some ⟨b, 0, none⟩)) := fun w' hk => (hk.cell (p := ⟨d, 0, none⟩) D3.lt (fun e => by have e : d = w2.heap.size := e; have := HDL.out; have := B2.size; have := H1.out.2.1; omega)).trans D3.c0
 have y2 : ∀ w', Kept (· = w2.heap.size) w3 w' → w'.cell? ⟨w.heap.size, 1, none⟩ = some (.string (bs op)) := fun w' hk => (hk.cell (p := ⟨w.heap.size, 1, none⟩) (by have := B2.size; have := H1.out.2.1; show w.heap.size < w3.heap.size; omega) (fun e => by have e : w.heap.size = w2.heap.size := e; have := B2.size; have := H1.out.2.1; omega)).trans ((hb13.cell (p := ⟨w.heap.size, 1, none⟩) (by have := H1.out.2.1; show w.heap.size < w1.heap.size; omega)).trans y1)
 have HC := Lib.hid ((D3.below (Below.refl _ w3).drew).kidsC op)
 have H3 := Lib.hid (And.intro hw3 (And.intro hb3 (And.intro k3 (And.intro hb13 (And.intro hs3 (And.intro hrd B2))))))
 have HK3 : Hid (Kept (· = w2.heap.size) w3 w3.drew) := Lib.hid (Kept.refl _ w3).drew
 clear hb3 k3 hb13 hs3 D3 hrd B2 hfree hw3
 go_wp2_with fail
 rw [← H3.out.1]
 refine wp_region_held_drew (S := Kept (· = w2.heap.size) w3) (by kernel_rfl) HK3.out (fun hS => ?_)
 refine tI 0 rfl hS ?_
 refine tI 1 rfl hS ?_
 refine tI 2 rfl hS ?_
 refine tJ 3 rfl hS y0 ?_
 simp only [putS]
 refine tI 4 rfl hS ?_
 refine tJ 5 rfl hS y2 ?_
 simp only [putS]
 refine cI 6 rfl ?_
 refine HC.out.mono ?_
 rintro e w4 ⟨ka, kc, rfl, hsl, B4'⟩
 obtain ⟨kn, hkn⟩ : ∃ kn, kn = (kidsS root M op).length := ⟨_, rfl⟩
 rw [← hkn]
 have B4 : Below w3.heap.size w3 w4 := (Below.refl _ w3).drew.trans B4'
 have S4 : Kept (· = w2.heap.size) w3 w4 := Kept.ofBelow B4
 have k4 : w4.heap[w2.heap.size]? = some (.cells #[.int .i64 0, .string (bs op), .slice ra rn rc, .int .u32 r1, .int .u32 r2, .int .u32 r3, .int .i64 r4, .int .u32 r5, .int .u64 r6, .int .u64 r7, .int .u64 r8, .slice none 0 0, .slice none 0 0] 43 (0, 0)) := (B4.block _ (by have := H3.out.2.2.2.2.1; omega)).trans H3.out.2.2.1
 have c4 : w4.cell? ⟨w2.heap.size, 11, none⟩ = some (.slice none 0 0) := cell_of_row _ _ 11 _ 43 (0, 0) k4
 have f4 : w4.frozen? ⟨w2.heap.size, 11, none⟩ = false := by simp [World.frozen?, k4]
 obtain ⟨w5, hw5⟩ : ∃ w5, w5 = w4.setCell ⟨w2.heap.size, 11, none⟩ (.slice ka kn kc) := ⟨_, rfl⟩
 have K5 : Kept (· = w2.heap.size) w4 w5 := by rw [hw5]; exact Kept.setCell (S := (· = w2.heap.size)) (p := ⟨w2.heap.size, 11, none⟩) (Kept.refl _ w4) rfl _
 have S5 : Kept (· = w2.heap.size) w3 w5 := S4.trans K5
 have k5 : w5.heap[w2.heap.size]? = some (.cells #[.int .i64 0, .string (bs op), .slice ra rn rc, .int .u32 r1, .int .u32 r2, .int .u32 r3, .int .i64 r4, .int .u32 r5, .int .u64 r6, .int .u64 r7, .int .u64 r8, .slice ka kn kc, .slice none 0 0] 43 (0, 0)) := by
  rw [hw5]
  simp [World.setCell, Array.getElem?_modify, k4]
 have ht5 : w5.there (w.heap.size + 1) 0 13 := there_of ((K5.block (w.heap.size + 1) (by have := B4.size; have := H3.out.2.2.2.2.1; have := H3.out.2.2.2.2.2.2.size; have := H1.out.2.1; omega) (fun e => by have e : w.heap.size + 1 = w2.heap.size := e; have := H3.out.2.2.2.2.2.2.size; have := H1.out.2.1; omega)).trans ((B4.block (w.heap.size + 1) (by have := H3.out.2.2.2.2.1; have := H3.out.2.2.2.2.2.2.size; have := H1.out.2.1; omega)).trans ((H3.out.2.2.2.1.block (w.heap.size + 1) (by have := H1.out.2.1; omega)).trans H1.out.2.2.2.1))) (by simp)
 have hr5 : w5.rangeAt w2.heap.size 0 [.int .i64 0, .string (bs op), .slice ra rn rc, .int .u32 r1, .int .u32 r2, .int .u32 r3, .int .i64 r4, .int .u32 r5, .int .u64 r6, .int .u64 r7, .int .u64 r8, .slice ka kn kc, .slice none 0 0] := fun j u hu => by
  rw [Nat.zero_add, cell_of_row _ _ j _ 43 (0, 0) k5]
  simpa using hu
 have H4 := Lib.hid (And.intro hsl (And.intro B4 (And.intro k4 (And.intro K5 (And.intro k5 (And.intro ht5 (And.intro hr5 (And.intro hw5 hkn))))))))
 clear hsl B4' B4 k4 K5 k5 ht5 hr5 hkn
 refine ⟨S4, ?_⟩
 try dsimp only
 simp only [putS]
 refine tI 7 rfl S4 ?_
 simp only [putS]
 refine do_in 8 rfl (by kernel_rfl) (by rfl) w5 (by rw [hw5]; go_simp <;> first | rfl | exact ⟨rfl, rfl⟩) S5 ?_
 clear hw5 c4 f4 S4 S5 y0 y2 hS
 simp only [putS]
 refine wpAnyH_done (by kernel_rfl) ?_ _
 have HON : Hid ((#[.int .i64 0, .string (bs op), .slice ra rn rc, .int .u32 r1, .int .u32 r2, .int .u32 r3, .int .i64 r4, .int .u32 r5, .int .u64 r6, .int .u64 r7, .int .u64 r8, .slice ka kn kc, .slice none 0 0] : Array Value).all (·.oneCell') = true) := Lib.hid (by simp [Value.oneCell'])
 go_wp2_with (first
  | (refine wpList_load_mid rfl 43 (.tmp 5) rfl w2.heap.size 0 rfl [.int .i64 0, .string (bs op), .slice ra rn rc, .int .u32 r1, .int .u32 r2, .int .u32 r3, .int .i64 r4, .int .u32 r5, .int .u64 r6, .int .u64 r7, .int .u64 r8, .slice ka kn kc, .slice none 0 0] _ H4.out.2.2.2.2.2.2.1 Tryz.underlying43 rfl HSR.out ?_)
  | (refine wpList_store_mid rfl 43 (.tmp 4) (.tmp 18) rfl (w.heap.size + 1) 0 #[.int .i64 0, .string (bs op), .slice ra rn rc, .int .u32 r1, .int .u32 r2, .int .u32 r3, .int .i64 r4, .int .u32 r5, .int .u64 r6, .int .u64 r7, .int .u64 r8, .slice ka kn kc, .slice none 0 0] rfl rfl H4.out.2.2.2.2.2.1 HSR.out HON.out ?_))
 refine bodyPost_ret (results_cell_mid rfl _ _ (w.heap.size + 1) 0 [.int .i64 0, .string (bs op), .slice ra rn rc, .int .u32 r1, .int .u32 r2, .int .u32 r3, .int .i64 r4, .int .u32 r5, .int .u64 r6, .int .u64 r7, .int .u64 r8, .slice ka kn kc, .slice none 0 0] _ rfl (World.rangeAt_setCells_same _ _ _ _ H4.out.2.2.2.2.2.1) Tryz.underlying43 rfl HSR.out) rfl ?_
 obtain ⟨hb1, hs1, k0, k1, _, _⟩ := H1.out
 obtain ⟨_, g2, g3, g4, g5, g6, g7⟩ := H3.out
 obtain ⟨h1, h2, h3, h4, h5, h6, h7, _, hkn⟩ := H4.out
 have s12 := g7.size
 have s34 := h2.size
 have s45 := h4.size
 have K9 : Kept (· = w.heap.size + 1) w5 (w5.setCells (w.heap.size + 1) 0 [.int .i64 0, .string (bs op), .slice ra rn rc, .int .u32 r1, .int .u32 r2, .int .u32 r3, .int .i64 r4, .int .u32 r5, .int .u64 r6, .int .u64 r7, .int .u64 r8, .slice ka kn kc, .slice none 0 0]) := Kept.setCells (S := (· = w.heap.size + 1)) (p := w.heap.size + 1) rfl _ 0 (Kept.refl _ w5)
 have hb03 : Below w.heap.size w w3 := hb1.trans (g4.mono hb1.size)
 have hb4 : Below w.heap.size w w4 := hb03.trans (h2.mono hb03.size)
 have k1' : w5.heap[w.heap.size + 1]? = _ := (h4.block (w.heap.size + 1) (by omega) (fun e => by have e : w.heap.size + 1 = w2.heap.size := e; omega)).trans ((h2.block (w.heap.size + 1) (by omega)).trans ((g4.block (w.heap.size + 1) (by omega)).trans k1))
 have D5 := (HD.out.below hb4).turn h3 (rep_free _ _ _ _ _ _ _ _ _ _ _ _ _ _ _ _ _ _ _) (by decide) (by decide) (by decide) (by have := HD.out.tree.bl.size; omega) h4
 have D9 := D5.turn k1' zr_free (by decide) (by decide) (by decide) (by have := HD.out.tree.bl.size; omega) K9
 have hvl : ∀ k, v.ownBlock = some k → k < w.heap.size := fun k e => (HD.out.row.own.lt k e).2
 subst hkn
 refine ⟨⟨v, _, ⟨ra, rn, rc, ⟨r1, r2, r3, r4, r5, r6, r7, r8⟩⟩, ka, kc, rfl, D9, fun k h => .inl h, ?_, ?_⟩, ?_⟩
 ·have e1 := g6.monoB (lo' := fun k => w1.heap.size ≤ k ∧ k < w2.heap.size) (fun k hk hl => ⟨hk, hl⟩)
  have e2 := e1.keptS (Kept.ofBelow (S := fun _ => False) (g2.trans (h2.mono g2.size))) (fun _ _ _ h => h)
  have e3 := e2.keptS h4 (fun k hk _ e => by have e : k = w2.heap.size := e; omega)
  have e4 := e3.keptS K9 (fun k hk _ e => by have e : k = w.heap.size + 1 := e; omega)
  exact e4.mono (fun k hk => ⟨by omega, fun e => by have := hvl k e; omega⟩)
 ·have e3 := h1.keptS h4 (fun k hk _ e => by have hk : w3.heap.size ≤ k := hk; have e : k = w2.heap.size := e; omega)
  have e4 := e3.keptS K9 (fun k hk _ e => by have hk : w3.heap.size ≤ k := hk; have e : k = w.heap.size + 1 := e; omega)
  exact e4.mono (fun k hk _ => by have hk : w3.heap.size ≤ k := hk; exact ⟨by omega, fun e => by have := hvl k e; omega⟩)
 ·have q1 : Kept (fun k => k = b ∨ k = d ∨ v.ownBlock = some k) w w5 := (Kept.ofBelow hb4).newK h4 (by omega)
  exact q1.newK K9 (by omega)
end
end Go.Proofs.YtnclkfhdpkkakaaGreatDoor
namespace Go.Proofs.YtnclkfhdpkkakaaGreatDoor
set_option linter.unusedVariables false
set_option linter.unusedSimpArgs false
open Go Go.RowKit Go.Shelf Go.MapKept Go.ChangeMaps Go.Maps Go.Sort
theorem must_any (t : Bool) (x : Int) (w : World) : Calls Tryz.prog 58 #[.bool t, .int .i64 x] w fun e w' => w = w' ∧ (t = true ∧ e = .returned (.tuple #[]) ∨ t = false ∧ e = panicV x) := by
 cases t
 ·exact (must_no x w).mono fun e w' ⟨h1, h2⟩ => ⟨h2.symm, .inr ⟨rfl, h1⟩⟩
 ·exact (must_yes x w).mono fun e w' ⟨h1, h2⟩ => ⟨h2.symm, .inl ⟨rfl, h1⟩⟩
section
variable {X : Nat → Prop} {w0 w : World} {d b : Nat} {root : Bytes} {at_ cnt : Int} {M : List (Bytes × Nd)} {who : Sess} {v : Value} {L : List RawE} {E : List Eff}
theorem Fit.node (h : Fit M) {p : Bytes} {nd : Nd} (hg : getA p M = some nd) : nd.data.length ≤ 1000000 := by
 obtain ⟨x, hx, rfl⟩ := getA_mem hg
 exact h.data x hx
theorem Fit.key (h : Fit M) {p : Bytes} {nd : Nd} (hg : getA p M = some nd) : p.length ≤ 1000 := by
 have := getA_some.1 (show (getA p M).isSome = true by rw [hg]; rfl)
 obtain ⟨x, hx, rfl⟩ := List.mem_map.1 this
 exact h.path x hx
theorem DoerAt.ver_any (D : DoerAt X w0 w d b root at_ cnt M who v L E) (r : RawO) (o : Opl) (h1 : r.path = o.path) (h2 : r.ver = o.ver) (hp : o.path.length ≤ 1000) :
  Calls Tryz.prog 115 #[.pointer (some ⟨d, 0, none⟩), r.val] w fun e w' => (verE M o = 0 ∧ (∃ r' : Raw, e = .returned r'.val) ∧ Below w.heap.size w w') ∨ (verE M o ≠ 0 ∧ e = panicV (verE M o) ∧ Below w.heap.size w w') := by
 by_cases h : verE M o = 0
 ·obtain ⟨nd, hnd, hver⟩ := ver_there h
  refine (D.ver_ok (nd := nd) r (by rw [h1]; exact hp) (by rw [h1]; exact hnd) (by rw [h2]; exact hver)).mono fun e w' hh => ?_
  obtain ⟨r', g1, _, g3, _⟩ := hh
  exact .inl ⟨h, ⟨r', g1⟩, g3⟩
 ·exact (D.ver_err r o h1 h2 hp rfl h).mono fun e w' ⟨h1, h3⟩ => .inr ⟨h, h1, h3⟩
set_option maxRecDepth 100000 in
set_option maxHeartbeats 16000000 in
theorem DoerAt.remove_any (D : DoerAt X w0 w d b root at_ cnt M who v L E) (h0 : 0 ≤ cnt) (h1 : cnt ≤ 100000) (hsz : E.length ≤ 900) (r : RawO) (o : Opl) {lo : Nat → Prop} (hr : LeafO w lo r o) (hp : o.path.length ≤ 1000) {x : Int} (hx : removeE root M o = x) :
  Calls Tryz.prog 86 #[.pointer (some ⟨d, 0, none⟩), r.val] w fun e w' => (x = 0 ∧ OpDone X w0 w d b root at_ (cnt + 1) M (removeM M at_ o) who v (E ++ removeX M at_ o) ⟨o.path, zNd, []⟩ e w') ∨ (x ≠ 0 ∧ OpFail w x e w') := by
 obtain ⟨ok, op, oa, on, oc, ov, os, oe, pa, pn, pc⟩ := r
 obtain ⟨okd, opp, odata, over, oseq, oeph⟩ := o
 obtain ⟨q1, q2, q3, q4, q5, q6, q7, q8⟩ := hr
 clear q6 q7 q8
 dsimp only at q1 q2 q3 q4 q5 hp
 subst q1 q2 q3 q4 q5
 unfold RawO.val RawO.cells
 try dsimp only
 obtain ⟨w1, hw1, hb1, hs1, k0, k1, ho1⟩ := op_boxes w ok op oa on oc ov os oe pa pn pc
 have HSO : Hid ((Tryz.prog.info? 26).map (·.size) = some 7) := Lib.hid (by kernel_rfl)
 have HSR : Hid ((Tryz.prog.info? 43).map (·.size) = some 13) := Lib.hid (by kernel_rfl)
 have D1 := D.below hb1
 have y1 : ∀ w', Below w1.heap.size w1 w' → w'.cell? ⟨w.heap.size, 1, none⟩ = some (.string (bs op)) := fun w' hb => (hb.cell (p := ⟨w.heap.size, 1, none⟩) (by show w.heap.size < w1.heap.size; omega)).trans (ho1 1 _ rfl)
 have y0 : ∀ w', Below w1.heap.size w1 w' → w'.cell? ⟨d, 0, none⟩ = some (.pointer (some ⟨b, 0, none⟩)) := fun w' hb => (hb.cell (p := ⟨d, 0, none⟩) D1.lt).trans D1.c0
 have HRT : Hid (∀ w', Below w1.heap.size w1 w' → Calls Tryz.prog 59 #[.pointer (some ⟨b, 0, none⟩)] w' fun e w'' => e = .returned (.string (bs root)) ∧ w'' = w') := Lib.hid fun w' hb => by
  obtain ⟨lo, mb, T⟩ := (D1.below hb).tree.tree
  exact T.root_any
 have hv := fun (w' : World) (hb : Below w1.heap.size w1 w') => (D1.below hb).ver_any ⟨ok, op, oa, on, oc, ov, os, oe, pa, pn, pc⟩ ⟨ok, op, odata, ov, os, oe⟩ rfl rfl hp
 unfold RawO.val RawO.cells at hv
 dsimp only at hv
 have HV := Lib.hid hv
 have HX := Lib.hid hx
 obtain ⟨t1, ht1⟩ : ∃ t1, t1 = decide (op = root) := ⟨_, rfl⟩
 have te := (neq_of ht1.symm).1
 have HT1 := Lib.hid ht1
 have HD := Lib.hid (And.intro D (And.intro D1 (And.intro h0 (And.intro h1 hsz))))
 have hdl := D.lt
 have HO1 := Lib.hid ho1
 have H1 := Lib.hid (And.intro hb1 (And.intro hs1 (And.intro k0 (And.intro k1 hw1))))
 clear D D1 hx hv ht1 h0 h1 hsz hb1 hs1 k0 k1 hw1 ho1
 go_enter Tryz.func86, Tryz.ntmps86
 go_wp2_with fail
 rw [← H1.out.2.2.2.2]
 refine wp_region_held_drew (S := Below w1.heap.size w1) (by kernel_rfl) (Below.refl _ w1).drew (fun hS => ?_)
 refine tI 0 rfl hS ?_
 refine tJ 1 rfl hS y1 ?_
 refine tI 2 rfl hS ?_
 refine tI 3 rfl hS ?_
 simp only [putS]
 refine tI 4 rfl hS ?_
 refine tJ 5 rfl hS y0 ?_
 simp only [putS]
 refine cI 6 rfl ?_
 refine (HRT.out _ hS).mono ?_
 rintro e w2 ⟨rfl, rfl⟩
 refine ⟨hS, ?_⟩
 try dsimp only
 simp only [putS]
 refine tI 7 rfl hS ?_
 simp only [putS]
 refine cI 8 rfl ?_
 refine (must_any _ _ _).mono ?_
 rintro e w2 ⟨rfl, (⟨ht, rfl⟩ | ⟨ht, rfl⟩)⟩
 rotate_left
 ·have HS := Lib.hid hS
  have HT := Lib.hid ht
  clear hS ht
  unfold panicV
  try dsimp only
  go_wp2_with fail
  have e1 : t1 = true := by simpa using HT.out
  have e2 : op = root := by have := HT1.out; rw [e1] at this; simpa using this.symm
  have e3 : x = 30 := by rw [← HX.out]; unfold removeE; rw [if_pos e2]
  subst e3
  exact ⟨rfl, .inr ⟨by decide, rfl, H1.out.1.trans (HS.out.mono H1.out.1.size)⟩⟩
 refine ⟨hS, ?_⟩
 have HT := Lib.hid ht
 clear ht
 try dsimp only
 simp only [putS]
 refine wpAnyH_done (by kernel_rfl) ?_ _
 have hne : Hid (op ≠ root) := Lib.hid (by
  have e1 : t1 = false := by simpa using HT.out
  have := HT1.out
  rw [e1] at this
  simpa using this.symm)
 have HR1 : Hid (World.rangeAt w1.drew w.heap.size 0 [.int .u8 ok, .string (bs op), .slice oa on oc, .int .i64 ov, .bool os, .bool oe, .slice pa pn pc]) := Lib.hid HO1.out
 clear te HT HT1
 have HS1 := Lib.hid hS
 clear hS
 go_wp2_with (refine wpList_load_mid rfl 26 (.tmp 3) rfl w.heap.size 0 rfl [.int .u8 ok, .string (bs op), .slice oa on oc, .int .i64 ov, .bool os, .bool oe, .slice pa pn pc] _ HR1.out Tryz.underlying26 rfl HSO.out ?_)
 refine (HV.out _ HS1.out).mono ?_
 rintro e w3 (⟨hv0, ⟨r', rfl⟩, B3'⟩ | ⟨hv0, rfl, B3'⟩)
 rotate_left
 ·have HS := Lib.hid (And.intro hv0 (HS1.out.trans B3'))
  clear hv0 B3'
  unfold panicV
  go_wp2_with fail
  have e3 : x = verE M ⟨ok, op, odata, ov, os, oe⟩ := by rw [← HX.out]; unfold removeE; rw [if_neg hne.out, if_pos HS.out.1]
  exact ⟨rfl, .inr ⟨by rw [e3]; exact HS.out.1, by rw [e3]; rfl, H1.out.1.trans (HS.out.2.mono H1.out.1.size)⟩⟩
 have B3 : Below w1.heap.size w1 w3 := HS1.out.trans B3'
 have HB3 := Lib.hid B3
 have HV0 := Lib.hid hv0
 clear B3 B3' hv0
 obtain ⟨kn, hkn⟩ : ∃ kn, kn = (kidsS root M op).length := ⟨_, rfl⟩
 obtain ⟨t2, ht2⟩ : ∃ t2, t2 = decide (kn = 0) := ⟨_, rfl⟩
 have tk : ((kn : Int) == 0) = t2 := by rw [ht2]; by_cases h : kn = 0 <;> simp [h]
 have tk2 : (kn == 0) = t2 := by rw [ht2]; by_cases h : kn = 0 <;> simp [h]
 have tk3 : decide (kn = 0) = t2 := ht2.symm
 have tk4 : decide ((kn : Int) = 0) = t2 := by rw [ht2]; by_cases h : kn = 0 <;> simp [h]
 have HKN := Lib.hid (And.intro hkn ht2)
 have HKC : Hid (∀ w', Below w1.heap.size w1 w' → Calls Tryz.prog 28 #[.pointer (some ⟨b, 0, none⟩), .string (bs op)] w' fun e w'' => ∃ a c, e = .returned (.slice a kn c) ∧ Below w1.heap.size w1 w'') := Lib.hid fun w' hb => ((HD.out.2.1.below hb).kidsC op).mono fun e w'' ⟨a, c, h1, _, h3⟩ => ⟨a, c, by rw [HKN.out.1]; exact h1, hb.trans (h3.mono hb.size)⟩
 clear hkn ht2
 go_wp2_with fail
 refine wp_region_held_drew (S := Below w1.heap.size w1) (by kernel_rfl) HB3.out.drew (fun hS => ?_)
 refine tI 0 rfl hS ?_
 refine tI 1 rfl hS ?_
 refine tI 2 rfl hS ?_
 refine tJ 3 rfl hS y0 ?_
 simp only [putS]
 refine tI 4 rfl hS ?_
 refine tJ 5 rfl hS y1 ?_
 simp only [putS]
 refine cI 6 rfl ?_
 refine (HKC.out _ hS).mono ?_
 rintro e w4 ⟨ka, kc, rfl, B4⟩
 refine ⟨B4, ?_⟩
 try dsimp only
 simp only [putS]
 refine tI 7 rfl B4 ?_
 refine tI 8 rfl B4 ?_
 simp only [putS]
 refine cI 9 rfl ?_
 refine (must_any _ _ _).mono ?_
 rintro e w5 ⟨rfl, (⟨ht, rfl⟩ | ⟨ht, rfl⟩)⟩
 rotate_left
 ·have HS := Lib.hid (And.intro B4 ht)
  clear hS ht B4
  unfold panicV
  try dsimp only
  go_wp2_with fail
  have e1 : t2 = false := by simpa using HS.out.2
  have e2 : ¬ kn = 0 := by have := HKN.out.2; rw [e1] at this; simpa using this.symm
  have e3 : x = 33 := by rw [← HX.out]; unfold removeE; rw [if_neg hne.out, if_neg (by simpa using HV0.out), if_pos (by have := HKN.out.1; dsimp only; omega)]
  subst e3
  exact ⟨rfl, .inr ⟨by decide, rfl, H1.out.1.trans (HS.out.1.mono H1.out.1.size)⟩⟩
 refine ⟨B4, ?_⟩
 have HS4 := Lib.hid (And.intro B4 ht)
 clear ht tk tk2 tk3 tk4 hS
 try dsimp only
 simp only [putS]
 refine wpAnyH_done (by kernel_rfl) ?_ _
 have hx0 : Hid (x = 0 ∧ removeE root M ⟨ok, op, odata, ov, os, oe⟩ = 0) := Lib.hid (by
  have e1 : t2 = true := by simpa using HS4.out.2
  have e2 : kn = 0 := by have := HKN.out.2; rw [e1] at this; simpa using this.symm
  have e3 : removeE root M ⟨ok, op, odata, ov, os, oe⟩ = 0 := by unfold removeE; rw [if_neg hne.out, if_neg (by simpa using HV0.out), if_neg (by have := HKN.out.1; dsimp only; omega)]
  exact ⟨by rw [← HX.out]; exact e3, e3⟩)
 obtain ⟨nd, hnd, _⟩ := ver_there HV0.out
 dsimp only at hnd
 have hpath : op ∈ M.map (·.1) := getA_some.1 (show (getA op M).isSome = true by rw [hnd]; rfl)
 have hund := HD.out.1.inv.under op hpath
 have hpar := HD.out.1.inv.parent op hpath hne.out
 obtain ⟨u, hu⟩ : ∃ u, getA (parentL op) M = some u := Option.isSome_iff_exists.1 (getA_some.2 hpar)
 have HTO := Lib.hid (fun (w' : World) (hb : Below w1.heap.size w1 w') => (HD.out.2.1.below hb).touched_some (HD.out.2.1.below hb).tree.max op hp hu)
 have HFX := Lib.hid (And.intro (remove_fits (at_ := at_) HD.out.1.inv hund hx0.out.2) (And.intro hu (And.intro (HD.out.1.tree.fit.key hu) (HD.out.1.tree.fit.node hu))))
 have yp : ∀ w', (fun w' : World => w'.cell? ⟨w.heap.size, 1, none⟩ = some (.string (bs op))) w' → w'.cell? ⟨w.heap.size, 1, none⟩ = some (.string (bs op)) := fun w' h => h
 have HYP : Hid (w4.drew.cell? ⟨w.heap.size, 1, none⟩ = some (.string (bs op))) := Lib.hid (y1 _ B4.drew)
 clear hnd hpath hund hpar hu y0 B4
 go_wp2_with fail
 refine wp_region_held_drew (S := fun w' => w'.cell? ⟨w.heap.size, 1, none⟩ = some (.string (bs op))) (by kernel_rfl) HYP.out (fun hS => ?_)
 refine tI 0 rfl hS ?_
 refine tI 1 rfl hS ?_
 refine tJ 2 rfl hS yp ?_
 refine tI 3 rfl hS ?_
 simp only [putS]
 refine tI 4 rfl hS ?_
 refine tI 5 rfl hS ?_
 refine tJ 6 rfl hS yp ?_
 simp only [putS]
 refine cI 7 rfl ?_
 refine (HTO.out _ HS4.out.1.drew).mono ?_
 rintro e w5 ⟨⟨ra, rn, rc, ⟨r1, r2, r3, r4, r5, r6, r7, r8⟩⟩, rfl, hrd, B5', hfree⟩
 have B5 : Below w1.heap.size w1 w5 := HS4.out.1.drew.trans (B5'.mono HS4.out.1.size)
 have hS5 := y1 _ B5
 unfold RawE.val RawE.cells Raw.cells Nums.cells
 dsimp only [List.cons_append, List.nil_append]
 refine ⟨hS5, ?_⟩
 try dsimp only
 simp only [putS]
 obtain ⟨w6, hw6⟩ : ∃ w6, w6 = w5.alloc (.cells #[.string (bs op), .bool true, .slice none 0 0, .int .u32 0, .int .u32 0, .int .u32 0, .int .i64 0, .int .u32 0, .int .u64 0, .int .u64 0, .int .u64 0, .string (bs (parentL op)), .bool false, .slice ra rn rc, .int .u32 r1, .int .u32 r2, .int .u32 r3, .int .i64 r4, .int .u32 r5, .int .u64 r6, .int .u64 r7, .int .u64 r8] 88) := ⟨_, rfl⟩
 have B6' : Below w5.heap.size w5 w6 := by rw [hw6]; exact belowA (Below.refl _ w5) _
 have B6 : Below w1.heap.size w1 w6 := B5.trans (B6'.mono B5.size)
 have hS6 := y1 _ B6
 have hs6 : w6.heap.size = w5.heap.size + 1 := by rw [hw6]; simp
 have hEA : EffsAt w6 w6.heap.size (some ⟨w5.heap.size, 0, none⟩) [⟨op, true, zRaw⟩, ⟨parentL op, false, ⟨ra, rn, rc, ⟨r1, r2, r3, r4, r5, r6, r7, r8⟩⟩⟩] := by rw [hw6]; exact effs_two w5 ⟨op, true, zRaw⟩ ⟨parentL op, false, ⟨ra, rn, rc, ⟨r1, r2, r3, r4, r5, r6, r7, r8⟩⟩⟩
 have hEL : LikeE w6 (From w4.heap.size) [⟨op, true, zRaw⟩, ⟨parentL op, false, ⟨ra, rn, rc, ⟨r1, r2, r3, r4, r5, r6, r7, r8⟩⟩⟩] (removeX M at_ ⟨ok, op, odata, ov, os, oe⟩) := by
  unfold removeX
  try dsimp only
  rw [HFX.out.2.1]
  exact like_two (r := ⟨op, true, zRaw⟩) ⟨rfl, rfl, zReads _ _⟩ ⟨rfl, rfl, hrd.below B6'⟩
 have D6 := HD.out.2.1.below B6
 have hef := D6.effects HD.out.2.2.1 HD.out.2.2.2.1 (gb := w5.heap.size) (go_ := 0) (n := 2) (c := 2) (Lx := [⟨op, true, zRaw⟩, ⟨parentL op, false, ⟨ra, rn, rc, ⟨r1, r2, r3, r4, r5, r6, r7, r8⟩⟩⟩]) (Ex := removeX M at_ ⟨ok, op, odata, ov, os, oe⟩) rfl hEA (by have h2 := HD.out.1.tree.lt; have h3 := B5.size; have := H1.out.2.1; omega) hEL
  (by intro k hk; have hk : w4.heap.size ≤ k := hk; have := HS4.out.1.size; have := H1.out.2.1; exact ⟨fun e => by have := (HD.out.1.row.own.lt k e).2; omega, fun e => by have := HD.out.1.old k e; omega⟩)
  (by
   intro y hy
   simp [removeX] at hy
   rcases hy with rfl | rfl
   ·exact ⟨hp, by show zNd.data.length ≤ 1000000; simp [zNd]⟩
   ·refine ⟨HFX.out.2.2.1, ?_⟩
    show (upN _ at_).data.length ≤ 1000000
    rw [HFX.out.2.1]
    exact HFX.out.2.2.2) HFX.out.1 (by have := HD.out.1.len; have := HD.out.2.2.2.2; omega)
 have HEF := Lib.hid hef
 have H6 := Lib.hid (And.intro B6 hs6)
 have HW6 := Lib.hid hw6
 clear hrd B5' hfree hEA hEL D6 hef B6' B6 hs6 B5
 refine give_in 8 rfl (by kernel_rfl) (by rfl) (.slice (some ⟨w5.heap.size, 0, none⟩) 2 2) w6 (by rw [HW6.out]; go_simp <;> first | rfl | exact ⟨rfl, rfl⟩) hS6 ?_
 clear hw6 hS5 hS
 simp only [putS]
 refine cI 9 rfl ?_
 refine HEF.out.mono ?_
 rintro e w8 ⟨rfl, ⟨v8, D8, G8⟩, K8⟩
 have hbb : b < w.heap.size := HD.out.1.tree.lt
 have hvl : ∀ k, v.ownBlock = some k → k < w.heap.size := fun k h => (HD.out.1.row.own.lt k h).2
 have hnk : ∀ k, w.heap.size ≤ k → ¬ (k = b ∨ k = d ∨ v.ownBlock = some k) := fun k hk h => by
  rcases h with h | h | h
  ·omega
  ·omega
  ·have := hvl k h; omega
 have hs16 := H6.out.1.size
 have hs1 := H1.out.2.1
 have hS8 : w8.cell? ⟨w.heap.size, 1, none⟩ = some (.string (bs op)) := (K8.cell (p := ⟨w.heap.size, 1, none⟩) (by show w.heap.size < w6.heap.size; omega) (hnk _ (Nat.le_refl _))).trans hS6
 have k8 := (K8.block (w.heap.size + 1) (by omega) (hnk _ (Nat.le_succ _))).trans ((H6.out.1.block (w.heap.size + 1) (by omega)).trans H1.out.2.2.2.1)
 have ht8 : w8.there (w.heap.size + 1) 0 13 := there_of k8 (by simp)
 have H8 := Lib.hid (And.intro D8 (And.intro K8 (And.intro k8 (And.intro hnk (And.intro G8 ht8)))))
 clear D8 K8 k8 hnk G8 ht8 hs16 hs1 hbb hvl
 refine ⟨hS8, ?_⟩
 clear hS6
 try dsimp only
 simp only [putS]
 refine wpAnyH_done (by kernel_rfl) ?_ _
 have HON : Hid ((#[.int .i64 0, .string (bs op), .slice none 0 0, .int .u32 0, .int .u32 0, .int .u32 0, .int .i64 0, .int .u32 0, .int .u64 0, .int .u64 0, .int .u64 0, .slice none 0 0, .slice none 0 0] : Array Value).all (·.oneCell') = true) := Lib.hid (by simp [Value.oneCell'])
 go_wp2_with (refine wpList_store_mid rfl 43 (.tmp 4) (.tmp 39) rfl (w.heap.size + 1) 0 #[.int .i64 0, .string (bs op), .slice none 0 0, .int .u32 0, .int .u32 0, .int .u32 0, .int .i64 0, .int .u32 0, .int .u64 0, .int .u64 0, .int .u64 0, .slice none 0 0, .slice none 0 0] rfl rfl H8.out.2.2.2.2.2 HSR.out HON.out ?_)
 refine bodyPost_ret (results_cell_mid rfl _ _ (w.heap.size + 1) 0 [.int .i64 0, .string (bs op), .slice none 0 0, .int .u32 0, .int .u32 0, .int .u32 0, .int .i64 0, .int .u32 0, .int .u64 0, .int .u64 0, .int .u64 0, .slice none 0 0, .slice none 0 0] _ rfl (World.rangeAt_setCells_same _ _ _ _ H8.out.2.2.2.2.2) Tryz.underlying43 rfl HSR.out) rfl ?_
 obtain ⟨hb1, hs1, k0, k1, _⟩ := H1.out
 obtain ⟨D8, K8, k8, hnk, G8, ht8⟩ := H8.out
 have s6 := H6.out.1.size
 have s8 := K8.size
 have K9 : Kept (· = w.heap.size + 1) w8 (w8.setCells (w.heap.size + 1) 0 [.int .i64 0, .string (bs op), .slice none 0 0, .int .u32 0, .int .u32 0, .int .u32 0, .int .i64 0, .int .u32 0, .int .u64 0, .int .u64 0, .int .u64 0, .slice none 0 0, .slice none 0 0]) := Kept.setCells (S := (· = w.heap.size + 1)) (p := w.heap.size + 1) rfl _ 0 (Kept.refl _ w8)
 have D9 := D8.turn k8 zr_free (by decide) (by decide) (by decide) (by have := HD.out.1.tree.bl.size; omega) K9
 have hb6 : Below w.heap.size w w6 := hb1.trans (H6.out.1.mono hb1.size)
 have q8 : Kept (fun k => k = b ∨ k = d ∨ v.ownBlock = some k) w w8 := (Kept.ofBelow hb6).trans K8
 refine .inl ⟨hx0.out.1, ⟨v8, _, zRaw, none, 0, rfl, D9, ?_, zReads _ _, StrLo.nil _ _ _⟩, q8.newK K9 (by omega)⟩
 intro k hk
 rcases G8 k hk with h | h
 ·exact .inl h
 ·exact .inr (by omega)
end
end Go.Proofs.YtnclkfhdpkkakaaGreatDoor
namespace Go.Proofs.YtnclkfhdpkkakaaGreatDoor
set_option linter.unusedVariables false
set_option linter.unusedSimpArgs false
set_option linter.unusedVariables false
set_option linter.unusedSimpArgs false
open Go Go.RowKit Go.Shelf Go.MapKept Go.ChangeMaps Go.Maps Go.Sort
theorem assert_nil (w : World) : (Instr.typeAssert Value.nilIface 20 36 true).run Tryz.prog w = .ok (.tuple #[.int .i64 0, .bool false]) w := by kernel_rfl
theorem assert_err (x : Int) (w : World) : (Instr.typeAssert (.iface 36 (.int .i64 x)) 20 36 true).run Tryz.prog w = .ok (.tuple #[.int .i64 x, .bool true]) w := by kernel_rfl
set_option maxRecDepth 100000 in
set_option maxHeartbeats 2000000 in
theorem catch_idle (p : Addr) (w : World) :
  CallsD Tryz.prog 57 #[.pointer (some p)] .returning w fun e u' w' => e = .returned (.tuple #[]) ∧ u' = .returning ∧ w' = w := by
 have h1 := assert_nil
 refine callsD_of_wpS Tryz.func57 rfl fun c₀ cs hu => ?_
 apply wpS_seq
 apply wpS_region
 simp [wpOpsS, go_sem, recoverD, hu, h1, Tryz.ntmps57, Exit.thenS]
 apply wpS_seq
 apply wpS_region
 simp [wpOpsS, go_sem, recoverD, hu, h1, Tryz.ntmps57, Exit.thenS]
 refine wpS_cond (t := false) (by simp [Act.eval, Array.replicate]) ?_
 simp only [Bool.false_eq_true, if_false]
 refine wpS_of_wp (wp_skip ?_)
 cases c₀
 simp_all [bodyPostS, results, Tryz.results57]
set_option maxRecDepth 100000 in
set_option maxHeartbeats 2000000 in
theorem catch_panicking (B : Nat) (x : Int) (older : List PanicEntry) (w : World) (ht : w.there B 0 13) :
  CallsD Tryz.prog 57 #[.pointer (some ⟨B, 0, none⟩)] (.panicking ({ v := .iface 36 (.int .i64 x), recovered := false } :: older)) w fun e u' w' =>
   e = .returned (.tuple #[]) ∧ u' = .panicking ({ v := .iface 36 (.int .i64 x), recovered := true } :: older) ∧ w' = w.setCells B 0 [.int .i64 x, .string ⟨#[]⟩, .slice none 0 0, .int .u32 0, .int .u32 0, .int .u32 0, .int .i64 0, .int .u32 0, .int .u64 0, .int .u64 0, .int .u64 0, .slice none 0 0, .slice none 0 0] := by
 have h1 := assert_err x
 have HSR : Hid ((Tryz.prog.info? 43).map (·.size) = some 13) := Lib.hid (by kernel_rfl)
 have HON : Hid ((#[.int .i64 x, .string ⟨#[]⟩, .slice none 0 0, .int .u32 0, .int .u32 0, .int .u32 0, .int .i64 0, .int .u32 0, .int .u64 0, .int .u64 0, .int .u64 0, .slice none 0 0, .slice none 0 0] : Array Value).all (·.oneCell') = true) := Lib.hid (by simp [Value.oneCell'])
 refine callsD_of_wpS Tryz.func57 rfl fun c₀ cs hu => ?_
 apply wpS_seq
 apply wpS_region
 simp [wpOpsS, go_sem, recoverD, hu, h1, Tryz.ntmps57, Exit.thenS]
 apply wpS_seq
 apply wpS_region
 simp [wpOpsS, go_sem, recoverD, hu, h1, Tryz.ntmps57, Exit.thenS]
 refine wpS_cond (t := true) (by simp [Act.eval, Array.replicate]) ?_
 simp only [if_true]
 refine wpS_of_wp ?_
 have er : (Array.replicate 10 undef : Array Value) = #[undef, undef, undef, undef, undef, undef, undef, undef, undef, undef] := rfl
 rw [er]
 simp only [List.setIfInBounds_toArray, List.set_cons_succ, List.set_cons_zero, List.append_toArray, List.cons_append, List.nil_append]
 go_wp2_with (refine wpList_store_mid rfl 43 (.tmp 0) (.tmp 10) rfl B 0 #[.int .i64 x, .string ⟨#[]⟩, .slice none 0 0, .int .u32 0, .int .u32 0, .int .u32 0, .int .i64 0, .int .u32 0, .int .u64 0, .int .u64 0, .int .u64 0, .slice none 0 0, .slice none 0 0] rfl rfl ht HSR.out HON.out ?_)
 exact ⟨rfl, _, rfl, _, results_none rfl _ _ _, rfl, rfl, rfl⟩
end Go.Proofs.YtnclkfhdpkkakaaGreatDoor
