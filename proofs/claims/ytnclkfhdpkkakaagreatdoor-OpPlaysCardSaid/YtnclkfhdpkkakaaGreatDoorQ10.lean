/-
  Nodes and bytes: slices.Clone at bytes, the program's own(), walked. Nodes, trees, as blocks of memory; own, Root, At, walked. Trees as blocks of memory: the map's raw nodes read as nodes; Root, At, walked. Get, walked.
-/
import Derived.Test.YtnclkfhdpkkakaaGreatDoorQ2
import Derived.Test.YtnclkfhdpkkakaaGreatDoorQ7
import Derived.Test.YtnclkfhdpkkakaaGreatDoorQ9
import Derived.Test.YtnclkfhdpkkakaaGreatDoorQ1
import Derived.Laws.AppendOwnNone
import Derived.Shelf.SlicesE.Clone
import Derived.Lib.Hide
import Derived.StringKeys
namespace Go.Proofs.YtnclkfhdpkkakaaGreatDoor
set_option linter.unusedVariables false
set_option linter.unusedSimpArgs false
set_option linter.unusedVariables false
set_option linter.unusedSimpArgs false
open Go Go.RowKit Go.Shelf Go.MapKept Go.ChangeMaps
abbrev From (n : Nat) : Nat → Prop := fun b => n ≤ b
def ByteSl (w : World) (lo : Nat → Prop) (hi : Nat) (a : Option Addr) (D : Bytes) : Prop := ∀ j c, D[j]? = some c → ∃ b off, a = some ⟨b, off, none⟩ ∧ lo b ∧ b < hi ∧ w.cell? ⟨b, off + j, none⟩ = some (.int .u8 c.toNat)
theorem ByteSl.kept {w w' : World} {lo : Nat → Prop} {hi : Nat} {a : Option Addr} {D : Bytes} {S : Nat → Prop} (h : ByteSl w lo hi a D) (hk : Kept S w w') (hw : hi ≤ w.heap.size) (hn : ∀ b, lo b → b < hi → (∃ off, a = some ⟨b, off, none⟩) → ¬ S b) : ByteSl w' lo hi a D := fun j c hj => by
 obtain ⟨b, off, h1, h2, h3, h4⟩ := h j c hj
 exact ⟨b, off, h1, h2, h3, (hk.cell (p := ⟨b, off + j, none⟩) (Nat.lt_of_lt_of_le h3 hw) (hn b h2 h3 ⟨off, h1⟩)).trans h4⟩
theorem ByteSl.below {w w' : World} {lo : Nat → Prop} {hi : Nat} {a : Option Addr} {D : Bytes} (h : ByteSl w lo hi a D) (hb : Below hi w w') : ByteSl w' lo hi a D := fun j c hj => by
 obtain ⟨b, off, h1, h2, h3, h4⟩ := h j c hj
 exact ⟨b, off, h1, h2, h3, (hb.cell (p := ⟨b, off + j, none⟩) h3).trans h4⟩
theorem ByteSl.mono {w : World} {lo lo' : Nat → Prop} {hi hi' : Nat} {a : Option Addr} {D : Bytes} (h : ByteSl w lo hi a D) (h1 : ∀ b, lo b → lo' b) (h2 : hi ≤ hi') : ByteSl w lo' hi' a D := fun j c hj => by
 obtain ⟨b, off, g1, g2, g3, g4⟩ := h j c hj
 exact ⟨b, off, g1, h1 b g2, Nat.lt_of_lt_of_le g3 h2, g4⟩
def byteCells (D : Bytes) : List Value := D.map fun c => .int .u8 c.toNat
def Free (n : Nat) (w : World) (a : Option Addr) : Prop := ∀ ad, a = some ad → n ≤ ad.block ∧ ad.block < w.heap.size ∧ ∀ j, w.frozen? ⟨ad.block, j, none⟩ = false
theorem Free.kept {n : Nat} {w w' : World} {a : Option Addr} {S : Nat → Prop} (h : Free n w a) (hk : Kept S w w') (hn : ∀ k, n ≤ k → ¬ S k) : Free n w' a := fun ad e => by
 obtain ⟨h0, h1, h2⟩ := h ad e
 exact ⟨h0, Nat.lt_of_lt_of_le h1 hk.size, fun j => (hk.frozen (p := ⟨ad.block, j, none⟩) h1 (hn _ h0)).trans (h2 j)⟩
theorem Free.mono {n m : Nat} {w : World} {a : Option Addr} (h : Free n w a) (hm : m ≤ n) : Free m w a := fun ad e => by
 obtain ⟨h0, h1, h2⟩ := h ad e
 exact ⟨Nat.le_trans hm h0, h1, h2⟩
theorem Free.below {n : Nat} {w w' : World} {a : Option Addr} (h : Free n w a) (hb : Below w.heap.size w w') : Free n w' a := fun ad e => by
 obtain ⟨h0, h1, h2⟩ := h ad e
 exact ⟨h0, Nat.lt_of_lt_of_le h1 hb.size, fun j => (hb.frozen (p := ⟨ad.block, j, none⟩) h1).trans (h2 j)⟩
theorem infoByte : (Tryz.prog.info? 5).map (fun i => (i.zero, i.size, i.bytes)) = some (some (.int .u8 0), 1, 1) := by kernel_rfl
theorem info_parts {T : TypeId} {a : Option Value} {b c : Nat} (h : (Tryz.prog.info? T).map (fun i => (i.zero, i.size, i.bytes)) = some (a, b, c)) : ∃ i, Tryz.prog.info? T = some i ∧ i.zero = a ∧ i.size = b ∧ i.bytes = c := by
 obtain ⟨i, hi, he⟩ := Option.map_eq_some_iff.1 h
 simp only [Prod.mk.injEq] at he
 exact ⟨i, hi, he.1, he.2.1, he.2.2⟩
theorem row_form {w : World} {base : Nat} {e : TypeId} {size : Nat} {v : Value} {n : Nat} {xs : List Value} (h : w.ownsRow base e size v n xs) : ∃ a c, v = .slice a n c := by
 rcases h.2 with ⟨rfl, rfl⟩ | ⟨g, cap, cur, rfl, _⟩
 ·exact ⟨none, 0, rfl⟩
 ·exact ⟨_, _, rfl⟩
theorem belowA {w W : World} (h : Below w.heap.size w W) (o : Obj) : Below w.heap.size w (W.alloc o) := h.alloc h.size o
theorem bytes_of_row {w : World} {base n c : Nat} {a : Option Addr} {D : Bytes} (h : w.ownsRow base 5 1 (.slice a n c) n (byteCells D)) : ByteSl w (From base) w.heap.size a D := fun j x hj => by
 have hn : D.length = n := by have := h.1; simp [byteCells] at this; omega
 rcases h.2 with ⟨h1, h0⟩ | ⟨g, cap, cur, h1, hbg, hg, _⟩
 ·have := (List.getElem?_eq_some_iff.1 hj).1
  omega
 ·cases h1
  have hx : (byteCells D)[j]? = some (.int .u8 x.toNat) := by simp [byteCells, hj]
  have := h.cells (g := g) rfl j _ hx
  rw [Addr.add_lit] at this
  exact ⟨g, 0, rfl, hbg, (Array.getElem?_eq_some_iff.1 hg).1, this⟩
theorem eqNilB (w : World) (a : Option Addr) (n c : Nat) : (binOp .eql 23 (.slice a n c) (.slice none 0 0)).run Tryz.prog w = .ok (.bool a.isNone) w := Lib.run_eql_slice_nil w _ _ a n c 0 0 Tryz.underlying23
set_option maxRecDepth 100000 in
theorem cloneB_nil (w : World) : Calls Tryz.prog 61 #[.slice none 0 0] w fun e w' => e = .returned (.slice none 0 0) ∧ w' = w := by
 have q := fun w : World => eqNilB w none 0 0
 go_enter Tryz.func61, Tryz.ntmps61
 go_wp2
 go_ret
 exact ⟨rfl, rfl⟩
set_option maxRecDepth 100000 in
set_option maxHeartbeats 1000000 in
theorem cloneB_any (w : World) (ao : Option Addr) (c : Nat) (lo : Nat → Prop) (D : Bytes) (hl : D.length ≤ 1000000) (h : ByteSl w lo w.heap.size ao D) (hn : ao = none → D = [] ∧ c = 0) :
  Calls Tryz.prog 61 #[.slice ao D.length c] w fun e w' => ∃ a' c', e = .returned (.slice a' D.length c') ∧ ByteSl w' (From w.heap.size) w'.heap.size a' D ∧ Below w.heap.size w w' ∧ (a' = none → D = [] ∧ c' = 0) ∧ Free w.heap.size w' a' := by
 cases ao with
 | none =>
  obtain ⟨rfl, rfl⟩ := hn rfl
  exact (cloneB_nil w).mono fun e w' ⟨he, hw⟩ => ⟨none, 0, he, fun j x hj => by simp at hj, by rw [hw]; exact Below.refl _ _, fun _ => ⟨rfl, rfl⟩, fun ad e => by cases e⟩
 | some ad =>
  have q := fun w : World => eqNilB w (some ad) D.length c
  have hcells : ∀ j u, (byteCells D)[j]? = some u → (w.alloc (.cells #[] 5)).cell? (ad.add j) = some u := fun j u hu => by
   simp only [byteCells, List.getElem?_map, Option.map_eq_some_iff] at hu
   obtain ⟨x, hx, rfl⟩ := hu
   obtain ⟨b, off, e, _, h3, h4⟩ := h j x hx
   cases e
   rw [Addr.add_mid]
   exact ((belowA (Below.refl _ w) _).cell (p := ⟨b, off + j, none⟩) h3).trans h4
  have HCELL := Lib.hid hcells
  have HOW := Lib.hid (World.ownsRow_made (base := w.heap.size) (e := 5) (size := 1) w #[] 0 (by omega) (by decide) rfl)
  obtain ⟨N, hN⟩ : ∃ N, N = D.length := ⟨_, rfl⟩
  have hbl : (byteCells D).length = N * 1 := by rw [hN]; simp [byteCells]
  have HBL := Lib.hid hbl
  have HN := Lib.hid hN
  obtain ⟨i0, hi, hz0, hz1, hz2⟩ := info_parts infoByte
  have HI := Lib.hid (And.intro hi (And.intro hz0 (And.intro hz1 hz2)))
  rw [← hN] at hl q ⊢
  clear h hn hcells hbl hN hi hz0 hz1 hz2
  go_enter Tryz.func61, Tryz.ntmps61
  go_wp2_with (at_builtin; refine wpList_append_new rfl (.tmp 5) (.tmp 6) 23 rfl w.heap.size 5 i0 (.int .u8 0) 1 1 Tryz.underlying23 HI.out.1 HI.out.2.1 HI.out.2.2.1 HI.out.2.2.2 rfl (by decide) _ _ _ rfl HOW.out ad N c (byteCells D) rfl HBL.out HCELL.out (by intro u hu; simp [byteCells] at hu; obtain ⟨x, _, rfl⟩ := hu; rfl) (by unfold maxLen; omega) (by omega) (by simp) ?_; intro v3 w3 hown hgrow hwhere)
  have hB3 : Below w.heap.size w w3 := (belowA (Below.refl _ w) _).grown hgrow (by simp) (fun g hg => (HOW.out.lt g hg).1)
  rw [Nat.zero_add] at hown
  obtain ⟨a3, c3, rfl⟩ := row_form hown
  have HO3 := Lib.hid hown
  have HB3 := Lib.hid hB3
  clear hown hgrow hwhere hB3
  go_wp2
  go_ret
  refine ⟨a3, c3, rfl, bytes_of_row HO3.out, HB3.out, fun e => ?_, fun ad e => ?_⟩
  ·subst e
   rcases HO3.out.2 with ⟨h1, h0⟩ | ⟨g, cap, cur, h1, _⟩
   ·simp at h1
    exact ⟨List.eq_nil_of_length_eq_zero (by rw [← HN.out]; exact h0), h1.2⟩
   ·simp at h1
  ·subst e
   rcases HO3.out.2 with ⟨h1, h0⟩ | ⟨g, cap, cur, h1, hbg, hg, _⟩
   ·simp at h1
   ·simp at h1
    obtain ⟨rfl, _⟩ := h1
    exact ⟨hbg, (Array.getElem?_eq_some_iff.1 hg).1, fun j => by simp [World.frozen?, hg]⟩
end Go.Proofs.YtnclkfhdpkkakaaGreatDoor
namespace Go.Proofs.YtnclkfhdpkkakaaGreatDoor
set_option linter.unusedVariables false
set_option linter.unusedSimpArgs false
set_option linter.unusedVariables false
set_option linter.unusedSimpArgs false
open Go Go.RowKit Go.Shelf Go.MapKept Go.ChangeMaps
structure Nums where
 ver : Int
 kin : Int
 next : Int
 os : Int
 on : Int
 made : Int
 chg : Int
 tch : Int
 deriving DecidableEq
structure Nd where
 data : Bytes
 num : Nums
 deriving DecidableEq
structure Raw where
 a : Option Addr
 n : Nat
 c : Nat
 num : Nums
def Nums.cells (d : Nums) : List Value := [.int .u32 d.ver, .int .u32 d.kin, .int .u32 d.next, .int .i64 d.os, .int .u32 d.on, .int .u64 d.made, .int .u64 d.chg, .int .u64 d.tch]
def Raw.cells (d : Raw) : List Value := .slice d.a d.n d.c :: d.num.cells
def Raw.val (d : Raw) : Value := .agg d.cells.toArray
structure Reads (w : World) (lo : Nat → Prop) (r : Raw) (d : Nd) : Prop where
 num : r.num = d.num
 len : r.n = d.data.length
 data : ByteSl w lo w.heap.size r.a d.data
 nil : r.a = none → d.data = [] ∧ r.c = 0
theorem Reads.below {w w' : World} {lo : Nat → Prop} {r : Raw} {d : Nd} (h : Reads w lo r d) (hb : Below w.heap.size w w') : Reads w' lo r d :=
 ⟨h.num, h.len, (h.data.below hb).mono (fun _ h => h) hb.size, h.nil⟩
theorem Reads.mono {w : World} {lo lo' : Nat → Prop} {r : Raw} {d : Nd} (h : Reads w lo r d) (hl : ∀ b, lo b → lo' b) : Reads w lo' r d := ⟨h.num, h.len, h.data.mono hl (Nat.le_refl _), h.nil⟩
theorem Kept.setCells {S : Nat → Prop} {a : World} {p : Nat} (hp : S p) : ∀ (vs : List Value) (o : Nat) {b : World}, Kept S a b → Kept S a (b.setCells p o vs)
 | [], o, b, h => h
 | v :: vs, o, b, h => Kept.setCells hp vs (o + 1) (h.setCell (p := ⟨p, o, none⟩) hp v)
theorem results_cell_mid {P : Program} {fn : Func} {p : Tmp} {ty : TypeId} (h : fn.results = #[.cell p ty]) (tmps : Array Value) (w : World) (b o : Nat) (cs : List Value) (d : TypeDesc)
  (hp : tmps.getD p undef = .pointer (some ⟨b, o, none⟩)) (hc : w.rangeAt b o cs) (hu : P.underlying ty = some d) (hd : d.isRow = true) (hi : (P.info? ty).map (·.size) = some cs.length) :
  (results fn tmps).run P w = .ok (.agg cs.toArray) w := by
 have hp' : tmps[p]?.getD undef = .pointer (some ⟨b, o, none⟩) := by simpa using hp
 simp [results, h, hp', asAddr, run_loadVar_mid w b o ty cs d hc hu hd hi]
set_option maxRecDepth 100000 in
set_option maxHeartbeats 2000000 in
theorem own_any (w : World) (lo : Nat → Prop) (r : Raw) (d : Nd) (h : Reads w lo r d) (hl : d.data.length ≤ 1000000) :
  Calls Tryz.prog 38 #[r.val] w fun e w' => ∃ r' : Raw, e = .returned r'.val ∧ Reads w' (From w.heap.size) r' d ∧ Below w.heap.size w w' ∧ Free w.heap.size w' r'.a := by
 obtain ⟨a, n, c, u⟩ := r
 obtain ⟨D, u'⟩ := d
 obtain ⟨h1, h2, h3, h4⟩ := h
 dsimp only at h1 h2 h3 h4 hl
 subst h1
 obtain ⟨v1, v2, v3, v4, v5, v6, v7, v8⟩ := u
 unfold Raw.val Raw.cells Nums.cells
 dsimp only
 subst h2
 obtain ⟨w2, hw2⟩ : ∃ w2, w2 = (w.alloc (.cells #[.slice a D.length c, .int .u32 v1, .int .u32 v2, .int .u32 v3, .int .i64 v4, .int .u32 v5, .int .u64 v6, .int .u64 v7, .int .u64 v8] 39)).alloc (.cells #[.slice none 0 0, .int .u32 0, .int .u32 0, .int .u32 0, .int .i64 0, .int .u32 0, .int .u64 0, .int .u64 0, .int .u64 0] 39) := ⟨_, rfl⟩
 have hb2 : Below w.heap.size w w2 := by rw [hw2]; exact belowA (belowA (Below.refl _ w) _) _
 have hc := cloneB_any w2 a c lo D hl ((h3.below hb2).mono (fun _ h => h) hb2.size) h4
 obtain ⟨N, hN⟩ : ∃ N, N = D.length := ⟨_, rfl⟩
 rw [← hN] at hc hw2 ⊢
 have HC := Lib.hid hc
 have HB2 := Lib.hid hb2
 have HN := Lib.hid hN
 clear h3 h4 hc hb2 hN hl
 go_enter Tryz.func38, Tryz.ntmps38
 go_wp2_with fail
 rw [← hw2]
 have g1 : w2.heap[w.heap.size]? = some (.cells #[.slice a N c, .int .u32 v1, .int .u32 v2, .int .u32 v3, .int .i64 v4, .int .u32 v5, .int .u64 v6, .int .u64 v7, .int .u64 v8] 39 (0, 0)) := by rw [hw2]; exact (heap_alloc_old _ _ (by simp)).trans (heap_alloc_new w _)
 have g2 : w2.heap[w.heap.size + 1]? = some (.cells #[.slice none 0 0, .int .u32 0, .int .u32 0, .int .u32 0, .int .i64 0, .int .u32 0, .int .u64 0, .int .u64 0, .int .u64 0] 39 (0, 0)) := by
  have := heap_alloc_new (w.alloc (.cells #[.slice a N c, .int .u32 v1, .int .u32 v2, .int .u32 v3, .int .i64 v4, .int .u32 v5, .int .u64 v6, .int .u64 v7, .int .u64 v8] 39)) (.cells #[.slice none 0 0, .int .u32 0, .int .u32 0, .int .u32 0, .int .i64 0, .int .u32 0, .int .u64 0, .int .u64 0, .int .u64 0] 39)
  rw [World.size_alloc] at this
  rw [hw2]
  exact this
 have hs2 : w.heap.size + 1 < w2.heap.size := by rw [hw2]; simp
 clear hw2
 refine HC.out.mono ?_
 rintro e w3 ⟨a', c', rfl, B3, K3, N3, F3⟩
 have k1 := (K3.block _ (by omega)).trans g1
 have k2 := (K3.block _ hs2).trans g2
 have hlt1 : w.heap.size < w3.heap.size := by have := K3.size; omega
 have hlt2 : w.heap.size + 1 < w3.heap.size := by have := K3.size; omega
 have c0 : w3.cell? ⟨w.heap.size, 0, none⟩ = some (.slice a N c) := cell_of_row _ _ 0 _ 39 (0, 0) k1
 have f0 : w3.frozen? ⟨w.heap.size, 0, none⟩ = false := by simp [World.frozen?, k1]
 have hr4 : (w3.setCell ⟨w.heap.size, 0, none⟩ (.slice a' N c')).rangeAt w.heap.size 0 [.slice a' N c', .int .u32 v1, .int .u32 v2, .int .u32 v3, .int .i64 v4, .int .u32 v5, .int .u64 v6, .int .u64 v7, .int .u64 v8] := by
  have h4 : (w3.setCell ⟨w.heap.size, 0, none⟩ (.slice a' N c')).heap[w.heap.size]? = some (.cells #[.slice a' N c', .int .u32 v1, .int .u32 v2, .int .u32 v3, .int .i64 v4, .int .u32 v5, .int .u64 v6, .int .u64 v7, .int .u64 v8] 39 (0, 0)) := by
   simp [World.setCell, Array.getElem?_modify, k1]
  intro j v hv
  rw [Nat.zero_add]
  exact (cell_of_row _ _ j _ 39 (0, 0) h4).trans (by simpa using hv)
 have ht5 : (w3.setCell ⟨w.heap.size, 0, none⟩ (.slice a' N c')).there (w.heap.size + 1) 0 9 := by
  have h5 : (w3.setCell ⟨w.heap.size, 0, none⟩ (.slice a' N c')).heap[w.heap.size + 1]? = some (.cells #[.slice none 0 0, .int .u32 0, .int .u32 0, .int .u32 0, .int .i64 0, .int .u32 0, .int .u64 0, .int .u64 0, .int .u64 0] 39 (0, 0)) := by
   rw [Below.heap_setCell _ _ _ _ (by simp)]
   exact k2
  intro j hj
  refine ⟨?_, by simp [World.frozen?, h5]⟩
  rw [Nat.zero_add, cell_of_row _ _ j _ 39 (0, 0) h5]
  rcases (show j = 0 ∨ j = 1 ∨ j = 2 ∨ j = 3 ∨ j = 4 ∨ j = 5 ∨ j = 6 ∨ j = 7 ∨ j = 8 by omega) with rfl | rfl | rfl | rfl | rfl | rfl | rfl | rfl | rfl <;> rfl
 have HR4 := Lib.hid hr4
 have HT5 := Lib.hid ht5
 have HB3 := Lib.hid (And.intro B3 (And.intro K3 (And.intro N3 F3)))
 have HLT0 : Hid (w.heap.size ≤ w3.heap.size) := Lib.hid (by omega)
 have HS2 := Lib.hid hs2
 have HSZ : Hid ((Tryz.prog.info? 39).map (·.size) = some 9) := Lib.hid (by kernel_rfl)
 have HON : Hid ((#[.slice a' N c', .int .u32 v1, .int .u32 v2, .int .u32 v3, .int .i64 v4, .int .u32 v5, .int .u64 v6, .int .u64 v7, .int .u64 v8] : Array Value).all (·.oneCell') = true) := Lib.hid (by simp [Value.oneCell'])
 clear g1 g2 hs2 B3 K3 N3 F3 HC k1 k2 hr4 ht5 hlt1 hlt2
 go_wp2_with (first
  | (refine wpList_load_mid rfl 39 (.tmp 1) rfl w.heap.size 0 rfl [.slice a' N c', .int .u32 v1, .int .u32 v2, .int .u32 v3, .int .i64 v4, .int .u32 v5, .int .u64 v6, .int .u64 v7, .int .u64 v8] _ HR4.out Tryz.underlying39 rfl HSZ.out ?_)
  | (refine wpList_store_mid rfl 39 (.tmp 2) (.tmp 7) rfl (w.heap.size + 1) 0 #[.slice a' N c', .int .u32 v1, .int .u32 v2, .int .u32 v3, .int .i64 v4, .int .u32 v5, .int .u64 v6, .int .u64 v7, .int .u64 v8] rfl rfl HT5.out HSZ.out HON.out ?_))
 refine bodyPost_ret (results_cell_mid rfl _ _ (w.heap.size + 1) 0 [.slice a' N c', .int .u32 v1, .int .u32 v2, .int .u32 v3, .int .i64 v4, .int .u32 v5, .int .u64 v6, .int .u64 v7, .int .u64 v8] _ rfl (World.rangeAt_setCells_same _ _ _ _ HT5.out) Tryz.underlying39 rfl HSZ.out) rfl ?_
 obtain ⟨B3, K3, N3, F3⟩ := HB3.out
 have hk : Kept (fun k => k = w.heap.size ∨ k = w.heap.size + 1) w3 ((w3.setCell ⟨w.heap.size, 0, none⟩ (.slice a' N c')).setCells (w.heap.size + 1) 0 [.slice a' N c', .int .u32 v1, .int .u32 v2, .int .u32 v3, .int .i64 v4, .int .u32 v5, .int .u64 v6, .int .u64 v7, .int .u64 v8]) :=
  Kept.setCells (p := w.heap.size + 1) (.inr rfl) _ _ ((Kept.refl _ w3).setCell (p := ⟨w.heap.size, 0, none⟩) (.inl rfl) _)
 have hs2 : w.heap.size + 1 < w2.heap.size := HS2.out
 refine ⟨⟨a', N, c', ⟨v1, v2, v3, v4, v5, v6, v7, v8⟩⟩, rfl, ⟨rfl, HN.out, ?_, N3⟩, ?_, (F3.kept hk (fun k h => by omega)).mono (by omega)⟩
 ·exact ((B3.kept hk (Nat.le_refl _) (fun b h1 h2 _ e => by omega)).mono (fun _ h => by have h : w2.heap.size ≤ _ := h; show w.heap.size ≤ _; omega) hk.size)
 ·exact (HB2.out.trans (K3.mono HB2.out.size)).trans (hk.below HLT0.out (fun k h => by omega))
end Go.Proofs.YtnclkfhdpkkakaaGreatDoor
namespace Go.Proofs.YtnclkfhdpkkakaaGreatDoor
set_option linter.unusedVariables false
set_option linter.unusedSimpArgs false
set_option linter.unusedVariables false
set_option linter.unusedSimpArgs false
open Go Go.RowKit Go.Shelf Go.MapKept Go.ChangeMaps
open Go.Maps (Keyed)
theorem sv_inj : ∀ x y, sv x = sv y → x = y := fun x y h => by
 unfold sv at h
 injection h with h
 exact bs_inj h
theorem keyStr : Keyed Tryz.prog 9 := Maps.string_keyed Tryz.underlying9
theorem sv_key {p : Bytes} (h : p.length ≤ maxLen) : ∃ l, keyOf Tryz.prog 9 (sv p) = some l := ⟨_, WideMaps.keyOf_string_mk Tryz.underlying9 (by rw [size_bs]; exact h)⟩
def Like (w : World) (lo : Nat → Prop) : List (Bytes × Raw) → List (Bytes × Nd) → Prop
 | [], [] => True
 | x :: m, y :: M => (x.1 = y.1 ∧ Reads w lo x.2 y.2) ∧ Like w lo m M
 | _, _ => False
theorem Like.keys {w : World} {lo : Nat → Prop} : ∀ {m : List (Bytes × Raw)} {M : List (Bytes × Nd)}, Like w lo m M → m.map (·.1) = M.map (·.1)
 | [], [], _ => rfl
 | x :: m, y :: M, h => by
  simp only [List.map_cons]
  rw [h.1.1, Like.keys h.2]
 | [], _ :: _, h => h.elim
 | _ :: _, [], h => h.elim
theorem Like.len {w : World} {lo : Nat → Prop} {m : List (Bytes × Raw)} {M : List (Bytes × Nd)} (h : Like w lo m M) : m.length = M.length := by
 have := congrArg List.length h.keys
 simpa using this
theorem Like.imp {w w' : World} {lo lo' : Nat → Prop} (f : ∀ r d, Reads w lo r d → Reads w' lo' r d) : ∀ {m : List (Bytes × Raw)} {M : List (Bytes × Nd)}, Like w lo m M → Like w' lo' m M
 | [], [], _ => trivial
 | x :: m, y :: M, h => ⟨⟨h.1.1, f _ _ h.1.2⟩, Like.imp f h.2⟩
 | [], _ :: _, h => h.elim
 | _ :: _, [], h => h.elim
theorem Like.get {w : World} {lo : Nat → Prop} (p : Bytes) : ∀ {m : List (Bytes × Raw)} {M : List (Bytes × Nd)}, Like w lo m M → (getA p m = none ∧ getA p M = none) ∨ ∃ r d, getA p m = some r ∧ getA p M = some d ∧ Reads w lo r d
 | [], [], _ => .inl ⟨rfl, rfl⟩
 | x :: m, y :: M, h => by
  simp only [getA]
  rw [h.1.1]
  by_cases e : y.1 = p
  ·rw [if_pos e, if_pos e]
   exact .inr ⟨_, _, rfl, rfl, h.1.2⟩
  ·rw [if_neg e, if_neg e]
   exact Like.get p h.2
 | [], _ :: _, h => h.elim
 | _ :: _, [], h => h.elim
theorem Like.put {w : World} {lo : Nat → Prop} (p : Bytes) {r : Raw} {d : Nd} (hr : Reads w lo r d) : ∀ {m : List (Bytes × Raw)} {M : List (Bytes × Nd)}, Like w lo m M → Like w lo (putA p r m) (putA p d M)
 | [], [], _ => ⟨⟨rfl, hr⟩, trivial⟩
 | x :: m, y :: M, h => by
  simp only [putA]
  rw [h.1.1]
  by_cases e : y.1 = p
  ·rw [if_pos e, if_pos e]
   exact ⟨⟨rfl, hr⟩, h.2⟩
  ·rw [if_neg e, if_neg e]
   exact ⟨⟨h.1.1, h.1.2⟩, Like.put p hr h.2⟩
 | [], _ :: _, h => h.elim
 | _ :: _, [], h => h.elim
theorem Like.del {w : World} {lo : Nat → Prop} (p : Bytes) : ∀ {m : List (Bytes × Raw)} {M : List (Bytes × Nd)}, Like w lo m M → Like w lo (delA p m) (delA p M)
 | [], [], _ => trivial
 | x :: m, y :: M, h => by
  simp only [delA]
  rw [h.1.1]
  by_cases e : y.1 = p
  ·rw [if_pos e, if_pos e]
   exact h.2
  ·rw [if_neg e, if_neg e]
   exact ⟨⟨h.1.1, h.1.2⟩, Like.del p h.2⟩
 | [], _ :: _, h => h.elim
 | _ :: _, [], h => h.elim
structure TreeAt (w : World) (lo : Nat → Prop) (b mb : Nat) (root : Bytes) (at_ : Int) (M : List (Bytes × Nd)) : Prop where
 blk : w.heap[b]? = some (.cells #[.string (bs root), .int .u64 at_, .map (some mb)] 86 (0, 0))
 map : ∃ m, HasMap Tryz.prog 9 sv Raw.val w mb m ∧ Like w lo m M
section
variable {w : World} {lo : Nat → Prop} {b mb : Nat} {root : Bytes} {at_ : Int} {M : List (Bytes × Nd)}
theorem TreeAt.below (T : TreeAt w lo b mb root at_ M) {w' : World} (hb : Below w.heap.size w w') : TreeAt w' lo b mb root at_ M := by
 obtain ⟨m, h1, h2⟩ := T.map
 exact ⟨(hb.block _ (lt_of_block T.blk)).trans T.blk, m, h1.of_block (hb.block _ h1.lt), h2.imp fun _ _ h => h.below hb⟩
theorem TreeAt.cells (T : TreeAt w lo b mb root at_ M) : w.cell? ⟨b, 0, none⟩ = some (.string (bs root)) ∧ w.cell? ⟨b, 1, none⟩ = some (.int .u64 at_) ∧ w.cell? ⟨b, 2, none⟩ = some (.map (some mb)) :=
 ⟨cell_of_row _ _ 0 _ _ (0, 0) T.blk, cell_of_row _ _ 1 _ _ (0, 0) T.blk, cell_of_row _ _ 2 _ _ (0, 0) T.blk⟩
set_option maxRecDepth 100000 in
theorem TreeAt.root_any (T : TreeAt w lo b mb root at_ M) : Calls Tryz.prog 59 #[.pointer (some ⟨b, 0, none⟩)] w fun e w' => e = .returned (.string (bs root)) ∧ w' = w := by
 obtain ⟨c0, c1, c2⟩ := T.cells
 clear T
 go_enter Tryz.func59, Tryz.ntmps59
 go_wp2
 go_ret
 exact ⟨rfl, rfl⟩
set_option maxRecDepth 100000 in
theorem TreeAt.at_any (T : TreeAt w lo b mb root at_ M) : Calls Tryz.prog 17 #[.pointer (some ⟨b, 0, none⟩)] w fun e w' => e = .returned (.int .u64 at_) ∧ w' = w := by
 obtain ⟨c0, c1, c2⟩ := T.cells
 clear T
 go_enter Tryz.func17, Tryz.ntmps17
 go_wp2
 go_ret
 exact ⟨rfl, rfl⟩
end
end Go.Proofs.YtnclkfhdpkkakaaGreatDoor
namespace Go.Proofs.YtnclkfhdpkkakaaGreatDoor
set_option linter.unusedVariables false
set_option linter.unusedSimpArgs false
set_option linter.unusedVariables false
set_option linter.unusedSimpArgs false
open Go Go.RowKit Go.Shelf Go.MapKept Go.ChangeMaps
open Go.Maps (Keyed)
theorem getA_mem {κ ν : Type} [DecidableEq κ] {a : κ} {v : ν} : ∀ {m : List (κ × ν)}, getA a m = some v → ∃ x ∈ m, x.2 = v
 | [], h => by simp [getA] at h
 | p :: r, h => by
  unfold getA at h
  split at h
  ·cases h; exact ⟨p, List.mem_cons_self .., rfl⟩
  ·obtain ⟨x, hx, he⟩ := getA_mem h
   exact ⟨x, List.mem_cons_of_mem _ hx, he⟩
def zNums : Nums := ⟨0, 0, 0, 0, 0, 0, 0, 0⟩
def zNd : Nd := ⟨[], zNums⟩
def zRaw : Raw := ⟨none, 0, 0, zNums⟩
theorem zReads (w : World) (lo : Nat → Prop) : Reads w lo zRaw zNd := ⟨rfl, rfl, fun j c h => by simp [zNd] at h, fun _ => ⟨rfl, rfl⟩⟩
theorem zeroZ (w : World) : (zeroValue 39).run Tryz.prog w = .ok zRaw.val w := by kernel_rfl
theorem results_cell_tmp_mid {P : Program} {fn : Func} {p u : Tmp} {ty : TypeId} (h : fn.results = #[.cell p ty, .tmp u]) (tmps : Array Value) (w : World) (b o : Nat) (cs : List Value) (d : TypeDesc)
  (hp : tmps.getD p undef = .pointer (some ⟨b, o, none⟩)) (hc : w.rangeAt b o cs) (hu : P.underlying ty = some d) (hd : d.isRow = true) (hi : (P.info? ty).map (·.size) = some cs.length) :
  (results fn tmps).run P w = .ok (.tuple #[.agg cs.toArray, tmps.getD u undef]) w := by
 rw [results_cell_tmp h, hp]
 simp [asAddr, run_loadVar_mid w b o ty cs d hc hu hd hi, Result.andThen]
theorem TreeAt.look {w : World} {lo : Nat → Prop} {b mb : Nat} {root : Bytes} {at_ : Int} {M : List (Bytes × Nd)} (T : TreeAt w lo b mb root at_ M) {p : Bytes} (hp : p.length ≤ maxLen) :
  ∃ r : Raw, Reads w lo r ((getA p M).getD zNd) ∧ ∀ W, W.heap[mb]? = w.heap[mb]? → (Instr.lookup 84 (.map (some mb)) (.string (bs p)) true).run Tryz.prog W = .ok (.tuple #[r.val, .bool (getA p M).isSome]) W := by
 obtain ⟨m, hm, hl⟩ := T.map
 obtain ⟨l, hk⟩ := sv_key hp
 rcases hl.get p with ⟨h1, h2⟩ | ⟨r, d, h1, h2, h3⟩
 ·refine ⟨zRaw, ?_, fun W hW => ?_⟩
  ·rw [h2]
   exact zReads _ _
  ·have := (hm.of_block hW).lookup_ok keyStr sv_inj Tryz.underlying84 (zeroZ W) hk
   rw [h1] at this
   rw [h2]
   exact this
 ·refine ⟨r, ?_, fun W hW => ?_⟩
  ·rw [h2]
   exact h3
  ·have := (hm.of_block hW).lookup_ok keyStr sv_inj Tryz.underlying84 (zeroZ W) hk
   rw [h1] at this
   rw [h2]
   exact this
set_option maxRecDepth 100000 in
set_option maxHeartbeats 2000000 in
theorem TreeAt.get_any {w : World} {lo : Nat → Prop} {b mb : Nat} {root : Bytes} {at_ : Int} {M : List (Bytes × Nd)} (T : TreeAt w lo b mb root at_ M) (p : Bytes) (hp : p.length ≤ maxLen) (hd : ∀ x ∈ M, x.2.data.length ≤ 1000000) :
  Calls Tryz.prog 19 #[.pointer (some ⟨b, 0, none⟩), .string (bs p)] w fun e w' => ∃ r : Raw, e = .returned (.tuple #[r.val, .bool (getA p M).isSome]) ∧ Reads w' (From w.heap.size) r ((getA p M).getD zNd) ∧ Below w.heap.size w w' ∧ Free w.heap.size w' r.a := by
 obtain ⟨r, hr, hq⟩ := T.look hp
 have hdd : ((getA p M).getD zNd).data.length ≤ 1000000 := by
  cases h : getA p M with
  | none => simp [zNd]
  | some d =>
   obtain ⟨x, hx, he⟩ := getA_mem h
   subst he
   exact hd x hx
 generalize (getA p M).getD zNd = nd at *
 generalize (getA p M).isSome = is at *
 have hmb : mb < w.heap.size := by obtain ⟨m, hm, _⟩ := T.map; exact hm.lt
 have hbl : b < w.heap.size := lt_of_block T.blk
 obtain ⟨c0, c1, c2⟩ := T.cells
 obtain ⟨a, n, c, ⟨v1, v2, v3, v4, v5, v6, v7, v8⟩⟩ := r
 obtain ⟨w1, hw1⟩ : ∃ w1, w1 = w.alloc (.cells #[.slice none 0 0, .int .u32 0, .int .u32 0, .int .u32 0, .int .i64 0, .int .u32 0, .int .u64 0, .int .u64 0, .int .u64 0] 39) := ⟨_, rfl⟩
 have q := hq w1 (by rw [hw1]; exact heap_alloc_old _ _ hmb)
 unfold Raw.val Raw.cells Nums.cells at q
 dsimp only at q
 rw [hw1] at q
 obtain ⟨w2, hw2⟩ : ∃ w2, w2 = w1.alloc (.cells #[.slice a n c, .int .u32 v1, .int .u32 v2, .int .u32 v3, .int .i64 v4, .int .u32 v5, .int .u64 v6, .int .u64 v7, .int .u64 v8] 39) := ⟨_, rfl⟩
 have hb2 : Below w.heap.size w w2 := by rw [hw2, hw1]; exact belowA (belowA (Below.refl _ w) _) _
 have hown := own_any w2 lo ⟨a, n, c, ⟨v1, v2, v3, v4, v5, v6, v7, v8⟩⟩ nd (hr.below hb2) hdd
 unfold Raw.val Raw.cells Nums.cells at hown
 dsimp only at hown
 have HOWN := Lib.hid hown
 have HB2 := Lib.hid hb2
 have hz2 : w2.heap[w.heap.size]? = some (.cells #[.slice none 0 0, .int .u32 0, .int .u32 0, .int .u32 0, .int .i64 0, .int .u32 0, .int .u64 0, .int .u64 0, .int .u64 0] 39 (0, 0)) := by
  rw [hw2, hw1]
  exact (heap_alloc_old _ _ (by simp)).trans (heap_alloc_new w _)
 have HZ2 := Lib.hid hz2
 have HW2 := Lib.hid (show w2 = (w.alloc (.cells #[.slice none 0 0, .int .u32 0, .int .u32 0, .int .u32 0, .int .i64 0, .int .u32 0, .int .u64 0, .int .u64 0, .int .u64 0] 39)).alloc (.cells #[.slice a n c, .int .u32 v1, .int .u32 v2, .int .u32 v3, .int .i64 v4, .int .u32 v5, .int .u64 v6, .int .u64 v7, .int .u64 v8] 39) by rw [hw2, hw1])
 clear hown hb2 hz2 hw1 hw2 hr hq hdd T
 go_enter Tryz.func19, Tryz.ntmps19
 go_wp2_with fail
 rw [← HW2.out]
 refine HOWN.out.mono ?_
 rintro e w3 ⟨⟨a2, n2, cx, ⟨x1, x2, x3, x4, x5, x6, x7, x8⟩⟩, rfl, R3, B3, F3⟩
 have hlt2 : w.heap.size + 2 ≤ w2.heap.size := by rw [HW2.out]; simp
 have k3 := (B3.block w.heap.size (by omega)).trans HZ2.out
 have ht : w3.there w.heap.size 0 9 := by
  intro j hj
  refine ⟨?_, by simp [World.frozen?, k3]⟩
  rw [Nat.zero_add, cell_of_row _ _ j _ 39 (0, 0) k3]
  rcases (show j = 0 ∨ j = 1 ∨ j = 2 ∨ j = 3 ∨ j = 4 ∨ j = 5 ∨ j = 6 ∨ j = 7 ∨ j = 8 by omega) with rfl | rfl | rfl | rfl | rfl | rfl | rfl | rfl | rfl <;> rfl
 have HT := Lib.hid ht
 have HR3 := Lib.hid (And.intro R3 (And.intro B3 (And.intro hlt2 F3)))
 have HSZ : Hid ((Tryz.prog.info? 39).map (·.size) = some 9) := Lib.hid (by kernel_rfl)
 have HON : Hid ((#[.slice a2 n2 cx, .int .u32 x1, .int .u32 x2, .int .u32 x3, .int .i64 x4, .int .u32 x5, .int .u64 x6, .int .u64 x7, .int .u64 x8] : Array Value).all (·.oneCell') = true) := Lib.hid (by simp [Value.oneCell'])
 clear R3 B3 F3 hlt2 k3 ht c0 c1 c2 q
 dsimp only
 go_wp2_with (first
  | (refine wpList_store_mid rfl 39 (.tmp 4) (.tmp 21) rfl w.heap.size 0 #[.slice a2 n2 cx, .int .u32 x1, .int .u32 x2, .int .u32 x3, .int .i64 x4, .int .u32 x5, .int .u64 x6, .int .u64 x7, .int .u64 x8] rfl rfl HT.out HSZ.out HON.out ?_))
 refine bodyPost_ret (results_cell_tmp_mid rfl _ _ w.heap.size 0 [.slice a2 n2 cx, .int .u32 x1, .int .u32 x2, .int .u32 x3, .int .i64 x4, .int .u32 x5, .int .u64 x6, .int .u64 x7, .int .u64 x8] _ rfl (World.rangeAt_setCells_same _ _ _ _ HT.out) Tryz.underlying39 rfl HSZ.out) rfl ?_
 obtain ⟨R3, B3, hlt2, F3⟩ := HR3.out
 have hk : Kept (fun k => k = w.heap.size) w3 (w3.setCells w.heap.size 0 [.slice a2 n2 cx, .int .u32 x1, .int .u32 x2, .int .u32 x3, .int .i64 x4, .int .u32 x5, .int .u64 x6, .int .u64 x7, .int .u64 x8]) := Kept.setCells (S := fun k => k = w.heap.size) (p := w.heap.size) rfl _ _ (Kept.refl _ w3)
 have hs3 : w2.heap.size ≤ w3.heap.size := B3.size
 refine ⟨⟨a2, n2, cx, ⟨x1, x2, x3, x4, x5, x6, x7, x8⟩⟩, rfl, ⟨R3.num, R3.len, ?_, R3.nil⟩, ?_, (F3.kept hk (fun k h => by omega)).mono (by omega)⟩
 ·exact (R3.data.kept hk (Nat.le_refl _) (fun b h1 h2 _ e => by omega)).mono (fun _ h => by have h : _ ≤ _ := h; show w.heap.size ≤ _; omega) hk.size
 ·exact (HB2.out.trans (B3.mono HB2.out.size)).trans (hk.below (by omega) (fun k h => by omega))
end Go.Proofs.YtnclkfhdpkkakaaGreatDoor
