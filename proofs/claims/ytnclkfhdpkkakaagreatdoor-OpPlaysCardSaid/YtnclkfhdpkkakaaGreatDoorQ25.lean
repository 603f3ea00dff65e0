/-
  must, walked; operations as they lie; the doer. The doer's node, versioned, touched, told: walked. The doer's versioned, walked. The doer's told and touched, walked. The doer's effects, walked.
-/
import Derived.Test.YtnclkfhdpkkakaaGreatDoorQ18
import Derived.Test.YtnclkfhdpkkakaaGreatDoorQ20
import Derived.WalkLawsBesides
import Derived.Deep.MidRow
namespace Go.Proofs.YtnclkfhdpkkakaaGreatDoor
set_option linter.unusedVariables false
set_option linter.unusedSimpArgs false
set_option linter.unusedVariables false
set_option linter.unusedSimpArgs false
open Go Go.RowKit Go.Shelf Go.MapKept Go.ChangeMaps Go.Maps Go.Sort
def errV (x : Int) : Value := .iface 36 (.int .i64 x)
def panicV (x : Int) : Ending := .panicked [{ v := errV x, recovered := false }]
theorem must_yes (x : Int) (w : World) : Calls Tryz.prog 58 #[.bool true, .int .i64 x] w fun e w' => e = .returned (.tuple #[]) ∧ w' = w := by
 go_enter Tryz.func58, Tryz.ntmps58
 go_wp2
 (try simp only [Exit.inBlock, Exit.then]); refine bodyPost_end (results_none rfl _ _ _) rfl ?_
 exact ⟨rfl, rfl⟩
theorem must_no (x : Int) (w : World) : Calls Tryz.prog 58 #[.bool false, .int .i64 x] w fun e w' => e = panicV x ∧ w' = w := by
 go_enter Tryz.func58, Tryz.ntmps58
 go_wp2
 exact ⟨rfl, rfl, rfl⟩
structure RawO where
 kind : Int
 path : Bytes
 da : Option Addr
 dn : Nat
 dc : Nat
 ver : Int
 seq : Bool
 eph : Bool
 pa : Option Addr
 pn : Nat
 pc : Nat
def RawO.cells (r : RawO) : List Value := [.int .u8 r.kind, .string (bs r.path), .slice r.da r.dn r.dc, .int .i64 r.ver, .bool r.seq, .bool r.eph, .slice r.pa r.pn r.pc]
def RawO.val (r : RawO) : Value := .agg r.cells.toArray
structure LeafO (w : World) (lo : Nat → Prop) (r : RawO) (o : Opl) : Prop where
 kind : r.kind = o.kind
 path : r.path = o.path
 ver : r.ver = o.ver
 seq : r.seq = o.seq
 eph : r.eph = o.eph
 len : r.dn = o.data.length
 data : ByteSl w lo w.heap.size r.da o.data
 nil : r.da = none → o.data = [] ∧ r.dc = 0
theorem LeafO.below {w w' : World} {lo : Nat → Prop} {r : RawO} {o : Opl} (h : LeafO w lo r o) (hb : Below w.heap.size w w') : LeafO w' lo r o := ⟨h.kind, h.path, h.ver, h.seq, h.eph, h.len, (h.data.below hb).mono (fun _ h => h) hb.size, h.nil⟩
structure DoerAt (X : Nat → Prop) (w0 w : World) (d b : Nat) (root : Bytes) (at_ cnt : Int) (M : List (Bytes × Nd)) (who : Sess) (v : Value) (L : List RawE) (E : List Eff) : Prop where
 tree : TR w0 w b root cnt M
 blk : w.heap[d]? = some (.cells #[.pointer (some ⟨b, 0, none⟩), .int .u64 at_, .int .i64 who.site, .int .u32 who.n, v] 82 (0, 0))
 row : EffRow w w0.heap.size v L E
 hd : w0.heap.size ≤ d
 inv : Inv root M
 rlike : LikeE w (fun k => v.ownBlock ≠ some k ∧ ¬ X k) L E
 old : ∀ k, X k → k < w.heap.size
 far : ∃ lo mb, TreeAt w lo b mb root cnt M ∧ ∀ k, lo k → (v.ownBlock ≠ some k ∧ k ≠ d) ∧ ¬ X k
theorem DoerAt.c0 {X : Nat → Prop} {w0 w : World} {d b : Nat} {root : Bytes} {at_ cnt : Int} {M : List (Bytes × Nd)} {who : Sess} {v : Value} {L : List RawE} {E : List Eff} (D : DoerAt X w0 w d b root at_ cnt M who v L E) : w.cell? ⟨d, 0, none⟩ = some (.pointer (some ⟨b, 0, none⟩)) := cell_of_row _ _ 0 _ 82 (0, 0) D.blk
end Go.Proofs.YtnclkfhdpkkakaaGreatDoor
namespace Go.Proofs.YtnclkfhdpkkakaaGreatDoor
set_option linter.unusedVariables false
set_option linter.unusedSimpArgs false
set_option linter.unusedVariables false
set_option linter.unusedSimpArgs false
open Go Go.RowKit Go.Shelf Go.MapKept Go.ChangeMaps Go.Maps Go.Sort
theorem zero_there {w1 : World} {B : Nat} (h : w1.heap[B]? = some (.cells #[.slice none 0 0, .int .u32 0, .int .u32 0, .int .u32 0, .int .i64 0, .int .u32 0, .int .u64 0, .int .u64 0, .int .u64 0] 39 (0, 0))) : w1.there B 0 9 := by
 intro j hj
 refine ⟨?_, by simp [World.frozen?, h]⟩
 rw [Nat.zero_add, cell_of_row _ _ j _ 39 (0, 0) h]
 rcases (show j = 0 ∨ j = 1 ∨ j = 2 ∨ j = 3 ∨ j = 4 ∨ j = 5 ∨ j = 6 ∨ j = 7 ∨ j = 8 by omega) with rfl | rfl | rfl | rfl | rfl | rfl | rfl | rfl | rfl <;> rfl
theorem box_range (w2 : World) (cs : List Value) (t : TypeId) : (w2.alloc (.cells cs.toArray t)).rangeAt w2.heap.size 0 cs := fun j u hu => by
 rw [Nat.zero_add, cell_of_row _ _ j _ t (0, 0) (heap_alloc_new w2 _)]
 simpa using hu
theorem below_cells {w w4 : World} {B : Nat} (hb : Below w.heap.size w w4) (hB : w.heap.size ≤ B) (cs : List Value) : Below w.heap.size w (w4.setCells B 0 cs) :=
 hb.trans ((Kept.setCells (S := (· = B)) (p := B) rfl cs 0 (Kept.refl _ w4)).below hb.size (fun k e => by have e : k = B := e; omega))
theorem Reads.cells {w4 : World} {lo : Nat → Prop} {r : Raw} {nd : Nd} (h : Reads w4 lo r nd) {B : Nat} (hn : ∀ k, lo k → k ≠ B) (cs : List Value) : Reads (w4.setCells B 0 cs) lo r nd := by
 have hk : Kept (· = B) w4 (w4.setCells B 0 cs) := Kept.setCells (S := (· = B)) (p := B) rfl cs 0 (Kept.refl _ w4)
 exact ⟨h.num, h.len, (h.data.kept hk (Nat.le_refl _) (fun b hb _ _ => hn b hb)).mono (fun _ h => h) hk.size, h.nil⟩
theorem Free.cells {n : Nat} {w4 : World} {a : Option Addr} (h : Free n w4 a) {B : Nat} (hn : B < n) (cs : List Value) : Free n (w4.setCells B 0 cs) a := by
 have hk : Kept (· = B) w4 (w4.setCells B 0 cs) := Kept.setCells (S := (· = B)) (p := B) rfl cs 0 (Kept.refl _ w4)
 exact h.kept hk (fun k hk e => by have e : k = B := e; omega)
section
variable {X : Nat → Prop} {w0 w : World} {d b : Nat} {root : Bytes} {at_ cnt : Int} {M : List (Bytes × Nd)} {who : Sess} {v : Value} {L : List RawE} {E : List Eff}
theorem DoerAt.lt (D : DoerAt X w0 w d b root at_ cnt M who v L E) : d < w.heap.size := lt_of_block D.blk
set_option maxRecDepth 100000 in
set_option maxHeartbeats 8000000 in
theorem DoerAt.node_some (D : DoerAt X w0 w d b root at_ cnt M who v L E) (p : Bytes) (hp : p.length ≤ 1000) {nd : Nd} (h : getA p M = some nd) :
  Calls Tryz.prog 133 #[.pointer (some ⟨d, 0, none⟩), .string (bs p)] w fun e w' => ∃ r : Raw, e = .returned r.val ∧ Reads w' (From w.heap.size) r nd ∧ Below w.heap.size w w' ∧ Free w.heap.size w' r.a := by
 obtain ⟨w1, hw1⟩ : ∃ w1, w1 = w.alloc (.cells #[.slice none 0 0, .int .u32 0, .int .u32 0, .int .u32 0, .int .i64 0, .int .u32 0, .int .u64 0, .int .u64 0, .int .u64 0] 39) := ⟨_, rfl⟩
 have hb1 : Below w.heap.size w w1 := by rw [hw1]; exact belowA (Below.refl _ w) _
 have hs1 : w1.heap.size = w.heap.size + 1 := by rw [hw1]; simp
 have k1 : w1.heap[w.heap.size]? = some (.cells #[.slice none 0 0, .int .u32 0, .int .u32 0, .int .u32 0, .int .i64 0, .int .u32 0, .int .u64 0, .int .u64 0, .int .u64 0] 39 (0, 0)) := by rw [hw1]; exact heap_alloc_new w _
 have c0 : w1.cell? ⟨d, 0, none⟩ = some (.pointer (some ⟨b, 0, none⟩)) := (hb1.cell (p := ⟨d, 0, none⟩) D.lt).trans D.c0
 have hg := (D.tree.below hb1).get p (by unfold maxLen; omega)
 rw [h] at hg
 have HG := Lib.hid hg
 have H1 := Lib.hid (And.intro hb1 (And.intro hs1 (And.intro k1 hw1)))
 have HSZ : Hid ((Tryz.prog.info? 39).map (·.size) = some 9) := Lib.hid (by kernel_rfl)
 clear D hg h hb1 hs1 k1 hw1
 go_enter Tryz.func133, Tryz.ntmps133
 go_wp2_with (rw [← H1.out.2.2.2])
 refine HG.out.mono ?_
 rintro e w2 ⟨r, rfl, hrd, B2, hfree⟩
 obtain ⟨ra, rn, rc, ⟨r1, r2, r3, r4, r5, r6, r7, r8⟩⟩ := r
 unfold Raw.val Raw.cells Nums.cells
 dsimp only [Option.isSome_some, Option.getD_some] at hrd ⊢
 obtain ⟨w3, hw3⟩ : ∃ w3, w3 = w2.alloc (.cells #[.slice ra rn rc, .int .u32 r1, .int .u32 r2, .int .u32 r3, .int .i64 r4, .int .u32 r5, .int .u64 r6, .int .u64 r7, .int .u64 r8] 39) := ⟨_, rfl⟩
 have hb3 : Below w2.heap.size w2 w3 := by rw [hw3]; exact belowA (Below.refl _ w2) _
 have hr3 : w3.rangeAt w2.heap.size 0 [.slice ra rn rc, .int .u32 r1, .int .u32 r2, .int .u32 r3, .int .i64 r4, .int .u32 r5, .int .u64 r6, .int .u64 r7, .int .u64 r8] := by rw [hw3]; exact box_range w2 [.slice ra rn rc, .int .u32 r1, .int .u32 r2, .int .u32 r3, .int .i64 r4, .int .u32 r5, .int .u64 r6, .int .u64 r7, .int .u64 r8] 39
 have hb13 : Below w1.heap.size w1 w3 := B2.trans (hb3.mono B2.size)
 have ht3 : w3.there w.heap.size 0 9 := zero_there ((hb13.block _ (by have := H1.out.2.1; omega)).trans H1.out.2.2.1)
 have H3 := Lib.hid (And.intro hr3 (And.intro ht3 (And.intro hb13 (And.intro hrd (And.intro hfree (And.intro hb3 hw3))))))
 clear hr3 ht3 hb13 hrd hfree B2 hb3 hw3
 have HON : Hid ((#[.slice ra rn rc, .int .u32 r1, .int .u32 r2, .int .u32 r3, .int .i64 r4, .int .u32 r5, .int .u64 r6, .int .u64 r7, .int .u64 r8] : Array Value).all (·.oneCell') = true) := Lib.hid (by simp [Value.oneCell'])
 go_wp2_with (rw [← H3.out.2.2.2.2.2.2])
 refine (must_yes 31 w3).mono ?_
 rintro e w4 ⟨rfl, rfl⟩
 go_wp2_with (first
  | (refine wpList_load_mid rfl 39 (.tmp 5) rfl w2.heap.size 0 rfl [.slice ra rn rc, .int .u32 r1, .int .u32 r2, .int .u32 r3, .int .i64 r4, .int .u32 r5, .int .u64 r6, .int .u64 r7, .int .u64 r8] _ H3.out.1 Tryz.underlying39 rfl HSZ.out ?_)
  | (refine wpList_store_mid rfl 39 (.tmp 4) (.tmp 18) rfl w.heap.size 0 #[.slice ra rn rc, .int .u32 r1, .int .u32 r2, .int .u32 r3, .int .i64 r4, .int .u32 r5, .int .u64 r6, .int .u64 r7, .int .u64 r8] rfl rfl H3.out.2.1 HSZ.out HON.out ?_))
 refine bodyPost_ret (results_cell_mid rfl _ _ w.heap.size 0 [.slice ra rn rc, .int .u32 r1, .int .u32 r2, .int .u32 r3, .int .i64 r4, .int .u32 r5, .int .u64 r6, .int .u64 r7, .int .u64 r8] _ rfl (World.rangeAt_setCells_same _ _ _ _ H3.out.2.1) Tryz.underlying39 rfl HSZ.out) rfl ?_
 obtain ⟨_, _, g3, g4, g5, g6, _⟩ := H3.out
 have hs1 := H1.out.2.1
 refine ⟨⟨ra, rn, rc, ⟨r1, r2, r3, r4, r5, r6, r7, r8⟩⟩, rfl, ?_, ?_, ?_⟩
 ·exact ((g4.below g6).cells (fun k hk e => by have hk : w1.heap.size ≤ k := hk; omega) _).mono (fun k hk => by have hk : w1.heap.size ≤ k := hk; show w.heap.size ≤ k; omega)
 ·exact below_cells (H1.out.1.trans (g3.mono H1.out.1.size)) (Nat.le_refl _) _
 ·exact ((g5.below g6).cells (by omega) _).mono (by omega)
set_option maxRecDepth 100000 in
set_option maxHeartbeats 8000000 in
theorem DoerAt.node_none (D : DoerAt X w0 w d b root at_ cnt M who v L E) (p : Bytes) (hp : p.length ≤ 1000) (h : getA p M = none) :
  Calls Tryz.prog 133 #[.pointer (some ⟨d, 0, none⟩), .string (bs p)] w fun e w' => e = panicV 31 ∧ Below w.heap.size w w' := by
 obtain ⟨w1, hw1⟩ : ∃ w1, w1 = w.alloc (.cells #[.slice none 0 0, .int .u32 0, .int .u32 0, .int .u32 0, .int .i64 0, .int .u32 0, .int .u64 0, .int .u64 0, .int .u64 0] 39) := ⟨_, rfl⟩
 have hb1 : Below w.heap.size w w1 := by rw [hw1]; exact belowA (Below.refl _ w) _
 have c0 : w1.cell? ⟨d, 0, none⟩ = some (.pointer (some ⟨b, 0, none⟩)) := (hb1.cell (p := ⟨d, 0, none⟩) D.lt).trans D.c0
 have hg := (D.tree.below hb1).get p (by unfold maxLen; omega)
 rw [h] at hg
 have HG := Lib.hid hg
 have H1 := Lib.hid (And.intro hb1 hw1)
 clear D hg h hb1 hw1
 go_enter Tryz.func133, Tryz.ntmps133
 go_wp2_with (rw [← H1.out.2])
 refine HG.out.mono ?_
 rintro e w2 ⟨r, rfl, hrd, B2, hfree⟩
 obtain ⟨ra, rn, rc, ⟨r1, r2, r3, r4, r5, r6, r7, r8⟩⟩ := r
 unfold Raw.val Raw.cells Nums.cells
 dsimp only [Option.isSome_none]
 have HB2 := Lib.hid (H1.out.1.trans (B2.mono H1.out.1.size))
 clear B2 hrd hfree
 go_wp2_with fail
 refine (must_no 31 _).mono ?_
 rintro e w4 ⟨rfl, rfl⟩
 unfold panicV
 go_wp2
 exact ⟨rfl, rfl, belowA HB2.out _⟩
end
end Go.Proofs.YtnclkfhdpkkakaaGreatDoor
namespace Go.Proofs.YtnclkfhdpkkakaaGreatDoor
set_option linter.unusedVariables false
set_option linter.unusedSimpArgs false
set_option linter.unusedVariables false
set_option linter.unusedSimpArgs false
open Go Go.RowKit Go.Shelf Go.MapKept Go.ChangeMaps Go.Maps Go.Sort
section
variable {X : Nat → Prop} {w0 w : World} {d b : Nat} {root : Bytes} {at_ cnt : Int} {M : List (Bytes × Nd)} {who : Sess} {v : Value} {L : List RawE} {E : List Eff}
theorem DoerAt.below (D : DoerAt X w0 w d b root at_ cnt M who v L E) {w' : World} (hb : Below w.heap.size w w') : DoerAt X w0 w' d b root at_ cnt M who v L E :=
 ⟨D.tree.below hb, (hb.block d D.lt).trans D.blk, ⟨own_below D.row.own hb, D.row.like.below hb⟩, D.hd, D.inv, D.rlike.below hb, fun k h => Nat.lt_of_lt_of_le (D.old k h) hb.size, by
  obtain ⟨lo, mb, T, h⟩ := D.far
  exact ⟨lo, mb, T.below hb, h⟩⟩
set_option maxRecDepth 100000 in
set_option maxHeartbeats 8000000 in
theorem DoerAt.ver_ok (D : DoerAt X w0 w d b root at_ cnt M who v L E) (r : RawO) (hp : r.path.length ≤ 1000) {nd : Nd} (h : getA r.path M = some nd) (hv : ¬ (0 ≤ r.ver ∧ r.ver ≠ IntKind.i64.wrap nd.num.ver)) :
  Calls Tryz.prog 115 #[.pointer (some ⟨d, 0, none⟩), r.val] w fun e w' => ∃ r' : Raw, e = .returned r'.val ∧ Reads w' (From w.heap.size) r' nd ∧ Below w.heap.size w w' ∧ Free w.heap.size w' r'.a := by
 obtain ⟨ok, op, oa, on, oc, ov, os, oe, pa, pn, pc⟩ := r
 unfold RawO.val RawO.cells
 dsimp only at hp h hv ⊢
 obtain ⟨w1, hw1⟩ : ∃ w1, w1 = (w.alloc (.cells #[.int .u8 ok, .string (bs op), .slice oa on oc, .int .i64 ov, .bool os, .bool oe, .slice pa pn pc] 26)).alloc (.cells #[.slice none 0 0, .int .u32 0, .int .u32 0, .int .u32 0, .int .i64 0, .int .u32 0, .int .u64 0, .int .u64 0, .int .u64 0] 39) := ⟨_, rfl⟩
 have hb1 : Below w.heap.size w w1 := by rw [hw1]; exact belowA (belowA (Below.refl _ w) _) _
 have hs1 : w1.heap.size = w.heap.size + 2 := by rw [hw1]; simp
 have k0 : w1.heap[w.heap.size]? = some (.cells #[.int .u8 ok, .string (bs op), .slice oa on oc, .int .i64 ov, .bool os, .bool oe, .slice pa pn pc] 26 (0, 0)) := by rw [hw1]; exact (heap_alloc_old _ _ (by simp)).trans (heap_alloc_new w _)
 have k1 : w1.heap[w.heap.size + 1]? = some (.cells #[.slice none 0 0, .int .u32 0, .int .u32 0, .int .u32 0, .int .i64 0, .int .u32 0, .int .u64 0, .int .u64 0, .int .u64 0] 39 (0, 0)) := by
  have := heap_alloc_new (w.alloc (.cells #[.int .u8 ok, .string (bs op), .slice oa on oc, .int .i64 ov, .bool os, .bool oe, .slice pa pn pc] 26)) (.cells #[.slice none 0 0, .int .u32 0, .int .u32 0, .int .u32 0, .int .i64 0, .int .u32 0, .int .u64 0, .int .u64 0, .int .u64 0] 39)
  rw [World.size_alloc] at this
  rw [hw1]
  exact this
 have y1 : w1.cell? ⟨w.heap.size, 1, none⟩ = some (.string (bs op)) := cell_of_row _ _ 1 _ 26 (0, 0) k0
 have D1 : DoerAt X w0 w1 d b root at_ cnt M who v L E := D.below hb1
 have hg := D1.node_some op hp h
 have HG := Lib.hid hg
 have H1 := Lib.hid (And.intro hb1 (And.intro hs1 (And.intro k0 (And.intro k1 hw1))))
 have HSZ : Hid ((Tryz.prog.info? 39).map (·.size) = some 9) := Lib.hid (by kernel_rfl)
 have HV := Lib.hid hv
 clear D D1 hg h hb1 hs1 k0 k1 hw1 hv
 go_enter Tryz.func115, Tryz.ntmps115
 go_wp2_with (rw [← H1.out.2.2.2.2])
 refine HG.out.mono ?_
 rintro e w2 ⟨r, rfl, hrd, B2, hfree⟩
 obtain ⟨ra, rn, rc, ⟨r1, r2, r3, r4, r5, r6, r7, r8⟩⟩ := r
 unfold Raw.val Raw.cells Nums.cells
 dsimp only
 obtain ⟨w3, hw3⟩ : ∃ w3, w3 = w2.alloc (.cells #[.slice ra rn rc, .int .u32 r1, .int .u32 r2, .int .u32 r3, .int .i64 r4, .int .u32 r5, .int .u64 r6, .int .u64 r7, .int .u64 r8] 39) := ⟨_, rfl⟩
 have hb3 : Below w2.heap.size w2 w3 := by rw [hw3]; exact belowA (Below.refl _ w2) _
 have hr3 : w3.rangeAt w2.heap.size 0 [.slice ra rn rc, .int .u32 r1, .int .u32 r2, .int .u32 r3, .int .i64 r4, .int .u32 r5, .int .u64 r6, .int .u64 r7, .int .u64 r8] := by rw [hw3]; exact box_range w2 [.slice ra rn rc, .int .u32 r1, .int .u32 r2, .int .u32 r3, .int .i64 r4, .int .u32 r5, .int .u64 r6, .int .u64 r7, .int .u64 r8] 39
 have hb13 : Below w1.heap.size w1 w3 := B2.trans (hb3.mono B2.size)
 have ht3 : w3.there (w.heap.size + 1) 0 9 := zero_there ((hb13.block _ (by have := H1.out.2.1; omega)).trans H1.out.2.2.2.1)
 have y3 : w3.cell? ⟨w.heap.size, 3, none⟩ = some (.int .i64 ov) := (hb13.cell (p := ⟨w.heap.size, 3, none⟩) (by have := H1.out.2.1; show w.heap.size < _; omega)).trans (cell_of_row _ _ 3 _ 26 (0, 0) H1.out.2.2.1)
 have z1 : w3.cell? ⟨w2.heap.size, 1, none⟩ = some (.int .u32 r1) := hr3 1 _ rfl
 have hnum : r1 = nd.num.ver := by have := congrArg Nums.ver hrd.num; exact this
 have H3 := Lib.hid (And.intro hr3 (And.intro ht3 (And.intro hb13 (And.intro hrd (And.intro hfree (And.intro hb3 hw3))))))
 have HNV := Lib.hid hnum
 clear hr3 ht3 hb13 hrd hfree B2 hb3 hw3 hnum
 have HON : Hid ((#[.slice ra rn rc, .int .u32 r1, .int .u32 r2, .int .u32 r3, .int .i64 r4, .int .u32 r5, .int .u64 r6, .int .u64 r7, .int .u64 r8] : Array Value).all (·.oneCell') = true) := Lib.hid (by simp [Value.oneCell'])
 obtain ⟨wv, hwv⟩ : ∃ wv, wv = IntKind.i64.wrap r1 := ⟨_, rfl⟩
 have HWV := Lib.hid hwv
 have twv : ∀ _ : True, IntKind.i64.wrap r1 = wv := fun _ => hwv.symm
 clear hwv
 by_cases hneg : ov < 0
 ·have t1 : decide (ov < 0) = true := by simpa using hneg
  clear hneg
  go_wp2_with (rw [← H3.out.2.2.2.2.2.2])
  refine (must_yes 35 w3).mono ?_
  rintro e w4 ⟨rfl, rfl⟩
  go_wp2_with (first
   | (refine wpList_load_mid rfl 39 (.tmp 5) rfl w2.heap.size 0 rfl [.slice ra rn rc, .int .u32 r1, .int .u32 r2, .int .u32 r3, .int .i64 r4, .int .u32 r5, .int .u64 r6, .int .u64 r7, .int .u64 r8] _ H3.out.1 Tryz.underlying39 rfl HSZ.out ?_)
   | (refine wpList_store_mid rfl 39 (.tmp 4) (.tmp 22) rfl (w.heap.size + 1) 0 #[.slice ra rn rc, .int .u32 r1, .int .u32 r2, .int .u32 r3, .int .i64 r4, .int .u32 r5, .int .u64 r6, .int .u64 r7, .int .u64 r8] rfl rfl H3.out.2.1 HSZ.out HON.out ?_))
  refine bodyPost_ret (results_cell_mid rfl _ _ (w.heap.size + 1) 0 [.slice ra rn rc, .int .u32 r1, .int .u32 r2, .int .u32 r3, .int .i64 r4, .int .u32 r5, .int .u64 r6, .int .u64 r7, .int .u64 r8] _ rfl (World.rangeAt_setCells_same _ _ _ _ H3.out.2.1) Tryz.underlying39 rfl HSZ.out) rfl ?_
  obtain ⟨_, _, g3, g4, g5, g6, _⟩ := H3.out
  have hs1 := H1.out.2.1
  refine ⟨⟨ra, rn, rc, ⟨r1, r2, r3, r4, r5, r6, r7, r8⟩⟩, rfl, ?_, ?_, ?_⟩
  ·exact ((g4.below g6).cells (fun k hk e => by have hk : w1.heap.size ≤ k := hk; omega) _).mono (fun k hk => by have hk : w1.heap.size ≤ k := hk; show w.heap.size ≤ k; omega)
  ·exact below_cells (H1.out.1.trans (g3.mono H1.out.1.size)) (by omega) _
  ·exact ((g5.below g6).cells (by omega) _).mono (by omega)
 ·have t1 : decide (ov < 0) = false := by simpa using hneg
  have t2 : (ov == wv) = true := by
   have h1 := HV.out
   rw [← HNV.out, ← HWV.out] at h1
   have h2 : ov = wv := Decidable.byContradiction fun hne => h1 ⟨by omega, hne⟩
   rw [h2]
   simp
  clear hneg
  go_wp2_with (rw [← H3.out.2.2.2.2.2.2])
  refine (must_yes 35 w3).mono ?_
  rintro e w4 ⟨rfl, rfl⟩
  go_wp2_with (first
   | (refine wpList_load_mid rfl 39 (.tmp 5) rfl w2.heap.size 0 rfl [.slice ra rn rc, .int .u32 r1, .int .u32 r2, .int .u32 r3, .int .i64 r4, .int .u32 r5, .int .u64 r6, .int .u64 r7, .int .u64 r8] _ H3.out.1 Tryz.underlying39 rfl HSZ.out ?_)
   | (refine wpList_store_mid rfl 39 (.tmp 4) (.tmp 22) rfl (w.heap.size + 1) 0 #[.slice ra rn rc, .int .u32 r1, .int .u32 r2, .int .u32 r3, .int .i64 r4, .int .u32 r5, .int .u64 r6, .int .u64 r7, .int .u64 r8] rfl rfl H3.out.2.1 HSZ.out HON.out ?_))
  refine bodyPost_ret (results_cell_mid rfl _ _ (w.heap.size + 1) 0 [.slice ra rn rc, .int .u32 r1, .int .u32 r2, .int .u32 r3, .int .i64 r4, .int .u32 r5, .int .u64 r6, .int .u64 r7, .int .u64 r8] _ rfl (World.rangeAt_setCells_same _ _ _ _ H3.out.2.1) Tryz.underlying39 rfl HSZ.out) rfl ?_
  obtain ⟨_, _, g3, g4, g5, g6, _⟩ := H3.out
  have hs1 := H1.out.2.1
  refine ⟨⟨ra, rn, rc, ⟨r1, r2, r3, r4, r5, r6, r7, r8⟩⟩, rfl, ?_, ?_, ?_⟩
  ·exact ((g4.below g6).cells (fun k hk e => by have hk : w1.heap.size ≤ k := hk; omega) _).mono (fun k hk => by have hk : w1.heap.size ≤ k := hk; show w.heap.size ≤ k; omega)
  ·exact below_cells (H1.out.1.trans (g3.mono H1.out.1.size)) (by omega) _
  ·exact ((g5.below g6).cells (by omega) _).mono (by omega)
set_option maxRecDepth 100000 in
set_option maxHeartbeats 8000000 in
theorem DoerAt.ver_bad (D : DoerAt X w0 w d b root at_ cnt M who v L E) (r : RawO) (hp : r.path.length ≤ 1000) {nd : Nd} (h : getA r.path M = some nd) (hv : 0 ≤ r.ver ∧ r.ver ≠ IntKind.i64.wrap nd.num.ver) :
  Calls Tryz.prog 115 #[.pointer (some ⟨d, 0, none⟩), r.val] w fun e w' => e = panicV 35 ∧ Below w.heap.size w w' := by
 obtain ⟨ok, op, oa, on, oc, ov, os, oe, pa, pn, pc⟩ := r
 unfold RawO.val RawO.cells
 dsimp only at hp h hv ⊢
 obtain ⟨w1, hw1⟩ : ∃ w1, w1 = (w.alloc (.cells #[.int .u8 ok, .string (bs op), .slice oa on oc, .int .i64 ov, .bool os, .bool oe, .slice pa pn pc] 26)).alloc (.cells #[.slice none 0 0, .int .u32 0, .int .u32 0, .int .u32 0, .int .i64 0, .int .u32 0, .int .u64 0, .int .u64 0, .int .u64 0] 39) := ⟨_, rfl⟩
 have hb1 : Below w.heap.size w w1 := by rw [hw1]; exact belowA (belowA (Below.refl _ w) _) _
 have hs1 : w1.heap.size = w.heap.size + 2 := by rw [hw1]; simp
 have k0 : w1.heap[w.heap.size]? = some (.cells #[.int .u8 ok, .string (bs op), .slice oa on oc, .int .i64 ov, .bool os, .bool oe, .slice pa pn pc] 26 (0, 0)) := by rw [hw1]; exact (heap_alloc_old _ _ (by simp)).trans (heap_alloc_new w _)
 have k1 : w1.heap[w.heap.size + 1]? = some (.cells #[.slice none 0 0, .int .u32 0, .int .u32 0, .int .u32 0, .int .i64 0, .int .u32 0, .int .u64 0, .int .u64 0, .int .u64 0] 39 (0, 0)) := by
  have := heap_alloc_new (w.alloc (.cells #[.int .u8 ok, .string (bs op), .slice oa on oc, .int .i64 ov, .bool os, .bool oe, .slice pa pn pc] 26)) (.cells #[.slice none 0 0, .int .u32 0, .int .u32 0, .int .u32 0, .int .i64 0, .int .u32 0, .int .u64 0, .int .u64 0, .int .u64 0] 39)
  rw [World.size_alloc] at this
  rw [hw1]
  exact this
 have y1 : w1.cell? ⟨w.heap.size, 1, none⟩ = some (.string (bs op)) := cell_of_row _ _ 1 _ 26 (0, 0) k0
 have D1 : DoerAt X w0 w1 d b root at_ cnt M who v L E := D.below hb1
 have hg := D1.node_some op hp h
 have HG := Lib.hid hg
 have H1 := Lib.hid (And.intro hb1 (And.intro hs1 (And.intro k0 (And.intro k1 hw1))))
 have HSZ : Hid ((Tryz.prog.info? 39).map (·.size) = some 9) := Lib.hid (by kernel_rfl)
 have HV := Lib.hid hv
 clear D D1 hg h hb1 hs1 k0 k1 hw1 hv
 go_enter Tryz.func115, Tryz.ntmps115
 go_wp2_with (rw [← H1.out.2.2.2.2])
 refine HG.out.mono ?_
 rintro e w2 ⟨r, rfl, hrd, B2, hfree⟩
 obtain ⟨ra, rn, rc, ⟨r1, r2, r3, r4, r5, r6, r7, r8⟩⟩ := r
 unfold Raw.val Raw.cells Nums.cells
 dsimp only
 obtain ⟨w3, hw3⟩ : ∃ w3, w3 = w2.alloc (.cells #[.slice ra rn rc, .int .u32 r1, .int .u32 r2, .int .u32 r3, .int .i64 r4, .int .u32 r5, .int .u64 r6, .int .u64 r7, .int .u64 r8] 39) := ⟨_, rfl⟩
 have hb3 : Below w2.heap.size w2 w3 := by rw [hw3]; exact belowA (Below.refl _ w2) _
 have hr3 : w3.rangeAt w2.heap.size 0 [.slice ra rn rc, .int .u32 r1, .int .u32 r2, .int .u32 r3, .int .i64 r4, .int .u32 r5, .int .u64 r6, .int .u64 r7, .int .u64 r8] := by rw [hw3]; exact box_range w2 [.slice ra rn rc, .int .u32 r1, .int .u32 r2, .int .u32 r3, .int .i64 r4, .int .u32 r5, .int .u64 r6, .int .u64 r7, .int .u64 r8] 39
 have hb13 : Below w1.heap.size w1 w3 := B2.trans (hb3.mono B2.size)
 have ht3 : w3.there (w.heap.size + 1) 0 9 := zero_there ((hb13.block _ (by have := H1.out.2.1; omega)).trans H1.out.2.2.2.1)
 have y3 : w3.cell? ⟨w.heap.size, 3, none⟩ = some (.int .i64 ov) := (hb13.cell (p := ⟨w.heap.size, 3, none⟩) (by have := H1.out.2.1; show w.heap.size < _; omega)).trans (cell_of_row _ _ 3 _ 26 (0, 0) H1.out.2.2.1)
 have z1 : w3.cell? ⟨w2.heap.size, 1, none⟩ = some (.int .u32 r1) := hr3 1 _ rfl
 have hnum : r1 = nd.num.ver := by have := congrArg Nums.ver hrd.num; exact this
 have H3 := Lib.hid (And.intro hr3 (And.intro ht3 (And.intro hb13 (And.intro hrd (And.intro hfree (And.intro hb3 hw3))))))
 have HNV := Lib.hid hnum
 clear hr3 ht3 hb13 hrd hfree B2 hb3 hw3 hnum
 have HON : Hid ((#[.slice ra rn rc, .int .u32 r1, .int .u32 r2, .int .u32 r3, .int .i64 r4, .int .u32 r5, .int .u64 r6, .int .u64 r7, .int .u64 r8] : Array Value).all (·.oneCell') = true) := Lib.hid (by simp [Value.oneCell'])
 obtain ⟨wv, hwv⟩ : ∃ wv, wv = IntKind.i64.wrap r1 := ⟨_, rfl⟩
 have HWV := Lib.hid hwv
 have twv : ∀ _ : True, IntKind.i64.wrap r1 = wv := fun _ => hwv.symm
 clear hwv
 have t1 : decide (ov < 0) = false := by
  have := HV.out.1
  simpa using this
 have t2 : (ov == wv) = false := by
  have h1 := HV.out.2
  rw [← HNV.out, ← HWV.out] at h1
  simpa using h1
 have HB3 := Lib.hid (H1.out.1.trans (H3.out.2.2.1.mono H1.out.1.size))
 go_wp2_with (rw [← H3.out.2.2.2.2.2.2])
 refine (must_no 35 w3).mono ?_
 rintro e w4 ⟨rfl, rfl⟩
 unfold panicV
 go_wp2
 exact ⟨rfl, rfl, HB3.out⟩
set_option maxRecDepth 100000 in
set_option maxHeartbeats 8000000 in
theorem DoerAt.ver_none (D : DoerAt X w0 w d b root at_ cnt M who v L E) (r : RawO) (hp : r.path.length ≤ 1000) (h : getA r.path M = none) :
  Calls Tryz.prog 115 #[.pointer (some ⟨d, 0, none⟩), r.val] w fun e w' => e = panicV 31 ∧ Below w.heap.size w w' := by
 obtain ⟨ok, op, oa, on, oc, ov, os, oe, pa, pn, pc⟩ := r
 unfold RawO.val RawO.cells
 dsimp only at hp h ⊢
 obtain ⟨w1, hw1⟩ : ∃ w1, w1 = (w.alloc (.cells #[.int .u8 ok, .string (bs op), .slice oa on oc, .int .i64 ov, .bool os, .bool oe, .slice pa pn pc] 26)).alloc (.cells #[.slice none 0 0, .int .u32 0, .int .u32 0, .int .u32 0, .int .i64 0, .int .u32 0, .int .u64 0, .int .u64 0, .int .u64 0] 39) := ⟨_, rfl⟩
 have hb1 : Below w.heap.size w w1 := by rw [hw1]; exact belowA (belowA (Below.refl _ w) _) _
 have hs1 : w1.heap.size = w.heap.size + 2 := by rw [hw1]; simp
 have k0 : w1.heap[w.heap.size]? = some (.cells #[.int .u8 ok, .string (bs op), .slice oa on oc, .int .i64 ov, .bool os, .bool oe, .slice pa pn pc] 26 (0, 0)) := by rw [hw1]; exact (heap_alloc_old _ _ (by simp)).trans (heap_alloc_new w _)
 have k1 : w1.heap[w.heap.size + 1]? = some (.cells #[.slice none 0 0, .int .u32 0, .int .u32 0, .int .u32 0, .int .i64 0, .int .u32 0, .int .u64 0, .int .u64 0, .int .u64 0] 39 (0, 0)) := by
  have := heap_alloc_new (w.alloc (.cells #[.int .u8 ok, .string (bs op), .slice oa on oc, .int .i64 ov, .bool os, .bool oe, .slice pa pn pc] 26)) (.cells #[.slice none 0 0, .int .u32 0, .int .u32 0, .int .u32 0, .int .i64 0, .int .u32 0, .int .u64 0, .int .u64 0, .int .u64 0] 39)
  rw [World.size_alloc] at this
  rw [hw1]
  exact this
 have y1 : w1.cell? ⟨w.heap.size, 1, none⟩ = some (.string (bs op)) := cell_of_row _ _ 1 _ 26 (0, 0) k0
 have D1 : DoerAt X w0 w1 d b root at_ cnt M who v L E := D.below hb1
 have hg := D1.node_none op hp h
 have HG := Lib.hid hg
 have H1 := Lib.hid (And.intro hb1 hw1)
 clear D D1 hg h hb1 hs1 k0 k1 hw1
 go_enter Tryz.func115, Tryz.ntmps115
 go_wp2_with (rw [← H1.out.2])
 refine HG.out.mono ?_
 rintro e w2 ⟨rfl, B2⟩
 have HB2 := Lib.hid (H1.out.1.trans (B2.mono H1.out.1.size))
 clear B2
 unfold panicV
 go_wp2
 exact ⟨rfl, rfl, HB2.out⟩
end
end Go.Proofs.YtnclkfhdpkkakaaGreatDoor
namespace Go.Proofs.YtnclkfhdpkkakaaGreatDoor
set_option linter.unusedVariables false
set_option linter.unusedSimpArgs false
set_option linter.unusedVariables false
set_option linter.unusedSimpArgs false
open Go Go.RowKit Go.Shelf Go.MapKept Go.ChangeMaps Go.Maps Go.Sort
theorem there_of {w1 : World} {B n : Nat} {cs : Array Value} {t : TypeId} (h : w1.heap[B]? = some (.cells cs t (0, 0))) (hn : n ≤ cs.size) : w1.there B 0 n := fun j hj => by
 refine ⟨?_, by simp [World.frozen?, h]⟩
 rw [Nat.zero_add, cell_of_row _ _ j _ t (0, 0) h, Array.getElem?_eq_getElem (by omega)]
 rfl
def repCells (x : Int) (p : Bytes) (r : Raw) (ka : Option Addr) (kn kc : Nat) (pa : Option Addr) (pn pc : Nat) : List Value := .int .i64 x :: .string (bs p) :: (r.cells ++ [.slice ka kn kc, .slice pa pn pc])
section
variable {X : Nat → Prop} {w0 w : World} {d b : Nat} {root : Bytes} {at_ cnt : Int} {M : List (Bytes × Nd)} {who : Sess} {v : Value} {L : List RawE} {E : List Eff}
theorem DoerAt.c1 (D : DoerAt X w0 w d b root at_ cnt M who v L E) : w.cell? ⟨d, 1, none⟩ = some (.int .u64 at_) := cell_of_row _ _ 1 _ 82 (0, 0) D.blk
set_option maxRecDepth 100000 in
set_option maxHeartbeats 8000000 in
theorem DoerAt.told_some (D : DoerAt X w0 w d b root at_ cnt M who v L E) (p : Bytes) (hp : p.length ≤ 1000) {nd : Nd} (h : getA p M = some nd) :
  Calls Tryz.prog 114 #[.pointer (some ⟨d, 0, none⟩), .string (bs p)] w fun e w' => ∃ r : Raw, e = .returned (.agg (repCells 0 p r none 0 0 none 0 0).toArray) ∧ Reads w' (From w.heap.size) r nd ∧ Below w.heap.size w w' ∧ Free w.heap.size w' r.a := by
 obtain ⟨w1, hw1⟩ : ∃ w1, w1 = w.alloc (.cells #[.int .i64 0, .string ⟨#[]⟩, .slice none 0 0, .int .u32 0, .int .u32 0, .int .u32 0, .int .i64 0, .int .u32 0, .int .u64 0, .int .u64 0, .int .u64 0, .slice none 0 0, .slice none 0 0] 43) := ⟨_, rfl⟩
 have hb1 : Below w.heap.size w w1 := by rw [hw1]; exact belowA (Below.refl _ w) _
 have hs1 : w1.heap.size = w.heap.size + 1 := by rw [hw1]; simp
 have k1 : w1.heap[w.heap.size]? = some (.cells #[.int .i64 0, .string ⟨#[]⟩, .slice none 0 0, .int .u32 0, .int .u32 0, .int .u32 0, .int .i64 0, .int .u32 0, .int .u64 0, .int .u64 0, .int .u64 0, .slice none 0 0, .slice none 0 0] 43 (0, 0)) := by rw [hw1]; exact heap_alloc_new w _
 have hg := (D.below hb1).node_some p hp h
 have HG := Lib.hid hg
 have H1 := Lib.hid (And.intro hb1 (And.intro hs1 (And.intro k1 hw1)))
 have HSZ : Hid ((Tryz.prog.info? 43).map (·.size) = some 13) := Lib.hid (by kernel_rfl)
 clear D hg h hb1 hs1 k1 hw1
 go_enter Tryz.func114, Tryz.ntmps114
 go_wp2_with (rw [← H1.out.2.2.2])
 refine HG.out.mono ?_
 rintro e w2 ⟨r, rfl, hrd, B2, hfree⟩
 obtain ⟨ra, rn, rc, ⟨r1, r2, r3, r4, r5, r6, r7, r8⟩⟩ := r
 unfold Raw.val Raw.cells Nums.cells
 dsimp only
 have ht2 : w2.there w.heap.size 0 13 := there_of ((B2.block _ (by have := H1.out.2.1; omega)).trans H1.out.2.2.1) (by simp)
 have H2 := Lib.hid (And.intro ht2 (And.intro B2 (And.intro hrd hfree)))
 clear ht2 B2 hrd hfree
 have HON : Hid ((#[.int .i64 0, .string (bs p), .slice ra rn rc, .int .u32 r1, .int .u32 r2, .int .u32 r3, .int .i64 r4, .int .u32 r5, .int .u64 r6, .int .u64 r7, .int .u64 r8, .slice none 0 0, .slice none 0 0] : Array Value).all (·.oneCell') = true) := Lib.hid (by simp [Value.oneCell'])
 go_wp2_with (refine wpList_store_mid rfl 43 (.tmp 4) (.tmp 9) rfl w.heap.size 0 #[.int .i64 0, .string (bs p), .slice ra rn rc, .int .u32 r1, .int .u32 r2, .int .u32 r3, .int .i64 r4, .int .u32 r5, .int .u64 r6, .int .u64 r7, .int .u64 r8, .slice none 0 0, .slice none 0 0] rfl rfl H2.out.1 HSZ.out HON.out ?_)
 refine bodyPost_ret (results_cell_mid rfl _ _ w.heap.size 0 [.int .i64 0, .string (bs p), .slice ra rn rc, .int .u32 r1, .int .u32 r2, .int .u32 r3, .int .i64 r4, .int .u32 r5, .int .u64 r6, .int .u64 r7, .int .u64 r8, .slice none 0 0, .slice none 0 0] _ rfl (World.rangeAt_setCells_same _ _ _ _ H2.out.1) Tryz.underlying43 rfl HSZ.out) rfl ?_
 obtain ⟨_, g2, g3, g4⟩ := H2.out
 have hs1 := H1.out.2.1
 refine ⟨⟨ra, rn, rc, ⟨r1, r2, r3, r4, r5, r6, r7, r8⟩⟩, rfl, ?_, ?_, ?_⟩
 ·exact (g3.cells (fun k hk e => by have hk : w1.heap.size ≤ k := hk; omega) _).mono (fun k hk => by have hk : w1.heap.size ≤ k := hk; show w.heap.size ≤ k; omega)
 ·exact below_cells (H1.out.1.trans (g2.mono H1.out.1.size)) (Nat.le_refl _) _
 ·exact (g4.cells (by omega) _).mono (by omega)
set_option maxRecDepth 100000 in
set_option maxHeartbeats 8000000 in
theorem DoerAt.told_none (D : DoerAt X w0 w d b root at_ cnt M who v L E) (p : Bytes) (hp : p.length ≤ 1000) (h : getA p M = none) :
  Calls Tryz.prog 114 #[.pointer (some ⟨d, 0, none⟩), .string (bs p)] w fun e w' => e = panicV 31 ∧ Below w.heap.size w w' := by
 obtain ⟨w1, hw1⟩ : ∃ w1, w1 = w.alloc (.cells #[.int .i64 0, .string ⟨#[]⟩, .slice none 0 0, .int .u32 0, .int .u32 0, .int .u32 0, .int .i64 0, .int .u32 0, .int .u64 0, .int .u64 0, .int .u64 0, .slice none 0 0, .slice none 0 0] 43) := ⟨_, rfl⟩
 have hb1 : Below w.heap.size w w1 := by rw [hw1]; exact belowA (Below.refl _ w) _
 have hg := (D.below hb1).node_none p hp h
 have HG := Lib.hid hg
 have H1 := Lib.hid (And.intro hb1 hw1)
 clear D hg h hb1 hw1
 go_enter Tryz.func114, Tryz.ntmps114
 go_wp2_with (rw [← H1.out.2])
 refine HG.out.mono ?_
 rintro e w2 ⟨rfl, B2⟩
 have HB2 := Lib.hid (H1.out.1.trans (B2.mono H1.out.1.size))
 clear B2
 unfold panicV
 go_wp2
 exact ⟨rfl, rfl, HB2.out⟩
set_option maxRecDepth 100000 in
set_option maxHeartbeats 8000000 in
theorem DoerAt.touched_none (D : DoerAt X w0 w d b root at_ cnt M who v L E) (hm : MaxInt w) (p : Bytes) (hp : p.length ≤ 1000) (h : getA (parentL p) M = none) :
  Calls Tryz.prog 112 #[.pointer (some ⟨d, 0, none⟩), .string (bs p)] w fun e w' => e = panicV 31 ∧ Below w.heap.size w w' := by
 obtain ⟨w1, hw1⟩ : ∃ w1, w1 = w.alloc (.cells #[.string ⟨#[]⟩, .bool false, .slice none 0 0, .int .u32 0, .int .u32 0, .int .u32 0, .int .i64 0, .int .u32 0, .int .u64 0, .int .u64 0, .int .u64 0] 88) := ⟨_, rfl⟩
 have hb1 : Below w.heap.size w w1 := by rw [hw1]; exact belowA (Below.refl _ w) _
 have HP := Lib.hid (later_parent w1 (hm.kept hb1) p hp)
 have hpl : (parentL p).length ≤ 1000 := parentL_len p hp
 have HN : Hid (∀ w', Below w1.heap.size w1 w' → Calls Tryz.prog 133 #[.pointer (some ⟨d, 0, none⟩), .string (bs (parentL p))] w' fun e w'' => e = panicV 31 ∧ Below w'.heap.size w' w'') := Lib.hid fun w' hb => (((D.below hb1).below hb).node_none (parentL p) hpl h)
 have H1 := Lib.hid (And.intro hb1 hw1)
 clear D h hb1 hw1 hm
 go_enter Tryz.func112, Tryz.ntmps112
 go_wp2_with (rw [← H1.out.2])
 refine (HP.out _ (Below.refl _ _)).mono ?_
 rintro e w2 ⟨rfl, B2⟩
 have HB2 := Lib.hid B2
 clear B2
 go_wp2_with fail
 refine (HN.out _ HB2.out).mono ?_
 rintro e w3 ⟨rfl, B3⟩
 have HB3 := Lib.hid (H1.out.1.trans ((HB2.out.trans (B3.mono HB2.out.size)).mono H1.out.1.size))
 clear B3
 unfold panicV
 go_wp2
 exact ⟨rfl, rfl, HB3.out⟩
set_option maxRecDepth 100000 in
set_option maxHeartbeats 8000000 in
theorem DoerAt.touched_some (D : DoerAt X w0 w d b root at_ cnt M who v L E) (hm : MaxInt w) (p : Bytes) (hp : p.length ≤ 1000) {u : Nd} (h : getA (parentL p) M = some u) :
  Calls Tryz.prog 112 #[.pointer (some ⟨d, 0, none⟩), .string (bs p)] w fun e w' => ∃ r : Raw, e = .returned (RawE.val ⟨parentL p, false, r⟩) ∧ Reads w' (From w.heap.size) r (upN u at_) ∧ Below w.heap.size w w' ∧ Free w.heap.size w' r.a := by
 obtain ⟨w1, hw1⟩ : ∃ w1, w1 = w.alloc (.cells #[.string ⟨#[]⟩, .bool false, .slice none 0 0, .int .u32 0, .int .u32 0, .int .u32 0, .int .i64 0, .int .u32 0, .int .u64 0, .int .u64 0, .int .u64 0] 88) := ⟨_, rfl⟩
 have hb1 : Below w.heap.size w w1 := by rw [hw1]; exact belowA (Below.refl _ w) _
 have hs1 : w1.heap.size = w.heap.size + 1 := by rw [hw1]; simp
 have k1 : w1.heap[w.heap.size]? = some (.cells #[.string ⟨#[]⟩, .bool false, .slice none 0 0, .int .u32 0, .int .u32 0, .int .u32 0, .int .i64 0, .int .u32 0, .int .u64 0, .int .u64 0, .int .u64 0] 88 (0, 0)) := by rw [hw1]; exact heap_alloc_new w _
 have HP := Lib.hid (later_parent w1 (hm.kept hb1) p hp)
 have hpl : (parentL p).length ≤ 1000 := parentL_len p hp
 have HN : Hid (∀ w', Below w1.heap.size w1 w' → Calls Tryz.prog 133 #[.pointer (some ⟨d, 0, none⟩), .string (bs (parentL p))] w' fun e w'' => ∃ r : Raw, e = .returned r.val ∧ Reads w'' (From w'.heap.size) r u ∧ Below w'.heap.size w' w'' ∧ Free w'.heap.size w'' r.a) := Lib.hid fun w' hb => (((D.below hb1).below hb).node_some (parentL p) hpl h)
 have hdl : d < w.heap.size := D.lt
 have HD := Lib.hid ((hb1.cell (p := ⟨d, 1, none⟩) D.lt).trans D.c1)
 have H1 := Lib.hid (And.intro hb1 (And.intro hs1 (And.intro k1 hw1)))
 have HSZ : Hid ((Tryz.prog.info? 39).map (·.size) = some 9) := Lib.hid (by kernel_rfl)
 have HSE : Hid ((Tryz.prog.info? 88).map (·.size) = some 11) := Lib.hid (by kernel_rfl)
 clear D h hb1 hs1 k1 hw1 hm
 go_enter Tryz.func112, Tryz.ntmps112
 go_wp2_with (rw [← H1.out.2.2.2])
 refine (HP.out _ (Below.refl _ _)).mono ?_
 rintro e w2 ⟨rfl, B2⟩
 have HB2 := Lib.hid B2
 clear B2
 go_wp2_with fail
 refine (HN.out _ HB2.out).mono ?_
 rintro e w3 ⟨r, rfl, hrd, B3, hfree⟩
 obtain ⟨ra, rn, rc, ⟨r1, r2, r3, r4, r5, r6, r7, r8⟩⟩ := r
 unfold Raw.val Raw.cells Nums.cells
 dsimp only
 obtain ⟨w4, hw4⟩ : ∃ w4, w4 = w3.alloc (.cells #[.slice ra rn rc, .int .u32 r1, .int .u32 r2, .int .u32 r3, .int .i64 r4, .int .u32 r5, .int .u64 r6, .int .u64 r7, .int .u64 r8] 39) := ⟨_, rfl⟩
 have hb4 : Below w3.heap.size w3 w4 := by rw [hw4]; exact belowA (Below.refl _ w3) _
 have k4 : w4.heap[w3.heap.size]? = some (.cells #[.slice ra rn rc, .int .u32 r1, .int .u32 r2, .int .u32 r3, .int .i64 r4, .int .u32 r5, .int .u64 r6, .int .u64 r7, .int .u64 r8] 39 (0, 0)) := by rw [hw4]; exact heap_alloc_new w3 _
 have hb14 : Below w1.heap.size w1 w4 := HB2.out.trans ((B3.trans (hb4.mono B3.size)).mono HB2.out.size)
 have hs3 : w1.heap.size ≤ w3.heap.size := Nat.le_trans HB2.out.size B3.size
 obtain ⟨k2, hk2⟩ : ∃ k2, k2 = IntKind.u32.wrap (r2 + 1) := ⟨_, rfl⟩
 have tk : ∀ _ : True, IntKind.u32.wrap (r2 + 1) = k2 := fun _ => hk2.symm
 have z2 : w4.cell? ⟨w3.heap.size, 2, none⟩ = some (.int .u32 r2) := cell_of_row _ _ 2 _ 39 (0, 0) k4
 have f2 : w4.frozen? ⟨w3.heap.size, 2, none⟩ = false := by simp [World.frozen?, k4]
 have f8 : w4.frozen? ⟨w3.heap.size, 8, none⟩ = false := by simp [World.frozen?, k4]
 obtain ⟨w5, hw5⟩ : ∃ w5, w5 = w4.setCell ⟨w3.heap.size, 2, none⟩ (.int .u32 k2) := ⟨_, rfl⟩
 have k5 : w5.heap[w3.heap.size]? = some (.cells #[.slice ra rn rc, .int .u32 r1, .int .u32 k2, .int .u32 r3, .int .i64 r4, .int .u32 r5, .int .u64 r6, .int .u64 r7, .int .u64 r8] 39 (0, 0)) := by
  rw [hw5]
  simp [World.setCell, Array.getElem?_modify, k4]
 have kp5 : Kept (· = w3.heap.size) w4 w5 := by rw [hw5]; exact Kept.setCell (S := (· = w3.heap.size)) (p := ⟨w3.heap.size, 2, none⟩) (Kept.refl _ w4) rfl _
 have z8 : w5.cell? ⟨w3.heap.size, 8, none⟩ = some (.int .u64 r8) := cell_of_row _ _ 8 _ 39 (0, 0) k5
 have g8 : w5.frozen? ⟨w3.heap.size, 8, none⟩ = false := by simp [World.frozen?, k5]
 have zd : w5.cell? ⟨d, 1, none⟩ = some (.int .u64 at_) := (kp5.cell (p := ⟨d, 1, none⟩) (by show d < w4.heap.size; have := hb14.size; have := H1.out.2.1; omega) (fun e => by have e : d = w3.heap.size := e; have := H1.out.2.1; omega)).trans ((hb14.cell (p := ⟨d, 1, none⟩) (by show d < w1.heap.size; have := H1.out.2.1; omega)).trans HD.out)
 obtain ⟨w6, hw6⟩ : ∃ w6, w6 = w5.setCell ⟨w3.heap.size, 8, none⟩ (.int .u64 at_) := ⟨_, rfl⟩
 have k6 : w6.heap[w3.heap.size]? = some (.cells #[.slice ra rn rc, .int .u32 r1, .int .u32 k2, .int .u32 r3, .int .i64 r4, .int .u32 r5, .int .u64 r6, .int .u64 r7, .int .u64 at_] 39 (0, 0)) := by
  rw [hw6]
  simp [World.setCell, Array.getElem?_modify, k5]
 have kp6 : Kept (· = w3.heap.size) w4 w6 := kp5.trans (by rw [hw6]; exact Kept.setCell (S := (· = w3.heap.size)) (p := ⟨w3.heap.size, 8, none⟩) (Kept.refl _ w5) rfl _)
 have hr6 : w6.rangeAt w3.heap.size 0 [.slice ra rn rc, .int .u32 r1, .int .u32 k2, .int .u32 r3, .int .i64 r4, .int .u32 r5, .int .u64 r6, .int .u64 r7, .int .u64 at_] := fun j u hu => by
  rw [Nat.zero_add, cell_of_row _ _ j _ 39 (0, 0) k6]
  simpa using hu
 have ht6 : w6.there w.heap.size 0 11 := there_of ((kp6.block _ (by have := hb14.size; have := H1.out.2.1; omega) (fun e => by have := H1.out.2.1; omega)).trans ((hb14.block _ (by have := H1.out.2.1; omega)).trans H1.out.2.2.1)) (by simp)
 have H6 := Lib.hid (And.intro hr6 (And.intro ht6 (And.intro kp6 (And.intro hb14 (And.intro hrd (And.intro hfree (And.intro hb4 (And.intro hs3 hk2))))))))
 have HW := Lib.hid (And.intro hw4 (And.intro hw5 hw6))
 have HBS := Lib.hid HB2.out.size
 clear hr6 ht6 kp6 hb14 hrd hfree hb4 hs3 hk2 hw4 hw5 hw6 k4 k5 k6 kp5 B3
 have HON : Hid ((#[.string (bs (parentL p)), .bool false, .slice ra rn rc, .int .u32 r1, .int .u32 k2, .int .u32 r3, .int .i64 r4, .int .u32 r5, .int .u64 r6, .int .u64 r7, .int .u64 at_] : Array Value).all (·.oneCell') = true) := Lib.hid (by simp [Value.oneCell'])
 go_wp2_with (first
  | (rw [← HW.out.1])
  | (rw [← HW.out.2.1])
  | (rw [← HW.out.2.2]; refine wpList_load_mid rfl 39 (.tmp 6) rfl w3.heap.size 0 rfl [.slice ra rn rc, .int .u32 r1, .int .u32 k2, .int .u32 r3, .int .i64 r4, .int .u32 r5, .int .u64 r6, .int .u64 r7, .int .u64 at_] _ H6.out.1 Tryz.underlying39 rfl HSZ.out ?_)
  | (refine wpList_store_mid rfl 88 (.tmp 4) (.tmp 23) rfl w.heap.size 0 #[.string (bs (parentL p)), .bool false, .slice ra rn rc, .int .u32 r1, .int .u32 k2, .int .u32 r3, .int .i64 r4, .int .u32 r5, .int .u64 r6, .int .u64 r7, .int .u64 at_] rfl rfl H6.out.2.1 HSE.out HON.out ?_))
 refine bodyPost_ret (results_cell_mid rfl _ _ w.heap.size 0 [.string (bs (parentL p)), .bool false, .slice ra rn rc, .int .u32 r1, .int .u32 k2, .int .u32 r3, .int .i64 r4, .int .u32 r5, .int .u64 r6, .int .u64 r7, .int .u64 at_] _ rfl (World.rangeAt_setCells_same _ _ _ _ H6.out.2.1) Tryz.underlying88 rfl HSE.out) rfl ?_
 obtain ⟨_, _, g3, g4, g5, g6, g7, g8, g9⟩ := H6.out
 have hs1 := H1.out.2.1
 have hs2 := HBS.out
 have hk36 : Kept (· = w3.heap.size) w3 w6 := (Kept.ofBelow g7).trans g3
 have hnum := g5.num
 refine ⟨⟨ra, rn, rc, ⟨r1, k2, r3, r4, r5, r6, r7, at_⟩⟩, rfl, ?_, ?_, ?_⟩
 ·have h1 : Reads w6 (From w2.heap.size) ⟨ra, rn, rc, ⟨r1, k2, r3, r4, r5, r6, r7, at_⟩⟩ (upN u at_) := by
   refine ⟨?_, g5.len, ((g5.data.kept hk36 (Nat.le_refl _) (fun b hb hl _ e => by have e : b = w3.heap.size := e; omega)).mono (fun _ h => h) hk36.size), g5.nil⟩
   unfold upN inc32
   rw [← hnum, g9]
  exact (h1.cells (fun k hk e => by have hk : w2.heap.size ≤ k := hk; omega) _).mono (fun k hk => by have hk : w2.heap.size ≤ k := hk; show w.heap.size ≤ k; omega)
 ·exact below_cells (H1.out.1.trans ((g4.trans (g3.below g4.size (fun k e => by have e : k = w3.heap.size := e; omega))).mono H1.out.1.size)) (Nat.le_refl _) _
 ·have hf6 : Free w2.heap.size w6 ra := fun ad e => by
   obtain ⟨q1, q2, q3⟩ := g6 ad e
   exact ⟨q1, Nat.lt_of_lt_of_le q2 hk36.size, fun j => (hk36.frozen (p := ⟨ad.block, j, none⟩) q2 (fun e => by have e : ad.block = w3.heap.size := e; omega)).trans (q3 j)⟩
  exact (hf6.cells (by omega) _).mono (by omega)
end
end Go.Proofs.YtnclkfhdpkkakaaGreatDoor
namespace Go.Proofs.YtnclkfhdpkkakaaGreatDoor
set_option linter.unusedVariables false
set_option linter.unusedSimpArgs false
set_option linter.unusedVariables false
set_option linter.unusedSimpArgs false
open Go Go.RowKit Go.Shelf Go.MapKept Go.ChangeMaps Go.Maps Go.Sort
theorem ByteSl.turnG {w w' : World} {lo : Nat → Prop} {hi b : Nat} {a : Option Addr} {D : Bytes} (h : ByteSl w lo hi a D) {cs : Array Value} {t : TypeId} {fr : Nat × Nat} (hb : w.heap[b]? = some (.cells cs t fr)) (hu : ∀ x ∈ cs.toList, ∀ n, x ≠ .int .u8 n) (hk : Kept (· = b) w w') (hw : hi ≤ w.heap.size) : ByteSl w' lo hi a D := fun j c hj => by
 obtain ⟨g, off, h1, h2, h3, h4⟩ := h j c hj
 refine ⟨g, off, h1, h2, h3, (hk.cell (p := ⟨g, off + j, none⟩) (Nat.lt_of_lt_of_le h3 hw) (fun e => ?_)).trans h4⟩
 have e : g = b := e
 subst e
 rw [cell_of_row _ _ (off + j) _ t fr hb] at h4
 exact hu _ (by simpa using Array.mem_of_getElem? h4) _ rfl
theorem LikeE.turnG {w w' : World} {lo : Nat → Prop} {b : Nat} {L : List RawE} {E : List Eff} (h : LikeE w lo L E) {cs : Array Value} {t : TypeId} {fr : Nat × Nat} (hb : w.heap[b]? = some (.cells cs t fr)) (hu : ∀ x ∈ cs.toList, ∀ n, x ≠ .int .u8 n) (hk : Kept (· = b) w w') : LikeE w' lo L E := ⟨h.1, fun k r e h1 h2 => by
 obtain ⟨g1, g2, g3⟩ := h.2 k r e h1 h2
 exact ⟨g1, g2, g3.num, g3.len, (g3.data.turnG hb hu hk (Nat.le_refl _)).mono (fun _ h => h) hk.size, g3.nil⟩⟩
theorem LikeE.keptS {w w' : World} {S lo : Nat → Prop} {L : List RawE} {E : List Eff} (h : LikeE w lo L E) (hk : Kept S w w') (hn : ∀ b, lo b → ¬ S b) : LikeE w' lo L E := ⟨h.1, fun k r e h1 h2 => by
 obtain ⟨g1, g2, g3⟩ := h.2 k r e h1 h2
 exact ⟨g1, g2, g3.num, g3.len, (g3.data.kept hk (Nat.le_refl _) (fun b hb _ _ => hn b hb)).mono (fun _ h => h) hk.size, g3.nil⟩⟩
theorem LikeE.both {w : World} {lo lo' : Nat → Prop} {L : List RawE} {E : List Eff} (h : LikeE w lo L E) (hl : ∀ k, lo k → k < w.heap.size → lo' k) : LikeE w lo' L E := ⟨h.1, fun k r e h1 h2 => by
 obtain ⟨g1, g2, g3⟩ := h.2 k r e h1 h2
 exact ⟨g1, g2, g3.num, g3.len, fun j c hj => by
  obtain ⟨b, off, q1, q2, q3, q4⟩ := g3.data j c hj
  exact ⟨b, off, q1, hl b q2 q3, q3, q4⟩, g3.nil⟩⟩
theorem LikeE.append {w : World} {lo : Nat → Prop} {L L2 : List RawE} {E E2 : List Eff} (h : LikeE w lo L E) (h2 : LikeE w lo L2 E2) : LikeE w lo (L ++ L2) (E ++ E2) := ⟨by rw [List.length_append, List.length_append, h.1, h2.1], fun k r e h3 h4 => by
 have hl := h.1
 by_cases hk : k < L.length
 ·rw [List.getElem?_append_left hk] at h3
  rw [List.getElem?_append_left (by omega)] at h4
  exact h.2 k r e h3 h4
 ·rw [List.getElem?_append_right (by omega)] at h3
  rw [List.getElem?_append_right (by omega), ← hl] at h4
  exact h2.2 (k - L.length) r e h3 h4⟩
theorem own_kept {w w' : World} {S : Nat → Prop} {base size n : Nat} {e : TypeId} {v : Value} {xs : List Value} (h : w.ownsRow base e size v n xs) (hk : Kept S w w') (hn : ∀ g, v.ownBlock = some g → ¬ S g) : w'.ownsRow base e size v n xs := by
 refine ⟨h.1, ?_⟩
 rcases h.2 with h1 | ⟨g, cap, cur, h1, h2, h3, h4⟩
 ·exact .inl h1
 ·exact .inr ⟨g, cap, cur, h1, h2, (hk.block g (lt_of_block h3) (hn g (by rw [h1]; rfl))).trans h3, h4⟩
theorem own_type {w : World} {base size n : Nat} {e t : TypeId} {v : Value} {xs : List Value} (h : w.ownsRow base e size v n xs) {b : Nat} {cs : Array Value} {fr : Nat × Nat} (hb : w.heap[b]? = some (.cells cs t fr)) (ht : t ≠ e) : v.ownBlock ≠ some b := fun e1 => by
 rcases h.2 with ⟨h1, _⟩ | ⟨g, cap, cur, h1, h2, h3, h4⟩
 ·rw [h1] at e1; cases e1
 ·rw [h1] at e1
  have : g = b := by cases e1; rfl
  subst this
  rw [hb] at h3
  cases h3
  exact ht rfl
theorem rawE_plain (R : List RawE) : ∀ u ∈ R.flatMap RawE.cells, u.oneCell' = true := fun u hu => by
 obtain ⟨r, _, h⟩ := List.mem_flatMap.1 hu
 obtain ⟨p, g, a, n, c, v1, v2, v3, v4, v5, v6, v7, v8⟩ := r
 simp [RawE.cells, Raw.cells, Nums.cells] at h
 rcases h with rfl | rfl | rfl | rfl | rfl | rfl | rfl | rfl | rfl | rfl | rfl <;> rfl
theorem flatE_len : ∀ R : List RawE, (R.flatMap RawE.cells).length = R.length * 11
 | [] => rfl
 | x :: R => by
  rw [List.flatMap_cons, List.length_append, rawE_len, flatE_len R, List.length_cons]
  omega
theorem flatE_inv : ∀ (R : List RawE) (j : Nat) (u : Value), (R.flatMap RawE.cells)[j]? = some u → ∃ k r i, R[k]? = some r ∧ r.cells[i]? = some u ∧ j = k * 11 + i
 | [], j, u, h => by simp at h
 | x :: R, j, u, h => by
  rw [List.flatMap_cons] at h
  by_cases hj : j < 11
  ·rw [List.getElem?_append_left (by rw [rawE_len]; exact hj)] at h
   exact ⟨0, x, j, rfl, h, by omega⟩
  ·rw [List.getElem?_append_right (by rw [rawE_len]; omega), rawE_len] at h
   obtain ⟨k, r, i, h1, h2, h3⟩ := flatE_inv R (j - 11) u h
   exact ⟨k + 1, r, i, by simpa using h1, h2, by omega⟩
theorem EffsAt.flat {w : World} {B b off : Nat} {R : List RawE} (h : EffsAt w B (some ⟨b, off, none⟩) R) : ∀ j u, (R.flatMap RawE.cells)[j]? = some u → w.cell? ((⟨b, off, none⟩ : Addr).add j) = some u := fun j u hu => by
 obtain ⟨k, r, i, h1, h2, rfl⟩ := flatE_inv R j u hu
 obtain ⟨b', off', e, _, h4⟩ := h k r h1
 cases e
 rw [Addr.add_mid, show off + (k * 11 + i) = off + k * 11 + i by omega]
 exact h4 i u h2
section
variable {X : Nat → Prop} {w0 w : World} {d b : Nat} {root : Bytes} {at_ cnt : Int} {M : List (Bytes × Nd)} {who : Sess} {v : Value} {L : List RawE} {E : List Eff}
theorem DoerAt.ne (D : DoerAt X w0 w d b root at_ cnt M who v L E) : d ≠ b := fun e => by
 subst e
 obtain ⟨lo, mb, T, _⟩ := D.far
 have := T.blk
 rw [D.blk] at this
 cases this
theorem who_free (x : Addr) (a s n : Int) (v : Value) (hv : ∃ p q r, v = .slice p q r) : ∀ y ∈ (#[Value.pointer (some x), .int .u64 a, .int .i64 s, .int .u32 n, v] : Array Value).toList, ∀ m, y ≠ .int .u8 m := by
 obtain ⟨p, q, r, rfl⟩ := hv
 intro y hy m
 simp at hy
 rcases hy with rfl | rfl | rfl | rfl | rfl <;> simp
theorem tree_free (s : ByteArray) (a : Int) (mb : Option Nat) : ∀ y ∈ (#[Value.string s, .int .u64 a, .map mb] : Array Value).toList, ∀ m, y ≠ .int .u8 m := by
 intro y hy m
 simp at hy
 rcases hy with rfl | rfl | rfl <;> simp
end
end Go.Proofs.YtnclkfhdpkkakaaGreatDoor
