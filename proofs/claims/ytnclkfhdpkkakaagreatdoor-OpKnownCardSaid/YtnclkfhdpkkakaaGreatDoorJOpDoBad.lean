/-
  Replies as they lie; a row of replies that the call builds.
  Do, walked: its ending.
  Do, walked: no tree; what may not be.
-/
import Derived.Test.YtnclkfhdpkkakaaGreatDoorJOpMeth
import Derived.Test.YtnclkfhdpkkakaaGreatDoorJOpChk
import Derived.Test.YtnclkfhdpkkakaaGreatDoorJOpCr
namespace Go.Proofs.YtnclkfhdpkkakaaGreatDoor
set_option linter.unusedVariables false
set_option linter.unusedSimpArgs false
open Go Go.RowKit Go.Shelf Go.MapKept Go.ChangeMaps Go.Maps Go.Sort

theorem infoReply : (Tryz.prog.info? 43).map (fun i => (i.zero, i.size, i.bytes)) = some (some (.agg #[.int .i64 0, .string ⟨#[]⟩, .slice none 0 0, .int .u32 0, .int .u32 0, .int .u32 0, .int .i64 0, .int .u32 0, .int .u64 0, .int .u64 0, .int .u64 0, .slice none 0 0, .slice none 0 0]), 13, 152) := by kernel_rfl
/-- A reply without parts, as it lies. -/
structure RawR where
  e : Int
  path : Bytes
  node : Raw
  ka : Option Addr
  kn : Nat
  kc : Nat
def RawR.cells (r : RawR) : List Value := repCells r.e r.path r.node r.ka r.kn r.kc none 0 0
theorem rawR_len (r : RawR) : r.cells.length = 13 := rfl
/-- It reads as a reply. -/
structure ReadsR (w : World) (lo : Nat → Prop) (r : RawR) (x : Rep) : Prop where
  e : r.e = x.e
  path : r.path = x.a.path
  node : Reads w lo r.node x.a.node
  kn : r.kn = x.a.kids.length
  kids : StrLo w lo r.ka x.a.kids
theorem ReadsR.keptS {w w' : World} {lo S : Nat → Prop} {r : RawR} {x : Rep} (h : ReadsR w lo r x) (hk : Kept S w w') (hn : ∀ k, lo k → k < w.heap.size → ¬ S k) : ReadsR w' lo r x :=
  ⟨h.e, h.path, h.node.keptS hk hn, h.kn, h.kids.keptS hk hn⟩
theorem ReadsR.mono {w : World} {lo lo' : Nat → Prop} {r : RawR} {x : Rep} (h : ReadsR w lo r x) (hl : ∀ k, lo k → k < w.heap.size → lo' k) : ReadsR w lo' r x :=
  ⟨h.e, h.path, h.node.monoB hl, h.kn, h.kids.mono hl⟩
theorem flatR_at : ∀ (L : List RawR) (k : Nat) (r : RawR), L[k]? = some r → ∀ j u, r.cells[j]? = some u → (L.flatMap RawR.cells)[k * 13 + j]? = some u
  | [], k, r, h, j, u, hu => by simp at h
  | x :: L, 0, r, h, j, u, hu => by
    simp at h
    subst h
    rw [List.flatMap_cons, Nat.zero_mul, Nat.zero_add, List.getElem?_append_left (List.getElem?_eq_some_iff.1 hu).1]
    exact hu
  | x :: L, k + 1, r, h, j, u, hu => by
    have h' : L[k]? = some r := by simpa using h
    rw [List.flatMap_cons, List.getElem?_append_right (by rw [rawR_len]; omega), rawR_len, show (k + 1) * 13 + j - 13 = k * 13 + j by omega]
    exact flatR_at L k r h' j u hu
/-- A row of replies; what they point at lies in blocks of lo. -/
structure RepRow (w : World) (base : Nat) (lo : Nat → Prop) (v : Value) (L : List RawR) (X : List Rep) : Prop where
  own : w.ownsRow base 43 13 v L.length (L.flatMap RawR.cells)
  len : L.length = X.length
  like : ∀ (k : Nat) r x, L[k]? = some r → X[k]? = some x → ReadsR w (fun k => lo k ∧ v.ownBlock ≠ some k) r x
theorem repRow_nil (w : World) (base : Nat) (lo : Nat → Prop) : RepRow w base lo (.slice none 0 0) [] [] := ⟨World.ownsRow_nil w base 43 13, rfl, fun k r e h => by simp at h⟩
theorem RepRow.keptS {w w' : World} {base : Nat} {lo S : Nat → Prop} {v : Value} {L : List RawR} {X : List Rep} (h : RepRow w base lo v L X) (hk : Kept S w w') (hn : ∀ k, lo k → k < w.heap.size → ¬ S k) (hv : ∀ k, v.ownBlock = some k → ¬ S k) : RepRow w' base lo v L X :=
  ⟨own_kept h.own hk hv, h.len, fun k r x h1 h2 => (h.like k r x h1 h2).keptS hk (fun k hl hlt => hn k hl.1 hlt)⟩
theorem RepRow.mono {w : World} {base : Nat} {lo lo' : Nat → Prop} {v : Value} {L : List RawR} {X : List Rep} (h : RepRow w base lo v L X) (hl : ∀ k, lo k → k < w.heap.size → lo' k) : RepRow w base lo' v L X :=
  ⟨h.own, h.len, fun k r x h1 h2 => (h.like k r x h1 h2).mono (fun k hk hlt => ⟨hl k hk.1 hlt, hk.2⟩)⟩
/-- One more reply. -/
theorem RepRow.more {w wa w' : World} {base : Nat} {lo : Nat → Prop} {v v' : Value} {L : List RawR} {X : List Rep} {r : RawR} {x : Rep} (h : RepRow w base lo v L X) (hb : Below w.heap.size w wa) (hr : ReadsR w (fun k => lo k ∧ v.ownBlock ≠ some k) r x)
    (hown : w'.ownsRow base 43 13 v' (L.length + 1) (L.flatMap RawR.cells ++ r.cells)) (hg : wa.grownBy w' v.ownBlock) (hw : ∀ k, v'.ownBlock = some k → v.ownBlock = some k ∨ wa.heap.size ≤ k) : RepRow w' base lo v' (L ++ [r]) (X ++ [x]) := by
  have hk : Kept (fun k => v.ownBlock = some k) w w' := (Kept.ofBelow hb).trans (kept_grown hg)
  have hone : ∀ {r : RawR} {x : Rep}, ReadsR w (fun k => lo k ∧ v.ownBlock ≠ some k) r x → ReadsR w' (fun k => lo k ∧ v'.ownBlock ≠ some k) r x := fun {r x} hx => by
    have h1 := hx.mono (lo' := fun k => (lo k ∧ v.ownBlock ≠ some k) ∧ k < w.heap.size) (fun k h1 h2 => ⟨h1, h2⟩)
    have h2 := h1.keptS hk (fun k h1 _ => h1.1.2)
    exact h2.mono (fun k h1 _ => ⟨h1.1.1, fun e => by
      rcases hw k e with h | h
      · exact h1.1.2 h
      · have := hb.size; have := h1.2; omega⟩)
  refine ⟨by rw [List.length_append, List.length_singleton, List.flatMap_append]; simpa using hown, by rw [List.length_append, List.length_append, h.len]; rfl, fun k r' x' h1 h2 => ?_⟩
  by_cases hlt : k < L.length
  · rw [List.getElem?_append_left hlt] at h1
    rw [List.getElem?_append_left (by rw [← h.len]; exact hlt)] at h2
    exact hone (h.like k r' x' h1 h2)
  · have hk0 : k = L.length := by have := (List.getElem?_eq_some_iff.1 h1).1; simp at this; omega
    subst hk0
    have hl := h.len
    rw [List.getElem?_append_right (Nat.le_refl _), Nat.sub_self] at h1
    rw [List.getElem?_append_right (by omega), ← hl, Nat.sub_self] at h2
    simp at h1 h2
    subst h1 h2
    exact hone hr
/-- Replies of a reply, as they lie. -/
def RepsAt (w : World) (lo : Nat → Prop) (pa : Option Addr) (X : List Rep) : Prop := ∀ (k : Nat) x, X[k]? = some x → ∃ g off, ∃ r : RawR, pa = some ⟨g, off, none⟩ ∧ lo g ∧ g < w.heap.size ∧ w.rangeAt g (off + k * 13) r.cells ∧ ReadsR w lo r x
theorem RepsAt.nil (w : World) (lo : Nat → Prop) (pa : Option Addr) : RepsAt w lo pa [] := fun k x h => by simp at h
theorem RepsAt.keptS {w w' : World} {lo S : Nat → Prop} {pa : Option Addr} {X : List Rep} (h : RepsAt w lo pa X) (hk : Kept S w w') (hn : ∀ k, lo k → k < w.heap.size → ¬ S k) : RepsAt w' lo pa X := fun k x hx => by
  obtain ⟨g, off, r, h1, h2, h3, h4, h5⟩ := h k x hx
  exact ⟨g, off, r, h1, h2, Nat.lt_of_lt_of_le h3 hk.size, fun j u hu => (hk.cell (p := ⟨g, off + k * 13 + j, none⟩) h3 (hn g h2 h3)).trans (h4 j u hu), h5.keptS hk hn⟩
theorem RepRow.lies {w : World} {base : Nat} {lo : Nat → Prop} {v : Value} {L : List RawR} {X : List Rep} (h : RepRow w base lo v L X) {lo' : Nat → Prop} (hl : ∀ k, lo k → k < w.heap.size → lo' k) (hb : ∀ k, base ≤ k → lo' k) : ∃ pa pc, v = .slice pa X.length pc ∧ RepsAt w lo' pa X := by
  obtain ⟨a, c, hv⟩ := row_form h.own
  rw [h.len] at hv
  refine ⟨a, c, hv, fun k x hx => ?_⟩
  have hkx := (List.getElem?_eq_some_iff.1 hx).1
  obtain ⟨r, hr⟩ : ∃ r, L[k]? = some r := ⟨_, List.getElem?_eq_getElem (by rw [h.len]; exact hkx)⟩
  rcases h.own.2 with ⟨h1, h0⟩ | ⟨g, cap, cur, h1, hbg, hg, _⟩
  · have := h.len; omega
  · obtain rfl : a = some ⟨g, 0, none⟩ := (Value.slice.inj (hv.symm.trans h1)).1
    have hob : v.ownBlock = some g := by rw [h1]; rfl
    refine ⟨g, 0, r, rfl, hb g hbg, (h.own.lt g hob).2, fun j u hu => ?_, (h.like k r x hr hx).mono (fun k hk hlt => hl k hk.1 hlt)⟩
    have := h.own.cells (g := g) hob (k * 13 + j) u (flatR_at L k r hr j u hu)
    rw [Addr.add_lit, Nat.zero_add] at this
    rw [show 0 + k * 13 + j = k * 13 + j by omega]
    exact this
/-- A whole reply. -/
def ReplyAt (w : World) (lo : Nat → Prop) (u : Value) (x : Int) (A : Ans) (X : List Rep) : Prop :=
  ∃ (r : Raw) (ka : Option Addr) (kc : Nat) (pa : Option Addr) (pc : Nat), u = .agg (repCells x A.path r ka A.kids.length kc pa X.length pc).toArray ∧ Reads w lo r A.node ∧ StrLo w lo ka A.kids ∧ RepsAt w lo pa X
theorem ReplyAt.keptS {w w' : World} {lo S : Nat → Prop} {u : Value} {x : Int} {A : Ans} {X : List Rep} (h : ReplyAt w lo u x A X) (hk : Kept S w w') (hn : ∀ k, lo k → k < w.heap.size → ¬ S k) : ReplyAt w' lo u x A X := by
  obtain ⟨r, ka, kc, pa, pc, h1, h2, h3, h4⟩ := h
  exact ⟨r, ka, kc, pa, pc, h1, h2.keptS hk hn, h3.keptS hk hn, h4.keptS hk hn⟩
theorem RepsAt.mono {w : World} {lo lo' : Nat → Prop} {pa : Option Addr} {X : List Rep} (h : RepsAt w lo pa X) (hl : ∀ k, lo k → lo' k) : RepsAt w lo' pa X := fun k x hx => by
  obtain ⟨g, off, r, h1, h2, h3, h4, h5⟩ := h k x hx
  exact ⟨g, off, r, h1, hl g h2, h3, h4, h5.mono (fun k h _ => hl k h)⟩
theorem ReplyAt.mono {w : World} {lo lo' : Nat → Prop} {u : Value} {x : Int} {A : Ans} {X : List Rep} (h : ReplyAt w lo u x A X) (hl : ∀ k, lo k → lo' k) : ReplyAt w lo' u x A X := by
  obtain ⟨r, ka, kc, pa, pc, h1, h2, h3, h4⟩ := h
  exact ⟨r, ka, kc, pa, pc, h1, h2.mono hl, h3.mono (fun k h _ => hl k h), h4.mono hl⟩
/-- Effects that are answered. -/
def EffsOut (w : World) (u : Value) (E : List Eff) : Prop := ∃ a c L, u = .slice a E.length c ∧ EffsAt w w.heap.size a L ∧ LikeE w (fun _ => True) L E
theorem EffsOut.nil (w : World) : EffsOut w (.slice none 0 0) [] := ⟨none, 0, [], rfl, fun k r h => by simp at h, rfl, fun k r e h => by simp at h⟩
theorem EffsOut.below {w w' : World} {u : Value} {E : List Eff} (h : EffsOut w u E) (hb : Below w.heap.size w w') : EffsOut w' u E := by
  obtain ⟨a, c, L, h1, h2, h3⟩ := h
  exact ⟨a, c, L, h1, (h2.below hb).mono hb.size, h3.below hb⟩
theorem EffRow.out {w : World} {base : Nat} {v : Value} {L : List RawE} {E : List Eff} (h : EffRow w base v L E) : EffsOut w v E := by
  obtain ⟨a, c, hv⟩ := row_form h.own
  have hl : LikeE w (fun _ => True) L E := ⟨h.like.1, fun k r e h1 h2 => ⟨(h.like.2 k r e h1 h2).path, (h.like.2 k r e h1 h2).gone, (h.like.2 k r e h1 h2).node.mono (fun _ _ => trivial)⟩⟩
  refine ⟨a, c, L, by rw [hv, h.like.1], ?_, hl⟩
  by_cases h0 : 0 < L.length
  · obtain ⟨g, c', h1, _, _, h4⟩ := h.lies h0
    rw [hv] at h1
    cases h1
    exact h4
  · have : L = [] := List.eq_nil_of_length_eq_zero (by omega)
    subst this
    exact fun k r h => by simp at h
end Go.Proofs.YtnclkfhdpkkakaaGreatDoor

namespace Go.Proofs.YtnclkfhdpkkakaaGreatDoor
set_option linter.unusedVariables false
set_option linter.unusedSimpArgs false
open Go Go.RowKit Go.Shelf Go.MapKept Go.ChangeMaps Go.Maps Go.Sort
theorem results_tmp_cell_mid {P : Program} {fn : Func} {p u : Tmp} {ty : TypeId} (h : fn.results = #[.tmp u, .cell p ty]) (tmps : Array Value) (w : World) (b o : Nat) (cs : List Value) (d : TypeDesc)
    (hp : tmps.getD p undef = .pointer (some ⟨b, o, none⟩)) (hc : w.rangeAt b o cs) (hu : P.underlying ty = some d) (hd : d.isRow = true) (hi : (P.info? ty).map (·.size) = some cs.length) :
    (results fn tmps).run P w = .ok (.tuple #[tmps.getD u undef, .agg cs.toArray]) w := by
  have hp' : tmps[p]?.getD undef = .pointer (some ⟨b, o, none⟩) := by simpa using hp
  simp [results, h, hp', asAddr, run_loadVar_mid w b o ty cs d hc hu hd hi]
/-- A part as it lies. -/
def Leafy (o : Opl) : Prop := 1 ≤ o.kind ∧ o.kind ≤ 6 ∧ o.path.length ≤ 900 ∧ o.data.length ≤ 1000000
def PartsAt (w : World) (pa : Option Addr) (Q : List Opl) : Prop := ∀ (k : Nat) p, Q[k]? = some p → ∃ g off, ∃ r : RawO, pa = some ⟨g, off, none⟩ ∧ g < w.heap.size ∧ w.rangeAt g (off + k * 7) r.cells ∧ LeafO w (fun k => k < w.heap.size) r p ∧ Leafy p
structure GoodOp (w : World) (r : RawO) (o : OpV) : Prop where
  one : o.leaf.kind ≠ 7 → r.pn = 0 ∧ Leafy o.leaf
  all : o.leaf.kind = 7 → r.pn = o.parts.length ∧ o.parts.length ≤ 6 ∧ PartsAt w r.pa o.parts
def whoV (who : Sess) : Value := .agg #[.int .i64 who.site, .int .u32 who.n]
def DoEnd (w : World) (root : Bytes) (M : List (Bytes × Nd)) (at_ : Int) (who : Sess) (ce : Int) (o : OpV) (e : Ending) (w' : World) : Prop :=
  ∃ u1 u2, e = .returned (.tuple #[u1, u2]) ∧ EffsOut w' u1 (doX root M at_ who ce o) ∧ ReplyAt w' (From w.heap.size) u2 (doE root M at_ who ce o) (doA root M at_ who ce o) (doR root M at_ who ce o) ∧ Below w.heap.size w w'
/-- The three boxes of Do: operation, session, result. -/
theorem do_boxes (w : World) (ok : Int) (op : Bytes) (oa : Option Addr) (on oc : Nat) (ov : Int) (os oe : Bool) (qa : Option Addr) (qn qc : Nat) (s n : Int) :
    ∃ w1, w1 = ((w.alloc (.cells #[.int .u8 ok, .string (bs op), .slice oa on oc, .int .i64 ov, .bool os, .bool oe, .slice qa qn qc] 26)).alloc (.cells #[.int .i64 s, .int .u32 n] 29)).alloc (.cells #[.int .i64 0, .string ⟨#[]⟩, .slice none 0 0, .int .u32 0, .int .u32 0, .int .u32 0, .int .i64 0, .int .u32 0, .int .u64 0, .int .u64 0, .int .u64 0, .slice none 0 0, .slice none 0 0] 43) ∧ Below w.heap.size w w1 ∧ w1.heap.size = w.heap.size + 3
      ∧ w1.heap[w.heap.size]? = some (.cells #[.int .u8 ok, .string (bs op), .slice oa on oc, .int .i64 ov, .bool os, .bool oe, .slice qa qn qc] 26 (0, 0)) ∧ w1.heap[w.heap.size + 1]? = some (.cells #[.int .i64 s, .int .u32 n] 29 (0, 0)) ∧ w1.heap[w.heap.size + 2]? = some (.cells #[.int .i64 0, .string ⟨#[]⟩, .slice none 0 0, .int .u32 0, .int .u32 0, .int .u32 0, .int .i64 0, .int .u32 0, .int .u64 0, .int .u64 0, .int .u64 0, .slice none 0 0, .slice none 0 0] 43 (0, 0)) := by
  refine ⟨_, rfl, belowA (belowA (belowA (Below.refl _ w) _) _) _, by simp, ?_, ?_, ?_⟩
  · exact (heap_alloc_old _ _ (by simp; omega)).trans ((heap_alloc_old _ _ (by simp)).trans (heap_alloc_new w _))
  · have := heap_alloc_new (w.alloc (.cells #[.int .u8 ok, .string (bs op), .slice oa on oc, .int .i64 ov, .bool os, .bool oe, .slice qa qn qc] 26)) (.cells #[.int .i64 s, .int .u32 n] 29)
    rw [World.size_alloc] at this
    exact (heap_alloc_old _ _ (by simp)).trans this
  · have := heap_alloc_new ((w.alloc (.cells #[.int .u8 ok, .string (bs op), .slice oa on oc, .int .i64 ov, .bool os, .bool oe, .slice qa qn qc] 26)).alloc (.cells #[.int .i64 s, .int .u32 n] 29)) (.cells #[.int .i64 0, .string ⟨#[]⟩, .slice none 0 0, .int .u32 0, .int .u32 0, .int .u32 0, .int .i64 0, .int .u32 0, .int .u64 0, .int .u64 0, .int .u64 0, .slice none 0 0, .slice none 0 0] 43)
    simpa using this
end Go.Proofs.YtnclkfhdpkkakaaGreatDoor

namespace Go.Proofs.YtnclkfhdpkkakaaGreatDoor
set_option linter.unusedVariables false
set_option linter.unusedSimpArgs false
open Go Go.RowKit Go.Shelf Go.MapKept Go.ChangeMaps Go.Maps Go.Sort
section
variable {w0 w : World} {b : Nat} {root : Bytes} {at_ : Int} {M : List (Bytes × Nd)}
set_option maxRecDepth 100000 in
set_option maxHeartbeats 8000000 in
theorem do_bad (r : RawO) (o : OpV) (who : Sess) (ce : Int) (HC : ∀ w', Below w.heap.size w w' → Calls Tryz.prog 22 #[r.val] w' (CheckIs w' ce)) (hce : ce ≠ 0) :
    Calls Tryz.prog 14 #[.pointer (some ⟨b, 0, none⟩), r.val, whoV who] w (DoEnd w root M at_ who ce o) := by
  obtain ⟨ok, op, oa, on, oc, ov, os, oe, qa, qn, qc⟩ := r
  obtain ⟨s, n⟩ := who
  unfold RawO.val RawO.cells whoV
  unfold RawO.val RawO.cells at HC
  dsimp only at HC ⊢
  obtain ⟨w1, hw1, hb1, hs1, k0, k1, k2⟩ := do_boxes w ok op oa on oc ov os oe qa qn qc s n
  have HSO : Hid ((Tryz.prog.info? 26).map (·.size) = some 7) := Lib.hid (by kernel_rfl)
  have HSR : Hid ((Tryz.prog.info? 43).map (·.size) = some 13) := Lib.hid infoReply13
  have HSS : Hid ((Tryz.prog.info? 29).map (·.size) = some 2) := Lib.hid (by kernel_rfl)
  have H1 := Lib.hid (And.intro hb1 (And.intro hs1 (And.intro k0 (And.intro k1 (And.intro k2 hw1)))))
  have HR1 := Lib.hid (range_blk k0)
  have hck := HC w1 hb1
  have HCK := Lib.hid hck
  have tce : (ce != 0) = true := by simpa using hce
  have HCE := Lib.hid hce
  clear HC hb1 hs1 k0 k1 k2 hck hce
  go_enter Tryz.func14, Tryz.ntmps14
  go_wp2_with fail
  rw [← hw1]
  refine HCK.out.mono ?_
  rintro e w2 ⟨rfl, B2⟩
  have hb2 : w2.heap[w.heap.size + 2]? = some (.cells #[.int .i64 0, .string ⟨#[]⟩, .slice none 0 0, .int .u32 0, .int .u32 0, .int .u32 0, .int .i64 0, .int .u32 0, .int .u64 0, .int .u64 0, .int .u64 0, .slice none 0 0, .slice none 0 0] 43 (0, 0)) := (B2.block _ (by have := H1.out.2.1; omega)).trans H1.out.2.2.2.2.1
  have ht2 : w2.there (w.heap.size + 2) 0 13 := there_of hb2 (by simp)
  have H2 := Lib.hid (And.intro B2 (And.intro hb2 ht2))
  clear B2 hb2 ht2
  have HON : Hid ((#[.int .i64 ce, .string ⟨#[]⟩, .slice none 0 0, .int .u32 0, .int .u32 0, .int .u32 0, .int .i64 0, .int .u32 0, .int .u64 0, .int .u64 0, .int .u64 0, .slice none 0 0, .slice none 0 0] : Array Value).all (·.oneCell') = true) := Lib.hid (by simp [Value.oneCell'])
  go_wp2_with (refine wpList_store_mid rfl 43 (.tmp 7) (.tmp 22) rfl (w.heap.size + 2) 0 #[.int .i64 ce, .string ⟨#[]⟩, .slice none 0 0, .int .u32 0, .int .u32 0, .int .u32 0, .int .i64 0, .int .u32 0, .int .u64 0, .int .u64 0, .int .u64 0, .slice none 0 0, .slice none 0 0] rfl rfl H2.out.2.2 HSR.out HON.out ?_)
  refine bodyPost_ret (results_tmp_cell_mid rfl _ _ (w.heap.size + 2) 0 [.int .i64 ce, .string ⟨#[]⟩, .slice none 0 0, .int .u32 0, .int .u32 0, .int .u32 0, .int .i64 0, .int .u32 0, .int .u64 0, .int .u64 0, .int .u64 0, .slice none 0 0, .slice none 0 0] _ rfl (World.rangeAt_setCells_same _ _ _ _ H2.out.2.2) Tryz.underlying43 rfl HSR.out) rfl ?_
  have K9 : Kept (· = w.heap.size + 2) w2 (w2.setCells (w.heap.size + 2) 0 [.int .i64 ce, .string ⟨#[]⟩, .slice none 0 0, .int .u32 0, .int .u32 0, .int .u32 0, .int .i64 0, .int .u32 0, .int .u64 0, .int .u64 0, .int .u64 0, .slice none 0 0, .slice none 0 0]) := Kept.setCells (S := (· = w.heap.size + 2)) (p := w.heap.size + 2) rfl _ 0 (Kept.refl _ w2)
  have hb12 : Below w.heap.size w w2 := H1.out.1.trans (H2.out.1.mono H1.out.1.size)
  have e1 : doE root M at_ ⟨s, n⟩ ce o = ce := by unfold doE; rw [if_pos HCE.out]
  have e2 : doX root M at_ ⟨s, n⟩ ce o = [] := by unfold doX; rw [e1, if_pos HCE.out]
  have e3 : doA root M at_ ⟨s, n⟩ ce o = noAns := by unfold doA; rw [if_neg (fun h => HCE.out h.1)]
  have e4 : doR root M at_ ⟨s, n⟩ ce o = [] := by unfold doR; rw [if_neg (fun h => HCE.out h.1)]
  refine ⟨_, _, rfl, ?_, ?_, hb12.trans (K9.below hb12.size (fun k e => by have e : k = w.heap.size + 2 := e; omega))⟩
  · rw [e2]
    exact EffsOut.nil _
  · rw [e1, e3, e4]
    exact ⟨zRaw, none, 0, none, 0, rfl, zReads _ _, StrLo.nil _ _ _, RepsAt.nil _ _ _⟩
end
end Go.Proofs.YtnclkfhdpkkakaaGreatDoor
