/-
  What the law OpPlays holds between its calls: replies in their boxes, the two trees beside one another. A round of OpPlays: what each of its calls answers, in one bundle. OpPlays, walked. OpPlays: over whatever arguments can be read.
-/
import Derived.Test.YtnclkfhdpkkakaaGreatDoorQ41
import Derived.Test.YtnclkfhdpkkakaaGreatDoorQ24
import Derived.Test.YtnclkfhdpkkakaaGreatDoorQ39
import Derived.Test.YtnclkfhdpkkakaaGreatDoorQ8
import Derived.ChangeMaps5
import Derived.ProofKit
namespace Go.Proofs.YtnclkfhdpkkakaaGreatDoor
set_option linter.unusedVariables false
set_option linter.unusedSimpArgs false
open Go Go.RowKit Go.Shelf Go.MapKept Go.ChangeMaps Go.Maps Go.Sort
theorem q_sameM {M : List (Bytes × Nd)} (h : (M.map (·.1)).Nodup) : sameM M M = true := by
 unfold sameM
 rw [decide_eq_true rfl, Bool.true_and]
 refine List.all_eq_true.2 fun x hx => decide_eq_true ?_
 obtain ⟨j, hj⟩ := List.getElem?_of_mem hx
 exact getA_of_at h hj
theorem q_sameT {root : Bytes} {at_ : Int} {M : List (Bytes × Nd)} (h : (M.map (·.1)).Nodup) : sameT root at_ M root at_ M = true := by
 unfold sameT
 rw [q_sameM h]
 simp
theorem mem_cell {w : World} {B : Nat} {cs : Array Value} {t : TypeId} {fr : Nat × Nat} (hb : w.heap[B]? = some (.cells cs t fr)) {j : Nat} {v : Value} (h : w.cell? ⟨B, j, none⟩ = some v) : v ∈ cs.toList := by
 rw [cell_of_row _ _ j _ t fr hb] at h
 exact List.mem_of_getElem? (by rw [Array.getElem?_toList]; exact h)
def Bare (cs : Array Value) : Prop := ∀ x ∈ cs.toList, (∀ n, x ≠ .int .u8 n) ∧ ∀ g, x ≠ .bool g
theorem LikeE.notB {w : World} {lo : Nat → Prop} {L : List RawE} {E : List Eff} (h : LikeE w lo L E) {B : Nat} {cs : Array Value} {t : TypeId} {fr : Nat × Nat} (hb : w.heap[B]? = some (.cells cs t fr)) (hu : Bare cs) : LikeE w (fun k => ¬ k = B) L E := ⟨h.1, fun k r e h1 h2 => by
 obtain ⟨g1, g2, g3⟩ := h.2 k r e h1 h2
 refine ⟨g1, g2, g3.num, g3.len, fun j c hj => ?_, g3.nil⟩
 obtain ⟨b, off, e1, _, e3, e4⟩ := g3.data j c hj
 refine ⟨b, off, e1, fun e => ?_, e3, e4⟩
 subst e
 exact (hu _ (mem_cell hb e4)).1 _ rfl⟩
theorem EffsAt.notB {w : World} {B0 : Nat} {a : Option Addr} {L : List RawE} (h : EffsAt w B0 a L) {B : Nat} {cs : Array Value} {t : TypeId} {fr : Nat × Nat} (hb : w.heap[B]? = some (.cells cs t fr)) (hu : Bare cs) (hl : 0 < L.length) : ∀ b off, a = some ⟨b, off, none⟩ → b ≠ B := fun b off e e2 => by
 obtain ⟨r, hr⟩ : ∃ r, L[0]? = some r := ⟨_, List.getElem?_eq_getElem hl⟩
 obtain ⟨b', off', e3, _, e4⟩ := h 0 r hr
 rw [e] at e3
 cases e3
 subst e2
 exact (hu _ (mem_cell hb (e4 1 _ rfl))).2 _ rfl
theorem EffsOut.set {w w' : World} {u : Value} {E : List Eff} (h : EffsOut w u E) {B : Nat} {cs : Array Value} {t : TypeId} {fr : Nat × Nat} (hb : w.heap[B]? = some (.cells cs t fr)) (hu : Bare cs) (hk : Kept (· = B) w w') : EffsOut w' u E := by
 obtain ⟨a, c, L, h1, h2, h3⟩ := h
 refine ⟨a, c, L, h1, fun k r hr => ?_, (((h3.notB hb hu).keptS hk (fun _ h => h)).both (fun _ _ _ => trivial))⟩
 have hne := h2.notB hb hu (by have := (List.getElem?_eq_some_iff.1 hr).1; omega)
 obtain ⟨b, off, e1, e2, e3⟩ := h2 k r hr
 exact ⟨b, off, e1, Nat.lt_of_lt_of_le e2 hk.size, fun j v hv => (hk.cell (p := ⟨b, off + k * 11 + j, none⟩) e2 (hne b off e1)).trans (e3 j v hv)⟩
theorem StrLo.monoB {w : World} {lo lo' : Nat → Prop} {a : Option Addr} {L : List Bytes} (h : StrLo w lo a L) (hl : ∀ k, lo k → k < w.heap.size → lo' k) : StrLo w lo' a L := h.mono hl
theorem RepsAt.monoQ {w : World} {lo lo' : Nat → Prop} {pa : Option Addr} {X : List Rep} (h : RepsAt w lo pa X) (hl : ∀ k, lo k → k < w.heap.size → lo' k) : RepsAt w lo' pa X := fun k x hx => by
 obtain ⟨g, off, r, h1, h2, h3, h4, h5⟩ := h k x hx
 exact ⟨g, off, r, h1, hl g h2 h3, h3, h4, h5.mono hl⟩
theorem ReplyAt.monoQ {w : World} {lo lo' : Nat → Prop} {u : Value} {x : Int} {A : Ans} {X : List Rep} (h : ReplyAt w lo u x A X) (hl : ∀ k, lo k → k < w.heap.size → lo' k) : ReplyAt w lo' u x A X := by
 obtain ⟨r, ka, kc, pa, pc, h1, h2, h3, h4⟩ := h
 exact ⟨r, ka, kc, pa, pc, h1, h2.monoB hl, h3.monoB hl, h4.monoQ hl⟩
theorem ReplyAt.below {w w' : World} {lo : Nat → Prop} {u : Value} {x : Int} {A : Ans} {X : List Rep} (h : ReplyAt w lo u x A X) (hb : Below w.heap.size w w') : ReplyAt w' lo u x A X := h.keptS (Kept.ofBelow (S := fun _ => False) hb) (fun _ _ _ h => h)
theorem ReplyAt.row {w : World} {lo : Nat → Prop} {u : Value} {x : Int} {A : Ans} {X : List Rep} (h : ReplyAt w lo u x A X) : ∃ cs : List Value, u = .agg cs.toArray ∧ cs.length = 13 ∧ (cs.toArray.all (·.oneCell') = true) := by
 obtain ⟨⟨ra, rn, rc, ⟨r1, r2, r3, r4, r5, r6, r7, r8⟩⟩, ka, kc, pa, pc, h1, _⟩ := h
 exact ⟨_, h1, rfl, by simp [repCells, Raw.cells, Nums.cells, Value.oneCell']⟩
def PlBox (w : World) (E : List Eff) (x : Int) (A : Ans) (X : List Rep) (v1 v2 : Value) (wc : World) : Prop := ∃ (B : Nat) (cs : List Value), v2 = .pointer (some ⟨B, 0, none⟩) ∧ cs.length = 13 ∧ EffsOut wc v1 E ∧ wc.heap[B]? = some (.cells cs.toArray 43 (0, 0)) ∧ ReplyAt wc (fun _ => True) (.agg cs.toArray) x A X ∧ Below w.heap.size w wc ∧ w.heap.size ≤ B
theorem bare_zero : Bare #[.int .i64 0, .string ⟨#[]⟩, .slice none 0 0, .int .u32 0, .int .u32 0, .int .u32 0, .int .i64 0, .int .u32 0, .int .u64 0, .int .u64 0, .int .u64 0, .slice none 0 0, .slice none 0 0] := by
 intro x hx
 simp only [List.mem_cons, List.not_mem_nil, or_false] at hx
 rcases hx with rfl | rfl | rfl | rfl | rfl | rfl | rfl | rfl | rfl | rfl | rfl | rfl | rfl <;> exact ⟨fun n e => (by cases e), fun g e => (by cases e)⟩
theorem pl_box {w w6 : World} {B : Nat} {lo : Nat → Prop} {u1 : Value} {cs : List Value} {E : List Eff} {x : Int} {A : Ans} {X : List Rep} (hb : Below w.heap.size w w6) (hB : w.heap.size ≤ B)
  (k6 : w6.heap[B]? = some (.cells #[.int .i64 0, .string ⟨#[]⟩, .slice none 0 0, .int .u32 0, .int .u32 0, .int .u32 0, .int .i64 0, .int .u32 0, .int .u64 0, .int .u64 0, .int .u64 0, .slice none 0 0, .slice none 0 0] 43 (0, 0)))
  (hE : EffsOut w6 u1 E) (hR : ReplyAt w6 lo (.agg cs.toArray) x A X) (hlo : ∀ k, lo k → k < w6.heap.size → k ≠ B) : PlBox w E x A X u1 (.pointer (some ⟨B, 0, none⟩)) (w6.setCells B 0 cs) := by
 have K : Kept (· = B) w6 (w6.setCells B 0 cs) := Kept.setCells (S := (· = B)) (p := B) rfl _ 0 (Kept.refl _ w6)
 obtain ⟨cs', h1, h2, _⟩ := hR.row
 have e : cs = cs' := by injection h1 with h1; exact List.toArray_inj h1
 subst e
 exact ⟨B, cs, rfl, h2, hE.set k6 bare_zero K, cells_set k6 (by rw [h2]; rfl), (hR.keptS K hlo).mono (fun _ _ => trivial), hb.trans (K.below hb.size (fun j e => by have e : j = B := e; omega)), hB⟩
theorem PlBox.below {wc w' : World} {B : Nat} {cs : List Value} {E : List Eff} {x : Int} {A : Ans} {X : List Rep} {v1 : Value} (h1 : EffsOut wc v1 E) (h2 : wc.heap[B]? = some (.cells cs.toArray 43 (0, 0))) (h3 : ReplyAt wc (fun _ => True) (.agg cs.toArray) x A X) (hb : Below wc.heap.size wc w') : EffsOut w' v1 E ∧ w'.heap[B]? = some (.cells cs.toArray 43 (0, 0)) ∧ ReplyAt w' (fun _ => True) (.agg cs.toArray) x A X :=
 ⟨h1.below hb, (hb.block B (lt_of_block h2)).trans h2, h3.below hb⟩
theorem bare_tree (s : ByteArray) (x : Int) (y : Option Addr) (m c : Nat) : Bare #[.string s, .int .u64 x, .slice y m c] := by
 intro x hx
 simp only [List.mem_cons, List.not_mem_nil, or_false] at hx
 rcases hx with rfl | rfl | rfl <;> exact ⟨fun n e => (by cases e), fun g e => (by cases e)⟩
theorem bare_map (s : ByteArray) (x : Int) (y : Option Nat) : Bare #[.string s, .int .u64 x, .map y] := by
 intro x hx
 simp only [List.mem_cons, List.not_mem_nil, or_false] at hx
 rcases hx with rfl | rfl | rfl <;> exact ⟨fun n e => (by cases e), fun g e => (by cases e)⟩
section
variable {w : World} {rb : Nat} {root : Bytes} {cnt : Int} {ao : Option Addr} {c0 : Nat} {R : List RawA} {M L : List (Bytes × Nd)}
theorem RefAt.other {Z : Nat → Prop} (T : RefAt w Z rb root cnt ao c0 R L) {b : Nat} {s : ByteArray} {x : Int} {y : Option Nat} {t : TypeId} (hb : w.heap[b]? = some (.cells #[.string s, .int .u64 x, .map y] t (0, 0))) (hne : b ≠ rb) {w' : World} (hk : Kept (· = b) w w') : RefAt w' Z rb root cnt ao c0 R L := by
 have key : ∀ {j : Nat} {v : Value}, w.cell? ⟨b, j, none⟩ = some v → j < 3 ∧ ∀ x, v ≠ .int .u8 x := fun {j v} h => by
  refine ⟨?_, (bare_map s x y _ (mem_cell hb h)).1⟩
  rw [cell_of_row _ _ j _ t (0, 0) hb] at h
  have := (Array.getElem?_eq_some_iff.1 h).1
  simpa using this
 have hat : AtsAt w w.heap.size (fun j => Z j ∨ j = b) ao R := fun k r hr => by
  obtain ⟨b2, off, e, hz, hb2, hc⟩ := T.at_ k r hr
  refine ⟨b2, off, e, fun h => h.elim hz (fun e2 => ?_), hb2, hc⟩
  subst e2
  have h9 : r.cells[9]? = some (.int .u64 r.node.num.tch) := rfl
  have := (key (hc 9 _ h9)).1
  omega
 have hl : LikeA w (fun j => Z j ∨ j = b) R L := ⟨T.like.1, fun k r x h1 h2 => by
  obtain ⟨g1, g2⟩ := T.like.2 k r x h1 h2
  refine ⟨g1, g2.num, g2.len, fun j c hj => ?_, g2.nil⟩
  obtain ⟨b2, off, e, hz, hb2, hc⟩ := g2.data j c hj
  refine ⟨b2, off, e, fun h => h.elim hz (fun e2 => ?_), hb2, hc⟩
  subst e2
  exact (key hc).2 _ rfl⟩
 have T2 : RefAt w (fun j => Z j ∨ j = b) rb root cnt ao c0 R L := ⟨T.blk, hat, hl, T.cap⟩
 have T3 := T2.kept hk (fun j h => .inr h) (fun e => hne (show rb = b from e).symm)
 exact T3.rezS (fun j _ h => .inl h)
theorem RefAt.apply_do (T : RefAt w (fun j => j = rb) rb root cnt ao c0 R L) (H : Rel M L) (I : Inv root M) (F : Fit M) (hrl : root.length ≤ 1000) (h0 : 0 ≤ cnt) (h1 : cnt ≤ 90000) {wI : World} {r : RawO} {o : OpV} {ce : Int} (hin : OpIn wI r o ce) {who : Sess} {a : Option Addr} {n c : Nat} (hu : EffsOut w (.slice a n c) (doX root M cnt who ce o)) (hne : doX root M cnt who ce o ≠ []) :
  Calls Tryz.prog 34 #[.pointer (some ⟨rb, 0, none⟩), .slice a n c] w fun e w' => e = .returned (.int .i64 0) ∧ (∃ ao' c' R' L', RefAt w' (fun j => j = rb) rb root (cnt + 1) ao' c' R' L' ∧ Rel (doM root M cnt who ce o) L') ∧ Kept (· = rb) w w' := by
 obtain ⟨xa, xc, XL, e, hA, hL⟩ := hu
 cases e
 have hfit := do_fits (at_ := cnt) (who := who) (ce := ce) (o := o) I
 have hlen := hin.xlen root M cnt who
 have hl : XL.length = (doX root M cnt who ce o).length := hL.1
 have hpos : 0 < XL.length := by rw [hl]; exact List.length_pos_iff.2 hne
 have hbare := bare_tree (bs root) cnt ao R.length c0
 have hap := T.apply H I F hrl h0 (by omega) a c XL (doX root M cnt who ce o) (hL.notB T.blk hbare) hA (Nat.le_refl _) (hA.notB T.blk hbare hpos) (do_fitE F I (fun h0 => (hin.fine h0).1)) (by omega) (fun k hk e => by have := T.lt; have e : k = rb := e; omega) rfl _ hl.symm
 refine hap.mono ?_
 rintro e w' ⟨rfl, h4, K4⟩
 obtain ⟨_, ha, hn⟩ := atA_yes (at_ := cnt) hfit
 rw [ha, hn] at h4
 rw [hfit]
 exact ⟨rfl, h4, K4⟩
theorem St.ref {w0 : World} {b : Nat} {root2 : Bytes} {at_ : Int} {M2 : List (Bytes × Nd)} (S : St w0 w b root2 at_ M2) (T : RefAt w (fun j => j = rb) rb root cnt ao c0 R L) (h0 : w0.heap.size ≤ rb) {w' : World} (hk : Kept (· = rb) w w') : St w0 w' b root2 at_ M2 :=
 ⟨S.tr.set T.blk (fun x hx n => (bare_tree (bs root) cnt ao R.length c0 x hx).1 n) (by decide) h0 hk, S.inv, S.nice, S.tab, S.lo⟩
theorem St.blk {w0 : World} {b : Nat} {at_ : Int} (S : St w0 w b root at_ M) : ∃ mb, w.heap[b]? = some (.cells #[.string (bs root), .int .u64 at_, .map (some mb)] 86 (0, 0)) := by
 obtain ⟨lo, mb, T⟩ := S.tr.tree
 exact ⟨mb, T.blk⟩
end
end Go.Proofs.YtnclkfhdpkkakaaGreatDoor
namespace Go.Proofs.YtnclkfhdpkkakaaGreatDoor
set_option linter.unusedVariables false
set_option linter.unusedSimpArgs false
open Go Go.RowKit Go.Shelf Go.MapKept Go.ChangeMaps Go.Maps Go.Sort
theorem q_anskids (root : Bytes) (M : List (Bytes × Nd)) (at_ : Int) (who : Sess) (o : Opl) : (opR root M at_ who o).a.kids.length ≤ M.length := by
 unfold opR
 split
 ·exact Nat.zero_le _
 ·unfold opA
  have hk : (kidsS root M o.path).length ≤ M.length := by
   have h1 : (kidsS root M o.path).length = (((keysS M).filter (kidB root o.path)).map baseL).length := (sortS_perm _).length_eq
   have h2 := kids_len root M o.path
   omega
  dsimp only
  split
  ·exact Nat.zero_le _
  ·split
   ·exact Nat.zero_le _
   ·split
    ·exact Nat.zero_le _
    ·split
     ·exact hk
     ·exact Nat.zero_le _
theorem q_rlen {root : Bytes} {at_ : Int} {who : Sess} : ∀ (l : List Opl) (M : List (Bytes × Nd)), (runR root at_ who M l).length ≤ l.length
 | [], M => Nat.le_refl _
 | o :: l, M => by
  unfold runR
  rw [List.length_cons, List.length_cons]
  split
  ·have := q_rlen (root := root) (at_ := at_) (who := who) l (opM root M at_ who o)
   omega
  ·simp
theorem q_rkids {root : Bytes} {at_ : Int} {who : Sess} : ∀ (l : List Opl) {M : List (Bytes × Nd)}, Fit M → Inv root M → (∀ o ∈ l, Leafy o) → ∀ y ∈ runR root at_ who M l, y.a.kids.length ≤ 1000
 | [], M, F, I, hl => fun y hy => by simp [runR] at hy
 | o :: l, M, F, I, hl => fun y hy => by
  unfold runR at hy
  rcases List.mem_cons.1 hy with rfl | hy
  ·have h1 := q_anskids root M at_ who o
   have h2 := F.len
   omega
  ·split at hy
   ·exact q_rkids l (F.op I (hl o List.mem_cons_self)) (I.op o) (fun p hp => hl p (List.mem_cons_of_mem _ hp)) y hy
   ·simp at hy
theorem AskOk.qchk {w w' : World} {x : AskRaw} (h : AskOk w x) (hb : Below w.heap.size w w') : Calls Tryz.prog 32 #[x.r.val] w' (CheckIs w' x.ce) := by
 obtain ⟨n, hn⟩ := h.ops
 exact q5check_any w' x.r (x.Q.map RawO.info) (by rw [List.length_map]; exact h.pn) ((hn.chk.below hb).parts) h.ok.dn
theorem EffsOut.row {w : World} {u : Value} {E : List Eff} (h : EffsOut w u E) : ∃ a c, u = .slice a E.length c := by
 obtain ⟨a, c, _, h1, _⟩ := h
 exact ⟨a, c, h1⟩
def DoEndP (wr : World) (E : List Eff) (x : Int) (A : Ans) (X : List Rep) (W : World) (e : Ending) (w' : World) : Prop := ∃ (u1 : Value) (cs : List Value), e = .returned (.tuple #[u1, .agg cs.toArray]) ∧ cs.length = 13 ∧ (cs.toArray.all (·.oneCell') = true) ∧ EffsOut w' u1 E ∧ ReplyAt w' (fun k => k < wr.heap.size ∨ W.heap.size ≤ k) (.agg cs.toArray) x A X ∧ Below W.heap.size W w'
structure PlC (w wr : World) (b rb : Nat) (root : Bytes) (x : AskRaw) (at_ : Int) (M M' : List (Bytes × Nd)) (E : List Eff) (e0 : Int) (A : Ans) (X : List Rep) (ce : Int) : Prop where
 do_ : ∀ W, Below wr.heap.size wr W → Calls Tryz.prog 14 #[.pointer (some ⟨b, 0, none⟩), x.r.val, whoV x.who] W (DoEndP wr E e0 A X W)
 qdo : ∀ W, Below wr.heap.size wr W → Calls Tryz.prog 30 #[.pointer (some ⟨rb, 0, none⟩), x.r.val, whoV x.who] W (DoEndP wr E e0 A X W)
 chk : ∀ W, Below wr.heap.size wr W → Calls Tryz.prog 22 #[x.r.val] W (CheckIs W ce)
 qchk : ∀ W, Below wr.heap.size wr W → Calls Tryz.prog 32 #[x.r.val] W (CheckIs W ce)
 effs : ∀ W u1 u2, EffsOut W u1 E → EffsOut W u2 E → Calls Tryz.prog 33 #[u1, u2] W fun e w' => e = .returned (.bool true) ∧ Below W.heap.size W w'
 rep : ∀ W u1 u2, ReplyAt W (fun _ => True) u1 e0 A X → ReplyAt W (fun _ => True) u2 e0 A X → Calls Tryz.prog 15 #[u1, u2] W fun e w' => e = .returned (.bool true) ∧ Below W.heap.size W w'
 app : ∀ W a n c, St w W b root at_ M → EffsOut W (.slice a n c) E → E ≠ [] → Calls Tryz.prog 18 #[.pointer (some ⟨b, 0, none⟩), .slice a n c] W fun e w' => e = .returned (.int .i64 0) ∧ St w w' b root (at_ + 1) M' ∧ Kept (· = b) W w'
 rapp : ∀ W a n c ao c0 R L, RefAt W (fun j => j = rb) rb root at_ ao c0 R L → Rel M L → EffsOut W (.slice a n c) E → E ≠ [] → Calls Tryz.prog 34 #[.pointer (some ⟨rb, 0, none⟩), .slice a n c] W fun e w' => e = .returned (.int .i64 0) ∧ (∃ ao' c' R' L', RefAt w' (fun j => j = rb) rb root (at_ + 1) ao' c' R' L' ∧ Rel M' L') ∧ Kept (· = rb) W w'
theorem pl_c {w wr : World} {b rb : Nat} {root : Bytes} {x : AskRaw} {at_ : Int} {M L : List (Bytes × Nd)} {ao : Option Addr} {c0 : Nat} {R : List RawA} (S : St w wr b root at_ M) (T : RefAt wr (fun j => j = rb) rb root at_ ao c0 R L) (H : Rel M L) (hrl : root.length ≤ 1000) (h1 : at_ ≤ 90000) (hok : AskOk wr x) (hg : askGreat x = false) :
  ∃ M' E e0 A X ce, PlC w wr b rb root x at_ M M' E e0 A X ce ∧ E.length ≤ 12 ∧ (E = [] → M' = M) := by
 have hin := hok.opIn hg
 refine ⟨doM root M at_ x.who x.ce x.v, doX root M at_ x.who x.ce x.v, doE root M at_ x.who x.ce x.v, doA root M at_ x.who x.ce x.v, doR root M at_ x.who x.ce x.v, x.ce, ⟨fun W hW => ?_, fun W hW => ?_, fun W hW => hin.chk W hW, fun W hW => hok.qchk hW, fun W u1 u2 g1 g2 => ?_, fun W u1 u2 g1 g2 => ?_, fun W a n c SW hu hne => SW.apply_do h1 hin hu hne, fun W a n c ao c0 R L TW HW hu hne => TW.apply_do HW S.inv S.tr.fit hrl S.lo h1 hin hu hne⟩, hin.xlen root M at_ x.who, fun h => doM_same S.inv h⟩
 ·refine ((S.below hW).do_op h1 (hin.below hW) x.who).mono ?_
  rintro e w' ⟨u1, u2, rfl, g1, g2, g3⟩
  obtain ⟨cs, rfl, g4, g5⟩ := g2.row
  exact ⟨u1, cs, rfl, g4, g5, g1, g2.mono (fun k h => .inr h), g3⟩
 ·refine (T.q5do hW H S.inv S.tr.fit S.nice hrl S.lo (by omega) hin x.who (fun w' hb => hok.qchk (hW.trans (hb.mono hW.size)))).mono ?_
  rintro e w' ⟨u1, u2, rfl, g1, g2, g3⟩
  obtain ⟨cs, rfl, g4, g5⟩ := g2.row
  exact ⟨u1, cs, rfl, g4, g5, g1.out, g2, g3⟩
 ·exact q5effs_same g1 g2 (Nat.le_trans (hin.xlen root M at_ x.who) (by decide))
 ·refine reply_same g1 g2 ?_ ?_ ?_
  ·unfold doA
   split
   ·have h2 := q_anskids root M (at_ + 1) x.who x.v.leaf
    have h3 := S.tr.fit.len
    omega
   ·exact Nat.zero_le _
  ·unfold doR
   split
   ·rename_i hc
    have h2 := q_rlen (root := root) (at_ := at_ + 1) (who := x.who) x.v.parts M
    rcases hin.good hc.1 with h3 | h3
    ·exact absurd hc.2 h3.1
    ·have := h3.2.2.1
     omega
   ·exact Nat.zero_le _
  ·unfold doR
   split
   ·rename_i hc
    rcases hin.good hc.1 with h3 | h3
    ·exact absurd hc.2 h3.1
    ·exact q_rkids x.v.parts S.tr.fit S.inv (q_leafy h3.2.2.2)
   ·intro y hy
    simp at hy
theorem pl_same {w w2 W : World} {b b2 : Nat} {root : Bytes} {at_ : Int} {M : List (Bytes × Nd)} (S : St w W b root at_ M) (R2 : TR w w2 b2 root at_ M) (hb : Below w2.heap.size w2 W) : Calls Tryz.prog 31 #[.pointer (some ⟨b2, 0, none⟩), .pointer (some ⟨b, 0, none⟩)] W fun e w' => e = .returned (.bool true) ∧ Below W.heap.size W w' := by
 have h := (R2.below hb).same S.tr
 rw [q_sameT S.inv.nodup] at h
 exact h
theorem PlBox.bl {w : World} {E : List Eff} {x : Int} {A : Ans} {X : List Rep} {v1 v2 : Value} {wc : World} (h : PlBox w E x A X v1 v2 wc) : Below w.heap.size w wc := by
 obtain ⟨_, _, _, _, _, _, _, h, _⟩ := h
 exact h
end Go.Proofs.YtnclkfhdpkkakaaGreatDoor
namespace Go.Proofs.YtnclkfhdpkkakaaGreatDoor
set_option linter.unusedVariables false
set_option linter.unusedSimpArgs false
open Go Go.RowKit Go.Shelf Go.MapKept Go.ChangeMaps Go.Maps Go.Sort
def PlSt (w : World) (b rb : Nat) (root : Bytes) (i : Nat) (wr : World) : Prop := ∃ (at_ : Int) (M L : List (Bytes × Nd)) (ao : Option Addr) (c : Nat) (R : List RawA), St w wr b root at_ M ∧ RefAt wr (fun j => j = rb) rb root at_ ao c R L ∧ Rel M L ∧ at_ ≤ i
set_option maxRecDepth 100000 in
set_option maxHeartbeats 32000000 in
theorem opPlays_core (w : World) (hm : MaxInt w) (PT : PowTab w) (root : Bytes) (ao : Option Addr) (c : Nat) (L : List AskRaw) (hat : AsksAt w ao L) (hl : L.length ≤ maxLen) :
  Calls Tryz.prog 11 #[.string (bs root), .slice ao L.length c] w fun e w' => e = .returned (.bool true) ∧ Below w.heap.size w w' := by
 have HGR := Lib.hid (asks_great w ao c L hat hl)
 obtain ⟨G, hG⟩ : ∃ G, G = greatL L := ⟨_, rfl⟩
 rw [← hG] at HGR
 obtain ⟨N, hN⟩ : ∃ N, N = L.length := ⟨_, rfl⟩
 rw [← hN] at HGR hl ⊢
 have HIN := Lib.hid (And.intro hat (And.intro hN (And.intro hG (And.intro hm PT))))
 clear hat hN hG hm PT
 by_cases hg : G = true
 ·subst hg
  go_enter Tryz.func11, Tryz.ntmps11
  go_wp2_with fail
  refine HGR.out.mono ?_
  rintro e wz ⟨rfl, Bz⟩
  have HBZ := Lib.hid Bz
  clear Bz
  go_wp2
  go_ret
  exact ⟨rfl, HBZ.out⟩
 obtain rfl : G = false := by simpa using hg
 clear hg
 by_cases hr : 200 < root.length
 ·have t1 : decide ((200 : Int) < ((bs root).size : Int)) = true := by rw [size_bs]; simp; omega
  clear hr
  go_enter Tryz.func11, Tryz.ntmps11
  go_wp2_with fail
  refine HGR.out.mono ?_
  rintro e wz ⟨rfl, Bz⟩
  have HBZ := Lib.hid Bz
  clear Bz
  go_wp2
  go_ret
  exact ⟨rfl, HBZ.out⟩
 have t1 : decide ((200 : Int) < ((bs root).size : Int)) = false := by rw [size_bs]; simp; omega
 have hrl : root.length ≤ 1000 := by omega
 obtain ⟨ok, hok⟩ : ∃ ok, ok = (partsL root).isSome := ⟨_, rfl⟩
 cases ok with
 | false =>
  have HRN := Lib.hid (fun W => rfNew_any root hrl W Nothing (fun _ _ h => h.elim))
  rw [← hok] at HRN
  have HOK := Lib.hid hok.symm
  clear hok
  go_enter Tryz.func11, Tryz.ntmps11
  go_wp2_with fail
  refine HGR.out.mono ?_
  rintro e wz ⟨rfl, Bz⟩
  have HBZ := Lib.hid Bz
  clear Bz
  go_wp2_with fail
  refine (new_no root wz (HIN.out.2.2.2.1.kept HBZ.out) hrl HOK.out).mono ?_
  rintro e w2 ⟨rfl, B2⟩
  have HB2 := Lib.hid (HBZ.out.trans (B2.mono HBZ.out.size))
  clear B2
  go_wp2_with fail
  refine (HRN.out w2).mono ?_
  rintro e w3 ⟨rb, ao3, c3, R3, rfl, _, _, B3⟩
  have HB3 := Lib.hid (HB2.out.trans (B3.mono HB2.out.size))
  clear B3
  go_wp2_with fail
  refine (works_any w3 (HIN.out.2.2.2.1.kept HB3.out) (tab_below HIN.out.2.2.2.2 HB3.out)).mono ?_
  rintro e w4 ⟨rfl, B4⟩
  have HB4 := Lib.hid (HB3.out.trans (B4.mono HB3.out.size))
  clear B4
  go_wp2
  go_ret
  exact ⟨rfl, HB4.out⟩
 | true =>
  have HRN := Lib.hid (fun W => rfNew_any root hrl W Nothing (fun _ _ h => h.elim))
  rw [← hok] at HRN
  have HOK := Lib.hid hok.symm
  clear hok
  go_enter Tryz.func11, Tryz.ntmps11
  go_wp2_with fail
  refine HGR.out.mono ?_
  rintro e wz ⟨rfl, Bz⟩
  have HBZ := Lib.hid Bz
  clear Bz
  go_wp2_with fail
  refine (TR.new HBZ.out HIN.out.2.2.2.1 hrl HOK.out).mono ?_
  rintro e w2 ⟨b, rfl, R2, hb2, B2⟩
  have hbl2 := R2.lt
  have HS2 := Lib.hid (St.made R2 HOK.out HIN.out.2.2.2.2)
  clear R2 B2
  go_wp2_with fail
  refine (HRN.out w2).mono ?_
  rintro e w3 ⟨rb, ao3, c3, R3, rfl, T3, hrb, B3⟩
  have hbrb : b ≠ rb := by omega
  have HS0 : Hid (PlSt w b rb root 0 w3) := Lib.hid ⟨0, _, _, _, _, _, HS2.out.below B3, T3.rez (fun k _ h => h), ⟨by simp, fun q => rfl⟩, Int.le_refl _⟩
  have HBR := Lib.hid (And.intro hbrb (Nat.le_trans HS2.out.tr.bl.size hrb))
  clear T3 B3 HGR HRN hb2 hbl2 hrb hbrb HS2
  go_wp2_with fail
  go_loopw [9] (fun ci wr => ∃ i : Nat, i ≤ N ∧ ci = .int .i64 i ∧ Hid (PlSt w b rb root i wr)) (fun ci _ => N - (intOf ci).toNat)
  case atStart => exact ⟨0, Nat.zero_le _, rfl, HS0⟩
  case round =>
   obtain ⟨i, hi, rfl, HS⟩ := hrel
   by_cases hlt : i < N
   ·obtain ⟨at_, M, L', ar, cr, Rr, S, T, HRel, h1⟩ := HS.out
    have tlt : decide ((i : Int) < (N : Int)) = true := by simp; omega
    obtain ⟨x, hx⟩ : ∃ x, L[i]? = some x := ⟨_, List.getElem?_eq_getElem (by rw [← HIN.out.2.1]; exact hlt)⟩
    obtain ⟨bo, off, hao, hbo, hrg, hok⟩ := HIN.out.1 i x hx
    subst hao
    obtain ⟨hg60, hgx⟩ := great_not HIN.out.2.2.1.symm
    have hN60 : N ≤ 60 := by rw [HIN.out.2.1]; exact hg60
    have h90 : at_ ≤ 90000 := by omega
    obtain ⟨M', E, e0, A, X, ce, C, hE12, hEn⟩ := pl_c S T HRel hrl h90 (hok.below S.tr.bl) (hgx x (List.mem_of_getElem? hx))
    have hrw : ∀ w', Below wr.heap.size wr w' → w'.rangeAt bo (off + i * 9) x.r.cells ∧ w'.rangeAt bo (off + i * 9 + 7) [.int .i64 x.who.site, .int .u32 x.who.n] := fun w' hb => ask_cells (range_kept hrg (S.tr.bl.trans (hb.mono S.tr.bl.size)) hbo)
    obtain ⟨⟨ok, op, oa, on, oc, ov, os, oe, qa, qn, qc⟩, xo, xQ, xps, ⟨s, sn⟩⟩ := x
    have hdo := C.do_
    have hqd := C.qdo
    have hck := C.chk
    have hqc := C.qchk
    unfold RawO.val RawO.cells whoV at hdo hqd
    unfold RawO.val RawO.cells at hck hqc
    unfold RawO.cells at hrw
    dsimp only at hdo hqd hck hqc hrw
    have HDO := Lib.hid hdo
    have HQD := Lib.hid hqd
    have HCK := Lib.hid hck
    have HQC := Lib.hid hqc
    have HRG : Hid (∀ w', Below wr.heap.size wr w' → w'.rangeAt bo (off + i * 9) [.int .u8 ok, .string (bs op), .slice oa on oc, .int .i64 ov, .bool os, .bool oe, .slice qa qn qc] ∧ w'.rangeAt bo (off + i * 9 + 7) [.int .i64 s, .int .u32 sn]) := Lib.hid hrw
    have HC := Lib.hid (And.intro C hEn)
    have HST := Lib.hid (And.intro S (And.intro T (And.intro HRel h1)))
    have HSO : Hid ((Tryz.prog.info? 26).map (·.size) = some 7) := Lib.hid (by kernel_rfl)
    have HSS : Hid ((Tryz.prog.info? 29).map (·.size) = some 2) := Lib.hid (by kernel_rfl)
    have HSR : Hid ((Tryz.prog.info? 43).map (·.size) = some 13) := Lib.hid infoReply13
    clear hdo hqd hck hqc hrw C hEn S T HRel h1 hx hbo hrg hok hg60 hgx h90 HS
    go_wp2_with fail
    refine HST.out.1.tr.clone.mono ?_
    rintro e w2 ⟨b2, rfl, R2, hb2, B2⟩
    have HR2 := Lib.hid R2
    have HB2 := Lib.hid B2
    clear R2 B2 hb2
    go_wp2_with fail
    go_cut [11, 12] (fun lv pv wc => PlBox w2 E e0 A X lv pv wc)
    case first =>
     refine rB fun wd hS => ?_
     refine tI 0 rfl hS ?_
     refine tI 1 rfl hS ?_
     refine tI 2 rfl hS ?_
     refine tI 3 rfl hS ?_
     simp only [putS]
     refine tI 4 rfl hS ?_
     refine tL 5 rfl hS 26 (.tmp 58) bo (off + i * 9) [.int .u8 ok, .string (bs op), .slice oa on oc, .int .i64 ov, .bool os, .bool oe, .slice qa qn qc] (fun w' h => (HRG.out w' (HB2.out.trans (h.mono HB2.out.size))).1) Tryz.underlying26 HSO.out ?_
     refine tI 6 rfl hS ?_
     refine tI 7 rfl hS ?_
     simp only [putS]
     refine tI 8 rfl hS ?_
     refine tI 9 rfl hS ?_
     refine tL 10 rfl hS 29 (.tmp 63) bo (off + i * 9 + 7) [.int .i64 s, .int .u32 sn] (fun w' h => (HRG.out w' (HB2.out.trans (h.mono HB2.out.size))).2) Tryz.underlying29 HSS.out ?_
     simp only [putS]
     refine call_or 11 15 rfl rfl (by kernel_rfl) (by rfl) (by rfl) _ _ (by go_simp <;> first | rfl | exact ⟨rfl, rfl⟩) (.pointer (some ⟨wd.heap.size, 0, none⟩)) (wd.alloc (.cells #[.int .i64 0, .string ⟨#[]⟩, .slice none 0 0, .int .u32 0, .int .u32 0, .int .u32 0, .int .i64 0, .int .u32 0, .int .u64 0, .int .u64 0, .int .u64 0, .slice none 0 0, .slice none 0 0] 43)) (by go_simp <;> first | rfl | exact ⟨rfl, rfl⟩) ?_ (hS.alloc hS.size _) ?_
     ·refine (HDO.out _ (HB2.out.trans (hS.mono HB2.out.size))).mono ?_
      rintro e w6 ⟨u1, cs, rfl, hcl, hco, hE, hR, bd⟩
      have B6 := hS.trans (bd.mono hS.size)
      refine ⟨B6, ?_⟩
      try dsimp only
      simp only [putS]
      refine tI 12 rfl B6 ?_
      refine tI 13 rfl B6 ?_
      refine tI 14 rfl B6 ?_
      simp only [putS]
      have B7 := B6.alloc B6.size (.cells #[.int .i64 0, .string ⟨#[]⟩, .slice none 0 0, .int .u32 0, .int .u32 0, .int .u32 0, .int .i64 0, .int .u32 0, .int .u64 0, .int .u64 0, .int .u64 0, .slice none 0 0, .slice none 0 0] 43)
      refine gI 15 rfl (.pointer (some ⟨w6.heap.size, 0, none⟩)) (w6.alloc (.cells #[.int .i64 0, .string ⟨#[]⟩, .slice none 0 0, .int .u32 0, .int .u32 0, .int .u32 0, .int .i64 0, .int .u32 0, .int .u64 0, .int .u64 0, .int .u64 0, .slice none 0 0, .slice none 0 0] 43)) B7 ?_
      simp only [putS]
      refine tI 16 rfl B7 ?_
      simp only [putS]
      have k7 := heap_alloc_new w6 (.cells #[.int .i64 0, .string ⟨#[]⟩, .slice none 0 0, .int .u32 0, .int .u32 0, .int .u32 0, .int .i64 0, .int .u32 0, .int .u64 0, .int .u64 0, .int .u64 0, .slice none 0 0, .slice none 0 0] 43)
      have ht : (w6.alloc (.cells #[.int .i64 0, .string ⟨#[]⟩, .slice none 0 0, .int .u32 0, .int .u32 0, .int .u32 0, .int .i64 0, .int .u32 0, .int .u64 0, .int .u64 0, .int .u64 0, .slice none 0 0, .slice none 0 0] 43)).there w6.heap.size 0 13 := there_of k7 (by simp)
      have hpb := pl_box (w := w2) B7 B6.size k7 (hE.below (belowA (Below.refl _ w6) (.cells #[.int .i64 0, .string ⟨#[]⟩, .slice none 0 0, .int .u32 0, .int .u32 0, .int .u32 0, .int .i64 0, .int .u32 0, .int .u64 0, .int .u64 0, .int .u64 0, .slice none 0 0, .slice none 0 0] 43))) ((hR.monoQ (lo' := fun k => k < w6.heap.size) (fun _ _ h => h)).below (belowA (Below.refl _ w6) (.cells #[.int .i64 0, .string ⟨#[]⟩, .slice none 0 0, .int .u32 0, .int .u32 0, .int .u32 0, .int .i64 0, .int .u32 0, .int .u64 0, .int .u64 0, .int .u64 0, .slice none 0 0, .slice none 0 0] 43))) (fun k h _ => Nat.ne_of_lt h)
      have hsz : cs.toArray.size = 13 := by simpa using hcl
      refine sI 17 rfl 43 (.tmp 12) (.tmp 67) w6.heap.size 0 cs.toArray (by rw [hsz]; exact ht) (by rw [hsz]; exact HSR.out) hco hpb.bl ?_
      simp only [putS]
      refine wpAnyH_done (by kernel_rfl) ?_ _
      go_wp2_with fail
      go_meet
      case rel => exact hpb
     ·skip
      simp only [putS]
      have b0 := hS.alloc hS.size (.cells #[.int .i64 0, .string ⟨#[]⟩, .slice none 0 0, .int .u32 0, .int .u32 0, .int .u32 0, .int .i64 0, .int .u32 0, .int .u64 0, .int .u64 0, .int .u64 0, .slice none 0 0, .slice none 0 0] 43)
      refine cI 11 rfl ?_
      refine (HDO.out _ (HB2.out.trans (b0.mono HB2.out.size))).mono ?_
      rintro e w6 ⟨u1, cs, rfl, hcl, hco, hE, hR, bd⟩
      have B6 := b0.trans (bd.mono b0.size)
      refine ⟨B6, ?_⟩
      try dsimp only
      simp only [putS]
      refine tI 12 rfl B6 ?_
      refine tI 13 rfl B6 ?_
      refine tI 14 rfl B6 ?_
      refine tI 16 rfl B6 ?_
      simp only [putS]
      have k7 := (bd.block wd.heap.size (by simp)).trans (heap_alloc_new wd (.cells #[.int .i64 0, .string ⟨#[]⟩, .slice none 0 0, .int .u32 0, .int .u32 0, .int .u32 0, .int .i64 0, .int .u32 0, .int .u64 0, .int .u64 0, .int .u64 0, .slice none 0 0, .slice none 0 0] 43))
      have ht : w6.there wd.heap.size 0 13 := there_of k7 (by simp)
      have hpb := pl_box (w := w2) B6 hS.size k7 hE hR (fun k h _ e => by
       have h1 := HB2.out.size
       have h2 := hS.size
       rw [World.size_alloc] at h
       omega)
      have hsz : cs.toArray.size = 13 := by simpa using hcl
      refine sI 17 rfl 43 (.tmp 12) (.tmp 67) wd.heap.size 0 cs.toArray (by rw [hsz]; exact ht) (by rw [hsz]; exact HSR.out) hco hpb.bl ?_
      simp only [putS]
      refine wpAnyH_done (by kernel_rfl) ?_ _
      go_wp2_with fail
      go_meet
      case rel => exact hpb
    case rest =>
    obtain ⟨B3, cs3, rfl, h3l, h3e, h3k, h3r, h3b, h3s⟩ := hcut
    obtain ⟨aB3, cB3, rfl⟩ := h3e.row
    obtain ⟨w3, hw3⟩ : ∃ w3, w3 = wc := ⟨_, rfl⟩
    subst hw3
    have HB3 := Lib.hid (HB2.out.trans (h3b.mono HB2.out.size))
    have H3 := Lib.hid (And.intro h3l (And.intro h3e (And.intro h3k (And.intro h3r h3b))))
    clear h3l h3e h3k h3r h3b h3s
    go_wp2_with fail
    go_cut [13, 14] (fun lv pv wc => PlBox w3 E e0 A X lv pv wc)
    case first =>
     refine rB fun wd hS => ?_
     refine tI 0 rfl hS ?_
     refine tI 1 rfl hS ?_
     refine tI 2 rfl hS ?_
     refine tI 3 rfl hS ?_
     simp only [putS]
     refine tI 4 rfl hS ?_
     refine tL 5 rfl hS 26 (.tmp 73) bo (off + i * 9) [.int .u8 ok, .string (bs op), .slice oa on oc, .int .i64 ov, .bool os, .bool oe, .slice qa qn qc] (fun w' h => (HRG.out w' (HB3.out.trans (h.mono HB3.out.size))).1) Tryz.underlying26 HSO.out ?_
     refine tI 6 rfl hS ?_
     refine tI 7 rfl hS ?_
     simp only [putS]
     refine tI 8 rfl hS ?_
     refine tI 9 rfl hS ?_
     refine tL 10 rfl hS 29 (.tmp 78) bo (off + i * 9 + 7) [.int .i64 s, .int .u32 sn] (fun w' h => (HRG.out w' (HB3.out.trans (h.mono HB3.out.size))).2) Tryz.underlying29 HSS.out ?_
     simp only [putS]
     refine call_or 11 15 rfl rfl (by kernel_rfl) (by rfl) (by rfl) _ _ (by go_simp <;> first | rfl | exact ⟨rfl, rfl⟩) (.pointer (some ⟨wd.heap.size, 0, none⟩)) (wd.alloc (.cells #[.int .i64 0, .string ⟨#[]⟩, .slice none 0 0, .int .u32 0, .int .u32 0, .int .u32 0, .int .i64 0, .int .u32 0, .int .u64 0, .int .u64 0, .int .u64 0, .slice none 0 0, .slice none 0 0] 43)) (by go_simp <;> first | rfl | exact ⟨rfl, rfl⟩) ?_ (hS.alloc hS.size _) ?_
     ·refine (HQD.out _ (HB3.out.trans (hS.mono HB3.out.size))).mono ?_
      rintro e w6 ⟨u1, cs, rfl, hcl, hco, hE, hR, bd⟩
      have B6 := hS.trans (bd.mono hS.size)
      refine ⟨B6, ?_⟩
      try dsimp only
      simp only [putS]
      refine tI 12 rfl B6 ?_
      refine tI 13 rfl B6 ?_
      refine tI 14 rfl B6 ?_
      simp only [putS]
      have B7 := B6.alloc B6.size (.cells #[.int .i64 0, .string ⟨#[]⟩, .slice none 0 0, .int .u32 0, .int .u32 0, .int .u32 0, .int .i64 0, .int .u32 0, .int .u64 0, .int .u64 0, .int .u64 0, .slice none 0 0, .slice none 0 0] 43)
      refine gI 15 rfl (.pointer (some ⟨w6.heap.size, 0, none⟩)) (w6.alloc (.cells #[.int .i64 0, .string ⟨#[]⟩, .slice none 0 0, .int .u32 0, .int .u32 0, .int .u32 0, .int .i64 0, .int .u32 0, .int .u64 0, .int .u64 0, .int .u64 0, .slice none 0 0, .slice none 0 0] 43)) B7 ?_
      simp only [putS]
      refine tI 16 rfl B7 ?_
      simp only [putS]
      have k7 := heap_alloc_new w6 (.cells #[.int .i64 0, .string ⟨#[]⟩, .slice none 0 0, .int .u32 0, .int .u32 0, .int .u32 0, .int .i64 0, .int .u32 0, .int .u64 0, .int .u64 0, .int .u64 0, .slice none 0 0, .slice none 0 0] 43)
      have ht : (w6.alloc (.cells #[.int .i64 0, .string ⟨#[]⟩, .slice none 0 0, .int .u32 0, .int .u32 0, .int .u32 0, .int .i64 0, .int .u32 0, .int .u64 0, .int .u64 0, .int .u64 0, .slice none 0 0, .slice none 0 0] 43)).there w6.heap.size 0 13 := there_of k7 (by simp)
      have hpb := pl_box (w := w3) B7 B6.size k7 (hE.below (belowA (Below.refl _ w6) (.cells #[.int .i64 0, .string ⟨#[]⟩, .slice none 0 0, .int .u32 0, .int .u32 0, .int .u32 0, .int .i64 0, .int .u32 0, .int .u64 0, .int .u64 0, .int .u64 0, .slice none 0 0, .slice none 0 0] 43))) ((hR.monoQ (lo' := fun k => k < w6.heap.size) (fun _ _ h => h)).below (belowA (Below.refl _ w6) (.cells #[.int .i64 0, .string ⟨#[]⟩, .slice none 0 0, .int .u32 0, .int .u32 0, .int .u32 0, .int .i64 0, .int .u32 0, .int .u64 0, .int .u64 0, .int .u64 0, .slice none 0 0, .slice none 0 0] 43))) (fun k h _ => Nat.ne_of_lt h)
      have hsz : cs.toArray.size = 13 := by simpa using hcl
      refine sI 17 rfl 43 (.tmp 14) (.tmp 82) w6.heap.size 0 cs.toArray (by rw [hsz]; exact ht) (by rw [hsz]; exact HSR.out) hco hpb.bl ?_
      simp only [putS]
      refine wpAnyH_done (by kernel_rfl) ?_ _
      go_wp2_with fail
      go_meet
      case rel => exact hpb
     ·skip
      simp only [putS]
      have b0 := hS.alloc hS.size (.cells #[.int .i64 0, .string ⟨#[]⟩, .slice none 0 0, .int .u32 0, .int .u32 0, .int .u32 0, .int .i64 0, .int .u32 0, .int .u64 0, .int .u64 0, .int .u64 0, .slice none 0 0, .slice none 0 0] 43)
      refine cI 11 rfl ?_
      refine (HQD.out _ (HB3.out.trans (b0.mono HB3.out.size))).mono ?_
      rintro e w6 ⟨u1, cs, rfl, hcl, hco, hE, hR, bd⟩
      have B6 := b0.trans (bd.mono b0.size)
      refine ⟨B6, ?_⟩
      try dsimp only
      simp only [putS]
      refine tI 12 rfl B6 ?_
      refine tI 13 rfl B6 ?_
      refine tI 14 rfl B6 ?_
      refine tI 16 rfl B6 ?_
      simp only [putS]
      have k7 := (bd.block wd.heap.size (by simp)).trans (heap_alloc_new wd (.cells #[.int .i64 0, .string ⟨#[]⟩, .slice none 0 0, .int .u32 0, .int .u32 0, .int .u32 0, .int .i64 0, .int .u32 0, .int .u64 0, .int .u64 0, .int .u64 0, .slice none 0 0, .slice none 0 0] 43))
      have ht : w6.there wd.heap.size 0 13 := there_of k7 (by simp)
      have hpb := pl_box (w := w3) B6 hS.size k7 hE hR (fun k h _ e => by
       have h1 := HB3.out.size
       have h2 := hS.size
       rw [World.size_alloc] at h
       omega)
      have hsz : cs.toArray.size = 13 := by simpa using hcl
      refine sI 17 rfl 43 (.tmp 14) (.tmp 82) wd.heap.size 0 cs.toArray (by rw [hsz]; exact ht) (by rw [hsz]; exact HSR.out) hco hpb.bl ?_
      simp only [putS]
      refine wpAnyH_done (by kernel_rfl) ?_ _
      go_wp2_with fail
      go_meet
      case rel => exact hpb
    case rest =>
    obtain ⟨B4, cs4, rfl, h4l, h4e, h4k, h4r, h4b, h4s⟩ := hcut
    obtain ⟨aB4, cB4, rfl⟩ := h4e.row
    obtain ⟨w4, hw4⟩ : ∃ w4, w4 = wc := ⟨_, rfl⟩
    subst hw4
    have h3b4 := PlBox.below H3.out.2.1 H3.out.2.2.1 H3.out.2.2.2.1 h4b
    obtain ⟨n, hn⟩ : ∃ n, n = E.length := ⟨_, rfl⟩
    rw [← hn] at h4e h3b4 hE12 ⊢
    have HB4 := Lib.hid (HB3.out.trans (h4b.mono HB3.out.size))
    have HN := Lib.hid hn
    have H4 := Lib.hid (And.intro h4e (And.intro h4k (And.intro h4r (And.intro h3b4 (And.intro h4b h4l)))))
    have HSM := Lib.hid (fun W (h : Below w4.heap.size w4 W) => pl_same (HST.out.1.below (HB4.out.trans (h.mono HB4.out.size))) HR2.out ((H3.out.2.2.2.2.trans (h4b.mono H3.out.2.2.2.2.size)).trans (h.mono (Nat.le_trans H3.out.2.2.2.2.size h4b.size))))
    clear hn h4l h4e h4k h4r h4b h4s h3b4
    go_wp2_with fail
    refine rB fun wd hS => ?_
    refine tI 0 rfl hS ?_
    refine tI 1 rfl hS ?_
    simp only [putS]
    refine cI 2 rfl ?_
    refine (HSM.out _ hS).mono ?_
    rintro e w5 ⟨rfl, b5⟩
    have B5 := hS.trans (b5.mono hS.size)
    refine ⟨B5, ?_⟩
    try dsimp only
    simp only [putS]
    refine tI 3 rfl B5 ?_
    refine tI 4 rfl B5 ?_
    refine tI 5 rfl B5 ?_
    refine tI 6 rfl B5 ?_
    simp only [putS]
    refine tI 7 rfl B5 ?_
    refine tI 8 rfl B5 ?_
    refine tL 9 rfl B5 26 (.tmp 91) bo (off + i * 9) [.int .u8 ok, .string (bs op), .slice oa on oc, .int .i64 ov, .bool os, .bool oe, .slice qa qn qc] (fun w' h => (HRG.out w' (HB4.out.trans (h.mono HB4.out.size))).1) Tryz.underlying26 HSO.out ?_
    refine tI 11 rfl B5 ?_
    simp only [putS]
    refine tI 12 rfl B5 ?_
    refine tI 13 rfl B5 ?_
    refine tI 14 rfl B5 ?_
    refine tL 15 rfl B5 26 (.tmp 97) bo (off + i * 9) [.int .u8 ok, .string (bs op), .slice oa on oc, .int .i64 ov, .bool os, .bool oe, .slice qa qn qc] (fun w' h => (HRG.out w' (HB4.out.trans (h.mono HB4.out.size))).1) Tryz.underlying26 HSO.out ?_
    simp only [putS]
    refine cI 10 rfl ?_
    refine (HCK.out _ (HB4.out.trans (B5.mono HB4.out.size))).mono ?_
    rintro e w6 ⟨rfl, b6⟩
    have B6 := B5.trans (b6.mono B5.size)
    refine ⟨B6, ?_⟩
    try dsimp only
    simp only [putS]
    refine cI 16 rfl ?_
    refine (HQC.out _ (HB4.out.trans (B6.mono HB4.out.size))).mono ?_
    rintro e w7 ⟨rfl, b7⟩
    have B7 := B6.trans (b7.mono B6.size)
    refine ⟨B7, ?_⟩
    try dsimp only
    simp only [putS]
    refine tI 17 rfl B7 ?_
    refine tI 18 rfl B7 ?_
    refine tI 19 rfl B7 ?_
    refine tI 20 rfl B7 ?_
    simp only [putS]
    refine tI 21 rfl B7 ?_
    simp only [putS]
    refine cI 22 rfl ?_
    refine (HC.out.1.effs _ _ _ (H4.out.2.2.2.1.1.below B7) (H4.out.1.below B7)).mono ?_
    rintro e w8 ⟨rfl, b8⟩
    have B8 := B7.trans (b8.mono B7.size)
    refine ⟨B8, ?_⟩
    try dsimp only
    simp only [putS]
    refine tI 23 rfl B8 ?_
    refine tI 24 rfl B8 ?_
    refine tI 25 rfl B8 ?_
    refine tL 26 rfl B8 43 (.tmp 12) B3 0 cs3 (fun w' h => range_blk ((h.block _ (lt_of_block H4.out.2.2.2.1.2.1)).trans H4.out.2.2.2.1.2.1)) Tryz.underlying43 (by rw [H3.out.1]; exact HSR.out) ?_
    simp only [putS]
    refine tL 27 rfl B8 43 (.tmp 14) B4 0 cs4 (fun w' h => range_blk ((h.block _ (lt_of_block H4.out.2.1)).trans H4.out.2.1)) Tryz.underlying43 (by rw [H4.out.2.2.2.2.2]; exact HSR.out) ?_
    simp only [putS]
    refine cI 28 rfl ?_
    refine (HC.out.1.rep _ _ _ (H4.out.2.2.2.1.2.2.below B8) (H4.out.2.2.1.below B8)).mono ?_
    rintro e w9 ⟨rfl, b9⟩
    have B9 := B8.trans (b9.mono B8.size)
    refine ⟨B9, ?_⟩
    try dsimp only
    simp only [putS]
    refine tI 29 rfl B9 ?_
    refine tI 30 rfl B9 ?_
    simp only [putS]
    have HB9 := Lib.hid (HB4.out.trans (B9.mono HB4.out.size))
    have HE1 := Lib.hid (H4.out.2.2.2.1.1.below B9)
    have HE2 := Lib.hid (H4.out.1.below B9)
    have HLT := Lib.hid hlt
    clear hS B5 B6 B7 B8 B9 b5 b6 b7 b8 b9
    refine wpAnyH_done (by kernel_rfl) ?_ _
    by_cases hn0 : n = 0
    ·have tn : decide ((0 : Int) < (n : Int)) = false := by simp; omega
     have tn2 : decide (0 < n) = false := by simp; omega
     have hEm : E = [] := List.eq_nil_of_length_eq_zero (by rw [← HN.out]; exact hn0)
     have hst : Hid (PlSt w b rb root (i + 1) w9) := Lib.hid ⟨at_, M', L', _, _, _, by rw [HC.out.2 hEm]; exact HST.out.1.below HB9.out, HST.out.2.1.below HB9.out, by rw [HC.out.2 hEm]; exact HST.out.2.2.1, by have := HST.out.2.2.2; omega⟩
     clear hn0 hEm
     go_wp2_with fail
     have hlt := HLT.out
     go_roundw
     case rel => exact ⟨i + 1, by omega, by go_num, hst⟩
     case measure => simp [intOf]; omega
    ·have tn : decide ((0 : Int) < (n : Int)) = true := by simp; omega
     have tn2 : decide (0 < n) = true := by simp; omega
     have hEm : E ≠ [] := fun h => hn0 (by rw [HN.out, h]; rfl)
     obtain ⟨mb, hblk⟩ := (HST.out.1.below HB9.out).blk
     have hap := HC.out.1.app w9 aB3 n cB3 (HST.out.1.below HB9.out) HE1.out hEm
     have HAP := Lib.hid hap
     have HEM := Lib.hid (And.intro hEm hblk)
     clear hn0 hEm hap hblk
     go_wp2_with fail
     refine HAP.out.mono ?_
     rintro e w10 ⟨rfl, S10, K10⟩
     have T10 := (HST.out.2.1.below HB9.out).other HEM.out.2 HBR.out.1 K10
     have hrap := HC.out.1.rapp w10 aB4 n cB4 _ _ _ _ T10 HST.out.2.2.1 (HE2.out.set HEM.out.2 (bare_map _ _ _) K10) HEM.out.1
     have HRAP := Lib.hid hrap
     have HS10 := Lib.hid (And.intro S10 T10)
     clear hrap S10 T10 K10
     go_wp2_with fail
     refine HRAP.out.mono ?_
     rintro e w11 ⟨rfl, ⟨ao', c', R', L2, T11, H11⟩, K11⟩
     have hst : Hid (PlSt w b rb root (i + 1) w11) := Lib.hid ⟨at_ + 1, M', L2, _, _, _, HS10.out.1.ref HS10.out.2 HBR.out.2 K11, T11, H11, by have := HST.out.2.2.2; omega⟩
     clear T11 H11 K11
     go_wp2_with fail
     have hlt := HLT.out
     go_roundw
     case rel => exact ⟨i + 1, by omega, by go_num, hst⟩
     case measure => simp [intOf]; omega
   ·obtain rfl : N = i := by omega
    obtain ⟨at_, M, L', ar, cr, Rr, S, T, HRel, h1⟩ := HS.out
    have tl1 : decide ((N : Int) < (N : Int)) = false := by simp
    have tl2 : decide (N < N) = false := by simp
    have HS9 := Lib.hid S
    clear S T HRel h1 hlt hi
    go_wp2_with fail
    refine (works_any wr HS9.out.tr.max HS9.out.pow).mono ?_
    rintro e w4 ⟨rfl, B4⟩
    have HB4 := Lib.hid (HS9.out.tr.bl.trans (B4.mono HS9.out.tr.bl.size))
    clear B4
    go_wp2
    go_ret
    exact ⟨rfl, HB4.out⟩
end Go.Proofs.YtnclkfhdpkkakaaGreatDoor
namespace Go.Proofs.YtnclkfhdpkkakaaGreatDoor
set_option linter.unusedVariables false
set_option linter.unusedSimpArgs false
open Go Go.RowKit Go.ChangeShapes Go.WideShapes Go.Deep
open Go.ChangeMaps (open_string)
set_option maxRecDepth 100000 in
theorem opPlays_law {H : Type} (enc : TypeId × Value → H) (W : World)
  (v0 : Value) (d0 : DataW H) (p0 : List MemPlace) (h0 : DataW.Trod enc Tryz.prog W 0 (fun _ => true) true 9 v0 d0 p0) (o0 : ∃ b, Value.okWide Tryz.prog W .any b 9 v0)
  (v1 : Value) (d1 : DataW H) (p1 : List MemPlace) (h1 : DataW.Trod enc Tryz.prog W 0 (fun _ => true) true 22 v1 d1 p1) (o1 : ∃ b, Value.okWide Tryz.prog W .any b 22 v1) (hm : MaxInt W) (PT : PowTab W) :
  Calls Tryz.prog 11 #[v0, v1] W fun e W' => e = .returned (.bool true) ∧ Below W.heap.size W W' := by
 obtain ⟨b0, o0⟩ := o0
 obtain ⟨b1, o1⟩ := o1
 obtain ⟨s0, rfl, rfl, rfl, m0⟩ := open_string Tryz.underlying9 o0 h0
 obtain ⟨l0, rfl⟩ := str_open s0
 obtain ⟨a1, len1, cap1, rfl⟩ := okWide_slice Tryz.underlying22 o1
 obtain ⟨f1, h1⟩ := h1
 obtain ⟨a, c, L, e1, lL, hat⟩ := asks_open h1
 simp [Value.cells] at e1
 obtain ⟨rfl, rfl, rfl⟩ := e1
 exact opPlays_core W hm PT l0 _ _ L hat lL
end Go.Proofs.YtnclkfhdpkkakaaGreatDoor
