/-
  The reference's digits, walked. How the reference's one ends; rows of effects that are written out.
-/
import Derived.Test.YtnclkfhdpkkakaaGreatDoorQ30
import Derived.Test.YtnclkfhdpkkakaaGreatDoorQ32
import Derived.Laws.DeepStrings4
namespace Go.Proofs.YtnclkfhdpkkakaaGreatDoor
set_option linter.unusedVariables false
set_option linter.unusedSimpArgs false
open Go Go.RowKit Go.Shelf Go.MapKept Go.ChangeMaps Go.Maps Go.Sort
def digT (u i : Nat) : Bytes := (List.range i).map fun j => Lib.dg u (i - 1 - j)
theorem digT_succ (u i : Nat) : digT u (i + 1) = Lib.dg u i :: digT u i := by
 unfold digT
 rw [List.range_succ_eq_map, List.map_cons, List.map_map]
 congr 1
 refine List.map_congr_left (fun j hj => ?_)
 show Lib.dg u (i + 1 - 1 - (j + 1)) = _
 congr 1
 omega
theorem digT_len (u i : Nat) : (digT u i).length = i := by simp [digT]
theorem digT_ten {n : Int} (h : n.toNat < 10 ^ 10) : digs n = digT n.toNat 10 := by
 rw [digs_eq h]
 rfl
theorem digit_cut : ∀ q : Nat, q < 10 → (ByteArray.mk #[48, 49, 50, 51, 52, 53, 54, 55, 56, 57]).extract q (q + 1) = bs [UInt8.ofNat (48 + q)] := by
 intro q hq
 have h := cut_bs [48, 49, 50, 51, 52, 53, 54, 55, 56, 57] q (q + 1)
 refine Eq.trans h ?_
 congr 1
 rw [show q + 1 - q = 1 by omega]
 have h2 : ∀ q, q < 10 → (([48, 49, 50, 51, 52, 53, 54, 55, 56, 57] : Bytes).drop q).take 1 = [UInt8.ofNat (48 + q)] := by decide
 exact h2 q hq
set_option maxRecDepth 100000 in
set_option maxHeartbeats 4000000 in
theorem q5digits_any (n : Int) (h0 : 0 ≤ n) (h1 : n < 4294967296) (w : World) : Calls Tryz.prog 108 #[.int .u32 n] w fun e w' => e = .returned (.string (bs (digs n))) ∧ w = w' := by
 obtain ⟨u, rfl⟩ : ∃ u : Nat, n = (u : Int) := ⟨n.toNat, by omega⟩
 have hd : digs (u : Int) = digT u 10 := digT_ten (by rw [Int.toNat_natCast]; omega)
 rw [hd]
 have hu : u < 4294967296 := by omega
 clear hd h0 h1
 go_enter Tryz.func108, Tryz.ntmps108
 go_wp2
 go_loopw [0, 3, 4] (fun nv sv iv wr => ∃ k m : Nat, k ≤ 10 ∧ nv = .int .u32 (m : Int) ∧ Hid (m = u / 10 ^ k) ∧ sv = .string (bs (digT u k)) ∧ iv = .int .i64 (k : Int) ∧ w = wr) (fun _ _ iv _ => 10 - (intOf iv).toNat)
 case atStart => exact ⟨0, u, by omega, rfl, Lib.hid (by simp), rfl, rfl, rfl⟩
 case round =>
  obtain ⟨k, m, hk, rfl, HM, rfl, rfl, rfl⟩ := hrel
  have hm : m < 4294967296 := by rw [HM.out]; exact Nat.lt_of_le_of_lt (Nat.div_le_self _ _) hu
  by_cases hlt : k < 10
  ·obtain ⟨q, hq⟩ : ∃ q, q = m % 10 := ⟨_, rfl⟩
   have hq10 : q < 10 := by omega
   have tl : decide ((k : Int) < 10) = true := by simp; omega
   have tq : ∀ _ : True, ((m : Int)).tmod 10 = (q : Int) := fun _ => by rw [Int.tmod_eq_emod_of_nonneg (by omega)]; omega
   have tq1 : ∀ _ : True, IntKind.u32.wrap (q : Int) = (q : Int) := fun _ => by rw [IntKind.wrap_u32]; omega
   have tq2 : ∀ _ : True, IntKind.u32.wrap ((q : Int) + 1) = (q : Int) + 1 := fun _ => by rw [IntKind.wrap_u32]; omega
   obtain ⟨m', hm'⟩ : ∃ m', m' = m / 10 := ⟨_, rfl⟩
   have td : ∀ _ : True, ((m : Int)).tdiv 10 = (m' : Int) := fun _ => by rw [Int.tdiv_eq_ediv_of_nonneg (by omega)]; omega
   have td1 : ∀ _ : True, IntKind.u32.wrap (m' : Int) = (m' : Int) := fun _ => by rw [IntKind.wrap_u32]; omega
   have hx := digit_cut q hq10
   have hsl : ∀ W : World, (Instr.slice 9 (.string (ByteArray.mk #[48, 49, 50, 51, 52, 53, 54, 55, 56, 57])) (some (.int .u32 (q : Int))) (some (.int .u32 ((q : Int) + 1))) none).run Tryz.prog W = .ok (.string (bs [UInt8.ofNat (48 + q)])) W := fun W => by
    rw [← hx]
    have h1 : (0 : Int) ≤ (q : Int) := by omega
    have h2 : (q : Int) ≤ (q : Int) + 1 := by omega
    have h3 : (q : Int) + 1 ≤ 10 := by omega
    rw [run_slice_string_if _ 9 _ _ _ _ _ Tryz.underlying9]
    have hs : (ByteArray.mk #[48, 49, 50, 51, 52, 53, 54, 55, 56, 57]).size = 10 := rfl
    rw [hs, if_pos ⟨by omega, by omega⟩, if_pos ⟨h1, h2⟩]
    rfl
   have ha := fun (W : World) => add_bsC (bs [UInt8.ofNat (48 + q)]) (bs (digT u k)) (digT u (k + 1)) (by
    rw [digT_succ, cat_bs]
    have : Lib.dg u k = UInt8.ofNat (48 + q) := by unfold Lib.dg; rw [hq, HM.out]
    rw [this]
    rfl) (by rw [digT_len]; omega) W
   obtain ⟨sb, hsb⟩ : ∃ sb, sb = bs [UInt8.ofNat (48 + q)] := ⟨_, rfl⟩
   rw [← hsb] at ha
   have hsl2 : ∀ W : World, (Instr.slice 9 (.string (ByteArray.mk #[48, 49, 50, 51, 52, 53, 54, 55, 56, 57])) (some (.int .u32 (q : Int))) (some (.int .u32 ((q : Int) + 1))) none).run Tryz.prog W = .ok (.string sb) W := fun W => by rw [hsb]; exact hsl W
   have HM2 : Hid (m' = u / 10 ^ (k + 1)) := Lib.hid (by rw [hm', HM.out, Nat.div_div_eq_div_mul, Nat.pow_succ])
   have hk1 : k + 1 ≤ 10 := hlt
   clear hx hq hm' hlt hm HM hu hsb hsl
   go_wp2_with fail
   go_roundw
   case rel => exact ⟨k + 1, m', hk1, rfl, HM2, rfl, by go_num, trivial⟩
   case measure => simp [intOf]; omega
  ·obtain rfl : 10 = k := by omega
   have tl : decide (((10 : Nat) : Int) < 10) = false := by decide
   clear hlt hk
   go_wp2
   go_ret
   exact ⟨rfl, rfl⟩
end Go.Proofs.YtnclkfhdpkkakaaGreatDoor
namespace Go.Proofs.YtnclkfhdpkkakaaGreatDoor
set_option linter.unusedVariables false
set_option linter.unusedSimpArgs false
open Go Go.RowKit Go.Shelf Go.MapKept Go.ChangeMaps Go.Maps Go.Sort
def EffsB (lq : Nat → Prop) (w w' : World) (u : Value) (E : List Eff) : Prop := ∃ a c L, u = .slice a E.length c ∧ ((∀ b off, a = some ⟨b, off, none⟩ → w.heap.size ≤ b) ∧ (a = none → E = [] ∧ c = 0)) ∧ EffsAt w' w'.heap.size a L ∧ LikeE w' lq L E
theorem EffsB.nil (lq : Nat → Prop) (w w' : World) : EffsB lq w w' (.slice none 0 0) [] := ⟨none, 0, [], rfl, ⟨(fun _ _ h => by cases h), (fun _ => ⟨rfl, rfl⟩)⟩, (fun k r h => by simp at h), rfl, (fun k r e h => by simp at h)⟩
theorem EffsB.out {lq : Nat → Prop} {w w' : World} {u : Value} {E : List Eff} (h : EffsB lq w w' u E) : EffsOut w' u E := by
 obtain ⟨a, c, L, h1, _, h3, h4, h5⟩ := h
 exact ⟨a, c, L, h1, h3, h4, fun k r e hk he => ⟨(h5 k r e hk he).path, (h5 k r e hk he).gone, (h5 k r e hk he).node.mono (fun _ _ => trivial)⟩⟩
def RepQ (w : World) (lo : Nat → Prop) (u : Value) (x : Int) (A : Ans) : Prop := ∃ (r : Raw) (ka : Option Addr) (kc : Nat), u = .agg (repCells x A.path r ka A.kids.length kc none 0 0).toArray ∧ Reads w lo r A.node ∧ StrLo w lo ka A.kids
theorem RepQ.keptS {w w' : World} {lo S : Nat → Prop} {u : Value} {x : Int} {A : Ans} (h : RepQ w lo u x A) (hk : Kept S w w') (hn : ∀ k, lo k → k < w.heap.size → ¬ S k) : RepQ w' lo u x A := by
 obtain ⟨r, ka, kc, h1, h2, h3⟩ := h
 exact ⟨r, ka, kc, h1, h2.keptS hk hn, h3.keptS hk hn⟩
theorem RepQ.mono {w : World} {lo lo' : Nat → Prop} {u : Value} {x : Int} {A : Ans} (h : RepQ w lo u x A) (hl : ∀ k, lo k → lo' k) : RepQ w lo' u x A := by
 obtain ⟨r, ka, kc, h1, h2, h3⟩ := h
 exact ⟨r, ka, kc, h1, h2.mono hl, h3.mono (fun k h _ => hl k h)⟩
theorem RepQ.at_ {w : World} {lo : Nat → Prop} {u : Value} {x : Int} {A : Ans} (h : RepQ w lo u x A) : ReplyAt w lo u x A [] := by
 obtain ⟨r, ka, kc, h1, h2, h3⟩ := h
 exact ⟨r, ka, kc, none, 0, h1, h2, h3, RepsAt.nil _ _ _⟩
def QEnd (lq : Nat → Prop) (w : World) (x : Int) (E : List Eff) (A : Ans) (e : Ending) (w' : World) : Prop := ∃ u1 u2, e = .returned (.tuple #[u1, u2]) ∧ EffsB lq w w' u1 E ∧ RepQ w' (fun k => lq k ∨ w.heap.size + 3 ≤ k) u2 x A ∧ Below w.heap.size w w'
theorem q_box {w wN : World} {B : Nat} (vs : List Value) (hb : Below w.heap.size w wN) (hB : w.heap.size ≤ B) : Below w.heap.size w (wN.setCells B 0 vs) :=
 hb.trans ((Kept.setCells (S := (· = B)) (p := B) rfl _ 0 (Kept.refl _ _)).below hb.size (fun k e => by have e : k = B := e; omega))
theorem q_no {lq : Nat → Prop} {w wN : World} {B : Nat} (x : Int) (hb : Below w.heap.size w wN) (hB : w.heap.size ≤ B) :
  QEnd lq w x [] noAns (.returned (.tuple #[.slice none 0 0, .agg #[.int .i64 x, .string ⟨#[]⟩, .slice none 0 0, .int .u32 0, .int .u32 0, .int .u32 0, .int .i64 0, .int .u32 0, .int .u64 0, .int .u64 0, .int .u64 0, .slice none 0 0, .slice none 0 0]]))
   (wN.setCells B 0 [.int .i64 x, .string ⟨#[]⟩, .slice none 0 0, .int .u32 0, .int .u32 0, .int .u32 0, .int .i64 0, .int .u32 0, .int .u64 0, .int .u64 0, .int .u64 0, .slice none 0 0, .slice none 0 0]) :=
 ⟨_, _, rfl, EffsB.nil _ _ _, ⟨zRaw, none, 0, rfl, zReads _ _, StrLo.nil _ _ _⟩, q_box _ hb hB⟩
theorem QEnd.box {lq : Nat → Prop} {w w1 w' : World} {x : Int} {E : List Eff} {A : Ans} {u1 u2 : Value} {B : Nat} (vs : List Value) (h : QEnd lq w1 x E A (.returned (.tuple #[u1, u2])) w') (hb : Below w.heap.size w w1) (hwb : ∀ k, lq k → k < w.heap.size) (hB : B = w.heap.size + 2) (h1 : w.heap.size + 3 ≤ w1.heap.size) :
  QEnd lq w x E A (.returned (.tuple #[u1, u2])) (w'.setCells B 0 vs) := by
 obtain ⟨v1, v2, e, ⟨a, c, L, g1, g2, g3, g4, g5⟩, g6, g7⟩ := h
 injection e with e
 injection e with e
 injection e with e
 injection e with ea eb
 subst ea
 injection eb with eb _
 subst eb
 have K : Kept (· = B) w' (w'.setCells B 0 vs) := Kept.setCells (S := (· = B)) (p := B) rfl _ 0 (Kept.refl _ _)
 refine ⟨_, _, rfl, ⟨a, c, L, g1, ⟨fun b off hb => Nat.le_trans (by omega) (g2.1 b off hb), g2.2⟩, fun k r hr => ?_, g4, fun k r e hk he => ⟨(g5 k r e hk he).path, (g5 k r e hk he).gone, (g5 k r e hk he).node.keptS K (fun j hj _ e => by have e : j = B := e; have := hwb j hj; omega)⟩⟩, ?_, q_box _ (hb.trans (g7.mono hb.size)) (by omega)⟩
 ·obtain ⟨b, off, e1, e2, e3⟩ := g3 k r hr
  have hbb := g2.1 b off e1
  exact ⟨b, off, e1, Nat.lt_of_lt_of_le e2 K.size, fun j u hu => (K.cell (p := ⟨b, off + k * 11 + j, none⟩) e2 (fun e => by have e : b = B := e; omega)).trans (e3 j u hu)⟩
 ·exact (g6.keptS K (fun j hj _ e => by
   have e : j = B := e
   rcases hj with hj | hj
   ·have := hwb j hj; omega
   ·omega)).mono (fun k hk => hk.imp id (fun h => by omega))
theorem byte_low {w : World} {lo lq : Nat → Prop} {a : Option Addr} {D : Bytes} (h : ByteSl w lo w.heap.size a D) (hl : ∀ k, lo k → k < w.heap.size → lq k) : ByteSl w lq w.heap.size a D := fun j x hj => by
 obtain ⟨b, off, h1, h2, h3, h4⟩ := h j x hj
 exact ⟨b, off, h1, hl b h2 h3, h3, h4⟩
theorem q_effs2 {lq : Nat → Prop} {w0 w : World} {g : Nat} {r1 r2 : RawE} {e1 e2 : Eff} (hg : w.heap[g]? = some (.cells (r1.cells ++ r2.cells).toArray 88 (0, 0))) (hw : w0.heap.size ≤ g) (h1 : ReadsE w lq r1 e1) (h2 : ReadsE w lq r2 e2) :
  EffsB lq w0 w (.slice (some ⟨g, 0, none⟩) 2 2) [e1, e2] := by
 refine ⟨_, _, [r1, r2], rfl, ⟨fun b off e => (by cases e; exact hw), fun e => by cases e⟩, fun k r hk => ?_, rfl, fun k r e hk he => ?_⟩
 ·refine ⟨g, 0, rfl, lt_of_block hg, ?_⟩
  match k, hk with
  | 0, hk =>
   cases hk
   refine mid_range 0 (o := 0) (range_blk hg) (fun j u hu => ?_)
   rw [Nat.zero_add, List.getElem?_append_left (List.getElem?_eq_some_iff.1 hu).1]
   exact hu
  | 1, hk =>
   cases hk
   refine mid_range 11 (o := 0) (range_blk hg) (fun j u hu => ?_)
   have hl : r1.cells.length = 11 := rfl
   rw [List.getElem?_append_right (by omega), hl, show 11 + j - 11 = j by omega]
   exact hu
  | k + 2, hk => simp at hk
 ·match k, hk, he with
  | 0, hk, he => cases hk; cases he; exact h1
  | 1, hk, he => cases hk; cases he; exact h2
  | k + 2, hk, he => simp at hk
theorem q_effs1 {lq : Nat → Prop} {w0 w : World} {g : Nat} {r1 : RawE} {e1 : Eff} (hg : w.heap[g]? = some (.cells r1.cells.toArray 88 (0, 0))) (hw : w0.heap.size ≤ g) (h1 : ReadsE w lq r1 e1) :
  EffsB lq w0 w (.slice (some ⟨g, 0, none⟩) 1 1) [e1] := by
 refine ⟨_, _, [r1], rfl, ⟨fun b off e => (by cases e; exact hw), fun e => by cases e⟩, fun k r hk => ?_, rfl, fun k r e hk he => ?_⟩
 ·refine ⟨g, 0, rfl, lt_of_block hg, ?_⟩
  match k, hk with
  | 0, hk => cases hk; exact mid_range 0 (o := 0) (range_blk hg) (fun j u hu => by rw [Nat.zero_add]; exact hu)
  | k + 1, hk => simp at hk
 ·match k, hk, he with
  | 0, hk, he => cases hk; cases he; exact h1
  | k + 1, hk, he => simp at hk
end Go.Proofs.YtnclkfhdpkkakaaGreatDoor
