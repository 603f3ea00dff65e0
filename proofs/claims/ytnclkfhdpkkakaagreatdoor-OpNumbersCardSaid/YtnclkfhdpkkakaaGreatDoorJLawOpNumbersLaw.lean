/-
  Sequential children of the root, as plain nodes: their numbers rise one by one.
  OpNumbers, walked.
  OpNumbers: over whatever arguments can be read.
-/
import Derived.Test.YtnclkfhdpkkakaaGreatDoorJOpSt
import Derived.Test.YtnclkfhdpkkakaaGreatDoorJOpWorks
import Derived.Test.YtnclkfhdpkkakaaGreatDoorTrOpen
import Derived.Test.YtnclkfhdpkkakaaGreatDoorShaped
import Derived.ProofKit
namespace Go.Proofs.YtnclkfhdpkkakaaGreatDoor
set_option linter.unusedVariables false
set_option linter.unusedSimpArgs false
def rootN : Bytes := [47]
def pathN (c : Nat) : Bytes := [47, UInt8.ofNat (97 + c)]
def tailN (i : Nat) : Bytes := [48, 48, 48, 48, 48, 48, 48, 48, UInt8.ofNat (48 + i / 10), UInt8.ofNat (48 + i % 10)]
def wantN (c i : Nat) : Bytes := pathN c ++ tailN i
def newO (c : Nat) : Opl := ⟨1, pathN c, [], 0, true, false⟩
def dropO (c i : Nat) : Opl := ⟨2, wantN c i, [], -1, false, false⟩
theorem num_tail : ((List.range 40).all fun i => decide (digsC (i : Int) = tailN i)) = true := by decide +kernel
theorem num_digs {i : Nat} (h : i < 40) : digs (i : Int) = tailN i := by
  rw [digs_eq (by simp; omega)]
  exact of_decide_eq_true (List.all_eq_true.1 num_tail i (List.mem_range.2 h))
theorem num_paths : ((List.range 4).all fun c => decide (parentC (pathN c) = rootN ∧ pathN c ≠ rootN ∧ underC (pathN c) rootN = true)) = true := by decide +kernel
theorem num_path {c : Nat} (h : c < 4) : parentL (pathN c) = rootN ∧ pathN c ≠ rootN ∧ underB (pathN c) rootN = true := by
  rw [parentL_eq, underB_eq]
  exact of_decide_eq_true (List.all_eq_true.1 num_paths c (List.mem_range.2 h))
theorem num_wants : ((List.range 4).all fun c => (List.range 40).all fun i => decide (parentC (wantN c i) = rootN ∧ wantN c i ≠ rootN ∧ underC (wantN c i) rootN = true ∧ (partsC (wantN c i)).isSome = true)) = true := by decide +kernel
theorem num_want {c i : Nat} (h : c < 4) (hi : i < 40) : parentL (wantN c i) = rootN ∧ wantN c i ≠ rootN ∧ underB (wantN c i) rootN = true ∧ (partsL (wantN c i)).isSome = true := by
  rw [parentL_eq, underB_eq, partsL_eq]
  exact of_decide_eq_true (List.all_eq_true.1 (List.all_eq_true.1 num_wants c (List.mem_range.2 h)) i (List.mem_range.2 hi))
theorem num_inj {c d i j : Nat} (hi : i < 40) (hj : j < 40) (h : wantN c i = wantN d j) : i = j := by
  unfold wantN pathN tailN at h
  simp only [List.cons_append, List.nil_append, List.cons.injEq, and_true, true_and] at h
  obtain ⟨_, h1, h2⟩ := h
  have e1 := congrArg UInt8.toNat h1
  have e2 := congrArg UInt8.toNat h2
  rw [UInt8.toNat_ofNat', UInt8.toNat_ofNat'] at e1 e2
  omega
theorem num_root : parentL rootN = rootN ∧ (partsL rootN).isSome = true := by
  rw [parentL_eq, partsL_eq]
  decide +kernel
/-- The tree behind i rounds. -/
structure NumI (i : Nat) (M : List (Bytes × Nd)) : Prop where
  inv : Inv rootN M
  root : ∃ u, getA rootN M = some u ∧ u.num.next = (i : Int) ∧ noSess u.num.os u.num.on = true
  form : ∀ q ∈ M.map (·.1), q = rootN ∨ ∃ c k, c < 4 ∧ k < i ∧ q = wantN c k
  len : M.length ≤ i + 1
theorem NumI.made : NumI 0 [(rootN, zNd)] := ⟨Inv.made num_root.2 _, ⟨zNd, rfl, rfl, rfl⟩, fun q hq => .inl (by simpa using hq), by simp⟩
section
variable {i c : Nat} {M : List (Bytes × Nd)} {at_ : Int} {who : Sess}
theorem NumI.path (h : NumI i M) (hi : i < 40) (hc : c < 4) : newPath M (newO c) = wantN c i := by
  obtain ⟨u, hu, hn, _⟩ := h.root
  have e : newPath M (newO c) = pathN c ++ digs ((getA (parentL (pathN c)) M).getD zNd).num.next := rfl
  rw [e, (num_path hc).1, hu]
  show pathN c ++ digs u.num.next = _
  rw [hn, num_digs hi]
  rfl
theorem NumI.free (h : NumI i M) (hi : i < 40) (hc : c < 4) : getA (wantN c i) M = none := by
  have : (getA (wantN c i) M).isSome = false := getA_no.2 fun hm => by
    rcases h.form _ hm with h1 | ⟨d, k, _, hk, h1⟩
    · exact (num_want hc hi).2.1 h1
    · have := num_inj hi (by omega) h1
      omega
  cases hg : getA (wantN c i) M with
  | none => rfl
  | some x => rw [hg] at this; cases this
theorem NumI.can (h : NumI i M) (hi : i < 40) (hc : c < 4) : opE rootN M who (newO c) = 0 := by
  obtain ⟨u, hu, _, hs⟩ := h.root
  obtain ⟨w1, _, _, w4⟩ := num_want hc hi
  have hl := h.len
  have hu' : ¬ underB (newO c).path rootN = false := by show ¬ underB (pathN c) rootN = false; rw [(num_path hc).2.2]; simp
  unfold opE
  rw [if_neg hu', if_pos (show (newO c).kind = 1 from rfl)]
  unfold createE
  rw [if_neg (show ¬ (newO c).path = rootN from (num_path hc).2.1), h.path hi hc, if_neg (by rw [w4]; simp), w1, hu]
  dsimp only
  rw [if_neg (by rw [hs]; simp), if_neg (fun h1 => absurd (show false = true from h1.1) (by decide)), h.free hi hc, if_neg (by simp), if_neg (by omega)]
theorem NumI.make (h : NumI i M) (hi : i < 40) (hc : c < 4) : opE rootN M who (newO c) = 0 ∧ (opA rootN M at_ who (newO c)).path = wantN c i ∧ NumI (i + 1) (opM rootN M at_ who (newO c)) ∧ wantN c i ∈ (opM rootN M at_ who (newO c)).map (·.1) := by
  have hE := h.can (who := who) hi hc
  have hI := h.inv.op (at_ := at_) (who := who) (newO c)
  obtain ⟨u, hu, hn, hs⟩ := h.root
  obtain ⟨w1, w2, _, w4⟩ := num_want hc hi
  have hp := h.path hi hc
  have hf := h.free hi hc
  have hM : opM rootN M at_ who (newO c) = putA (wantN c i) (newN [] at_ who false) (putA rootN (nextN (upN u at_)) M) := by
    unfold opM
    rw [if_neg (by rw [hE]; simp), if_pos (show (newO c).kind = 1 from rfl)]
    unfold createM createU
    rw [hp, w1, hu]
    rfl
  have hA : opA rootN M at_ who (newO c) = ⟨newPath M (newO c), newN [] at_ who false, []⟩ := rfl
  have hk1 : (putA rootN (nextN (upN u at_)) M).map (·.1) = M.map (·.1) := by rw [putA_keys, hu]; rfl
  have hf2 : (getA (wantN c i) (putA rootN (nextN (upN u at_)) M)).isSome = false := getA_no.2 (by rw [hk1]; exact getA_no.1 (by rw [hf]; rfl))
  have hk2 : (opM rootN M at_ who (newO c)).map (·.1) = M.map (·.1) ++ [wantN c i] := by
    rw [hM, putA_keys, hf2, hk1]
    rfl
  refine ⟨hE, by rw [hA]; exact hp, ⟨hI, ⟨nextN (upN u at_), ?_, ?_, hs⟩, ?_, ?_⟩, ?_⟩
  · rw [hM, getA_putA_other _ (Ne.symm w2), getA_putA_same]
  · show inc32 u.num.next = _
    unfold inc32
    rw [hn, IntKind.wrap_u32]
    omega
  · rw [hk2]
    intro q hq
    rcases List.mem_append.1 hq with h1 | h1
    · rcases h.form q h1 with h2 | ⟨d, k, h2, h3, h4⟩
      · exact .inl h2
      · exact .inr ⟨d, k, h2, by omega, h4⟩
    · exact .inr ⟨c, i, hc, by omega, by simpa using h1⟩
  · have h1 := congrArg List.length hk2
    have := h.len
    simp at h1
    omega
  · rw [hk2]; simp
theorem NumI.drop (h : NumI (i + 1) M) (hi : i < 40) (hc : c < 4) (hm : wantN c i ∈ M.map (·.1)) : opE rootN M who (dropO c i) = 0 ∧ NumI (i + 1) (opM rootN M at_ who (dropO c i)) := by
  obtain ⟨u, hu, hn, hs⟩ := h.root
  obtain ⟨w1, w2, w3, w4⟩ := num_want hc hi
  obtain ⟨x, hx⟩ := Option.isSome_iff_exists.1 (getA_some.2 hm)
  have hv : verE M (dropO c i) = 0 := by
    have e : verE M (dropO c i) = match getA (wantN c i) M with | none => 31 | some d => if (0 : Int) ≤ -1 ∧ (-1 : Int) ≠ IntKind.i64.wrap d.num.ver then 35 else 0 := rfl
    rw [e, hx]
    dsimp only
    rw [if_neg (by omega)]
  have hk : ¬ 0 < (kidsS rootN M (wantN c i)).length := fun hp => by
    have h1 := (kids_pos rootN M (wantN c i)).1 hp
    obtain ⟨y, hy, h2⟩ := List.any_eq_true.1 h1
    have hy2 : y.1 ∈ M.map (·.1) := List.mem_map_of_mem hy
    unfold kidB at h2
    simp at h2
    obtain ⟨⟨_, _⟩, h5⟩ := h2
    rcases h.form _ hy2 with h6 | ⟨d, k, h7, h8, h9⟩
    · rw [h6, num_root.1] at h5
      exact w2 h5.symm
    · rw [h9, (num_want h7 (by omega)).1] at h5
      exact w2 h5.symm
  have hE : opE rootN M who (dropO c i) = 0 := by
    unfold opE
    rw [if_neg (show ¬ underB (dropO c i).path rootN = false by show ¬ underB (wantN c i) rootN = false; rw [w3]; simp), if_neg (show ¬ (dropO c i).kind = 1 from (show ¬ (2 : Int) = 1 by decide)), if_pos (show (dropO c i).kind = 2 from rfl)]
    unfold removeE
    rw [if_neg (show ¬ (dropO c i).path = rootN from w2), hv, if_neg (by simp), if_neg (show ¬ 0 < (kidsS rootN M (dropO c i).path).length from hk)]
  have hI := h.inv.op (at_ := at_) (who := who) (dropO c i)
  have hM : opM rootN M at_ who (dropO c i) = putA rootN (upN u at_) (delA (wantN c i) M) := by
    unfold opM
    rw [if_neg (by rw [hE]; simp), if_neg (show ¬ (dropO c i).kind = 1 from (show ¬ (2 : Int) = 1 by decide)), if_pos (show (dropO c i).kind = 2 from rfl)]
    unfold removeM
    rw [show parentL (dropO c i).path = rootN from w1, hu]
    rfl
  have hr : rootN ∈ (delA (wantN c i) M).map (·.1) := (delA_keys h.inv.nodup _).2 ⟨getA_some.1 (by rw [hu]; rfl), Ne.symm w2⟩
  have hk1 : (opM rootN M at_ who (dropO c i)).map (·.1) = (delA (wantN c i) M).map (·.1) := by
    rw [hM, putA_keys, getA_some.2 hr]
    rfl
  refine ⟨hE, ⟨hI, ⟨upN u at_, by rw [hM, getA_putA_same], hn, hs⟩, ?_, ?_⟩⟩
  · rw [hk1]
    intro q hq
    exact h.form q ((delA_keys h.inv.nodup q).1 hq).1
  · have h1 := congrArg List.length hk1
    have h2 := (delA_sub (p := wantN c i) (M := M)).length_le
    have := h.len
    simp at h1
    omega
end
theorem leafy_newO {c : Nat} : Leafy (newO c) := ⟨show (1 : Int) ≤ 1 by decide, show (1 : Int) ≤ 6 by decide, show (pathN c).length ≤ 900 by simp [pathN], show (0 : Nat) ≤ 1000000 by decide⟩
theorem leafy_dropO {c i : Nat} : Leafy (dropO c i) := ⟨show (1 : Int) ≤ 2 by decide, show (2 : Int) ≤ 6 by decide, show (wantN c i).length ≤ 900 by simp [wantN, pathN, tailN], show (0 : Nat) ≤ 1000000 by decide⟩
theorem opXs_cases {root : Bytes} {M : List (Bytes × Nd)} {at_ a : Int} {who : Sess} {o : Opl} : (if opXs root M a who o = [] then at_ else at_ + 1) ≤ at_ + 1 := by
  split <;> omega
end Go.Proofs.YtnclkfhdpkkakaaGreatDoor

namespace Go.Proofs.YtnclkfhdpkkakaaGreatDoor
set_option linter.unusedVariables false
set_option linter.unusedSimpArgs false
open Go Go.RowKit Go.Shelf Go.MapKept Go.ChangeMaps Go.Maps Go.Sort
/-- A row of truth values. -/
def BoolSl (w : World) (a : Option Addr) (L : List Bool) : Prop := ∀ j x, L[j]? = some x → ∃ b off, a = some ⟨b, off, none⟩ ∧ b < w.heap.size ∧ w.cell? ⟨b, off + j, none⟩ = some (.bool x)
section
variable {w0 w : World} {b i c : Nat} {at_ : Int} {M : List (Bytes × Nd)}
/-- did of one that is made. -/
theorem St.newN (S : St w0 w b rootN at_ M) (h1 : at_ ≤ 90000) (h : NumI i M) (hi : i < 40) (hc : c < 4) :
    Calls Tryz.prog 25 #[.pointer (some ⟨b, 0, none⟩), RawO.val ⟨1, pathN c, none, 0, 0, 0, true, false, none, 0, 0⟩, whoV who0] w fun e w' => ∃ (r : Raw) (ka : Option Addr) (kn kc : Nat) (pa : Option Addr) (pc : Nat) (at' : Int) (M' : List (Bytes × Nd)), e = .returned (.agg (repCells 0 (wantN c i) r ka kn kc pa 0 pc).toArray) ∧ St w0 w' b rootN at' M' ∧ at' ≤ at_ + 1 ∧ NumI (i + 1) M' ∧ wantN c i ∈ M'.map (·.1) ∧ Kept (· = b) w w' := by
  obtain ⟨e1, e2, e3, e4⟩ := h.make (at_ := at_ + 1) (who := who0) hi hc
  refine (S.did h1 _ (newO c) who0 ⟨rfl, rfl, rfl, rfl, rfl, rfl, bytes_none _ _ _ _, fun _ => ⟨rfl, rfl⟩⟩ leafy_newO rfl (Nat.zero_le _)).mono fun e w' D => ?_
  obtain ⟨⟨r, ka, kc, pa, pc, h1, _⟩, D2, D3⟩ := D
  have eR : (opR rootN M (at_ + 1) who0 (newO c)).a.path = wantN c i := by unfold opR; rw [if_neg (by rw [e1]; simp)]; exact e2
  rw [e1, eR] at h1
  exact ⟨r, ka, _, kc, pa, pc, _, _, h1, D2, opXs_cases, e3, e4, D3⟩
/-- did of one that goes. -/
theorem St.dropN (S : St w0 w b rootN at_ M) (h1 : at_ ≤ 90000) (h : NumI (i + 1) M) (hi : i < 40) (hc : c < 4) (hm : wantN c i ∈ M.map (·.1)) :
    Calls Tryz.prog 25 #[.pointer (some ⟨b, 0, none⟩), RawO.val ⟨2, wantN c i, none, 0, 0, -1, false, false, none, 0, 0⟩, whoV who0] w fun e w' => ∃ (p : Bytes) (r : Raw) (ka : Option Addr) (kn kc : Nat) (pa : Option Addr) (pc : Nat) (at' : Int) (M' : List (Bytes × Nd)), e = .returned (.agg (repCells 0 p r ka kn kc pa 0 pc).toArray) ∧ St w0 w' b rootN at' M' ∧ at' ≤ at_ + 1 ∧ NumI (i + 1) M' ∧ Kept (· = b) w w' := by
  obtain ⟨e1, e3⟩ := h.drop (at_ := at_ + 1) (who := who0) hi hc hm
  refine (S.did h1 _ (dropO c i) who0 ⟨rfl, rfl, rfl, rfl, rfl, rfl, bytes_none _ _ _ _, fun _ => ⟨rfl, rfl⟩⟩ leafy_dropO rfl (Nat.zero_le _)).mono fun e w' D => ?_
  obtain ⟨⟨r, ka, kc, pa, pc, h1, _⟩, D2, D3⟩ := D
  rw [e1] at h1
  exact ⟨_, r, ka, _, kc, pa, pc, _, _, h1, D2, opXs_cases, e3, D3⟩
end
/-- What the loop keeps. -/
def NumSt (w : World) (b k : Nat) (wr : World) : Prop := ∃ at_ M, at_ ≤ 2 * (k : Int) ∧ St w wr b rootN at_ M ∧ NumI k M
theorem str_row (w : World) (C : Array Value) (l : Bytes) (hC : C.toList = l.map fun x => Value.int .u8 (x.toNat : Int)) (n : Nat) (hn : n = l.length) :
    (convert 23 9 (.slice (some ⟨w.heap.size, 0, none⟩) n n)).run Tryz.prog (w.alloc (.cells C 5)) = .ok (.string (bs l)) (w.alloc (.cells C 5)) := by
  subst hn
  refine run_convert_bytes_back _ 23 9 5 ⟨w.heap.size, 0, none⟩ l.length l Tryz.underlying23 Tryz.underlying5 Tryz.underlying9 (fun j hj => ?_)
  rw [Addr.add_lit, Nat.zero_add]
  refine cell_of_row _ _ j _ 5 (0, 0) (heap_alloc_new w _) |>.trans ?_
  rw [← Array.getElem?_toList, hC]
  simp [List.getElem?_eq_getElem hj]
theorem row_one (c : Nat) (hc : c < 4) : (#[Value.int .u8 (97 + (c : Int))] : Array Value).toList = [UInt8.ofNat (97 + c)].map fun x => Value.int .u8 (x.toNat : Int) := by
  simp
  omega
theorem row_two (i : Nat) (hi : i < 40) : (#[Value.int .u8 (48 + ((i / 10 : Nat) : Int)), .int .u8 (48 + ((i % 10 : Nat) : Int))] : Array Value).toList = [UInt8.ofNat (48 + i / 10), UInt8.ofNat (48 + i % 10)].map fun x => Value.int .u8 (x.toNat : Int) := by
  simp
  omega
set_option maxRecDepth 100000 in
set_option maxHeartbeats 32000000 in
theorem opNumbers_core (w : World) (hm : MaxInt w) (PT : PowTab w) (na : Option Addr) (nc : Nat) (D : Bytes) (hD : ByteSl w (fun k => k < w.heap.size) w.heap.size na D) (hDl : D.length ≤ maxLen) (ba : Option Addr) (bc : Nat) (Bs : List Bool) (hB : BoolSl w ba Bs) (hBl : Bs.length ≤ maxLen) :
    Calls Tryz.prog 5 #[.slice na D.length nc, .slice ba Bs.length bc] w fun e w' => e = .returned (.bool true) ∧ Below w.heap.size w w' := by
  obtain ⟨nn, hnn⟩ : ∃ nn, nn = D.length := ⟨_, rfl⟩
  obtain ⟨bn, hbn⟩ : ∃ bn, bn = Bs.length := ⟨_, rfl⟩
  rw [← hnn, ← hbn]
  rw [← hnn] at hDl
  rw [← hbn] at hBl
  unfold maxLen at hDl hBl
  have HM := Lib.hid (And.intro hm (And.intro PT (And.intro hD (And.intro hB (And.intro hnn hbn)))))
  clear hm PT hD hB hnn hbn
  by_cases h1 : 40 < nn
  · have t1 : decide ((40 : Int) < (nn : Int)) = true := by simp; omega
    clear h1
    go_enter Tryz.func5, Tryz.ntmps5
    go_wp2
    go_ret
    exact ⟨rfl, Below.refl _ _⟩
  have t1 : decide ((40 : Int) < (nn : Int)) = false := by simp; omega
  by_cases h2 : 40 < bn
  · have t2 : decide ((40 : Int) < (bn : Int)) = true := by simp; omega
    clear h1 h2
    go_enter Tryz.func5, Tryz.ntmps5
    go_wp2
    go_ret
    exact ⟨rfl, Below.refl _ _⟩
  have t2 : decide ((40 : Int) < (bn : Int)) = false := by simp; omega
  have hn40 : nn ≤ 40 := by omega
  clear h1 h2 hDl hBl
  have hrf := rep_field
  go_enter Tryz.func5, Tryz.ntmps5
  go_wp2_with fail
  refine (TR.new (root := rootN) (Below.refl _ w) HM.out.1 (by decide) num_root.2).mono ?_
  rintro e v0 ⟨b, rfl, R1, hb1, B1⟩
  have HS0 : Hid (NumSt w b 0 v0) := Lib.hid ⟨0, [(rootN, zNd)], by decide, St.made R1 num_root.2 HM.out.2.1, NumI.made⟩
  have HB1 := Lib.hid (And.intro hb1 B1)
  have HK1 := Lib.hid B1
  clear R1 B1 hb1
  go_wp2_with fail
  go_loopw [7] (fun iv wr => ∃ k : Nat, k ≤ nn ∧ iv = .int .i64 k ∧ Hid (NumSt w b k wr) ∧ Hid (Below w.heap.size w wr)) (fun iv _ => nn - (intOf iv).toNat)
  case atStart => exact ⟨0, by omega, rfl, HS0, HK1⟩
  case round =>
    obtain ⟨k, hk, rfl, HS, HB⟩ := hrel
    by_cases hlt : k < nn
    · obtain ⟨x, hx⟩ : ∃ x, D[k]? = some x := ⟨_, List.getElem?_eq_getElem (by rw [← HM.out.2.2.2.2.1]; exact hlt)⟩
      obtain ⟨g, off, hna, _, hg2, hg3⟩ := HM.out.2.2.1 k x hx
      subst hna
      have y1 : wr.cell? ⟨g, off + k, none⟩ = some (.int .u8 (x.toNat : Int)) := (HB.out.cell (p := ⟨g, off + k, none⟩) hg2).trans hg3
      obtain ⟨at_, M, hat, S0, NI⟩ := HS.out
      obtain ⟨c, hc⟩ : ∃ c, c = x.toNat % 4 := ⟨_, rfl⟩
      have hc4 : c < 4 := by omega
      have hT : ((x.toNat : Nat) : Int).tmod 4 = (c : Int) := by rw [Int.tmod_eq_emod_of_nonneg (by omega)]; omega
      have tw0 : ∀ _ : True, IntKind.u8.wrap (c : Int) = (c : Int) := fun _ => by rw [IntKind.wrap_u8]; omega
      have tw1 : ∀ _ : True, IntKind.u8.wrap (97 + (c : Int)) = 97 + (c : Int) := fun _ => by rw [IntKind.wrap_u8]; omega
      have tlt : decide ((k : Int) < (nn : Int)) = true := by simp; omega
      have hk40 : k < 40 := by omega
      obtain ⟨sb, hsb⟩ : ∃ sb, sb = bs [UInt8.ofNat (97 + c)] := ⟨_, rfl⟩
      obtain ⟨sd, hsd⟩ : ∃ sd, sd = bs [UInt8.ofNat (48 + k / 10), UInt8.ofNat (48 + k % 10)] := ⟨_, rfl⟩
      obtain ⟨pp, hpp⟩ : ∃ pp, pp = pathN c := ⟨_, rfl⟩
      obtain ⟨p8, hp8⟩ : ∃ p8, p8 = pathN c ++ [48, 48, 48, 48, 48, 48, 48, 48] := ⟨_, rfl⟩
      obtain ⟨wt, hwt⟩ : ∃ wt, wt = wantN c k := ⟨_, rfl⟩
      have hcv1 := fun (w : World) => str_row w #[.int .u8 (97 + (c : Int))] [UInt8.ofNat (97 + c)] (row_one c hc4) 1 rfl
      have hcv2 := fun (w : World) => str_row w #[.int .u8 (48 + ((k / 10 : Nat) : Int)), .int .u8 (48 + ((k % 10 : Nat) : Int))] [UInt8.ofNat (48 + k / 10), UInt8.ofNat (48 + k % 10)] (row_two k hk40) 2 rfl
      have ha1 := fun (W : World) => add_bsC ⟨#[47]⟩ (bs [UInt8.ofNat (97 + c)]) (pathN c) rfl (by simp [pathN]) W
      have ha2 := fun (W : World) => add_bsC (bs (pathN c)) ⟨#[48, 48, 48, 48, 48, 48, 48, 48]⟩ (pathN c ++ [48, 48, 48, 48, 48, 48, 48, 48]) rfl (by simp [pathN]) W
      have ha3 := fun (W : World) => add_bsC (bs (pathN c ++ [48, 48, 48, 48, 48, 48, 48, 48])) (bs [UInt8.ofNat (48 + k / 10), UInt8.ofNat (48 + k % 10)]) (wantN c k) rfl (by simp [wantN, pathN, tailN]) W
      rw [← hsb] at hcv1 ha1
      rw [← hsd] at hcv2 ha3
      rw [← hp8] at ha2 ha3
      rw [← hpp] at ha1 ha2
      rw [← hwt] at ha3
      obtain ⟨kq, hkq⟩ : ∃ kq : Nat, kq = k / 10 := ⟨_, rfl⟩
      obtain ⟨kr, hkr⟩ : ∃ kr : Nat, kr = k % 10 := ⟨_, rfl⟩
      have hkq4 : kq < 4 := by omega
      have hkr10 : kr < 10 := by omega
      rw [← hkq, ← hkr] at hcv2
      have tq : ∀ _ : True, ((k : Int)).tdiv 10 = (kq : Int) := fun _ => by rw [Int.tdiv_eq_ediv_of_nonneg (by omega)]; omega
      have tr : ∀ _ : True, ((k : Int)).tmod 10 = (kr : Int) := fun _ => by rw [Int.tmod_eq_emod_of_nonneg (by omega)]; omega
      have tq1 : ∀ _ : True, IntKind.i64.wrap (kq : Int) = (kq : Int) := fun _ => IntWalk.i64_in _ (by omega)
      have tr1 : ∀ _ : True, IntKind.i64.wrap (kr : Int) = (kr : Int) := fun _ => IntWalk.i64_in _ (by omega)
      have tq2 : ∀ _ : True, IntKind.i64.wrap (48 + (kq : Int)) = 48 + (kq : Int) := fun _ => IntWalk.i64_in _ (by omega)
      have tr2 : ∀ _ : True, IntKind.i64.wrap (48 + (kr : Int)) = 48 + (kr : Int) := fun _ => IntWalk.i64_in _ (by omega)
      have tq3 : ∀ _ : True, IntKind.u8.wrap (48 + (kq : Int)) = 48 + (kq : Int) := fun _ => by rw [IntKind.wrap_u8]; omega
      have tr3 : ∀ _ : True, IntKind.u8.wrap (48 + (kr : Int)) = 48 + (kr : Int) := fun _ => by rw [IntKind.wrap_u8]; omega
      have teq : ((bs wt).toList != (bs wt).toList) = false := by simp
      have teq2 : ((bs wt).toList == (bs wt).toList) = true := by simp
      obtain ⟨u, hu⟩ : ∃ u, u = wr.alloc (.cells #[.int .u8 (97 + (c : Int))] 5) := ⟨_, rfl⟩
      have hbu : Below wr.heap.size wr u := by rw [hu]; exact belowA (Below.refl _ wr) _
      have HU := Lib.hid (And.intro (S0.below hbu) (And.intro hbu (And.intro NI (And.intro hat hu))))
      have HLT := Lib.hid hlt
      have HC := Lib.hid (And.intro hc4 hk40)
      have hnew := (S0.below hbu).newN (by omega) NI hk40 hc4
      rw [← hpp, ← hwt] at hnew
      unfold RawO.val RawO.cells whoV who0 at hnew
      dsimp only at hnew
      have HNEW := Lib.hid hnew
      have HWT := Lib.hid hwt
      clear hbu hu hlt S0 NI hat hc hx hg2 hg3 hnew hsb hsd hpp hp8 hwt hkq hkr hkq4 hkr10 hc4 hk40
      go_wp2_with fail
      rw [← HU.out.2.2.2.2]
      refine HNEW.out.mono ?_
      rintro e s2 ⟨⟨ra, rn, rc, ⟨r1, r2, r3, r4, r5, r6, r7, r8⟩⟩, ka, kn, kc, pa, pc, at2, M2, rfl, S2, hat2, NI2, hm2, K2⟩
      unfold repCells Raw.cells Nums.cells
      dsimp only [List.cons_append, List.nil_append]
      obtain ⟨v2, hv2, T2, k2, q2, sz2, bl2⟩ := rep_box S2 #[.int .i64 0, .string (bs wt), .slice ra rn rc, .int .u32 r1, .int .u32 r2, .int .u32 r3, .int .i64 r4, .int .u32 r5, .int .u64 r6, .int .u64 r7, .int .u64 r8, .slice ka kn kc, .slice pa 0 pc] 43
      obtain ⟨v3, hv3⟩ : ∃ v3, v3 = v2.alloc (.cells #[.int .u8 (48 + (kq : Int)), .int .u8 (48 + (kr : Int))] 5) := ⟨_, rfl⟩
      have B23 : Below v2.heap.size v2 v3 := by rw [hv3]; exact belowA (Below.refl _ v2) _
      have k3 := (B23.block s2.heap.size (by omega)).trans k2
      have z0 : v3.cell? ⟨s2.heap.size, 0, none⟩ = some (.int .i64 0) := cell_of_row _ _ 0 _ 43 (0, 0) k3
      have z1 : v3.cell? ⟨s2.heap.size, 1, none⟩ = some (.string (bs wt)) := cell_of_row _ _ 1 _ 43 (0, 0) k3
      have hbu : Below w.heap.size w u := HB.out.trans (HU.out.2.1.mono HB.out.size)
      have hb2 : Below w.heap.size w v2 := hbu.trans ((K2.trans q2).below hbu.size (fun j e => by have e : j = b := e; have := HB1.out.1; omega))
      have hb3 : Below w.heap.size w v3 := hb2.trans (B23.mono hb2.size)
      have HB3 := Lib.hid hb3
      have H3 := Lib.hid (And.intro (T2.below B23) (And.intro NI2 (And.intro hm2 (by have := HU.out.2.2.2.1; omega : at2 ≤ 2 * (k : Int) + 1))))
      have HW2 := Lib.hid hv2
      have HW3 := Lib.hid hv3
      clear S2 K2 hv2 T2 k2 q2 sz2 bl2 hbu hb2 hb3 B23 k3 hv3 NI2 hm2 hat2
      have HSN0 : Hid (NumSt w b (k + 1) v3) := Lib.hid ⟨at2, M2, by have := H3.out.2.2.2; omega, H3.out.1, H3.out.2.1⟩
      go_upto_region 11 with fail
      rw [← HW2.out]
      go_upto_region 12 with fail
      rw [← HW3.out]
      go_upto_region 14 with fail
      by_cases hlb : k < bn
      · have tlb : decide ((k : Int) < (bn : Int)) = true := by simp; omega
        obtain ⟨y, hy⟩ : ∃ y, Bs[k]? = some y := ⟨_, List.getElem?_eq_getElem (by rw [← HM.out.2.2.2.2.2]; exact hlb)⟩
        obtain ⟨gb, ob, hba, hgb2, hgb3⟩ := HM.out.2.2.2.1 k y hy
        subst hba
        have y2 : v3.cell? ⟨gb, ob + k, none⟩ = some (.bool y) := (HB3.out.cell (p := ⟨gb, ob + k, none⟩) hgb2).trans hgb3
        clear hy hgb2 hgb3
        cases y
        · have HSN := HSN0
          have HBN := HB3
          go_wp2_with fail
          go_roundw
          case rel => exact ⟨k + 1, by have := HLT.out; omega, by go_num, HSN, HBN⟩
          case measure => have := HLT.out; simp [intOf]; omega
        · have hdrop := H3.out.1.dropN (by have := H3.out.2.2.2; omega) H3.out.2.1 HC.out.2 HC.out.1 (by rw [← HWT.out]; exact H3.out.2.2.1)
          rw [← HWT.out] at hdrop
          unfold RawO.val RawO.cells whoV who0 at hdrop
          dsimp only at hdrop
          have HDROP := Lib.hid hdrop
          clear hdrop
          go_wp2_with fail
          refine HDROP.out.mono ?_
          rintro e s4 ⟨p4, ⟨ra4, rn4, rc4, ⟨r41, r42, r43, r44, r45, r46, r47, r48⟩⟩, ka4, kn4, kc4, pa4, pc4, at4, M4, rfl, S4, hat4, NI4, K4⟩
          unfold repCells Raw.cells Nums.cells
          dsimp only [List.cons_append, List.nil_append]
          have HSN : Hid (NumSt w b (k + 1) s4) := Lib.hid ⟨at4, M4, by have := H3.out.2.2.2; omega, S4, NI4⟩
          have HBN : Hid (Below w.heap.size w s4) := Lib.hid (HB3.out.trans (K4.below HB3.out.size (fun j e => by have e : j = b := e; have := HB1.out.1; omega)))
          clear S4 NI4 K4 hat4
          go_wp2_with fail
          go_roundw
          case rel => exact ⟨k + 1, by have := HLT.out; omega, by go_num, HSN, HBN⟩
          case measure => have := HLT.out; simp [intOf]; omega
      · have tlb : decide ((k : Int) < (bn : Int)) = false := by simp; omega
        have HSN := HSN0
        have HBN := HB3
        go_wp2_with fail
        go_roundw
        case rel => exact ⟨k + 1, by have := HLT.out; omega, by go_num, HSN, HBN⟩
        case measure => have := HLT.out; simp [intOf]; omega
    · obtain rfl : nn = k := by omega
      have tlt : decide ((nn : Int) < (nn : Int)) = false := by simp
      obtain ⟨at_, M, hat, S0, NI⟩ := HS.out
      have HW := Lib.hid (works_any wr S0.tr.max S0.pow)
      clear hlt S0 NI hat
      go_wp2_with fail
      refine HW.out.mono ?_
      rintro e v4 ⟨rfl, B4⟩
      have HB4 := Lib.hid (HB.out.trans (B4.mono HB.out.size))
      clear B4
      go_wp2
      go_ret
      exact ⟨rfl, HB4.out⟩
end Go.Proofs.YtnclkfhdpkkakaaGreatDoor

namespace Go.Proofs.YtnclkfhdpkkakaaGreatDoor
set_option linter.unusedVariables false
set_option linter.unusedSimpArgs false
open Go Go.RowKit Go.ChangeShapes Go.WideShapes Go.Deep
section
variable {H : Type} {enc : TypeId × Value → H} {w : World} {base : Nat} {spare : Nat → Bool} {held : Bool}
theorem bools_open {fuel : Nat} {cs : List Value} {y : DataW H × List MemPlace} (h : DataW.trod enc Tryz.prog w base spare held fuel 61 cs = some y) : ∃ a c L, cs = [.slice a (L : List Bool).length c] ∧ L.length ≤ maxLen ∧ BoolSl w a L := by
  obtain ⟨a, len, cap, rfl, hl, hm, hi⟩ := rows_open (P := Tryz.prog) Tryz.underlying61 cellsBoo (by omega) h
  obtain ⟨L, hL, hat⟩ := list_of (fun i (x : Bool) => ∃ b off, a = some ⟨b, off, none⟩ ∧ b < w.heap.size ∧ w.cell? ⟨b, off + i, none⟩ = some (.bool x)) len (fun i hil => by
    obtain ⟨b, off, cs', fuel', y', h1, h2, h3, h4, h5⟩ := hi i hil
    obtain ⟨x, e, _⟩ := DataW.trod_bool Tryz.underlying4 h5
    subst e
    refine ⟨x, b, off, h1, h2, ?_⟩
    have := h4 0 _ rfl
    rw [Nat.mul_one, Nat.add_zero] at this
    exact this)
  exact ⟨a, cap, L, by rw [hL], by rw [hL]; exact Nat.le_trans hl hm, hat⟩
end
set_option maxRecDepth 100000 in
theorem opNumbers_law {H : Type} (enc : TypeId × Value → H) (W : World)
    (v0 : Value) (d0 : DataW H) (p0 : List MemPlace) (h0 : DataW.Trod enc Tryz.prog W 0 (fun _ => true) true 23 v0 d0 p0) (o0 : ∃ b, Value.okWide Tryz.prog W .any b 23 v0)
    (v1 : Value) (d1 : DataW H) (p1 : List MemPlace) (h1 : DataW.Trod enc Tryz.prog W 0 (fun _ => true) true 61 v1 d1 p1) (o1 : ∃ b, Value.okWide Tryz.prog W .any b 61 v1) (hm : MaxInt W) (PT : PowTab W) :
    Calls Tryz.prog 5 #[v0, v1] W fun e W' => e = .returned (.bool true) ∧ Below W.heap.size W W' := by
  obtain ⟨b0, o0⟩ := o0
  obtain ⟨b1, o1⟩ := o1
  obtain ⟨a0, len0, cap0, rfl⟩ := okWide_slice Tryz.underlying23 o0
  obtain ⟨a1, len1, cap1, rfl⟩ := okWide_slice Tryz.underlying61 o1
  obtain ⟨f0, h0⟩ := h0
  obtain ⟨f1, h1⟩ := h1
  obtain ⟨ao, c, D, e0, l0, m0, hD, _⟩ := bytes_open h0
  obtain ⟨ba, bc, L, e1, l1, hB⟩ := bools_open h1
  simp [Value.cells] at e0 e1
  obtain ⟨rfl, rfl, rfl⟩ := e0
  obtain ⟨rfl, rfl, rfl⟩ := e1
  exact opNumbers_core W hm PT _ _ D (fun j x hj => by
    obtain ⟨b, off, g1, g2, g3, g4⟩ := hD j x hj
    exact ⟨b, off, g1, g3, g3, g4⟩) (Nat.le_trans l0 m0) _ _ L hB l1
end Go.Proofs.YtnclkfhdpkkakaaGreatDoor
