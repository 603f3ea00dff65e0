/-
  Operations that came in: opened, however deep.
  Any operation that came in: Do and did.
  Operations and who asks, opened; great, walked.
  great, walked.
  grown, walked: a tree behind operations.
-/
import Derived.Test.YtnclkfhdpkkakaaGreatDoorJOpWorks
import Derived.Test.YtnclkfhdpkkakaaGreatDoorTrOpen
import Derived.Test.YtnclkfhdpkkakaaGreatDoorJOpDoMul
namespace Go.Proofs.YtnclkfhdpkkakaaGreatDoor
set_option linter.unusedVariables false
set_option linter.unusedSimpArgs false
open Go Go.RowKit Go.ChangeShapes Go.WideShapes Go.Deep
section
variable {H : Type} {enc : TypeId × Value → H} {P : Program} {w : World} {base : Nat} {spare : Nat → Bool} {held : Bool}
/-- As rows_open, with the fuel that is left. -/
theorem rows_openF {t e : TypeId} (ht : P.underlying t = some (.slice e)) {K : Nat} (hK : P.cellsOf e = K) (hpos : 0 < K) {fuel : Nat} {cs : List Value} {x : DataW H × List MemPlace}
    (h : DataW.trod enc P w base spare held fuel t cs = some x) :
    ∃ ao len cap m, cs = [.slice ao len cap] ∧ len ≤ cap ∧ cap ≤ maxLen ∧ (len = 0 ∨ fuel = m + 1) ∧ ∀ i, i < len → ∃ b off cs' y, ao = some ⟨b, off, none⟩ ∧ b < w.heap.size ∧ cs'.length = K ∧ w.rangeAt b (off + i * K) cs' ∧ DataW.trod enc P w base spare held m e cs' = some y := by
  rcases DataW.trod_slice ht h with ⟨rfl, _⟩ | ⟨a, len, cap, elems, rest, n, hfu, rfl, _, _, hl, hm, hlen, hel, _, _⟩
  · exact ⟨none, 0, 0, 0, rfl, Nat.le_refl _, Nat.zero_le _, .inl rfl, fun i hi => absurd hi (Nat.not_lt_zero _)⟩
  · have hget : ∀ i, i < len → ∃ cs' y, w.cells? base (a.add (i * P.cellsOf e)) (P.cellsOf e) = some cs' ∧ DataW.trod enc P w base spare held n e cs' = some y := fun i hi => by
      have h1 := hel i hi
      rw [List.getElem?_eq_getElem (by omega)] at h1
      obtain ⟨cs', h2, h3⟩ := Option.bind_eq_some_iff.1 h1
      exact ⟨cs', _, h2, h3⟩
    refine ⟨some a, len, cap, n, rfl, hl, hm, .inr hfu, fun i hil => ?_⟩
    have hsp : a.spot = none := by
      obtain ⟨cs0, _, hc0, _⟩ := hget 0 (by omega)
      obtain ⟨_, hl0, hat0⟩ := World.cells?_some hc0
      rw [hK] at hl0 hat0
      have g := hat0 0 hpos
      rw [List.getElem?_eq_getElem (by omega)] at g
      cases hs : a.spot with
      | none => rfl
      | some q =>
        exfalso
        simp only [Nat.zero_mul, Addr.add, if_true] at g
        simp only [World.cell?, hs, Option.isSome_some, if_true] at g
        split at g <;> cases g
    obtain ⟨b, off, spot⟩ := a
    dsimp only at hsp
    subst hsp
    obtain ⟨cs', y, hc, htr⟩ := hget i hil
    obtain ⟨_, hlen2, hat⟩ := World.cells?_some hc
    rw [hK] at hlen2 hat
    have hcell : w.rangeAt b (off + i * K) cs' := by
      intro j v hv
      have hj : j < K := by rw [← hlen2]; exact (List.getElem?_eq_some_iff.1 hv).1
      have g := hat j hj
      rw [hv, add_add, Addr.add_mid] at g
      rw [Nat.add_assoc]
      exact g
    refine ⟨b, off, cs', y, rfl, ?_, hlen2, hcell, htr⟩
    obtain ⟨v, hv⟩ : ∃ v, cs'[0]? = some v := ⟨_, List.getElem?_eq_getElem (by omega)⟩
    exact World.block_lt_of_cell? w _ (hcell 0 v hv)
end
/-- What an operation that came in says. -/
structure OpOk (w : World) (r : RawO) (o : Opl) : Prop where
  leaf : LeafO w (fun k => k < w.heap.size) r o
  kind : 0 ≤ r.kind ∧ r.kind ≤ 255
  ver : I64 r.ver
  path : o.path.length ≤ maxLen
  dn : r.dn ≤ maxLen
  dc : r.dn ≤ r.dc
  pn : r.pn ≤ maxLen
/-- Operations in a row, n deep. -/
def OpsAt (w : World) : Nat → Option Addr → List RawO → Prop
  | 0, _, R => R = []
  | n + 1, pa, R => ∀ (k : Nat) r, R[k]? = some r → ∃ (b off : Nat) (o : Opl) (Q : List RawO), pa = some ⟨b, off, none⟩ ∧ b < w.heap.size ∧ w.rangeAt b (off + k * 7) r.cells ∧ OpOk w r o ∧ r.pn = Q.length ∧ OpsAt w n r.pa Q
theorem OpsAt.up {w : World} : ∀ {n : Nat} {pa : Option Addr} {R : List RawO}, OpsAt w n pa R → OpsAt w (n + 1) pa R
  | 0, pa, R, h => by
    have h : R = [] := h
    subst h
    exact fun k r hk => by simp at hk
  | n + 1, pa, R, h => fun k r hk => by
    obtain ⟨b, off, o, Q, h1, h2, h3, h4, h5, h6⟩ := h k r hk
    exact ⟨b, off, o, Q, h1, h2, h3, h4, h5, h6.up⟩
/-- What a check sees of an operation. -/
def RawO.info (r : RawO) : PartI := ⟨r.kind, r.dn, r.pn⟩
theorem OpsAt.chk {w : World} : ∀ {n : Nat} {pa : Option Addr} {R : List RawO}, OpsAt w n pa R → OpAtN w n pa (R.map RawO.info)
  | 0, pa, R, h => by
    have h : R = [] := h
    subst h
    rfl
  | n + 1, pa, R, h => fun k i hk => by
    rw [List.getElem?_map] at hk
    obtain ⟨r, hr, rfl⟩ := Option.map_eq_some_iff.1 hk
    obtain ⟨b, off, o, Q, h1, h2, h3, h4, h5, h6⟩ := h k r hr
    exact ⟨b, off, r, Q.map RawO.info, h1, h2, h3, rfl, by rw [List.length_map]; exact h5, h4.dn, h6.chk⟩
theorem OpOk.below {w w' : World} {r : RawO} {o : Opl} (h : OpOk w r o) (hb : Below w.heap.size w w') : OpOk w' r o :=
  ⟨h.leaf.lift hb, h.kind, h.ver, h.path, h.dn, h.dc, h.pn⟩
theorem OpsAt.below {w w' : World} (hb : Below w.heap.size w w') : ∀ {n : Nat} {pa : Option Addr} {R : List RawO}, OpsAt w n pa R → OpsAt w' n pa R
  | 0, _, _, h => h
  | n + 1, pa, R, h => fun k r hk => by
    obtain ⟨b, off, o, Q, h1, h2, h3, h4, h5, h6⟩ := h k r hk
    exact ⟨b, off, o, Q, h1, Nat.lt_of_lt_of_le h2 hb.size, range_kept h3 hb h2, h4.below hb, h5, h6.below hb⟩
theorem cellsOp : Tryz.prog.cellsOf 26 = 7 := by kernel_rfl
theorem cellsOps : Tryz.prog.cellsOf 24 = 1 := by kernel_rfl
theorem cellsI64 : Tryz.prog.cellsOf 2 = 1 := by kernel_rfl
section
variable {H : Type} {enc : TypeId × Value → H} {w : World} {base : Nat} {spare : Nat → Bool} {held : Bool}
set_option maxRecDepth 100000 in
theorem op_open : ∀ (fuel : Nat) {cs : List Value} {y : DataW H × List MemPlace}, DataW.trod enc Tryz.prog w base spare held fuel 26 cs = some y →
    ∃ (r : RawO) (o : Opl) (Q : List RawO), cs = r.cells ∧ OpOk w r o ∧ r.pn = Q.length ∧ OpsAt w fuel r.pa Q := by
  intro fuel
  induction fuel using Nat.strongRecOn with
  | ind fuel ih =>
  intro cs y h
  obtain ⟨xs, n, hfu, _, hl, hx, hf⟩ := DataW.trod_struct Tryz.underlying26 h
  rw [cellsOp] at hl
  match cs, hl with
  | [c0, c1, c2, c3, c4, c5, c6], _ =>
    match xs, hx with
    | [y0, y1, y2, y3, y4, y5, y6], _ =>
      have g0 : DataW.trod enc Tryz.prog w base spare held n 5 (([c0, c1, c2, c3, c4, c5, c6].drop 0).take (Tryz.prog.cellsOf 5)) = some y0 := hf 0 _ rfl
      have g1 : DataW.trod enc Tryz.prog w base spare held n 9 (([c0, c1, c2, c3, c4, c5, c6].drop 1).take (Tryz.prog.cellsOf 9)) = some y1 := hf 1 _ rfl
      have g2 : DataW.trod enc Tryz.prog w base spare held n 23 (([c0, c1, c2, c3, c4, c5, c6].drop 2).take (Tryz.prog.cellsOf 23)) = some y2 := hf 2 _ rfl
      have g3 : DataW.trod enc Tryz.prog w base spare held n 2 (([c0, c1, c2, c3, c4, c5, c6].drop 3).take (Tryz.prog.cellsOf 2)) = some y3 := hf 3 _ rfl
      have g4 : DataW.trod enc Tryz.prog w base spare held n 4 (([c0, c1, c2, c3, c4, c5, c6].drop 4).take (Tryz.prog.cellsOf 4)) = some y4 := hf 4 _ rfl
      have g5 : DataW.trod enc Tryz.prog w base spare held n 4 (([c0, c1, c2, c3, c4, c5, c6].drop 5).take (Tryz.prog.cellsOf 4)) = some y5 := hf 5 _ rfl
      have g6 : DataW.trod enc Tryz.prog w base spare held n 24 (([c0, c1, c2, c3, c4, c5, c6].drop 6).take (Tryz.prog.cellsOf 24)) = some y6 := hf 6 _ rfl
      rw [cellsByte] at g0
      rw [cellsStr] at g1
      rw [cellsBytes] at g2
      rw [cellsI64] at g3
      rw [cellsBoo] at g4 g5
      rw [cellsOps] at g6
      obtain ⟨k, e0, _, w0⟩ := DataW.trod_int Tryz.underlying5 g0
      obtain ⟨sx, e1, _, hs⟩ := DataW.trod_string Tryz.underlying9 g1
      obtain ⟨p, rfl⟩ := str_open sx
      obtain ⟨ao, c, D, e2, b1, b2, b3, b4⟩ := bytes_open g2
      obtain ⟨v, e3, _, w3⟩ := DataW.trod_int Tryz.underlying2 g3
      obtain ⟨sq, e4, _⟩ := DataW.trod_bool Tryz.underlying4 g4
      obtain ⟨ep, e5, _⟩ := DataW.trod_bool Tryz.underlying4 g5
      obtain ⟨pa, len, cap, m, e6, l1, l2, hm, hi⟩ := rows_openF (P := Tryz.prog) Tryz.underlying24 cellsOp (by omega) g6
      obtain ⟨Q, hQ, hat⟩ := list_of (fun i (r : RawO) => ∃ (b off : Nat) (o : Opl) (Q : List RawO), pa = some ⟨b, off, none⟩ ∧ b < w.heap.size ∧ w.rangeAt b (off + i * 7) r.cells ∧ OpOk w r o ∧ r.pn = Q.length ∧ OpsAt w m r.pa Q) len (fun i hil => by
        obtain ⟨b, off, cs', y', h1, h2, h3, h4, h5⟩ := hi i hil
        obtain ⟨r, o, Q, rfl, h6, h7, h8⟩ := ih m (by rcases hm with h | h <;> omega) h5
        exact ⟨r, b, off, o, Q, h1, h2, h4, h6, h7, h8⟩)
      simp at e0 e1 e2 e3 e4 e5 e6
      subst e0 e1 e2 e3 e4 e5 e6
      rw [size_bs] at hs
      refine ⟨⟨k, p, ao, D.length, c, v, sq, ep, pa, len, cap⟩, ⟨k, p, D, v, sq, ep⟩, Q, rfl, ⟨⟨rfl, rfl, rfl, rfl, rfl, rfl, fun j x hj => ?_, b4⟩, wf_u8 w0, i64_of w3, hs, Nat.le_trans b1 b2, b1, Nat.le_trans l1 l2⟩, hQ.symm, ?_⟩
      · obtain ⟨b, off, h1, _, h3, h4⟩ := b3 j x hj
        exact ⟨b, off, h1, h3, h3, h4⟩
      · rcases hm with h0 | h0
        · have : Q = [] := List.eq_nil_of_length_eq_zero (by omega)
          subst this
          rw [hfu]
          exact fun k r hk => by simp at hk
        · rw [hfu, h0]
          exact OpsAt.up (n := m + 1) hat
end
end Go.Proofs.YtnclkfhdpkkakaaGreatDoor

namespace Go.Proofs.YtnclkfhdpkkakaaGreatDoor
set_option linter.unusedVariables false
set_option linter.unusedSimpArgs false
open Go Go.RowKit Go.Shelf Go.MapKept Go.ChangeMaps Go.Maps Go.Sort
/-- An operation that came in; ce: what its check answers. -/
structure OpIn (w : World) (r : RawO) (o : OpV) (ce : Int) : Prop where
  leaf : LeafO w (fun k => k < w.heap.size) r o.leaf
  chk : ∀ w', Below w.heap.size w w' → Calls Tryz.prog 22 #[r.val] w' (CheckIs w' ce)
  good : ce = 0 → (o.leaf.kind ≠ 7 ∧ r.pn = 0 ∧ Leafy o.leaf) ∨ (o.leaf.kind = 7 ∧ r.pn = o.parts.length ∧ o.parts.length ≤ 6 ∧ PartsAt w r.pa o.parts)
theorem PartsAt.below {w w' : World} {pa : Option Addr} {Q : List Opl} (h : PartsAt w pa Q) (hb : Below w.heap.size w w') : PartsAt w' pa Q := fun k p hk => by
  obtain ⟨g, off, r, h1, h2, h3, h4, h5⟩ := h k p hk
  exact ⟨g, off, r, h1, Nat.lt_of_lt_of_le h2 hb.size, range_kept h3 hb h2, h4.lift hb, h5⟩
theorem OpIn.below {w w' : World} {r : RawO} {o : OpV} {ce : Int} (h : OpIn w r o ce) (hb : Below w.heap.size w w') : OpIn w' r o ce :=
  ⟨h.leaf.lift hb, fun w2 hb2 => h.chk w2 (hb.trans (hb2.mono hb.size)), fun h0 => (h.good h0).imp id (fun h => ⟨h.1, h.2.1, h.2.2.1, h.2.2.2.below hb⟩)⟩
theorem OpIn.fine {w : World} {r : RawO} {o : OpV} {ce : Int} (h : OpIn w r o ce) (h0 : ce = 0) : o.fine ∧ o.seq.length ≤ 6 := by
  rcases h.good h0 with ⟨hk, _, hl⟩ | ⟨hk, _, h6, hp⟩
  · have hs : o.seq = [o.leaf] := by unfold OpV.seq; rw [if_neg hk]
    refine ⟨fun p hp => ?_, by rw [hs]; simp⟩
    rw [hs] at hp
    simp at hp
    rw [hp]
    exact hl
  · have hs : o.seq = o.parts := by unfold OpV.seq; rw [if_pos hk]
    refine ⟨fun p hq => ?_, by rw [hs]; exact h6⟩
    rw [hs] at hq
    obtain ⟨k, hk⟩ := List.mem_iff_getElem?.1 hq
    obtain ⟨_, _, _, _, _, _, _, h7⟩ := hp k p hk
    exact h7
theorem OpIn.xlen {w : World} {r : RawO} {o : OpV} {ce : Int} (h : OpIn w r o ce) (root : Bytes) (M : List (Bytes × Nd)) (at_ : Int) (who : Sess) : (doX root M at_ who ce o).length ≤ 12 := by
  unfold doX
  by_cases hE : doE root M at_ who ce o = 0
  · rw [if_neg (by simpa using hE)]
    have h0 : ce = 0 := by
      by_cases h0 : ce = 0
      · exact h0
      · unfold doE at hE
        rw [if_pos h0] at hE
        exact absurd hE h0
    have h1 := runX_len (root := root) (at_ := at_ + 1) (who := who) o.seq M
    have h2 := (h.fine h0).2
    omega
  · rw [if_pos hE]
    simp
section
variable {w0 w : World} {b : Nat} {root : Bytes} {at_ : Int} {M : List (Bytes × Nd)}
theorem Nice.does {ce : Int} {who : Sess} {o : OpV} (h : Nice M) : Nice (doM root M at_ who ce o) := by
  unfold doM
  split
  · exact h
  · exact Nice.run _ h
theorem St.do_op (S : St w0 w b root at_ M) (h1 : at_ ≤ 90000) {r : RawO} {o : OpV} {ce : Int} (h : OpIn w r o ce) (who : Sess) :
    Calls Tryz.prog 14 #[.pointer (some ⟨b, 0, none⟩), r.val, whoV who] w (DoEnd w root M at_ who ce o) := by
  by_cases h0 : ce = 0
  · subst h0
    rcases h.good rfl with hg | hg
    · exact Go.Proofs.YtnclkfhdpkkakaaGreatDoor.do_leaf S.tr S.inv S.tr.max S.lo h1 S.nice S.pow r o who h.leaf h.chk hg
    · exact do_multi S.tr S.inv S.tr.max S.lo h1 S.nice S.pow r o who h.leaf h.chk hg
  · exact do_bad r o who ce h.chk h0
/-- What did answers of any operation. -/
structure DidOp (w0 w : World) (b : Nat) (root : Bytes) (at_ : Int) (M : List (Bytes × Nd)) (who : Sess) (ce : Int) (o : OpV) (e : Ending) (w' : World) : Prop where
  ret : ∃ u, e = .returned u ∧ ReplyAt w' (From w.heap.size) u (doE root M at_ who ce o) (doA root M at_ who ce o) (doR root M at_ who ce o)
  st : St w0 w' b root (if doX root M at_ who ce o = [] then at_ else at_ + 1) (doM root M at_ who ce o)
  kept : Kept (· = b) w w'
theorem St.did_op (S : St w0 w b root at_ M) (h1 : at_ ≤ 90000) {r : RawO} {o : OpV} {ce : Int} (h : OpIn w r o ce) (who : Sess) :
    Calls Tryz.prog 25 #[.pointer (some ⟨b, 0, none⟩), r.val, whoV who] w (DidOp w0 w b root at_ M who ce o) := by
  refine (did_any S.tr S.inv S.lo h1 r o who ce (fun h0 => (h.fine h0).1) (fun w' hb => (S.below hb).do_op h1 (h.below hb) who) (Nat.le_trans (h.xlen _ _ _ _) (by decide))).mono ?_
  rintro e w' ⟨u, rfl, hrep, hT, hK⟩
  refine ⟨⟨u, rfl, hrep⟩, ⟨hT, S.inv.does, S.nice.does, S.tab, ?_⟩, hK⟩
  have := S.lo
  split <;> omega
end
/-- Each operation of a row, in the plain form. -/
theorem OpsAt.plain {w : World} {n : Nat} {pa : Option Addr} {Q : List RawO} (h : OpsAt w n pa Q) : ∃ ps : List Opl, ps.length = Q.length ∧ ∀ (k : Nat) q, Q[k]? = some q → ∃ p, ps[k]? = some p ∧ OpOk w q p ∧ (∃ b off, pa = some ⟨b, off, none⟩ ∧ b < w.heap.size ∧ w.rangeAt b (off + k * 7) q.cells) := by
  obtain ⟨ps, hl, hat⟩ := list_of (fun i (p : Opl) => ∃ q, Q[i]? = some q ∧ OpOk w q p ∧ (∃ b off, pa = some ⟨b, off, none⟩ ∧ b < w.heap.size ∧ w.rangeAt b (off + i * 7) q.cells)) Q.length (fun i hi => by
    obtain ⟨q, hq⟩ : ∃ q, Q[i]? = some q := ⟨_, List.getElem?_eq_getElem hi⟩
    cases n with
    | zero =>
      have h : Q = [] := h
      subst h
      simp at hi
    | succ n =>
      obtain ⟨b, off, o, _, h1, h2, h3, h4, _, _⟩ := h i q hq
      exact ⟨o, q, hq, h4, b, off, h1, h2, h3⟩)
  refine ⟨ps, hl, fun k q hq => ?_⟩
  have hk := (List.getElem?_eq_some_iff.1 hq).1
  obtain ⟨p, hp⟩ : ∃ p, ps[k]? = some p := ⟨_, List.getElem?_eq_getElem (by rw [hl]; exact hk)⟩
  obtain ⟨q', hq', h1, h2⟩ := hat k p hp
  rw [hq] at hq'
  cases hq'
  exact ⟨p, hp, h1, h2⟩
/-- What a check answers of an operation that lies so. -/
def ceOf (r : RawO) (Q : List RawO) : Int := checkE r.kind r.dn (Q.map RawO.info)
theorem opIn_of {w : World} {n : Nat} {r : RawO} {o : Opl} {Q : List RawO} {ps : List Opl} (h : OpOk w r o) (hpn : r.pn = Q.length) (hat : OpsAt w n r.pa Q) (hl : ps.length = Q.length)
    (hps : ∀ (k : Nat) q, Q[k]? = some q → ∃ p, ps[k]? = some p ∧ OpOk w q p ∧ (∃ b off, r.pa = some ⟨b, off, none⟩ ∧ b < w.heap.size ∧ w.rangeAt b (off + k * 7) q.cells))
    (hp : o.path.length ≤ 900) (hpp : ∀ p ∈ ps, p.path.length ≤ 900) : OpIn w r ⟨o, ps⟩ (ceOf r Q) := by
  refine ⟨h.leaf, fun w' hb => ?_, fun h0 => ?_⟩
  · exact check_any n w' r (Q.map RawO.info) (by rw [List.length_map]; exact hpn) (hat.chk.below hb) h.dn
  · unfold ceOf checkE at h0
    split at h0
    · cases h0
    · rename_i h1
      split at h0
      · cases h0
      · rename_i h2
        split at h0
        · cases h0
        · rename_i h3
          rw [List.length_map, ← hpn] at h1
          have hkd : r.kind = o.kind := h.leaf.kind
          have hdn : r.dn = o.data.length := h.leaf.len
          by_cases h7 : r.kind = 7
          · refine .inr ⟨hkd ▸ h7, by rw [hl]; exact hpn, by show ps.length ≤ 6; omega, fun k p hk => ?_⟩
            have hkl := (List.getElem?_eq_some_iff.1 hk).1
            obtain ⟨q, hq⟩ : ∃ q, Q[k]? = some q := ⟨_, List.getElem?_eq_getElem (by rw [← hl]; exact hkl)⟩
            obtain ⟨p', hp', g1, b, off, g2, g3, g4⟩ := hps k q hq
            have e : p' = p := by
              have := hp'.symm.trans hk
              exact Option.some.inj this
            subst e
            have hmem : q.info ∈ Q.map RawO.info := List.mem_map_of_mem (List.mem_of_getElem? hq)
            have hbad : PartI.bad q.info = false := by
              cases hb : PartI.bad q.info with
              | false => rfl
              | true => exact absurd (List.any_eq_true.2 ⟨_, hmem, hb⟩) h2
            have hlong : PartI.long q.info = false := by
              cases hb : PartI.long q.info with
              | false => rfl
              | true => exact absurd (.inr (List.any_eq_true.2 ⟨_, hmem, hb⟩)) h3
            unfold PartI.bad RawO.info at hbad
            unfold PartI.long RawO.info at hlong
            simp at hbad hlong
            have e1 : q.kind = p'.kind := g1.leaf.kind
            have e2 : q.dn = p'.data.length := g1.leaf.len
            exact ⟨b, off, q, g2, g3, g4, g1.leaf, by omega, by omega, hpp p' (List.mem_of_getElem? hk), by omega⟩
          · refine .inl ⟨fun e => h7 (hkd.trans e), ?_, ?_, ?_, hp, ?_⟩
            · have hc : ¬ (decide (r.kind = 7) ≠ decide (0 < r.pn)) := fun e => h1 (.inr (.inr (.inr e)))
              rw [decide_eq_false h7] at hc
              have : ¬ (0 < r.pn) := fun e => hc (by rw [decide_eq_true e]; decide)
              omega
            · show 1 ≤ o.kind
              omega
            · show o.kind ≤ 6
              omega
            · show o.data.length ≤ 1000000
              have : ¬ 64 < r.dn := fun e => h3 (.inl e)
              omega
end Go.Proofs.YtnclkfhdpkkakaaGreatDoor

namespace Go.Proofs.YtnclkfhdpkkakaaGreatDoor
set_option linter.unusedVariables false
set_option linter.unusedSimpArgs false
open Go Go.RowKit Go.Shelf Go.MapKept Go.ChangeMaps Go.Maps Go.Sort Go.ChangeShapes Go.WideShapes Go.Deep
/-- An operation that is asked, as it came in. -/
structure AskRaw where
  r : RawO
  o : Opl
  Q : List RawO
  ps : List Opl
  who : Sess
def AskRaw.cells (x : AskRaw) : List Value := [.int .u8 x.r.kind, .string (bs x.r.path), .slice x.r.da x.r.dn x.r.dc, .int .i64 x.r.ver, .bool x.r.seq, .bool x.r.eph, .slice x.r.pa x.r.pn x.r.pc, .int .i64 x.who.site, .int .u32 x.who.n]
/-- A session of numbers. -/
def SessOk (s : Sess) : Prop := (Lit.int .i64 s.site).wf = true ∧ (Lit.int .u32 s.n).wf = true
structure AskOk (w : World) (x : AskRaw) : Prop where
  ok : OpOk w x.r x.o
  sess : SessOk x.who
  pn : x.r.pn = x.Q.length
  ops : ∃ n, OpsAt w n x.r.pa x.Q
  pl : x.ps.length = x.Q.length
  parts : ∀ (k : Nat) q, x.Q[k]? = some q → ∃ p, x.ps[k]? = some p ∧ OpOk w q p ∧ (∃ b off, x.r.pa = some ⟨b, off, none⟩ ∧ b < w.heap.size ∧ w.rangeAt b (off + k * 7) q.cells)
def AsksAt (w : World) (a : Option Addr) (L : List AskRaw) : Prop := ∀ (k : Nat) x, L[k]? = some x → ∃ b off, a = some ⟨b, off, none⟩ ∧ b < w.heap.size ∧ w.rangeAt b (off + k * 9) x.cells ∧ AskOk w x
theorem AskOk.below {w w' : World} {x : AskRaw} (h : AskOk w x) (hb : Below w.heap.size w w') : AskOk w' x :=
  ⟨h.ok.below hb, h.sess, h.pn, h.ops.elim fun n hn => ⟨n, OpsAt.below hb hn⟩, h.pl, fun k q hq => by
    obtain ⟨p, h1, h2, b, off, h3, h4, h5⟩ := h.parts k q hq
    exact ⟨p, h1, h2.below hb, b, off, h3, Nat.lt_of_lt_of_le h4 hb.size, range_kept h5 hb h4⟩⟩
theorem AsksAt.below {w w' : World} {a : Option Addr} {L : List AskRaw} (h : AsksAt w a L) (hb : Below w.heap.size w w') : AsksAt w' a L := fun k x hx => by
  obtain ⟨b, off, h1, h2, h3, h4⟩ := h k x hx
  exact ⟨b, off, h1, Nat.lt_of_lt_of_le h2 hb.size, range_kept h3 hb h2, h4.below hb⟩
theorem cellsAsk : Tryz.prog.cellsOf 31 = 9 := by kernel_rfl
section
variable {H : Type} {enc : TypeId × Value → H} {w : World} {base : Nat} {spare : Nat → Bool} {held : Bool}
set_option maxRecDepth 100000 in
theorem who_open {fuel : Nat} {cs : List Value} {y : DataW H × List MemPlace} (h : DataW.trod enc Tryz.prog w base spare held fuel 29 cs = some y) : ∃ who : Sess, cs = [.int .i64 who.site, .int .u32 who.n] ∧ SessOk who := by
  obtain ⟨xs, n, hfu, _, hl, hx, hf⟩ := DataW.trod_struct Tryz.underlying29 h
  rw [cellsSess] at hl
  match cs, hl with
  | [c0, c1], _ =>
    match xs, hx with
    | [y0, y1], _ =>
      have g0 : DataW.trod enc Tryz.prog w base spare held n 3 (([c0, c1].drop 0).take (Tryz.prog.cellsOf 3)) = some y0 := hf 0 _ rfl
      have g1 : DataW.trod enc Tryz.prog w base spare held n 27 (([c0, c1].drop 1).take (Tryz.prog.cellsOf 27)) = some y1 := hf 1 _ rfl
      rw [cellsInt] at g0
      rw [cellsU32] at g1
      obtain ⟨k, e0, _, w0⟩ := DataW.trod_int Tryz.underlying3 g0
      obtain ⟨n, e1, _, w1⟩ := DataW.trod_int Tryz.underlying27 g1
      simp at e0 e1
      subst e0 e1
      exact ⟨⟨k, n⟩, rfl, w0, w1⟩
set_option maxRecDepth 100000 in
theorem ask_open {fuel : Nat} {cs : List Value} {y : DataW H × List MemPlace} (h : DataW.trod enc Tryz.prog w base spare held fuel 31 cs = some y) : ∃ x : AskRaw, cs = x.cells ∧ AskOk w x := by
  obtain ⟨xs, n, hfu, _, hl, hx, hf⟩ := DataW.trod_struct Tryz.underlying31 h
  rw [cellsAsk] at hl
  match cs, hl with
  | [c0, c1, c2, c3, c4, c5, c6, c7, c8], _ =>
    match xs, hx with
    | [y0, y1], _ =>
      have g0 : DataW.trod enc Tryz.prog w base spare held n 26 (([c0, c1, c2, c3, c4, c5, c6, c7, c8].drop 0).take (Tryz.prog.cellsOf 26)) = some y0 := hf 0 _ rfl
      have g1 : DataW.trod enc Tryz.prog w base spare held n 29 (([c0, c1, c2, c3, c4, c5, c6, c7, c8].drop 7).take (Tryz.prog.cellsOf 29)) = some y1 := hf 1 _ rfl
      rw [cellsOp] at g0
      rw [cellsSess] at g1
      obtain ⟨r, o, Q, e0, h1, h2, h3⟩ := op_open n g0
      obtain ⟨who, e1, hw⟩ := who_open g1
      obtain ⟨ps, h4, h5⟩ := h3.plain
      obtain ⟨ok, op, oa, on, oc, ov, os, oe, qa, qn, qc⟩ := r
      unfold RawO.cells at e0
      simp at e0 e1
      obtain ⟨rfl, rfl, rfl, rfl, rfl, rfl, rfl⟩ := e0
      obtain ⟨rfl, rfl⟩ := e1
      exact ⟨⟨_, o, Q, ps, who⟩, rfl, h1, hw, h2, ⟨n, h3⟩, h4, h5⟩
theorem asks_open {fuel : Nat} {cs : List Value} {y : DataW H × List MemPlace} (h : DataW.trod enc Tryz.prog w base spare held fuel 22 cs = some y) : ∃ a c L, cs = [.slice a (L : List AskRaw).length c] ∧ L.length ≤ maxLen ∧ AsksAt w a L := by
  obtain ⟨a, len, cap, m, rfl, l1, l2, _, hi⟩ := rows_openF (P := Tryz.prog) Tryz.underlying22 cellsAsk (by omega) h
  obtain ⟨L, hL, hat⟩ := list_of (fun i (x : AskRaw) => ∃ b off, a = some ⟨b, off, none⟩ ∧ b < w.heap.size ∧ w.rangeAt b (off + i * 9) x.cells ∧ AskOk w x) len (fun i hil => by
    obtain ⟨b, off, cs', y', h1, h2, h3, h4, h5⟩ := hi i hil
    obtain ⟨x, rfl, h6⟩ := ask_open h5
    exact ⟨x, b, off, h1, h2, h4, h6⟩)
  exact ⟨a, cap, L, by rw [hL], by rw [hL]; exact Nat.le_trans l1 l2, hat⟩
end
/-- More than a statement looks at? -/
def partGreat (p : RawO) : Bool := decide (200 < p.path.length) || decide (200 < p.dn) || decide (2 < p.pn)
def askGreat (x : AskRaw) : Bool := decide (200 < x.r.path.length) || decide (200 < x.r.dn) || decide (10 < x.r.pn) || x.Q.any partGreat
def greatL (L : List AskRaw) : Bool := decide (60 < L.length) || L.any askGreat
end Go.Proofs.YtnclkfhdpkkakaaGreatDoor

namespace Go.Proofs.YtnclkfhdpkkakaaGreatDoor
set_option linter.unusedVariables false
set_option linter.unusedSimpArgs false
open Go Go.RowKit Go.Shelf Go.MapKept Go.ChangeMaps Go.Maps Go.Sort
theorem great_of {L : List AskRaw} {k : Nat} {x : AskRaw} (hx : L[k]? = some x) (h : askGreat x = true) : greatL L = true := by
  unfold greatL
  rw [List.any_eq_true.2 ⟨x, List.mem_of_getElem? hx, h⟩]
  simp
theorem any_next {α : Type} {f : α → Bool} {P : List α} {k : Nat} {i : α} (h : P[k]? = some i) : (P.take (k + 1)).any f = ((P.take k).any f || f i) := by
  rw [List.take_add_one, h]
  simp
set_option maxRecDepth 100000 in
set_option maxHeartbeats 16000000 in
theorem asks_great (w : World) (a : Option Addr) (c : Nat) (L : List AskRaw) (hat : AsksAt w a L) (hl : L.length ≤ maxLen) :
    Calls Tryz.prog 12 #[.slice a L.length c] w fun e w' => e = .returned (.bool (greatL L)) ∧ Below w.heap.size w w' := by
  obtain ⟨n, hn⟩ : ∃ n, n = L.length := ⟨_, rfl⟩
  rw [← hn]
  rw [← hn] at hl
  unfold maxLen at hl
  obtain ⟨G, hGd⟩ : ∃ G, G = greatL L := ⟨_, rfl⟩
  rw [← hGd]
  have HG := Lib.hid hGd
  clear hGd
  have HA := Lib.hid (And.intro hat hn)
  have HSO : Hid ((Tryz.prog.info? 26).map (·.size) = some 7) := Lib.hid (by kernel_rfl)
  clear hat hn
  by_cases h60 : 60 < n
  · have hG : G = true := by rw [HG.out]; unfold greatL; rw [← HA.out.2, decide_eq_true h60]; rfl
    have t1 : decide ((60 : Int) < (n : Int)) = true := by simp; omega
    subst hG
    clear h60
    go_enter Tryz.func12, Tryz.ntmps12
    go_wp2
    go_ret
    exact ⟨rfl, Below.refl _ _⟩
  have t0 : decide ((60 : Int) < (n : Int)) = false := by simp; omega
  have H60 := Lib.hid h60
  have hn60 : n ≤ 60 := by omega
  clear h60 hl
  go_enter Tryz.func12, Tryz.ntmps12
  go_wp2_with fail
  go_loopw [3] (fun iv wr => ∃ k : Nat, k ≤ n ∧ iv = .int .i64 k ∧ Hid (Below w.heap.size w wr ∧ (L.take k).any askGreat = false)) (fun iv _ => n - (intOf iv).toNat)
  case atStart => exact ⟨0, by omega, rfl, Lib.hid ⟨Below.refl _ _, rfl⟩⟩
  case round =>
    obtain ⟨k, hk, rfl, HS⟩ := hrel
    by_cases hlt : k < n
    · obtain ⟨x, hx⟩ : ∃ x, L[k]? = some x := ⟨_, List.getElem?_eq_getElem (by rw [← HA.out.2]; exact hlt)⟩
      obtain ⟨b, off, ha, hb, hrg, hok⟩ := HA.out.1 k x hx
      subst ha
      obtain ⟨⟨ok, op, oa, on, oc, ov, os, oe, qa, qn, qc⟩, o, Q, ps, ⟨s, sn⟩⟩ := x
      have hrw := range_kept hrg HS.out.1 hb
      unfold AskRaw.cells at hrg hrw
      dsimp only at hrg hrw
      have y1 : wr.cell? ⟨b, off + k * 9 + 1, none⟩ = some (.string (bs op)) := hrw 1 _ rfl
      have y2 : wr.cell? ⟨b, off + k * 9 + 2, none⟩ = some (.slice oa on oc) := hrw 2 _ rfl
      have y6 : wr.cell? ⟨b, off + k * 9 + 6, none⟩ = some (.slice qa qn qc) := hrw 6 _ rfl
      have HX := Lib.hid (And.intro hx (And.intro hb (And.intro hrg hok)))
      have HBF := Lib.hid HS.out.1
      have HLT := Lib.hid hlt
      have tlt : decide ((k : Int) < (n : Int)) = true := by simp; omega
      have tltn : decide (k < n) = true := by simp; omega
      clear hx hb hrg hok hrw
      by_cases e1 : 200 < op.length
      · have t1 : decide ((200 : Int) < ((bs op).size : Int)) = true := by rw [size_bs]; simp; omega
        have hG : G = true := HG.out.trans (great_of HX.out.1 (by unfold askGreat; simp; omega))
        subst hG
        clear e1
        go_wp2_with fail
        go_ret
        exact ⟨rfl, HBF.out⟩
      have t1 : decide ((200 : Int) < ((bs op).size : Int)) = false := by rw [size_bs]; simp; omega
      by_cases e2 : 200 < on
      · have t2 : decide ((200 : Int) < (on : Int)) = true := by simp; omega
        have hG : G = true := HG.out.trans (great_of HX.out.1 (by unfold askGreat; simp; omega))
        subst hG
        clear e1
        go_wp2_with fail
        go_ret
        exact ⟨rfl, HBF.out⟩
      have t2 : decide ((200 : Int) < (on : Int)) = false := by simp; omega
      by_cases e3 : 10 < qn
      · have t3 : decide ((10 : Int) < (qn : Int)) = true := by simp; omega
        have hG : G = true := HG.out.trans (great_of HX.out.1 (by unfold askGreat; simp; omega))
        subst hG
        clear e1
        go_wp2_with fail
        go_ret
        exact ⟨rfl, HBF.out⟩
      have t3 : decide ((10 : Int) < (qn : Int)) = false := by simp; omega
      have hq10 : qn ≤ 10 := by omega
      have HE := Lib.hid (show (decide (200 < op.length) || decide (200 < on) || decide (10 < qn)) = false by simp; omega)
      clear e1 e2 e3 hlt
      have HS0 : Hid (Below w.heap.size w wr ∧ (Q.take 0).any partGreat = false) := Lib.hid ⟨HS.out.1, rfl⟩
      obtain ⟨w1, hw1⟩ : ∃ w1, w1 = wr := ⟨_, rfl⟩
      subst hw1
      go_wp2_with fail
      go_loopw [4] (fun jv wr => ∃ j : Nat, j ≤ qn ∧ jv = .int .i64 j ∧ Hid (Below w.heap.size w wr ∧ (Q.take j).any partGreat = false)) (fun jv _ => qn - (intOf jv).toNat)
      case atStart => exact ⟨0, by omega, rfl, HS0⟩
      case round =>
        obtain ⟨j, hj, rfl, HS2⟩ := hrel
        have y6' : wr.cell? ⟨b, off + k * 9 + 6, none⟩ = some (.slice qa qn qc) := (range_kept HX.out.2.2.1 HS2.out.1 HX.out.2.1) 6 _ rfl
        by_cases hjt : j < qn
        · have tj : decide ((j : Int) < (qn : Int)) = true := by simp; omega
          have tjn : decide (j < qn) = true := by simp; omega
          obtain ⟨q, hq⟩ : ∃ q, Q[j]? = some q := ⟨_, List.getElem?_eq_getElem (by have := HX.out.2.2.2.pn; dsimp only at this; omega)⟩
          obtain ⟨p, hp, hok, gb, go_, hqa, hgb, hrg⟩ := HX.out.2.2.2.parts j q hq
          dsimp only at hqa
          subst hqa
          obtain ⟨pk, pp, da, dn, dc, pv, psq, pse, fa, fn, fc⟩ := q
          unfold RawO.cells at hrg
          dsimp only at hrg
          have HRG := Lib.hid (range_kept hrg HS2.out.1 hgb)
          obtain ⟨w6, hw6⟩ : ∃ w6, w6 = wr.alloc (.cells #[.int .u8 pk, .string (bs pp), .slice da dn dc, .int .i64 pv, .bool psq, .bool pse, .slice fa fn fc] 26) := ⟨_, rfl⟩
          have B6 : Below w.heap.size w w6 := by rw [hw6]; exact HS2.out.1.trans ((belowA (Below.refl _ wr) _).mono HS2.out.1.size)
          have k6 : w6.heap[wr.heap.size]? = some (.cells #[.int .u8 pk, .string (bs pp), .slice da dn dc, .int .i64 pv, .bool psq, .bool pse, .slice fa fn fc] 26 (0, 0)) := by rw [hw6]; exact heap_alloc_new wr _
          have z1 : w6.cell? ⟨wr.heap.size, 1, none⟩ = some (.string (bs pp)) := cell_of_row _ _ 1 _ 26 (0, 0) k6
          have z2 : w6.cell? ⟨wr.heap.size, 2, none⟩ = some (.slice da dn dc) := cell_of_row _ _ 2 _ 26 (0, 0) k6
          have z6 : w6.cell? ⟨wr.heap.size, 6, none⟩ = some (.slice fa fn fc) := cell_of_row _ _ 6 _ 26 (0, 0) k6
          have HQ := Lib.hid hq
          have HW6 := Lib.hid hw6
          have HBF := Lib.hid B6
          clear hq hp hok hgb hrg hw6 B6 k6
          go_upto_region 12 with (refine wpList_load_mid rfl 26 (.tmp 61) rfl gb (go_ + j * 7) rfl [.int .u8 pk, .string (bs pp), .slice da dn dc, .int .i64 pv, .bool psq, .bool pse, .slice fa fn fc] _ HRG.out Tryz.underlying26 rfl HSO.out ?_)
          rw [← HW6.out]
          by_cases g1 : 200 < pp.length
          · have t4 : decide ((200 : Int) < ((bs pp).size : Int)) = true := by rw [size_bs]; simp; omega
            have hG : G = true := by
              rw [HG.out]
              have hpg : partGreat ⟨pk, pp, da, dn, dc, pv, psq, pse, fa, fn, fc⟩ = true := by unfold partGreat; simp; omega
              exact great_of HX.out.1 (by unfold askGreat; rw [List.any_eq_true.2 ⟨_, List.mem_of_getElem? HQ.out, hpg⟩]; simp)
            subst hG
            clear g1
            go_wp2_with fail
            go_ret
            exact ⟨rfl, HBF.out⟩
          have t4 : decide ((200 : Int) < ((bs pp).size : Int)) = false := by rw [size_bs]; simp; omega
          by_cases g2 : 200 < dn
          · have t5 : decide ((200 : Int) < (dn : Int)) = true := by simp; omega
            have hG : G = true := by
              rw [HG.out]
              have hpg : partGreat ⟨pk, pp, da, dn, dc, pv, psq, pse, fa, fn, fc⟩ = true := by unfold partGreat; simp; omega
              exact great_of HX.out.1 (by unfold askGreat; rw [List.any_eq_true.2 ⟨_, List.mem_of_getElem? HQ.out, hpg⟩]; simp)
            subst hG
            clear g1
            go_wp2_with fail
            go_ret
            exact ⟨rfl, HBF.out⟩
          have t5 : decide ((200 : Int) < (dn : Int)) = false := by simp; omega
          by_cases g3 : 2 < fn
          · have t6 : decide ((2 : Int) < (fn : Int)) = true := by simp; omega
            have hG : G = true := by
              rw [HG.out]
              have hpg : partGreat ⟨pk, pp, da, dn, dc, pv, psq, pse, fa, fn, fc⟩ = true := by unfold partGreat; simp; omega
              exact great_of HX.out.1 (by unfold askGreat; rw [List.any_eq_true.2 ⟨_, List.mem_of_getElem? HQ.out, hpg⟩]; simp)
            subst hG
            clear g1
            go_wp2_with fail
            go_ret
            exact ⟨rfl, HBF.out⟩
          have t6 : decide ((2 : Int) < (fn : Int)) = false := by simp; omega
          have hsn : (Q.take (j + 1)).any partGreat = false := by
            rw [any_next HQ.out, HS2.out.2]
            unfold partGreat
            simp
            omega
          have HSN := Lib.hid (And.intro HBF.out hsn)
          clear hsn g1 g2 g3
          go_wp2_with fail
          go_roundw
          case rel => exact ⟨j + 1, by omega, by go_num, HSN⟩
          case measure => simp [intOf]; omega
        · obtain rfl : qn = j := by omega
          have tj : decide ((qn : Int) < (qn : Int)) = false := by simp
          have hany : (L.take (k + 1)).any askGreat = false := by
            rw [any_next HX.out.1, HS.out.2]
            unfold askGreat
            dsimp only
            have h1 := HS2.out.2
            rw [List.take_of_length_le (by have := HX.out.2.2.2.pn; dsimp only at this; omega)] at h1
            rw [HE.out, h1]
            rfl
          have HSN := Lib.hid (And.intro HS2.out.1 hany)
          have hlt := HLT.out
          clear hany hjt
          go_wp2_with fail
          go_roundw
          case rel => exact ⟨k + 1, by omega, by go_num, HSN⟩
          case measure => simp [intOf]; omega
    · obtain rfl : n = k := by omega
      have tlt : decide ((n : Int) < (n : Int)) = false := by simp
      have hG : G = false := by
        rw [HG.out]
        have h1 := HS.out.2
        rw [List.take_of_length_le (by rw [← HA.out.2]; exact Nat.le_refl _)] at h1
        unfold greatL
        rw [h1, ← HA.out.2, decide_eq_false H60.out]
        rfl
      subst hG
      clear hlt
      go_wp2
      go_ret
      exact ⟨rfl, HS.out.1⟩
end Go.Proofs.YtnclkfhdpkkakaaGreatDoor

namespace Go.Proofs.YtnclkfhdpkkakaaGreatDoor
set_option linter.unusedVariables false
set_option linter.unusedSimpArgs false
open Go Go.RowKit Go.Shelf Go.MapKept Go.ChangeMaps Go.Maps Go.Sort
def AskRaw.v (x : AskRaw) : OpV := ⟨x.o, x.ps⟩
def AskRaw.ce (x : AskRaw) : Int := ceOf x.r x.Q
/-- A tree's count and nodes, behind one operation; behind many. -/
def askS (s : Int × List (Bytes × Nd)) (x : AskRaw) : Int × List (Bytes × Nd) := (if doX pR s.2 s.1 x.who x.ce x.v = [] then s.1 else s.1 + 1, doM pR s.2 s.1 x.who x.ce x.v)
def grownS (L : List AskRaw) : Int × List (Bytes × Nd) := L.foldl askS (0, M0)
theorem grownS_next {L : List AskRaw} {k : Nat} {x : AskRaw} (h : L[k]? = some x) : grownS (L.take (k + 1)) = askS (grownS (L.take k)) x := by
  unfold grownS
  rw [List.take_add_one, h, List.foldl_append]
  rfl
theorem great_parts {x : AskRaw} (h : askGreat x = false) : x.r.path.length ≤ 200 ∧ x.r.dn ≤ 200 ∧ x.r.pn ≤ 10 ∧ ∀ q ∈ x.Q, q.path.length ≤ 200 ∧ q.dn ≤ 200 ∧ q.pn ≤ 2 := by
  unfold askGreat at h
  simp only [Bool.or_eq_false_iff, decide_eq_false_iff_not] at h
  obtain ⟨⟨⟨h1, h2⟩, h3⟩, h4⟩ := h
  refine ⟨by omega, by omega, by omega, fun q hq => ?_⟩
  have h5 : ¬ partGreat q = true := fun e => by
    rw [List.any_eq_true.2 ⟨q, hq, e⟩] at h4
    cases h4
  unfold partGreat at h5
  simp at h5
  omega
theorem AskOk.opIn {w : World} {x : AskRaw} (h : AskOk w x) (hg : askGreat x = false) : OpIn w x.r x.v x.ce := by
  obtain ⟨n, hn⟩ := h.ops
  obtain ⟨g1, _, _, g4⟩ := great_parts hg
  have hp : x.r.path = x.o.path := h.ok.leaf.path
  refine opIn_of h.ok h.pn hn h.pl h.parts (by rw [← hp]; omega) (fun p hp => ?_)
  obtain ⟨k, hk⟩ := List.mem_iff_getElem?.1 hp
  have hkl := (List.getElem?_eq_some_iff.1 hk).1
  obtain ⟨q, hq⟩ : ∃ q, x.Q[k]? = some q := ⟨_, List.getElem?_eq_getElem (by rw [← h.pl]; exact hkl)⟩
  obtain ⟨p', h1, h2, _⟩ := h.parts k q hq
  have e : p' = p := Option.some.inj (h1.symm.trans hk)
  subst e
  have := (g4 q (List.mem_of_getElem? hq)).1
  have e2 : q.path = p'.path := h2.leaf.path
  rw [← e2]
  omega
theorem great_not {L : List AskRaw} (h : greatL L = false) : L.length ≤ 60 ∧ ∀ x ∈ L, askGreat x = false := by
  unfold greatL at h
  simp only [Bool.or_eq_false_iff, decide_eq_false_iff_not] at h
  refine ⟨by omega, fun x hx => ?_⟩
  cases e : askGreat x with
  | false => rfl
  | true =>
    have := List.any_eq_true.2 ⟨x, hx, e⟩
    rw [h.2] at this
    cases this
theorem ask_cells {w : World} {b o : Nat} {x : AskRaw} (h : w.rangeAt b o x.cells) : w.rangeAt b o x.r.cells ∧ w.rangeAt b (o + 7) [.int .i64 x.who.site, .int .u32 x.who.n] := by
  refine ⟨fun j u hu => h j u ?_, fun j u hu => ?_⟩
  · have hj := (List.getElem?_eq_some_iff.1 hu).1
    have e : x.cells = x.r.cells ++ [.int .i64 x.who.site, .int .u32 x.who.n] := rfl
    rw [e, List.getElem?_append_left hj]
    exact hu
  · have e : x.cells = x.r.cells ++ [.int .i64 x.who.site, .int .u32 x.who.n] := rfl
    have := h (7 + j) u (by
      rw [e, List.getElem?_append_right (by show 7 ≤ 7 + j; omega)]
      rw [show 7 + j - x.r.cells.length = j by show 7 + j - 7 = j; omega]
      exact hu)
    rw [← Nat.add_assoc] at this
    exact this
set_option maxRecDepth 100000 in
set_option maxHeartbeats 16000000 in
theorem grown_any (w : World) (hm : MaxInt w) (PT : PowTab w) (a : Option Addr) (c : Nat) (L : List AskRaw) (hat : AsksAt w a L) (hg : greatL L = false) :
    Calls Tryz.prog 13 #[.slice a L.length c] w fun e w' => ∃ b, e = .returned (.pointer (some ⟨b, 0, none⟩)) ∧ w.heap.size ≤ b ∧ St w w' b pR (grownS L).1 (grownS L).2 ∧ (grownS L).1 ≤ 60 ∧ Below w.heap.size w w' := by
  obtain ⟨g60, gx⟩ := great_not hg
  obtain ⟨n, hn⟩ : ∃ n, n = L.length := ⟨_, rfl⟩
  rw [← hn]
  rw [← hn] at g60
  have HM := Lib.hid (And.intro hm PT)
  have HA := Lib.hid (And.intro hat (And.intro hn gx))
  have HSO : Hid ((Tryz.prog.info? 26).map (·.size) = some 7) := Lib.hid (by kernel_rfl)
  have HSS : Hid ((Tryz.prog.info? 29).map (·.size) = some 2) := Lib.hid (by kernel_rfl)
  clear hm PT hat hn gx hg
  go_enter Tryz.func13, Tryz.ntmps13
  go_wp2_with fail
  refine (TR.new (root := pR) (Below.refl _ w) HM.out.1 (by decide) rootsR).mono ?_
  rintro e v0 ⟨b, rfl, R1, hb1, B1⟩
  have HS0 : Hid (St w v0 b pR (grownS (L.take 0)).1 (grownS (L.take 0)).2 ∧ (grownS (L.take 0)).1 ≤ (0 : Nat) ∧ Below w.heap.size w v0) := Lib.hid ⟨St.made R1 rootsR HM.out.2, Int.le_refl _, B1⟩
  have HB1 := Lib.hid hb1
  clear R1 B1 hb1
  go_wp2_with fail
  go_loopw [5] (fun iv wr => ∃ k : Nat, k ≤ n ∧ iv = .int .i64 k ∧ Hid (St w wr b pR (grownS (L.take k)).1 (grownS (L.take k)).2 ∧ (grownS (L.take k)).1 ≤ k ∧ Below w.heap.size w wr)) (fun iv _ => n - (intOf iv).toNat)
  case atStart => exact ⟨0, by omega, rfl, HS0⟩
  case round =>
    obtain ⟨k, hk, rfl, HS⟩ := hrel
    by_cases hlt : k < n
    · have tlt : decide ((k : Int) < (n : Int)) = true := by simp; omega
      obtain ⟨x, hx⟩ : ∃ x, L[k]? = some x := ⟨_, List.getElem?_eq_getElem (by rw [← HA.out.2.1]; exact hlt)⟩
      obtain ⟨g, off, ha, hgl, hrg, hok⟩ := HA.out.1 k x hx
      subst ha
      have hxg := HA.out.2.2 x (List.mem_of_getElem? hx)
      have hin := (hok.below HS.out.2.2.drew).opIn hxg
      obtain ⟨r1, r2⟩ := ask_cells (range_kept hrg HS.out.2.2 hgl)
      have hdid := (HS.out.1.below (Below.refl _ wr).drew).did_op (Int.le_trans HS.out.2.1 (by omega)) hin x.who
      have HX := Lib.hid (And.intro (grownS_next hx) trivial)
      clear hin hok hrg hx hxg
      obtain ⟨⟨ok, op, oa, on, oc, ov, os, oe, qa, qn, qc⟩, xo, xQ, xps, ⟨s, sn⟩⟩ := x
      unfold RawO.val RawO.cells whoV at hdid
      unfold RawO.cells at r1
      dsimp only at hdid r1 r2
      have HDID := Lib.hid hdid
      have HGL := Lib.hid hgl
      have HR : Hid (wr.drew.rangeAt g (off + k * 9) [.int .u8 ok, .string (bs op), .slice oa on oc, .int .i64 ov, .bool os, .bool oe, .slice qa qn qc] ∧ wr.drew.rangeAt g (off + k * 9 + 7) [.int .i64 s, .int .u32 sn]) := Lib.hid ⟨r1, r2⟩
      have HLT := Lib.hid hlt
      clear hdid r1 r2 hlt hgl
      go_wp2_with fail
      refine wp_region_held_drew (S := (fun w' => World.rangeAt w' g (off + k * 9) [.int .u8 ok, .string (bs op), .slice oa on oc, .int .i64 ov, .bool os, .bool oe, .slice qa qn qc] ∧ World.rangeAt w' g (off + k * 9 + 7) [.int .i64 s, .int .u32 sn])) (by kernel_rfl) HR.out (fun hS => ?_)
      refine took_in 0 rfl (by kernel_rfl) (by kernel_rfl) (by kernel_rfl) (by rfl) hS (fun w' hS' => by go_simp <;> rfl) (fun _ _ _ h => h) ?_
      simp only [Act.put, List.setIfInBounds_toArray, List.set_cons_zero, List.set_cons_succ]
      refine took_in 1 rfl (by kernel_rfl) (by kernel_rfl) (by kernel_rfl) (by rfl) hS (fun w' hS' => by go_simp <;> rfl) (fun _ _ _ h => h) ?_
      simp only [Act.put, List.setIfInBounds_toArray, List.set_cons_zero, List.set_cons_succ]
      refine took_in 2 rfl (by kernel_rfl) (by kernel_rfl) (by kernel_rfl) (by rfl) hS (fun w' hS' => by go_simp <;> rfl) (fun _ _ _ h => h) ?_
      simp only [Act.put, List.setIfInBounds_toArray, List.set_cons_zero, List.set_cons_succ]
      refine took_in 3 rfl (by kernel_rfl) (by kernel_rfl) (by kernel_rfl) (by rfl) hS (fun w' hS' => by go_simp <;> rfl) (fun _ _ _ h => h) ?_
      simp only [Act.put, List.setIfInBounds_toArray, List.set_cons_zero, List.set_cons_succ]
      refine took_in 4 rfl (by kernel_rfl) (by kernel_rfl) (by kernel_rfl) (by rfl) hS (fun w' hS' => by go_simp <;> rfl) (fun _ _ _ h => h) ?_
      simp only [Act.put, List.setIfInBounds_toArray, List.set_cons_zero, List.set_cons_succ]
      refine took_load 5 rfl (by kernel_rfl) (by kernel_rfl) (by kernel_rfl) (by rfl) hS 26 (.tmp 24) rfl g (off + k * 9) rfl [.int .u8 ok, .string (bs op), .slice oa on oc, .int .i64 ov, .bool os, .bool oe, .slice qa qn qc] _ (fun _ h => h.1) Tryz.underlying26 rfl HSO.out (fun _ _ _ h => h) ?_
      simp only [Act.put, List.setIfInBounds_toArray, List.set_cons_zero, List.set_cons_succ]
      refine took_in 6 rfl (by kernel_rfl) (by kernel_rfl) (by kernel_rfl) (by rfl) hS (fun w' hS' => by go_simp <;> rfl) (fun _ _ _ h => h) ?_
      simp only [Act.put, List.setIfInBounds_toArray, List.set_cons_zero, List.set_cons_succ]
      refine took_in 7 rfl (by kernel_rfl) (by kernel_rfl) (by kernel_rfl) (by rfl) hS (fun w' hS' => by go_simp <;> rfl) (fun _ _ _ h => h) ?_
      simp only [Act.put, List.setIfInBounds_toArray, List.set_cons_zero, List.set_cons_succ]
      refine took_in 8 rfl (by kernel_rfl) (by kernel_rfl) (by kernel_rfl) (by rfl) hS (fun w' hS' => by go_simp <;> rfl) (fun _ _ _ h => h) ?_
      simp only [Act.put, List.setIfInBounds_toArray, List.set_cons_zero, List.set_cons_succ]
      refine took_in 9 rfl (by kernel_rfl) (by kernel_rfl) (by kernel_rfl) (by rfl) hS (fun w' hS' => by go_simp <;> rfl) (fun _ _ _ h => h) ?_
      simp only [Act.put, List.setIfInBounds_toArray, List.set_cons_zero, List.set_cons_succ]
      refine took_load 10 rfl (by kernel_rfl) (by kernel_rfl) (by kernel_rfl) (by rfl) hS 29 (.tmp 29) rfl g (off + k * 9 + 7) rfl [.int .i64 s, .int .u32 sn] _ (fun _ h => h.2) Tryz.underlying29 rfl HSS.out (fun _ _ _ h => h) ?_
      simp only [Act.put, List.setIfInBounds_toArray, List.set_cons_zero, List.set_cons_succ]
      refine call_in 11 rfl (by kernel_rfl) (by rfl) _ _ (by go_simp <;> first | rfl | exact ⟨rfl, rfl⟩) ?_
      refine HDID.out.mono ?_
      rintro e w3 D3
      obtain ⟨⟨u, rfl, _⟩, S3, K3⟩ := D3
      have hgb : g ≠ b := by have := HGL.out; have := HB1.out; omega
      have hgw : g < wr.drew.heap.size := by have := HGL.out; have := HS.out.2.2.size; show g < wr.heap.size; omega
      have hS3 : (World.rangeAt w3 g (off + k * 9) [.int .u8 ok, .string (bs op), .slice oa on oc, .int .i64 ov, .bool os, .bool oe, .slice qa qn qc] ∧ World.rangeAt w3 g (off + k * 9 + 7) [.int .i64 s, .int .u32 sn]) := ⟨fun j u hu => (K3.cell (p := ⟨g, off + k * 9 + j, none⟩) hgw (fun e => hgb e)).trans (hS.1 j u hu), fun j u hu => (K3.cell (p := ⟨g, off + k * 9 + 7 + j, none⟩) hgw (fun e => hgb e)).trans (hS.2 j u hu)⟩
      have hst : St w w3 b pR (grownS (L.take (k + 1))).1 (grownS (L.take (k + 1))).2 ∧ (grownS (L.take (k + 1))).1 ≤ ((k + 1 : Nat) : Int) ∧ Below w.heap.size w w3 := by
        have hbb : Below w.heap.size w w3 := HS.out.2.2.drew.trans (K3.below HS.out.2.2.drew.size (fun j e => by have e : j = b := e; have := HB1.out; omega))
        rw [HX.out.1]
        refine ⟨S3, ?_, hbb⟩
        have h1 := HS.out.2.1
        unfold askS
        dsimp only
        split <;> omega
      have HST := Lib.hid hst
      have hlt := HLT.out
      clear S3 K3 hst hS
      refine ⟨hS3, ?_⟩
      clear hS3
      try dsimp only
      simp only [Act.put, List.setIfInBounds_toArray, List.set_cons_zero, List.set_cons_succ]
      refine wpAnyH_done (by kernel_rfl) ?_ _
      go_wp2_with fail
      go_roundw
      case rel => exact ⟨k + 1, by omega, by go_num, HST⟩
      case measure => simp [intOf]; omega
    · obtain rfl : n = k := by omega
      have tlt : decide ((n : Int) < (n : Int)) = false := by simp
      have h1 := HS.out
      rw [List.take_of_length_le (by rw [← HA.out.2.1]; exact Nat.le_refl _)] at h1
      have HE := Lib.hid h1
      clear h1 hlt
      go_wp2
      go_ret
      exact ⟨b, rfl, HB1.out, HE.out.1, Int.le_trans HE.out.2.1 (by omega), HE.out.2.2⟩
end Go.Proofs.YtnclkfhdpkkakaaGreatDoor
