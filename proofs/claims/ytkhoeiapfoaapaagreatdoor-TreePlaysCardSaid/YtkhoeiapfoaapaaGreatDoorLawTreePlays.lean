/-
  TreePlays, walked.
-/
import Derived.Test.YtkhoeiapfoaapaaGreatDoorRf8
import Derived.Test.YtkhoeiapfoaapaaGreatDoorTrGreat
namespace Go.Proofs.YtkhoeiapfoaapaaGreatDoor
set_option linter.unusedVariables false
set_option linter.unusedSimpArgs false
set_option linter.unusedVariables false
set_option linter.unusedSimpArgs false
open Go Go.RowKit Go.Shelf Go.MapKept Go.ChangeMaps Go.Maps Go.Sort

/-- The rows that came in fit. -/
theorem great_fit {R : List Row} (h : greatB R = false) {r : Row} (hr : r ∈ R) : ∀ e ∈ r.E, FitE e := fun e he => by
  have := (great_no h).2.1 r hr e he
  exact ⟨by omega, by omega⟩
theorem great_len {R : List Row} (h : greatB R = false) {r : Row} (hr : r ∈ R) : r.E.length ≤ 200 := by
  have h3 := (great_no h).2.2
  obtain ⟨i, hi⟩ := List.getElem?_of_mem hr
  have h1 := total_take R i r hi
  have h2 := total_le R (i + 1)
  omega
/-- Between two rows: the tree, and the document's, are the same. -/
def LwSt (w : World) (b rb : Nat) (root : Bytes) (i : Nat) (wr : World) : Prop := ∃ (at_ : Int) (M L : List (Bytes × Nd)) (ao : Option Addr) (c : Nat) (R : List RawA), TR w wr b root at_ M ∧ RefAt wr (· = rb) rb root at_ ao c R L ∧ Rel M L ∧ Inv root M ∧ 0 ≤ at_ ∧ at_ ≤ i
/-- While a row is copied. -/
def CpSt (w1 : World) (E : List Eff) (v : Value) (k : Nat) (wr : World) : Prop := Below w1.heap.size w1 wr ∧ ∃ L, L.length = k ∧ NewRow wr w1.heap.size v L (E.take k)
theorem wpList_append_none {P : Program} {w : World} {ops : Array Oper} {rest : List Oper} {o : Oper} {a : Act} {Q : Exit → Act → World → Prop} (hgd : o.guard = none) (s x : Operand) (t : TypeId)
    (ho : o.op = .call { callee := .builtin .append, args := #[s, x], argTypes := #[t, t] })
    (base : Nat) (e : TypeId) (i : TypeInfo) (size : Nat) (ht : P.underlying t = some (.slice e)) (hi : P.info? e = some i)
    (v : Value) (n : Nat) (xs : List Value) (hs : a.eval s = v) (hown : w.ownsRow base e size v n xs) (hx : a.eval x = .slice none 0 0)
    (h : wpList P ops Q rest (a.put o.dst v) w) : wpList P ops Q (o :: rest) a w :=
  wpList_plain hgd fun K hK => by
    have hr := run_append_owned_none (P := P) w base t o.type e i size ht hi v n xs hown
    unfold Oper.wp execOp
    simp only [ho, resolve, invoke, builtin, Sem.run_bind, Sem.run_pure, Result.andThen_ok, List.map_toArray, List.map_cons, List.map_nil, hs, hx, hr]
    exact hK _ _ h
/-- A copy of an effect's data. -/
theorem copied {wr w5 : World} {n c : Nat} {a : Option Addr} {D : Bytes} (hown : w5.ownsRow (wr.heap.size + 1) 5 1 (.slice a n c) n (byteCells D)) (hn : n = D.length) (v : Value) (p : Bytes) (g : Bool) (en : Nums) :
    ReadsE (w5.setCell ⟨wr.heap.size, 2, none⟩ v) (From wr.heap.size) ⟨p, g, ⟨a, n, c, en⟩⟩ ⟨p, g, ⟨D, en⟩⟩ ∧ Free wr.heap.size (w5.setCell ⟨wr.heap.size, 2, none⟩ v) a := by
  have hk : Kept (· = wr.heap.size) w5 (w5.setCell ⟨wr.heap.size, 2, none⟩ v) := Kept.setCell (S := (· = wr.heap.size)) (p := ⟨wr.heap.size, 2, none⟩) (Kept.refl _ w5) rfl v
  refine ⟨⟨rfl, rfl, rfl, hn, ((bytes_of_row hown).kept hk (Nat.le_refl _) (fun b hb _ _ e => by have hb : wr.heap.size + 1 ≤ b := hb; have e : b = wr.heap.size := e; omega)).mono (fun b hb => by have hb : wr.heap.size + 1 ≤ b := hb; show wr.heap.size ≤ b; omega) hk.size, fun e => ?_⟩, fun ad e => ?_⟩
  · have e : a = none := e
    subst e
    rcases hown.2 with ⟨h1, h0⟩ | ⟨g, cap, cur, h1, _⟩
    · simp at h1
      exact ⟨List.eq_nil_of_length_eq_zero (by rw [← hn]; exact h0), h1.2⟩
    · simp at h1
  · subst e
    rcases hown.2 with ⟨h1, h0⟩ | ⟨g, cap, cur, h1, hbg, hg, _⟩
    · simp at h1
    · simp at h1
      obtain ⟨rfl, _⟩ := h1
      refine ⟨by show wr.heap.size ≤ g; omega, by simp [World.setCell]; exact (Array.getElem?_eq_some_iff.1 hg).1, fun j => by rw [World.frozen?_setCell]; simp [World.frozen?, hg]⟩
theorem two_box (w : World) (X E : Obj) : ((w.alloc X).alloc E).heap[w.heap.size]? = some X := (heap_alloc_old _ _ (by simp)).trans (heap_alloc_new w X)
theorem own_none {w5 W : World} {ya za : Option Addr} {yc zc base : Nat} (h1 : w5 = W) (h2 : ya = za) (h3 : yc = zc) (h : W.ownsRow base 5 1 (.slice za 0 zc) 0 []) : w5.ownsRow base 5 1 (.slice ya 0 yc) 0 (byteCells ([] : Bytes)) := by
  subst h1 h2 h3
  exact h
theorem box_set {w5 : World} {B : Nat} {v : Value} (c0 c1 c2 c3 c4 c5 c6 c7 c8 c9 c10 : Value) (h : w5.heap[B]? = some (.cells #[c0, c1, c2, c3, c4, c5, c6, c7, c8, c9, c10] 41 (0, 0))) : (w5.setCell ⟨B, 2, none⟩ v).rangeAt B 0 [c0, c1, v, c3, c4, c5, c6, c7, c8, c9, c10] := by
  have h4 : (w5.setCell ⟨B, 2, none⟩ v).heap[B]? = some (.cells #[c0, c1, v, c3, c4, c5, c6, c7, c8, c9, c10] 41 (0, 0)) := by
    simp [World.setCell, Array.getElem?_modify, h]
  intro j u hu
  rw [Nat.zero_add]
  exact (cell_of_row _ _ j _ 41 (0, 0) h4).trans (by simpa using hu)
/-- One effect more is copied. -/
theorem CpSt.next {w1 wr W6 w' : World} {E : List Eff} {e : Eff} {v v' : Value} {k : Nat} {L : List RawE} {r : RawE} {cs : List Value} (hb : Below w1.heap.size w1 wr) (hl : L.length = k) (hrow : NewRow wr w1.heap.size v L (E.take k)) (he : E[k]? = some e)
    (B6 : Below wr.heap.size wr W6) (hr : ReadsE W6 (From wr.heap.size) r e) (hf : Free wr.heap.size W6 r.node.a)
    (hown : w'.ownsRow w1.heap.size 41 11 v' (L.length + 1) (L.flatMap RawE.cells ++ cs)) (hcs : cs = r.cells) (hg : (W6.alloc (.cells cs.toArray 41)).grownBy w' v.ownBlock) (hw : ∀ k, v'.ownBlock = some k → v.ownBlock = some k ∨ (W6.alloc (.cells cs.toArray 41)).heap.size ≤ k) : CpSt w1 E v' (k + 1) w' := by
  have hB : Below w1.heap.size w1 W6 := hb.trans (B6.mono hb.size)
  refine ⟨(belowA hB _).grown hg (by have := hB.size; simp; omega) (fun g hg => (hrow.row.own.lt g hg).1), L ++ [r], by simp [hl], ?_⟩
  have ht : E.take (k + 1) = E.take k ++ [e] := by rw [List.take_add_one, he]; rfl
  rw [ht]
  exact hrow.more B6 hr hf hb.size cs hown hcs hg hw
/-- The document's Apply, behind the tree's. -/
theorem ref_apply {w w1 w4 w5 : World} {b rb : Nat} {root : Bytes} {at_ : Int} {ar : Option Addr} {cr : Nat} {Rr : List RawA} {M L : List (Bytes × Nd)} {Lr : List RawE} {la ai : Option Addr} {LE : List RawE} {E : List Eff} {n : Nat}
    (T : RefAt w4.drew (fun k => k = rb ∨ k = b ∨ DataOf Lr k) rb root at_ ar cr Rr L) (H : Rel M L) (I : Inv root M) (F : Fit M) (hrl : root.length ≤ 1000) (h0 : 0 ≤ at_) (h1 : at_ ≤ 40) (hbrb : b ≠ rb)
    (hL : LikeE w4.drew (fun k => k < w.heap.size) LE E) (hA : EffsAt w4.drew w.heap.size la LE) (hE : ∀ e ∈ E, FitE e) (hbig : LE.length ≤ 1000000) (hn : n = LE.length) (hwb : w.heap.size ≤ b) (hwr : w.heap.size ≤ rb) (hs1 : w.heap.size ≤ w1.heap.size) (hs4 : w1.heap.size ≤ w4.heap.size) (hrbl : rb < w1.heap.size) (hbl : b < w1.heap.size)
    (hd : ∀ k, DataOf Lr k → w1.heap.size ≤ k ∧ k < w4.heap.size ∧ ai.map (·.block) ≠ some k) (K5 : Kept (· = b) w4.drew w5) (lc : Nat) (x : Int) (hx : x = (applyA root M E).1) :
    Calls Tryz.prog 9 #[.pointer (some ⟨rb, 0, none⟩), .slice la n lc] w5 fun en w' => en = .returned (.int .i64 x) ∧ (∃ ao' c' R' L', RefAt w' (fun k => k = rb ∨ k = b ∨ DataOf Lr k) rb root (atA root at_ M E) ao' c' R' L' ∧ Rel (nodesA root M E) L') ∧ Kept (· = rb) w5 w' := by
  have hsz : w4.heap.size ≤ w5.heap.size := K5.size
  have T5 := T.kept K5 (fun k hk => .inr (.inl hk)) (Ne.symm hbrb)
  have hL5 := (hL.kept K5 (fun k hk e => by have hk : k < w.heap.size := hk; have e : k = b := e; omega)).mono (lo' := fun k => ¬ (k = rb ∨ k = b ∨ DataOf Lr k)) (fun k hk hz => by
    have hk : k < w.heap.size := hk
    rcases hz with h | h | h
    · omega
    · omega
    · have := (hd k h).1; omega)
  have hA5 := hA.kept K5 (B := w.heap.size) (by show w.heap.size ≤ w4.heap.size; omega) (fun k hk e => by have e : k = b := e; omega)
  have h := T5.apply H I F hrl h0 (by omega) la lc LE E hL5 hA5 (by omega) (fun k hk e => by omega) hE hbig (fun k hk hz => by
    rcases hz with h | h | h
    · omega
    · omega
    · have := (hd k h).2.1; omega) (.inl rfl) n hn
  unfold ApEnd at h
  rw [← hx] at h
  exact h
set_option maxRecDepth 100000 in
set_option maxHeartbeats 8000000 in
theorem treePlays_core (root p : Bytes) (ao : Option Addr) (c : Nat) (R : List Row) (w : World) (hm : MaxInt w) (hR : RowsAt w w.heap.size ao R) (hcap : R.length ≤ maxLen) :
    Calls Tryz.prog 3 #[.string (bs root), .slice ao R.length c, .string (bs p)] w fun e w' => e = .returned (.bool true) ∧ Below w.heap.size w w' := by
  have HGR := Lib.hid (great_any ao c R w hR hcap)
  obtain ⟨G, hG⟩ : ∃ G, G = greatB R := ⟨_, rfl⟩
  rw [← hG] at HGR
  obtain ⟨N, hN⟩ : ∃ N, N = R.length := ⟨_, rfl⟩
  rw [← hN] at HGR hcap ⊢
  have HIN := Lib.hid (And.intro hR (And.intro hN (And.intro hG hm)))
  clear hR hN hG hm
  have stop : G = true ∨ 200 < root.length ∨ 200 < p.length → Calls Tryz.prog 3 #[.string (bs root), .slice ao N c, .string (bs p)] w fun e w' => e = .returned (.bool true) ∧ Below w.heap.size w w' := fun h => by
    by_cases hg : G = true
    · subst hg
      clear h
      go_enter Tryz.func3, Tryz.ntmps3
      go_wp2_with fail
      refine HGR.out.mono ?_
      rintro e wz ⟨rfl, rfl⟩
      go_wp2
      go_ret
      exact ⟨rfl, Below.refl _ _⟩
    · obtain rfl : G = false := by simpa using hg
      by_cases hr : 200 < root.length
      · have t1 : decide ((200 : Int) < ((bs root).size : Int)) = true := by rw [size_bs]; simp; omega
        clear h hg hr
        go_enter Tryz.func3, Tryz.ntmps3
        go_wp2_with fail
        refine HGR.out.mono ?_
        rintro e wz ⟨rfl, rfl⟩
        go_wp2
        go_ret
        exact ⟨rfl, Below.refl _ _⟩
      · have hp : 200 < p.length := by
          rcases h with h | h | h
          · cases h
          · exact absurd h hr
          · exact h
        have t1 : decide ((200 : Int) < ((bs root).size : Int)) = false := by rw [size_bs]; simp; omega
        have t2 : decide ((200 : Int) < ((bs p).size : Int)) = true := by rw [size_bs]; simp; omega
        clear h hg hr hp
        go_enter Tryz.func3, Tryz.ntmps3
        go_wp2_with fail
        refine HGR.out.mono ?_
        rintro e wz ⟨rfl, rfl⟩
        go_wp2
        go_ret
        exact ⟨rfl, Below.refl _ _⟩
  by_cases hs : G = true ∨ 200 < root.length ∨ 200 < p.length
  · exact stop hs
  · obtain ⟨hg, hr, hp⟩ : G = false ∧ root.length ≤ 200 ∧ p.length ≤ 200 := ⟨by cases G <;> simp_all, by omega, by omega⟩
    subst hg
    clear hs stop
    have t1 : decide ((200 : Int) < ((bs root).size : Int)) = false := by rw [size_bs]; simp; omega
    have t2 : decide ((200 : Int) < ((bs p).size : Int)) = false := by rw [size_bs]; simp; omega
    have hN40 : N ≤ 40 := by rw [HIN.out.2.1]; exact (great_no HIN.out.2.2.1.symm).1
    have hrl : root.length ≤ 1000 := by omega
    obtain ⟨ok, hok⟩ : ∃ ok, ok = (partsL root).isSome := ⟨_, rfl⟩
    cases ok with
    | false =>
      have HNO := Lib.hid (new_no root w HIN.out.2.2.2 hrl hok.symm)
      have HRN := Lib.hid (fun W => rfNew_any root hrl W Nothing (fun _ _ h => h.elim))
      rw [← hok] at HRN
      clear hok
      go_enter Tryz.func3, Tryz.ntmps3
      go_wp2_with fail
      refine HGR.out.mono ?_
      rintro e wz ⟨rfl, rfl⟩
      go_wp2_with fail
      refine HNO.out.mono ?_
      rintro e w2 ⟨rfl, B2⟩
      have HB2 := Lib.hid B2
      clear B2
      go_wp2_with fail
      refine (HRN.out w2).mono ?_
      rintro e w3 ⟨rb, ao3, c3, R3, rfl, _, _, B3⟩
      have HB3 := Lib.hid (HB2.out.trans (B3.mono HB2.out.size))
      clear B3
      go_wp2_with fail
      refine (grows_any w3 (HIN.out.2.2.2.kept HB3.out)).mono ?_
      rintro e w4 ⟨rfl, B4⟩
      have HB4 := Lib.hid (HB3.out.trans (B4.mono HB3.out.size))
      clear B4
      go_wp2
      go_ret
      exact ⟨rfl, HB4.out⟩
    | true =>
      have HRN := Lib.hid (fun W => rfNew_any root hrl W Nothing (fun _ _ h => h.elim))
      rw [← hok] at HRN
      have HOK := Lib.hid hok.symm
      clear hok
      go_enter Tryz.func3, Tryz.ntmps3
      go_wp2_with fail
      refine HGR.out.mono ?_
      rintro e wz ⟨rfl, rfl⟩
      go_wp2_with fail
      refine (TR.new (Below.refl _ w) HIN.out.2.2.2 hrl HOK.out).mono ?_
      rintro e w2 ⟨b, rfl, R2, hb2, B2⟩
      have hbl2 := R2.lt
      have HR2 := Lib.hid R2
      clear R2 B2
      go_wp2_with fail
      refine (HRN.out w2).mono ?_
      rintro e w3 ⟨rb, ao3, c3, R3, rfl, T3, hrb, B3⟩
      have hbrb : b ≠ rb := by omega
      have HS0 : Hid (LwSt w b rb root 0 w3) := Lib.hid ⟨0, _, _, _, _, _, HR2.out.below B3, T3.rez (fun k _ h => h), ⟨by simp, fun q => rfl⟩, Inv.made HOK.out zNd, Int.le_refl _, Int.le_refl _⟩
      have hwrb : w.heap.size ≤ rb := Nat.le_trans HR2.out.bl.size hrb
      clear T3 B3 HGR HRN hb2 hbl2 hrb
      go_wp2
      go_loopw [11, 12, 13, 14, 15, 16] (fun ci _ _ _ _ _ wr => ∃ i : Nat, i ≤ N ∧ ci = .int .i64 i ∧ Hid (LwSt w b rb root i wr)) (fun ci _ _ _ _ _ _ => N - (intOf ci).toNat)
      case atStart => exact ⟨0, by omega, rfl, HS0⟩
      case round =>
        obtain ⟨i, hi, rfl, HS⟩ := hrel
        by_cases hlt : i < N
        · obtain ⟨w1, hw1⟩ : ∃ w1, w1 = wr := ⟨_, rfl⟩
          subst hw1
          obtain ⟨at_, M, L, ar, cr, Rr, RA, T, HRel, I, h0, h1⟩ := HS.out
          obtain ⟨r, hr⟩ : ∃ r, R[i]? = some r := ⟨_, List.getElem?_eq_getElem (by rw [← HIN.out.2.1]; exact hlt)⟩
          obtain ⟨hro0, bo, off, hao, hbo0, hcell0⟩ := HIN.out.1 i r hr
          subst hao
          have hfit := great_fit HIN.out.2.2.1.symm (List.mem_of_getElem? hr)
          have hlen := great_len HIN.out.2.2.1.symm (List.mem_of_getElem? hr)
          obtain ⟨la, lc, LE, E⟩ := r
          have hro := hro0.below RA.bl
          have hcell : w1.cell? ⟨bo, off + i, none⟩ = some (.slice la LE.length lc) := (RA.bl.cell (p := ⟨bo, off + i, none⟩) hbo0).trans hcell0
          have hbow : bo < w1.heap.size := Nat.lt_of_lt_of_le hbo0 RA.bl.size
          obtain ⟨n, hn⟩ : ∃ n, n = LE.length := ⟨_, rfl⟩
          rw [← hn] at hcell
          dsimp only at hfit hlen
          have hnE : n = E.length := hn.trans hro.like.1
          have hn200 : n ≤ 200 := by omega
          have HRO := Lib.hid (And.intro hro (And.intro hfit (And.intro hn hnE)))
          have HRO0 := Lib.hid (And.intro hro0 hbo0)
          have HTR := Lib.hid (And.intro RA (And.intro T (And.intro HRel (And.intro I (And.intro h0 h1)))))
          have HSZE : Hid ((Tryz.prog.info? 41).map (·.size) = some 11) := Lib.hid (by kernel_rfl)
          obtain ⟨i0, hi0, hz0, hz1, hz2⟩ := info_parts infoEffect
          obtain ⟨i1, hj0, hj1, hj2, hj3⟩ := info_parts infoByte
          clear RA T HRel I h0 h1 hro hro0 hfit hn hnE hlen hr hcell0 HS
          go_wp2
          go_loopw [12, 13, 14] (fun v ck _ wr => ∃ k : Nat, k ≤ n ∧ ck = .int .i64 k ∧ Hid (CpSt w1 E v k wr)) (fun _ ck _ _ => n - (intOf ck).toNat)
          case atStart => exact ⟨0, by omega, rfl, Lib.hid ⟨Below.refl _ _, [], rfl, newRow_nil _ _⟩⟩
          case round =>
            obtain ⟨k, hk, rfl, HC⟩ := hrel
            have hcell2 : wr.cell? ⟨bo, off + i, none⟩ = some (.slice la n lc) := (HC.out.1.cell (p := ⟨bo, off + i, none⟩) hbow).trans hcell
            by_cases hkn : k < n
            · obtain ⟨⟨xp, xg, ⟨xa, xn, xc, ⟨u1, u2, u3, u4, u5, u6, u7, u8⟩⟩⟩, hre⟩ : ∃ re, LE[k]? = some re := ⟨_, List.getElem?_eq_getElem (by rw [← HRO.out.2.2.1]; exact hkn)⟩
              obtain ⟨e, he⟩ : ∃ e, E[k]? = some e := ⟨_, List.getElem?_eq_getElem (by rw [← HRO.out.2.2.2]; exact hkn)⟩
              obtain ⟨be, oe, hla, hbe, hrg⟩ := (HRO.out.1.at_.below HC.out.1) k _ hre
              subst hla
              obtain ⟨Lr, hLr, hrow⟩ := HC.out.2
              obtain ⟨rd1, rd2, rd3⟩ := (HRO.out.1.like.below HC.out.1).2 k _ e hre he
              obtain ⟨rdn, rdl, rdd, rdz⟩ := rd3
              have hdl := (HRO.out.2.1 e (List.mem_of_getElem? he)).data
              obtain ⟨ep, eg, ⟨D, en⟩⟩ := e
              dsimp only at rd1 rd2 rdn rdl rdd rdz hdl
              subst rd1 rd2 rdn
              have HRG : Hid (wr.rangeAt be (oe + k * 11) [.string (bs xp), .bool xg, .slice xa xn xc, .int .u32 u1, .int .u32 u2, .int .u32 u3, .int .i64 u4, .int .u32 u5, .int .u64 u6, .int .u64 u7, .int .u64 u8]) := Lib.hid hrg
              have HRW := Lib.hid (And.intro hLr (And.intro hrow (And.intro he (And.intro rdd rdl))))
              have hs12 : w1.heap.size ≤ wr.heap.size := HC.out.1.size
              have hLk : Lr.length = k := hLr
              have how := World.ownsRow_made (base := wr.heap.size + 1) (e := 5) (size := 1) (wr.alloc (.cells #[.string (bs xp), .bool xg, .slice xa xn xc, .int .u32 u1, .int .u32 u2, .int .u32 u3, .int .i64 u4, .int .u32 u5, .int .u64 u6, .int .u64 u7, .int .u64 u8] 41)) #[] 0 (by simp) (by decide) rfl
              rw [World.size_alloc] at how
              have HOW := Lib.hid how
              have HOWN := Lib.hid hrow.row.own
              clear hre he hrg hLr hrow rdd how
              cases xa with
              | none =>
                obtain ⟨rfl, rfl⟩ := rdz rfl
                obtain rfl : xn = 0 := rdl
                clear rdz hdl
                go_wp2_with (first
                  | (refine wpList_load_mid rfl 41 (.tmp 80) rfl be (oe + k * 11) rfl [.string (bs xp), .bool xg, .slice none 0 0, .int .u32 u1, .int .u32 u2, .int .u32 u3, .int .i64 u4, .int .u32 u5, .int .u64 u6, .int .u64 u7, .int .u64 u8] _ HRG.out Tryz.underlying41 rfl HSZE.out ?_)
                  | (at_builtin; (refine wpList_append_none rfl (.tmp 82) (.tmp 85) 33 rfl (wr.heap.size + 1) 5 i1 1 Tryz.underlying33 hj0 (.slice (some ⟨wr.heap.size + 1, 0, none⟩) 0 0) 0 [] rfl HOW.out rfl ?_; obtain ⟨w5, hw5⟩ : ∃ w5, w5 = (wr.alloc (.cells #[.string (bs xp), .bool xg, .slice none 0 0, .int .u32 u1, .int .u32 u2, .int .u32 u3, .int .i64 u4, .int .u32 u5, .int .u64 u6, .int .u64 u7, .int .u64 u8] 41)).alloc (.cells #[] 5) := ⟨_, rfl⟩; rw [← hw5]; obtain ⟨ya, hya⟩ : ∃ ya : Option Addr, ya = some ⟨wr.heap.size + 1, 0, none⟩ := ⟨_, rfl⟩; obtain ⟨yc, hyc⟩ : ∃ yc : Nat, yc = 0 := ⟨_, rfl⟩; have hown5 : w5.ownsRow (wr.heap.size + 1) 5 1 (.slice ya 0 yc) 0 (byteCells ([] : Bytes)) := own_none hw5 hya hyc HOW.out; have k5 : w5.heap[wr.heap.size]? = some (.cells #[.string (bs xp), .bool xg, .slice none 0 0, .int .u32 u1, .int .u32 u2, .int .u32 u3, .int .i64 u4, .int .u32 u5, .int .u64 u6, .int .u64 u7, .int .u64 u8] 41 (0, 0)) := (congrArg (fun (W : World) => W.heap[wr.heap.size]?) hw5).trans (two_box wr _ _); have B5 : Below wr.heap.size wr w5 := Eq.mpr (congrArg (Below wr.heap.size wr) hw5) (belowA (belowA (Below.refl _ wr) _) _); have c52 : w5.cell? ⟨wr.heap.size, 2, none⟩ = some (.slice none 0 0) := cell_of_row _ _ 2 _ 41 (0, 0) k5; have f52 : w5.frozen? ⟨wr.heap.size, 2, none⟩ = false := (by simp [World.frozen?, k5]); have hcp := copied hown5 rfl (.slice ya 0 yc) xp xg ⟨u1, u2, u3, u4, u5, u6, u7, u8⟩; have hbs := box_set (v := .slice ya 0 yc) _ _ _ _ _ _ _ _ _ _ _ k5; have B6 : Below wr.heap.size wr (w5.setCell ⟨wr.heap.size, 2, none⟩ (.slice ya 0 yc)) := B5.setCell (Nat.le_refl _) _; obtain ⟨w6, hw6⟩ : ∃ w6, w6 = w5.setCell ⟨wr.heap.size, 2, none⟩ (.slice ya 0 yc) := ⟨_, rfl⟩; rw [← hw6] at hcp hbs B6; have H6 := Lib.hid (And.intro hcp (And.intro hbs B6)); have HW6 := Lib.hid hw6; have hs6 := B6.size; clear hcp hbs B5 B6 k5 hown5 hw6; subst hya hyc; clear hw5))
                  | (rw [← HW6.out]; refine wpList_load_mid rfl 41 (.tmp 14) rfl wr.heap.size 0 rfl [.string (bs xp), .bool xg, .slice (some ⟨wr.heap.size + 1, 0, none⟩) 0 0, .int .u32 u1, .int .u32 u2, .int .u32 u3, .int .i64 u4, .int .u32 u5, .int .u64 u6, .int .u64 u7, .int .u64 u8] _ H6.out.2.1 Tryz.underlying41 rfl HSZE.out ?_)
                  | (at_builtin; (refine wpList_append_new rfl (.tmp 89) (.tmp 91) 32 rfl w1.heap.size 41 i0 (.agg #[.string ⟨#[]⟩, .bool false, .slice none 0 0, .int .u32 0, .int .u32 0, .int .u32 0, .int .i64 0, .int .u32 0, .int .u64 0, .int .u64 0, .int .u64 0]) 11 104 Tryz.underlying32 hi0 hz0 hz1 hz2 rfl (by decide) _ Lr.length (Lr.flatMap RawE.cells) rfl ((own_below2 HOWN.out H6.out.2.2).alloc _) ⟨w6.heap.size, 0, none⟩ 1 1 [.string (bs xp), .bool xg, .slice (some ⟨wr.heap.size + 1, 0, none⟩) 0 0, .int .u32 u1, .int .u32 u2, .int .u32 u3, .int .i64 u4, .int .u32 u5, .int .u64 u6, .int .u64 u7, .int .u64 u8] rfl rfl (effE_len _ _ _ _ _ _ _ _ _ _ _ w6) (by intro u hu; simp at hu; rcases hu with rfl | rfl | rfl | rfl | rfl | rfl | rfl | rfl | rfl | rfl | rfl <;> rfl) (by unfold maxLen; omega) (by omega) (by first | (simp; done) | (simp; omega)) ?_; intro vq7 w7 hown7 hgrow7 hwh7)))
                have hnx := CpSt.next HC.out.1 hLk HRW.out.2.1 HRW.out.2.2.1 H6.out.2.2 H6.out.1.1 H6.out.1.2 hown7 rfl hgrow7 hwh7
                have HNX := Lib.hid hnx
                clear hnx hown7 hgrow7 hwh7
                go_roundw
                case rel => exact ⟨k + 1, by omega, by go_num, HNX⟩
                case measure => simp [intOf]; omega
              | some ad =>
                have hcells : ∀ j u, (byteCells D)[j]? = some u → ((wr.alloc (.cells #[.string (bs xp), .bool xg, .slice (some ad) xn xc, .int .u32 u1, .int .u32 u2, .int .u32 u3, .int .i64 u4, .int .u32 u5, .int .u64 u6, .int .u64 u7, .int .u64 u8] 41)).alloc (.cells #[] 5)).cell? (ad.add j) = some u := fun j u hu => by
                  simp only [byteCells, List.getElem?_map, Option.map_eq_some_iff] at hu
                  obtain ⟨x, hx, rfl⟩ := hu
                  obtain ⟨b', off', e', _, h3, h4⟩ := HRW.out.2.2.2.1 j x hx
                  cases e'
                  rw [Addr.add_mid]
                  exact ((belowA (belowA (Below.refl _ wr) _) _).cell (p := ⟨b', off' + j, none⟩) h3).trans h4
                have HCELL := Lib.hid hcells
                clear rdl rdz
                have hxn : xn ≤ 1000000 := by rw [HRW.out.2.2.2.2]; exact hdl
                have hbl : (byteCells D).length = xn * 1 := by rw [HRW.out.2.2.2.2]; simp [byteCells]
                have HBL := Lib.hid hbl
                clear hcells hbl
                go_wp2_with (first
                  | (refine wpList_load_mid rfl 41 (.tmp 80) rfl be (oe + k * 11) rfl [.string (bs xp), .bool xg, .slice (some ad) xn xc, .int .u32 u1, .int .u32 u2, .int .u32 u3, .int .i64 u4, .int .u32 u5, .int .u64 u6, .int .u64 u7, .int .u64 u8] _ HRG.out Tryz.underlying41 rfl HSZE.out ?_)
                  | (at_builtin; (refine wpList_append_new rfl (.tmp 82) (.tmp 85) 33 rfl (wr.heap.size + 1) 5 i1 (.int .u8 0) 1 1 Tryz.underlying33 hj0 hj1 hj2 hj3 rfl (by decide) (.slice (some ⟨wr.heap.size + 1, 0, none⟩) 0 0) 0 [] rfl HOW.out ad xn xc (byteCells D) rfl HBL.out HCELL.out (by intro u hu; simp [byteCells] at hu; obtain ⟨x, _, rfl⟩ := hu; rfl) (by unfold maxLen; omega) (by omega) (by simp) ?_; intro v5 w5 hown5 hgrow5 hwh5; rw [Nat.zero_add, List.nil_append] at hown5; obtain ⟨ya, yc, rfl⟩ := row_form hown5; have k5 : w5.heap[wr.heap.size]? = some (.cells #[.string (bs xp), .bool xg, .slice (some ad) xn xc, .int .u32 u1, .int .u32 u2, .int .u32 u3, .int .i64 u4, .int .u32 u5, .int .u64 u6, .int .u64 u7, .int .u64 u8] 41 (0, 0)) := (hgrow5.block wr.heap.size (by first | (simp; done) | (simp; omega)) (by simp [Value.ownBlock])).trans ((heap_alloc_old _ _ (by simp)).trans (heap_alloc_new wr _)); have B5 : Below wr.heap.size wr w5 := (belowA (belowA (Below.refl _ wr) _) _).grown hgrow5 (by first | (simp; done) | (simp; omega)) (fun g hg => by have := (HOW.out.lt g hg).1; omega); have c52 : w5.cell? ⟨wr.heap.size, 2, none⟩ = some (.slice (some ad) xn xc) := cell_of_row _ _ 2 _ 41 (0, 0) k5; have f52 : w5.frozen? ⟨wr.heap.size, 2, none⟩ = false := (by simp [World.frozen?, k5]); have hcp := copied hown5 HRW.out.2.2.2.2 (.slice ya xn yc) xp xg ⟨u1, u2, u3, u4, u5, u6, u7, u8⟩; have hbs := box_set (v := .slice ya xn yc) _ _ _ _ _ _ _ _ _ _ _ k5; have B6 : Below wr.heap.size wr (w5.setCell ⟨wr.heap.size, 2, none⟩ (.slice ya xn yc)) := B5.setCell (Nat.le_refl _) _; obtain ⟨w6, hw6⟩ : ∃ w6, w6 = w5.setCell ⟨wr.heap.size, 2, none⟩ (.slice ya xn yc) := ⟨_, rfl⟩; rw [← hw6] at hcp hbs B6; have H6 := Lib.hid (And.intro hcp (And.intro hbs B6)); have HW6 := Lib.hid hw6; have hs6 := B6.size; clear hcp hbs B5 B6 k5 hown5 hw6; clear hgrow5 hwh5))
                  | (rw [← HW6.out]; refine wpList_load_mid rfl 41 (.tmp 14) rfl wr.heap.size 0 rfl [.string (bs xp), .bool xg, .slice ya xn yc, .int .u32 u1, .int .u32 u2, .int .u32 u3, .int .i64 u4, .int .u32 u5, .int .u64 u6, .int .u64 u7, .int .u64 u8] _ H6.out.2.1 Tryz.underlying41 rfl HSZE.out ?_)
                  | (at_builtin; (refine wpList_append_new rfl (.tmp 89) (.tmp 91) 32 rfl w1.heap.size 41 i0 (.agg #[.string ⟨#[]⟩, .bool false, .slice none 0 0, .int .u32 0, .int .u32 0, .int .u32 0, .int .i64 0, .int .u32 0, .int .u64 0, .int .u64 0, .int .u64 0]) 11 104 Tryz.underlying32 hi0 hz0 hz1 hz2 rfl (by decide) _ Lr.length (Lr.flatMap RawE.cells) rfl ((own_below2 HOWN.out H6.out.2.2).alloc _) ⟨w6.heap.size, 0, none⟩ 1 1 [.string (bs xp), .bool xg, .slice ya xn yc, .int .u32 u1, .int .u32 u2, .int .u32 u3, .int .i64 u4, .int .u32 u5, .int .u64 u6, .int .u64 u7, .int .u64 u8] rfl rfl (effE_len _ _ _ _ _ _ _ _ _ _ _ w6) (by intro u hu; simp at hu; rcases hu with rfl | rfl | rfl | rfl | rfl | rfl | rfl | rfl | rfl | rfl | rfl <;> rfl) (by unfold maxLen; omega) (by omega) (by first | (simp; done) | (simp; omega)) ?_; intro vq7 w7 hown7 hgrow7 hwh7)))
                have hnx := CpSt.next HC.out.1 hLk HRW.out.2.1 HRW.out.2.2.1 H6.out.2.2 H6.out.1.1 H6.out.1.2 hown7 rfl hgrow7 hwh7
                have HNX := Lib.hid hnx
                clear hnx hown7 hgrow7 hwh7
                go_roundw
                case rel => exact ⟨k + 1, by omega, by go_num, HNX⟩
                case measure => simp [intOf]; omega
            · obtain rfl : n = k := by omega
              obtain ⟨w4, hw4⟩ : ∃ w4, w4 = wr := ⟨_, rfl⟩
              subst hw4
              obtain ⟨hbw, Lr, hLr, hrow⟩ := HC.out
              have htE : E.take n = E := List.take_of_length_le (Nat.le_of_eq HRO.out.2.2.2.symm)
              rw [htE] at hrow
              obtain ⟨ai, ci, hv, hat, hgg⟩ := hrow.lies
              rw [hLr] at hv
              subst hv
              obtain ⟨RA, T, HRel, I, h0, h1⟩ := HTR.out
              have hbl : b < w1.heap.size := RA.lt
              have hrbl : rb < w1.heap.size := T.lt
              have hbw0 : w.heap.size ≤ b := RA.hb
              have hs1 : w.heap.size ≤ w1.heap.size := RA.bl.size
              have hs4 : w1.heap.size ≤ w4.heap.size := hbw.size
              have hdr : Below w4.heap.size w4 w4.drew := (Below.refl _ w4).drew
              have hbwd : Below w1.heap.size w1 w4.drew := hbw.trans (hdr.mono hs4)
              obtain ⟨lo, mb, T0⟩ := RA.tree
              have hat_ : at_ ≤ 40 := by omega
              have hap := ((TreeAt.low2 T T0).below hbwd).apply_any (RA.max.kept hbwd) RA.fit hrl h0 (by omega) ai ci Lr E (hrow.row.like.below hdr) (hat.below hdr) HRO.out.2.1 (by rw [hLr]; omega)
              obtain ⟨x, hx⟩ : ∃ x, x = (applyA root M E).1 := ⟨_, rfl⟩
              have hap2 : Calls Tryz.prog 8 #[.pointer (some ⟨b, 0, none⟩), .slice ai n ci] w4.drew fun e w' => ∃ mb', e = .returned (.int .i64 x) ∧ TreeAt w' (Plus (fun k => k < w1.heap.size ∧ k ≠ rb) w4.heap.size) b mb' root (atA root at_ M E) (nodesA root M E) ∧ Kept (· = b) w4.drew w' := by
                rw [hLr] at hap
                exact hap.mono fun e w' ⟨mb', g1, g2, g3⟩ => ⟨mb', by rw [hx]; exact g1, g2, g3⟩
              have HAP := Lib.hid hap2
              have hdof : ∀ k, DataOf Lr k → w1.heap.size ≤ k ∧ k < w4.heap.size ∧ ai.map (·.block) ≠ some k := fun k hk => by
                obtain ⟨g1, g2, g3, _⟩ := hrow.of hk
                obtain ⟨r, hr, _⟩ := hk
                obtain ⟨g, e1, e2, _, _⟩ := hgg r hr
                exact ⟨g1, g3, fun e => g2 (by rw [e1] at e; cases e; exact e2)⟩
              have htz : RefAt w4.drew (fun k => k = rb ∨ k = b ∨ DataOf Lr k) rb root at_ ar cr Rr L := (T.rez2 T0.blk (Z' := fun k => k = rb ∨ k = b ∨ DataOf Lr k) (fun k hk hz => by
                rcases hz with h | h | h
                · exact .inl h
                · exact .inr h
                · have := (hdof k h).1; omega)).below hbwd
              have hle : LikeE w4.drew (fun k => k < w.heap.size) LE E := HRO0.out.1.like.low.below (RA.bl.trans (hbwd.mono hs1))
              have hea : EffsAt w4.drew w.heap.size la LE := HRO0.out.1.at_.below (RA.bl.trans (hbwd.mono hs1))
              have hcell4 : w4.cell? ⟨bo, off + i, none⟩ = some (.slice la n lc) := (hbw.cell (p := ⟨bo, off + i, none⟩) hbow).trans hcell
              have hbo4 : bo < w4.heap.size := Nat.lt_of_lt_of_le hbow hs4
              have hbob : bo ≠ b := by have := HRO0.out.2; omega
              have hborb : bo ≠ rb := by have := HRO0.out.2; omega
              have tx : (x == x) = true := by simp
              have HZ := Lib.hid (And.intro htz (And.intro hle (And.intro hea (And.intro hdof (And.intro hrow (And.intro hat (And.intro hgg (And.intro hbw (And.intro hx (And.intro hbwd hLr))))))))))
              have HD := Lib.hid (And.intro RA (And.intro HRel (And.intro I T0)))
              clear hap hap2 htz hle hea hdof hrow hat hgg hbw hbwd hdr RA T HRel I T0 htE hLr HC hx
              go_wp2_with fail
              go_region_held3 (fun w' => w'.cell? ⟨bo, off + i, none⟩ = some (.slice la n lc)) (first | assumption | exact hcell4 | go_keep) (first
                | (go_at_call 9; refine HAR2.out.mono ?_; rintro e w6 ⟨rfl, ⟨ao6, c6, R6, L6, T6, H6⟩, K6⟩; have ct6 : w6.cell? ⟨bo, off + i, none⟩ = some (.slice la n lc) := (K6.cell (p := ⟨bo, off + i, none⟩) hbo5 hborb).trans ct5)
                | (go_at_call 8; refine HAP.out.mono ?_; rintro e w5 ⟨mb5, rfl, T5, K5⟩; have ct5 : w5.cell? ⟨bo, off + i, none⟩ = some (.slice la n lc) := (K5.cell (p := ⟨bo, off + i, none⟩) hbo4 hbob).trans hcell4; have hbo5 : bo < w5.heap.size := Nat.lt_of_lt_of_le hbo4 K5.size; have har := ref_apply HZ.out.1 HD.out.2.1 HD.out.2.2.1 HD.out.1.fit hrl h0 hat_ hbrb HZ.out.2.1 HZ.out.2.2.1 HRO.out.2.1 (by rw [← HRO.out.2.2.1]; omega) HRO.out.2.2.1 hbw0 hwrb hs1 hs4 hrbl hbl HZ.out.2.2.2.1 K5 lc x HZ.out.2.2.2.2.2.2.2.2.1; have HAR2 := Lib.hid har; clear har))
              have hu4 : DataU8 w4.drew Lr := HZ.out.2.2.2.2.1.u8.kept (Kept.ofBelow (S := Nothing) (Below.refl _ w4).drew) (fun _ _ h => h)
              have hnb : ∀ k, DataOf Lr k → k ≠ b := fun k hk e => by have := (HZ.out.2.2.2.1 k hk).1; omega
              have hnr : ∀ k, DataOf Lr k → k ≠ rb := fun k hk e => by have := (HZ.out.2.2.2.1 k hk).1; omega
              have hu6 := (hu4.kept K5 hnb).kept K6 hnr
              have hfr : ∀ r ∈ Lr, ∀ ad, r.node.a = some ad → ∀ j, w6.frozen? ⟨ad.block, j, none⟩ = false := fun r hr ad had j => by
                obtain ⟨g1, _, g3, g4⟩ := HZ.out.2.2.2.2.1.free r hr ad had
                have g5 : w4.drew.frozen? ⟨ad.block, j, none⟩ = false := g4 j
                rw [K6.frozen (p := ⟨ad.block, j, none⟩) (Nat.lt_of_lt_of_le g3 K5.size) (fun e => by have e : ad.block = rb := e; omega), K5.frozen (p := ⟨ad.block, j, none⟩) g3 (fun e => by have e : ad.block = b := e; omega)]
                exact g5
              have hm0 : MutSt w6 Lr w6 := ⟨Kept.refl _ _, hu6, hfr⟩
              have hpw : ∀ r ∈ Lr, ∃ g, ai = some ⟨g, 0, none⟩ ∧ (w1.heap.size ≤ g ∧ ¬ DataOf Lr g) := fun r hr => by
                obtain ⟨g, e1, e2, _, e4⟩ := HZ.out.2.2.2.2.2.2.1 r hr
                exact ⟨g, e1, e4, fun hd => (HZ.out.2.2.2.1 g hd).2.2 (by rw [e1]; rfl)⟩
              have ha6 : EffsAt w6 w4.heap.size ai Lr := ((HZ.out.2.2.2.2.2.1.below (Below.refl _ w4).drew).kept3 hpw K5 (Nat.le_refl _) (fun g hg e => by have e : g = b := e; have := hg.1; omega)).kept3 hpw K6 K5.size (fun g hg e => by have e : g = rb := e; have := hg.1; omega)
              have hs46 : w4.heap.size ≤ w6.heap.size := Nat.le_trans K5.size K6.size
              have hrow2 : ∀ wz, MutSt w6 Lr wz → ∀ (k : Nat) (r : RawE), Lr[k]? = some r → ∃ g, ai = some ⟨g, 0, none⟩ ∧ wz.cell? ⟨g, k * 11 + 2, none⟩ = some (.slice r.node.a r.node.n r.node.c) := fun wz hz k r hr => by
                obtain ⟨g, off, e, _, h3⟩ := (ha6.kept3 hpw hz.kept hs46 (fun g hg => hg.2)) k r hr
                obtain ⟨g', e', _⟩ := hpw r (List.mem_of_getElem? hr)
                rw [e] at e'
                cases e'
                refine ⟨g, e, ?_⟩
                have := h3 2 _ rfl
                rw [Nat.zero_add] at this
                exact this
              have hmb : mb5 ≠ rb := T5.map_ne ((HZ.out.1.kept K5 (fun k hk => .inr (.inl hk)) (Ne.symm hbrb)).c0)
              have T6t := T5.kept2 K6 (fun k hk e => by
                have e : k = rb := e
                rcases hk with hk | hk
                · exact hk.2 e
                · have hk : w4.heap.size ≤ k := hk
                  omega) hbrb hmb
              have hmd : ∀ k, DataOf Lr k → mb5 ≠ k := fun k hk => by
                obtain ⟨r, hr, ad, had, hn0, rfl⟩ := hk
                obtain ⟨b', off', x', e1, e2⟩ := hu6 r hr 0 hn0
                rw [had] at e1
                cases e1
                exact T6t.map_ne e2
              have hfin : ∀ wz, MutSt w6 Lr wz → TR w wz b root (atA root at_ M E) (nodesA root M E) ∧ RefAt wz (· = rb) rb root (atA root at_ M E) ao6 c6 R6 L6 := fun wz hz => by
                have RA := HD.out.1
                have k1 : Below w.heap.size w w4.drew := RA.bl.trans (HZ.out.2.2.2.2.2.2.2.2.2.1.mono hs1)
                have k2 : Below w.heap.size w w5 := k1.trans (K5.below (by show w.heap.size ≤ w4.heap.size; omega) (fun k e => by have e : k = b := e; omega))
                have k3 : Below w.heap.size w w6 := k2.trans (K6.below k2.size (fun k e => by have e : k = rb := e; omega))
                have k4 : Below w.heap.size w wz := k3.trans (hz.kept.below k3.size (fun k e => by have := (HZ.out.2.2.2.1 k e).1; omega))
                have Tz := T6t.kept2 hz.kept (fun k hk e => by
                  have h3 := HZ.out.2.2.2.1 k e
                  rcases hk with hk | hk
                  · have := hk.1; omega
                  · have hk : w4.heap.size ≤ k := hk
                    omega) (fun e => by have := hnb b e; exact this rfl) (fun e => hmd mb5 e rfl)
                refine ⟨⟨⟨_, _, Tz⟩, k4, RA.hb, RA.fit.nodes HRO.out.2.1, RA.rl, RA.hm⟩, ?_⟩
                exact (T6.kept hz.kept (fun k hk => .inr (.inr hk)) (fun e => hnr rb e rfl)).rez (fun k _ h => h)
              have hnn : ∀ (k : Nat) (r : RawE), Lr[k]? = some r → r.node.n ≤ 1000000 := fun k r hr => by
                obtain ⟨hl1, hl2⟩ := HZ.out.2.2.2.2.1.row.like
                obtain ⟨e, he⟩ : ∃ e, E[k]? = some e := ⟨_, List.getElem?_eq_getElem (by rw [← hl1]; exact (List.getElem?_eq_some_iff.1 hr).1)⟩
                obtain ⟨_, _, hl3⟩ := hl2 k r e hr he
                rw [hl3.len]
                exact (HRO.out.2.1 e (List.mem_of_getElem? he)).data
              have HM0 := Lib.hid hm0
              have HROW2 := Lib.hid hrow2
              have HFIN := Lib.hid hfin
              have HNN2 := Lib.hid hnn
              have HH6 := Lib.hid H6
              have HLR := Lib.hid HZ.out.2.2.2.2.2.2.2.2.2.2
              clear hu4 hnb hnr hu6 hfr hm0 hpw ha6 hrow2 hmb T6t hmd hfin hnn H6 T6 K6 T5 K5 ct5 ct6 HAP HAR2 hbo5 hs46
              go_wp2
              go_loopw [15, 16] (fun ck _ wr => ∃ k : Nat, k ≤ n ∧ ck = .int .i64 k ∧ Hid (MutSt w6 Lr wr)) (fun ck _ _ => n - (intOf ck).toNat)
              case atStart => exact ⟨0, by omega, rfl, HM0⟩
              case round =>
                obtain ⟨k, hk, rfl, HM⟩ := hrel
                by_cases hkn : k < n
                · obtain ⟨re, hre⟩ : ∃ re, Lr[k]? = some re := ⟨_, List.getElem?_eq_getElem (by rw [HLR.out]; exact hkn)⟩
                  obtain ⟨g, hai, hrc⟩ := HROW2.out _ HM.out k re hre
                  subst hai
                  have hnl := HNN2.out k re hre
                  have hmem := List.mem_of_getElem? hre
                  obtain ⟨ra, rn, rc, hra, hrn, hrcc⟩ : ∃ ra rn rc, re.node.a = ra ∧ re.node.n = rn ∧ re.node.c = rc := ⟨_, _, _, rfl, rfl, rfl⟩
                  rw [hrn] at hnl
                  have HRE := Lib.hid (And.intro hre (And.intro hra (And.intro hrn (And.intro hrcc hmem))))
                  clear hre hrc hra hrn hrcc hmem
                  go_wp2
                  go_loopw [16] (fun cj wr => ∃ j : Nat, j ≤ rn ∧ cj = .int .i64 j ∧ Hid (MutSt w6 Lr wr)) (fun cj _ => rn - (intOf cj).toNat)
                  case atStart => exact ⟨0, by omega, rfl, HM⟩
                  case round =>
                    obtain ⟨j, hj, rfl, HM2⟩ := hrel
                    obtain ⟨g', hai, hrc⟩ := HROW2.out _ HM2.out k re HRE.out.1
                    cases hai
                    rw [HRE.out.2.1, HRE.out.2.2.1, HRE.out.2.2.2.1] at hrc
                    by_cases hjn : j < rn
                    · obtain ⟨bb, ob, xb, hbb, hcb⟩ := HM2.out.u8 re HRE.out.2.2.2.2 j (by rw [HRE.out.2.2.1]; exact hjn)
                      have hfb := HM2.out.free re HRE.out.2.2.2.2 _ hbb (ob + j)
                      have HMS := Lib.hid (fun y => HM2.out.set HRE.out.2.2.2.2 (by rw [HRE.out.2.2.1]; exact hjn) hbb y)
                      rw [HRE.out.2.1] at hbb
                      subst hbb
                      dsimp only at hfb
                      go_wp2
                      go_roundw
                      case rel => exact ⟨j + 1, by omega, by go_num, Lib.hid (HMS.out _)⟩
                      case measure => simp [intOf]; omega
                    · obtain rfl : rn = j := by omega
                      go_wp2
                      go_roundw
                      case rel => exact ⟨k + 1, by omega, by go_num, HM2⟩
                      case measure => simp [intOf]; omega
                · obtain rfl : n = k := by omega
                  obtain ⟨RA7, T7⟩ := HFIN.out _ HM.out
                  have HAL := Lib.hid (alike_any RA7 T7 HH6.out HD.out.2.2.1.nodes p (by omega))
                  have H7 := Lib.hid (And.intro RA7 T7)
                  clear RA7 T7
                  go_wp2_with fail
                  refine HAL.out.mono ?_
                  rintro e w7 ⟨rfl, B7⟩
                  have hle2 := atA_le root at_ M E
                  have HN7 : Hid (LwSt w b rb root (i + 1) w7) := Lib.hid ⟨_, _, _, _, _, _, H7.out.1.below B7, H7.out.2.below B7, HH6.out, HD.out.2.2.1.nodes, by omega, by omega⟩
                  clear B7 hle2
                  go_wp2
                  go_roundw
                  case rel => exact ⟨i + 1, by omega, by go_num, HN7⟩
                  case measure => simp [intOf]; omega
        · obtain rfl : i = N := by omega
          obtain ⟨at_, M, L, ar, cr, Rr, RA, T, HRel, I, h0, h1⟩ := HS.out
          have HAL := Lib.hid (alike_any RA T HRel I p (by omega))
          have HMX := Lib.hid (And.intro RA.max RA.bl)
          clear RA T HRel I h0 h1
          go_wp2_with fail
          refine HAL.out.mono ?_
          rintro e w5 ⟨rfl, B5⟩
          have HB5 := Lib.hid (And.intro (HMX.out.2.trans (B5.mono HMX.out.2.size)) (HMX.out.1.kept B5))
          clear B5
          go_wp2_with fail
          refine (grows_any w5 HB5.out.2).mono ?_
          rintro e w6 ⟨rfl, B6⟩
          have HB6 := Lib.hid (HB5.out.1.trans (B6.mono HB5.out.1.size))
          clear B6
          go_wp2
          go_ret
          exact ⟨rfl, HB6.out⟩
end Go.Proofs.YtkhoeiapfoaapaaGreatDoor
