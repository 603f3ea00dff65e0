/-
  The reference's table: its contracts.
-/
import Derived.Test.YtinkoackknmjlaaRun
import Derived.Test.YtinkoackknmjlaaApp
namespace Go.Proofs.Ytinkoackknmjlaa
open Go.RowKit Go.MapKept Go.ChangeMaps Go.Shelf
open Go.Maps (Keyed)

def pc (p : Int × Int) : List Value := [.int .i64 p.1, .int .u32 p.2]
theorem pcs_len : ∀ l : List (Int × Int), (l.flatMap pc).length = l.length * 2
  | [] => rfl
  | p :: r => by simp [pc, pcs_len r]; omega
theorem pcs_at : ∀ (l : List (Int × Int)) (k : Nat) (p : Int × Int), l[k]? = some p → (l.flatMap pc)[k * 2]? = some (.int .i64 p.1) ∧ (l.flatMap pc)[k * 2 + 1]? = some (.int .u32 p.2)
  | [], k, p, h => by simp at h
  | q :: r, 0, p, h => by simp at h; subst h; simp [pc]
  | q :: r, k + 1, p, h => by
    have := pcs_at r k p (by simpa using h)
    simp only [List.flatMap_cons, pc]
    rw [show (k + 1) * 2 = k * 2 + 1 + 1 by omega]
    simpa using this

structure RTab (w : World) (rb base : Nat) (s n : Int) (v : Value) (l : List (Int × Int)) : Prop where
  blk : w.heap[rb]? = some (.cells #[.int .i64 s, .int .u32 n, v] 29 (0, 0))
  row : w.ownsRow base 31 2 v l.length (l.flatMap pc)

section
variable {w : World} {rb base : Nat} {s n : Int} {v : Value} {l : List (Int × Int)}
theorem RTab.lt (h : RTab w rb base s n v l) : rb < w.heap.size := lt_of_block h.blk
theorem RTab.c0 (h : RTab w rb base s n v l) : w.cell? ⟨rb, 0, none⟩ = some (.int .i64 s) := by simp [World.cell?, h.blk]
theorem RTab.c1 (h : RTab w rb base s n v l) : w.cell? ⟨rb, 1, none⟩ = some (.int .u32 n) := by simp [World.cell?, h.blk]
theorem RTab.c2 (h : RTab w rb base s n v l) : w.cell? ⟨rb, 2, none⟩ = some v := by simp [World.cell?, h.blk]
theorem RTab.f (h : RTab w rb base s n v l) (i : Nat) : w.frozen? ⟨rb, i, none⟩ = false := by simp [World.frozen?, h.blk]
theorem RTab.notOwn (h : RTab w rb base s n v l) : v.ownBlock ≠ some rb := by
  intro e
  rcases h.row.2 with ⟨rfl, _⟩ | ⟨g, cap, cur, rfl, _, hg, _⟩
  · simp [Value.ownBlock] at e
  · obtain rfl : g = rb := by simpa [Value.ownBlock] using e
    rw [h.blk] at hg
    simp at hg
theorem RTab.kept (h : RTab w rb base s n v l) {S : Nat → Prop} {w' : World} (hk : Kept S w w') (h1 : ¬ S rb) (h2 : ∀ k, v.ownBlock = some k → ¬ S k) : RTab w' rb base s n v l := by
  refine ⟨hk.same h.blk h1, ?_⟩
  obtain ⟨hl, ho⟩ := h.row
  refine ⟨hl, ?_⟩
  rcases ho with ho | ⟨g, cap, cur, rfl, hg, hgb, r⟩
  · exact .inl ho
  · exact .inr ⟨g, cap, cur, rfl, hg, hk.same hgb (h2 g rfl), r⟩
/-- The list's cells. -/
theorem RTab.form (h : RTab w rb base s n v l) : (v = .slice none 0 0 ∧ l = []) ∨ ∃ g cap, v = .slice (some ⟨g, 0, none⟩) l.length cap ∧
    ∀ k p, l[k]? = some p → w.cell? ⟨g, k * 2, none⟩ = some (.int .i64 p.1) ∧ w.cell? ⟨g, k * 2 + 1, none⟩ = some (.int .u32 p.2) := by
  rcases h.row.2 with ⟨rfl, h0⟩ | ⟨g, cap, cur, rfl, hg, hgb, hlc, hcm, hsz, htk⟩
  · exact .inl ⟨rfl, List.eq_nil_of_length_eq_zero h0⟩
  · refine .inr ⟨g, cap, rfl, fun k p hp => ?_⟩
    obtain ⟨e1, e2⟩ := pcs_at l k p hp
    have key : ∀ i u, (l.flatMap pc)[i]? = some u → w.cell? ⟨g, i, none⟩ = some u := by
      intro i u hu
      have := h.row.cells (g := g) rfl i u hu
      unfold Addr.add at this
      split at this
      · rename_i e; subst e; exact this
      · simpa using this
    exact ⟨key _ _ e1, key _ _ e2⟩
end

set_option maxHeartbeats 1000000 in
theorem rgone_nil (rb : Nat) (s n : Int) (base : Nat) (x y : Int) (w : World) (h : RTab w rb base s n (.slice none 0 0) []) :
    Calls Try.prog 16 #[.pointer (some ⟨rb, 0, none⟩), .agg #[.int .i64 x, .int .u32 y]] w fun e w' => e = .returned (.bool false) ∧ Kept Nothing w w' := by
  have h2 := h.c2
  have hlt := h.lt
  clear h
  go_enter Try.func16, Try.ntmps16
  go_wp2
  go_loopw [5] (fun i wr => i = .int .i64 0 ∧ wr = (w.alloc (Obj.cells #[Value.int IntKind.i64 x, Value.int IntKind.u32 y] 31))) (fun _ _ => 0)
  case atStart => exact ⟨rfl, rfl⟩
  case round =>
    obtain ⟨rfl, rfl⟩ := hrel
    go_wp2
    go_ret
    exact ⟨rfl, (Kept.refl _ w).alloc _⟩

set_option maxHeartbeats 1000000 in
theorem rgone_some (rb : Nat) (s n : Int) (base g cap : Nat) (l : List (Int × Int)) (x y : Int) (w : World) (h : RTab w rb base s n (.slice (some ⟨g, 0, none⟩) l.length cap) l)
    (hcell : ∀ k p, l[k]? = some p → w.cell? ⟨g, k * 2, none⟩ = some (.int .i64 p.1) ∧ w.cell? ⟨g, k * 2 + 1, none⟩ = some (.int .u32 p.2)) (hlen : l.length ≤ 200) :
    Calls Try.prog 16 #[.pointer (some ⟨rb, 0, none⟩), .agg #[.int .i64 x, .int .u32 y]] w fun e w' => e = .returned (.bool (l.contains (x, y))) ∧ Kept Nothing w w' := by
  have h2 := h.c2
  have hlt := h.lt
  have hg : g < w.heap.size := (h.row.lt g rfl).2
  clear h
  generalize hL : l.length = L at *
  go_enter Try.func16, Try.ntmps16
  go_wp2
  go_loopw [5] (fun i wr => ∃ k : Nat, k ≤ L ∧ i = .int .i64 k ∧ (∀ j p, j < k → l[j]? = some p → p ≠ (x, y)) ∧ ∃ q, wr = (w.alloc (Obj.cells #[Value.int IntKind.i64 x, Value.int IntKind.u32 y] 31)).drewN q) (fun i _ => L - (intOf i).toNat)
  case atStart => exact ⟨0, by omega, rfl, by simp, 0, rfl⟩
  case round =>
    obtain ⟨k, hk, rfl, hno, q, rfl⟩ := hrel
    by_cases hlt2 : k < L
    · obtain ⟨⟨px, py⟩, hp⟩ : ∃ p, l[k]? = some p := ⟨l[k]'(by omega), List.getElem?_eq_getElem _⟩
      obtain ⟨c0, c1⟩ := hcell k _ hp
      dsimp only at c0 c1
      by_cases e0 : px = x
      · have e0' : (px == x) = true := by simp [e0]
        by_cases e1 : py = y
        · have e1' : (py == y) = true := by simp [e1]
          have HH := Lib.hid (And.intro e0 e1)
          have hp' := Lib.hid hp
          clear e0 e1 hno hcell hp
          go_wp2
          go_quiet (fail)
          go_wp2
          go_ret
          have hm : l.contains (x, y) = true := by
            obtain ⟨rfl, rfl⟩ := HH.out
            simpa using List.mem_of_getElem? hp'.out
          exact ⟨by rw [hm]; rfl, (((Kept.refl _ w).alloc _).drewN _).drewN _⟩
        · have e1' : (py == y) = false := by simp [e1]
          have hno2 : ∀ j p, j < k + 1 → l[j]? = some p → p ≠ (x, y) := by
            intro j p hj hp2
            rcases Nat.lt_succ_iff_lt_or_eq.1 hj with hj | rfl
            · exact hno j p hj hp2
            · rw [hp] at hp2; cases hp2; intro e; cases e; exact e1 rfl
          have HH := Lib.hid hno2
          clear e0 e1 hno hno2 hcell hp
          go_wp2
          go_quiet (fail)
          go_wp2
          go_roundw
          case rel => exact ⟨k + 1, by omega, by go_num, HH.out, _, rfl⟩
          case measure => simp [intOf]; omega
      · have e0' : (px == x) = false := by simp [e0]
        have hno2 : ∀ j p, j < k + 1 → l[j]? = some p → p ≠ (x, y) := by
          intro j p hj hp2
          rcases Nat.lt_succ_iff_lt_or_eq.1 hj with hj | rfl
          · exact hno j p hj hp2
          · rw [hp] at hp2; cases hp2; intro e; cases e; exact e0 rfl
        have HH := Lib.hid hno2
        clear e0 hno hno2 hcell hp
        go_wp2
        go_quiet (fail)
        go_wp2
        go_roundw
        case rel => exact ⟨k + 1, by omega, by go_num, HH.out, _, rfl⟩
        case measure => simp [intOf]; omega
    · obtain rfl : k = L := by omega
      have hm : l.contains (x, y) = false := by
        rw [Bool.eq_false_iff]
        intro hc
        have hmem : (x, y) ∈ l := by simpa using hc
        obtain ⟨j, hj⟩ := List.getElem?_of_mem hmem
        exact hno j _ (by have := (List.getElem?_eq_some_iff.1 hj).1; omega) hj rfl
      have HM := Lib.hid hm
      clear hm hno hcell
      go_wp2
      go_ret
      exact ⟨by rw [HM.out]; rfl, ((Kept.refl _ w).alloc _).drewN _⟩

theorem rgone_any (rb : Nat) (s n : Int) (base : Nat) (v : Value) (l : List (Int × Int)) (x y : Int) (w : World) (h : RTab w rb base s n v l) (hlen : l.length ≤ 200) :
    Calls Try.prog 16 #[.pointer (some ⟨rb, 0, none⟩), .agg #[.int .i64 x, .int .u32 y]] w fun e w' => e = .returned (.bool (l.contains (x, y))) ∧ Kept Nothing w w' := by
  rcases h.form with ⟨rfl, rfl⟩ | ⟨g, cap, rfl, hcell⟩
  · exact rgone_nil rb s n base x y w h
  · exact rgone_some rb s n base g cap l x y w h hcell hlen

theorem Try.info31 : (Try.prog.info? 31).map (fun i => (i.zero, i.size, i.bytes)) = some (some (.agg #[.int .i64 0, .int .u32 0]), 2, 16) := by kernel_rfl

theorem cell_two (w : World) (a b : Value) (t : TypeId) : ∀ j u, [a, b][j]? = some u → (w.alloc (.cells #[a, b] t)).cell? ((⟨w.heap.size, 0, none⟩ : Addr).add j) = some u := cell_two_new w a b t

/-- What a struct slice owns that has an element at least is written out. -/
theorem own_succ {W : World} {base : Nat} {e : TypeId} {size : Nat} {v : Value} {k : Nat} {xs : List Value} (h : W.ownsRow base e size v (k + 1) xs) : ∃ g cap, v = .slice (some ⟨g, 0, none⟩) (k + 1) cap := ownsRow_succ h

/-- Behind the append and the store: the longer list. -/
theorem RTab.pushed {w w1 : World} {rb base : Nat} {s n : Int} {v v' : Value} {l : List (Int × Int)} (h : RTab w rb base s n v l) (p : Int × Int) (tmp : Obj)
    (hown : w1.ownsRow base 31 2 v' (l.length + 1) (l.flatMap pc ++ pc p)) (hg : (w.alloc tmp).drew.grownBy w1 v.ownBlock) :
    w1.cell? ⟨rb, 2, none⟩ = some v ∧ w1.frozen? ⟨rb, 2, none⟩ = false ∧ RTab (w1.setCell ⟨rb, 2, none⟩ v') rb base s n v' (l ++ [p]) ∧ Kept (fun k => k = rb ∨ v.ownBlock = some k) w (w1.setCell ⟨rb, 2, none⟩ v') := by
  have hblk : w1.heap[rb]? = some (.cells #[.int .i64 s, .int .u32 n, v] 29 (0, 0)) :=
    (hg.block rb (by have := h.lt; simp [World.drew]; omega) (fun e => h.notOwn e.symm)).trans ((Below.heap_alloc w tmp rb h.lt).trans h.blk)
  have hlt1 : rb < w1.heap.size := lt_of_block hblk
  have hK1 : Kept (fun k => k = rb ∨ v.ownBlock = some k) w w1 := (((Kept.refl _ w).alloc tmp).drew).grown hg (fun k e => .inr (.inr e))
  refine ⟨by simp [World.cell?, hblk], by simp [World.frozen?, hblk], ⟨?_, ?_⟩, hK1.setCell (p := ⟨rb, 2, none⟩) (.inl rfl) _⟩
  · have h' : w1.heap[rb] = .cells #[.int .i64 s, .int .u32 n, v] 29 (0, 0) := by simpa [Array.getElem?_eq_getElem hlt1] using hblk
    show (w1.heap.modify rb _)[rb]? = _
    rw [Array.getElem?_eq_getElem (by simpa using hlt1), Array.getElem_modify_self, h']
    rfl
  · rw [List.length_append, List.flatMap_append, List.flatMap_singleton]
    refine ownsRow_setCell_other hown ?_ _
    intro e
    rcases hown.2 with ⟨rfl, _⟩ | ⟨g, cap, cur, rfl, _, hgb, _⟩
    · simp [Value.ownBlock] at e
    · obtain rfl : g = rb := by simpa [Value.ownBlock] using e
      rw [hblk] at hgb
      simp at hgb

set_option maxHeartbeats 1000000 in
theorem rclose_yes (rb : Nat) (s n m : Int) (base : Nat) (v : Value) (l : List (Int × Int)) (w : World) (h : RTab w rb base s n v l) (hlen : l.length ≤ 200) (hb : base ≤ w.heap.size)
    (hl : Calls Try.prog 18 #[.pointer (some ⟨rb, 0, none⟩), .int .u32 m] w fun e w' => e = .returned (.bool true) ∧ Kept Nothing w w') :
    Calls Try.prog 10 #[.pointer (some ⟨rb, 0, none⟩), .int .u32 m] w fun e w' => e = .returned (.int .i64 0) ∧ ∃ v', RTab w' rb base s n v' (l ++ [(s, m)]) ∧ Kept (fun k => k = rb ∨ v.ownBlock = some k) w w' ∧ (∀ k, v'.ownBlock = some k → v.ownBlock = some k ∨ w.heap.size ≤ k) := by
  obtain ⟨i0, hi, hz0, hz1, hz2⟩ := info_parts Try.info31
  have HL := Lib.hid hl
  clear hl
  go_enter Try.func10, Try.ntmps10
  go_wp2_with fail
  refine HL.out.mono ?_
  rintro e w1 ⟨rfl, K1⟩
  have h1 : RTab w1 rb base s n v l := h.kept K1 (fun e => e) (fun _ _ e => e)
  have hb1 : base ≤ w1.heap.size := Nat.le_trans hb K1.size
  have KK := Lib.hid K1
  have HH := Lib.hid h1
  have c0 := h1.c0
  have c2 := h1.c2
  have hrow := h1.row
  have hlt := h1.lt
  clear h K1 h1 HL
  go_wp2
  go_region_law (refine step_append_new rfl (.tmp 13) (.tmp 20) 27 rfl base 31 i0 (.agg #[.int .i64 0, .int .u32 0]) 2 16 Try.underlying27 hi hz0 hz1 hz2 rfl (by decide) v l.length (l.flatMap pc) (by simp [Act.eval, Act.put]) ((hrow.drew).alloc _) ⟨w1.heap.size, 0, none⟩ 1 1 (pc (s, m)) (by simp [Act.eval, Act.put]) rfl (cell_two_new _ _ _ _) (by simp [pc, Value.oneCell']) (by unfold maxLen; omega) (by omega) (by simp; omega) ?_; intro v' w2 hown' hgrow hwhere; obtain ⟨g', cap', rfl⟩ := own_succ hown'; obtain ⟨d2, df, dR, dK⟩ := HH.out.pushed (s, m) _ hown' hgrow)
  all_goals
    go_wp2
    go_ret
    exact ⟨rfl, _, dR, (KK.out.mono (fun _ _ e => e.elim)).trans (dK.mono fun k hk e => e), fun k e => (hwhere k e).imp id (fun h => by have := KK.out.size; simp [World.drew] at h; omega)⟩
end Go.Proofs.Ytinkoackknmjlaa
