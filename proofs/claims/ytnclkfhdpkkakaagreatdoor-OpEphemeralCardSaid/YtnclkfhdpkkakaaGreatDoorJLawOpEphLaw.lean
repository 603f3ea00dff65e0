/-
  Owners, as plain nodes: one that goes with a session has no children.
  A map of bools that serves as a set; sessions as keys.
  OpEphemeral, walked.
  OpEphemeral: over whatever arguments can be read.
-/
import Derived.Test.YtnclkfhdpkkakaaGreatDoorJOpFitP
import Derived.DeepKeys4
import Derived.Test.YtnclkfhdpkkakaaGreatDoorShaped
import Derived.ProofKit
namespace Go.Proofs.YtnclkfhdpkkakaaGreatDoor
set_option linter.unusedVariables false
set_option linter.unusedSimpArgs false
open Go Go.RowKit Go.Shelf Go.MapKept Go.ChangeMaps Go.Maps Go.Sort
def ownS (d : Nd) : Sess := ⟨d.num.os, d.num.on⟩
theorem noSess_own {d : Nd} (h : noSess d.num.os d.num.on = true) : ownS d = ⟨0, 0⟩ := by
  unfold noSess at h
  simp at h
  unfold ownS
  rw [h.1, h.2]
/-- Owners are of S; a parent has none. -/
structure EphI (root : Bytes) (S : Sess → Prop) (M : List (Bytes × Nd)) : Prop where
  inv : Inv root M
  own : ∀ p d, getA p M = some d → ownS d = ⟨0, 0⟩ ∨ S (ownS d)
  par : ∀ q ∈ M.map (·.1), q ≠ root → ∀ u, getA (parentL q) M = some u → ownS u = ⟨0, 0⟩
theorem getA_delA_other {a c : Bytes} (h : c ≠ a) : ∀ m : List (Bytes × Nd), getA c (delA a m) = getA c m
  | [] => rfl
  | p :: r => by
    unfold delA
    split
    · rename_i e
      have h2 : getA c (p :: r) = getA c r := by rw [getA, if_neg (fun e2 => h (e2.symm.trans e))]
      exact h2.symm
    · simp only [getA, getA_delA_other h r]
section
variable {root : Bytes} {S : Sess → Prop} {M : List (Bytes × Nd)} {at_ : Int} {who : Sess}
theorem EphI.op (h : EphI root S M) (hw : S who) (o : Opl) : EphI root S (opM root M at_ who o) := by
  have hinv := h.inv.op (at_ := at_) (who := who) o
  by_cases hE : opE root M who o = 0
  · by_cases h1 : o.kind = 1
    · have hM : opM root M at_ who o = createM M at_ who o := by
        unfold opM
        rw [if_neg (by simpa using hE), if_pos h1]
      obtain ⟨hu, hc⟩ := opE_create h1 hE
      obtain ⟨c1, c2, ⟨u, hu1, hu2⟩, _, c5, _⟩ := create_parts hc
      obtain ⟨g1, g2, _⟩ := newPath_ok hu c1 c2
      have hne := (under_parent g1 g2).2
      have hU : ownS (createU M at_ o) = ⟨0, 0⟩ := by
        have h2 := noSess_own hu2
        unfold createU
        rw [hu1]
        split <;> exact h2
      have hk : (createM M at_ who o).map (·.1) = M.map (·.1) ++ [newPath M o] := by
        unfold createM
        have hk1 : (putA (parentL (newPath M o)) (createU M at_ o) M).map (·.1) = M.map (·.1) := by rw [putA_keys, hu1]; rfl
        have hf : (getA (newPath M o) (putA (parentL (newPath M o)) (createU M at_ o) M)).isSome = false := getA_no.2 (by rw [hk1]; exact getA_no.1 c5)
        rw [putA_keys, hf, hk1]
        rfl
      rw [hM] at hinv ⊢
      refine ⟨hinv, fun p d hd => ?_, fun q hq hqr u' hu' => ?_⟩
      · unfold createM at hd
        by_cases e : p = newPath M o
        · subst e
          rw [getA_putA_same] at hd
          cases hd
          unfold newN ownS
          dsimp only
          cases o.eph
          · exact .inl rfl
          · exact .inr hw
        · rw [getA_putA_other _ e] at hd
          by_cases e2 : p = parentL (newPath M o)
          · subst e2
            rw [getA_putA_same] at hd
            cases hd
            exact .inl hU
          · rw [getA_putA_other _ e2] at hd
            exact h.own p d hd
      · have hnp : parentL q ≠ newPath M o := fun e => by
          rw [hk] at hq
          rcases List.mem_append.1 hq with h2 | h2
          · have := h.inv.parent q h2 hqr
            rw [e] at this
            exact getA_no.1 c5 this
          · have h2 : q = newPath M o := by simpa using h2
            rw [h2] at e
            exact hne e
        unfold createM at hu'
        rw [getA_putA_other _ hnp] at hu'
        by_cases e2 : parentL q = parentL (newPath M o)
        · rw [e2, getA_putA_same] at hu'
          cases hu'
          exact hU
        · rw [getA_putA_other _ e2] at hu'
          rw [hk] at hq
          rcases List.mem_append.1 hq with h2 | h2
          · exact h.par q h2 hqr u' hu'
          · have h2 : q = newPath M o := by simpa using h2
            rw [h2] at e2
            exact absurd rfl e2
    · by_cases h2 : o.kind = 2
      · have hM : opM root M at_ who o = removeM M at_ o := by
          unfold opM
          rw [if_neg (by simpa using hE), if_neg h1, if_pos h2]
        obtain ⟨hu, hr⟩ := opE_remove h2 hE
        obtain ⟨r1, r2, _⟩ := remove_parts hr
        obtain ⟨d0, hd0, _⟩ := ver_there r2
        have hpm : o.path ∈ M.map (·.1) := getA_some.1 (by rw [hd0]; rfl)
        obtain ⟨u, hu1⟩ := Option.isSome_iff_exists.1 (getA_some.2 (h.inv.parent _ hpm r1))
        have hne := (under_parent hu r1).2
        have hgo : ∀ x d, getA x (delA o.path M) = some d → getA x M = some d := fun x d hd => by
          by_cases e : x = o.path
          · have : (getA x (delA o.path M)).isSome = false := getA_no.2 fun hm => ((delA_keys h.inv.nodup _).1 hm).2 e
            rw [hd] at this
            cases this
          · rwa [getA_delA_other e] at hd
        have hk : ∀ q, q ∈ (removeM M at_ o).map (·.1) → q ∈ M.map (·.1) := fun q hq => by
          unfold removeM at hq
          have hs : (getA (parentL o.path) (delA o.path M)).isSome = true := by rw [getA_delA_other hne, hu1]; rfl
          rw [putA_keys, hs] at hq
          exact ((delA_keys h.inv.nodup q).1 hq).1
        rw [hM] at hinv ⊢
        refine ⟨hinv, fun p d hd => ?_, fun q hq hqr u' hu' => ?_⟩
        · unfold removeM at hd
          by_cases e : p = parentL o.path
          · subst e
            rw [getA_putA_same, hu1] at hd
            cases hd
            exact h.own _ u hu1
          · rw [getA_putA_other _ e] at hd
            exact h.own p d (hgo p d hd)
        · have hq' := hk q hq
          unfold removeM at hu'
          by_cases e : parentL q = parentL o.path
          · rw [e, getA_putA_same, hu1] at hu'
            cases hu'
            exact h.par q hq' hqr u (by rw [e]; exact hu1)
          · rw [getA_putA_other _ e] at hu'
            exact h.par q hq' hqr u' (hgo _ _ hu')
      · by_cases h3 : o.kind = 3
        · have hM : opM root M at_ who o = setM M at_ o := by
            unfold opM
            rw [if_neg (by simpa using hE), if_neg h1, if_neg h2, if_pos h3]
          obtain ⟨d0, hd0⟩ := Option.isSome_iff_exists.1 (opE_get hE h1 h2)
          have hn : nodeAt M o.path = d0 := by unfold nodeAt; rw [hd0]; rfl
          have hk : (setM M at_ o).map (·.1) = M.map (·.1) := by unfold setM; rw [putA_keys, hd0]; rfl
          have hg : ∀ x d, getA x (setM M at_ o) = some d → ∃ d', getA x M = some d' ∧ ownS d' = ownS d := fun x d hd => by
            unfold setM at hd
            by_cases e : x = o.path
            · subst e
              rw [getA_putA_same, hn] at hd
              cases hd
              exact ⟨d0, hd0, rfl⟩
            · rw [getA_putA_other _ e] at hd
              exact ⟨d, hd, rfl⟩
          rw [hM] at hinv ⊢
          refine ⟨hinv, fun p d hd => ?_, fun q hq hqr u' hu' => ?_⟩
          · obtain ⟨d', g1, g2⟩ := hg p d hd
            rw [← g2]
            exact h.own p d' g1
          · obtain ⟨d', g1, g2⟩ := hg _ u' hu'
            rw [hk] at hq
            rw [← g2]
            exact h.par q hq hqr d' g1
        · have hM : opM root M at_ who o = M := by
            unfold opM
            rw [if_neg (by simpa using hE), if_neg h1, if_neg h2, if_neg h3]
          rw [hM]
          exact h
  · have hM : opM root M at_ who o = M := by unfold opM; rw [if_pos hE]
    rw [hM]
    exact h
theorem EphI.run (hw : S who) : ∀ (l : List Opl) {M : List (Bytes × Nd)}, EphI root S M → EphI root S (runM root at_ who M l)
  | [], M, h => h
  | o :: l, M, h => by
    unfold runM
    split
    · exact EphI.run hw l (h.op hw o)
    · exact h
theorem EphI.does (h : EphI root S M) (hw : S who) {ce : Int} {v : OpV} : EphI root S (doM root M at_ who ce v) := by
  unfold doM
  split
  · exact h
  · exact EphI.run hw _ h
/-- A node with an owner has no children. -/
theorem EphI.kids (h : EphI root S M) {p : Bytes} {d : Nd} (hd : getA p M = some d) (ho : ownS d ≠ ⟨0, 0⟩) : (kidsS root M p).length = 0 := by
  have hk : ¬ 0 < (kidsS root M p).length := fun hp => by
    have h1 := (kids_pos root M p).1 hp
    obtain ⟨y, hy, h2⟩ := List.any_eq_true.1 h1
    unfold kidB at h2
    simp at h2
    obtain ⟨⟨_, hyr⟩, h5⟩ := h2
    exact ho (h.par y.1 (List.mem_map_of_mem hy) hyr d (by rw [h5]; exact hd))
  omega
end
theorem eph_start (S : Sess → Prop) : EphI pR S M0 := by
  refine ⟨Inv.made rootsR zNd, fun p d hd => ?_, fun q hq hqr => ?_⟩
  · unfold M0 getA at hd
    split at hd
    · cases hd; exact .inl rfl
    · cases hd
  · unfold M0 at hq
    simp at hq
    exact absurd hq hqr
theorem eph_fold {S : Sess → Prop} : ∀ (l : List AskRaw) (s : Int × List (Bytes × Nd)), (∀ x ∈ l, S x.who) → EphI pR S s.2 → EphI pR S (l.foldl askS s).2
  | [], s, _, h => h
  | x :: l, s, hl, h => by
    rw [List.foldl_cons]
    exact eph_fold l (askS s x) (fun y hy => hl y (List.mem_cons_of_mem _ hy)) (EphI.does h (hl x (List.mem_cons_self ..)))
theorem eph_grown (L : List AskRaw) : EphI pR (fun s => ∃ x ∈ L, x.who = s) (grownS L).2 := eph_fold L (0, M0) (fun x hx => ⟨x, hx, rfl⟩) (eph_start _)
end Go.Proofs.YtnclkfhdpkkakaaGreatDoor

namespace Go.Proofs.YtnclkfhdpkkakaaGreatDoor
set_option linter.unusedVariables false
set_option linter.unusedSimpArgs false
set_option linter.unusedVariables false
set_option linter.unusedSimpArgs false
open Go Go.RowKit Go.MapKept Go.ChangeMaps
open Go.Maps (Keyed)
section
variable {κ : Type} [DecidableEq κ]
def addK (a : κ) (l : List κ) : List κ := if l.contains a then l else l ++ [a]
theorem putA_addK (a : κ) : ∀ g : List κ, putA a true (g.map (·, true)) = (addK a g).map (·, true)
  | [] => by simp [putA, addK]
  | p :: r => by
    simp only [List.map_cons, putA]
    by_cases h : p = a
    · simp [h, addK]
    · have h' : (a == p) = false := by simpa using fun e => h e.symm
      simp only [if_neg h]
      rw [putA_addK a r]
      simp only [addK, List.contains_cons, h', Bool.false_or]
      split <;> simp
theorem getA_set {a : κ} : ∀ {g : List κ}, ((getA a (g.map (·, true))).map Value.bool).getD (.bool false) = .bool (g.contains a)
  | [] => by simp [getA]
  | p :: r => by
    simp only [List.map_cons, getA]
    by_cases h : p = a
    · simp [h]
    · simp only [if_neg h, List.contains_cons]
      rw [getA_set]
      have : (a == p) = false := by simpa using fun e => h e.symm
      simp [this]
theorem mem_addK {a p : κ} {g : List κ} : p ∈ addK a g ↔ p = a ∨ p ∈ g := by
  unfold addK
  split
  · rename_i h
    have h : a ∈ g := by simpa using h
    constructor
    · exact .inr
    · rintro (rfl | h1)
      · exact h
      · exact h1
  · simp [or_comm]
theorem addK_nodup {a : κ} {g : List κ} (h : g.Nodup) : (addK a g).Nodup := by
  unfold addK
  split
  · exact h
  · rename_i hn
    refine List.nodup_append.2 ⟨h, by simp, ?_⟩
    intro x hx y hy e
    simp at hy
    subst hy
    subst e
    exact hn (by simpa using hx)
theorem addK_len (a : κ) (g : List κ) : (addK a g).length ≤ g.length + 1 := by
  unfold addK; split <;> simp

variable {P : Program} {k : TypeId} {fk : κ → Value} {w : World} {b : Nat} {g : List κ}
/-- Block b is a set: its members are g. -/
def SetAt (P : Program) (k : TypeId) (fk : κ → Value) (w : World) (b : Nat) (g : List κ) : Prop := HasMap P k fk Value.bool w b (g.map (·, true))
omit [DecidableEq κ] in
theorem SetAt.made (P : Program) (k : TypeId) (fk : κ → Value) (w : World) : SetAt P k fk (w.alloc (.map #[] 0)) w.heap.size ([] : List κ) := HasMap.made P k fk Value.bool w
omit [DecidableEq κ] in
theorem SetAt.lt (h : SetAt P k fk w b g) : b < w.heap.size := HasMap.lt h
omit [DecidableEq κ] in
theorem SetAt.of_block (h : SetAt P k fk w b g) {w' : World} (hb : w'.heap[b]? = w.heap[b]?) : SetAt P k fk w' b g := HasMap.of_block h hb
omit [DecidableEq κ] in
theorem SetAt.kept (h : SetAt P k fk w b g) {S : Nat → Prop} {w' : World} (hk : Kept S w w') (hn : ¬ S b) : SetAt P k fk w' b g := HasMap.kept h hk hn
omit [DecidableEq κ] in
theorem SetAt.nodup (h : SetAt P k fk w b g) : g.Nodup := by
  have := HasMap.nodup h
  simpa [List.map_map, Function.comp_def] using this
theorem SetAt.look (h : SetAt P k fk w b g) (K : Keyed P k) (hinj : ∀ x y, fk x = fk y → x = y) {t e : TypeId} (ht : P.underlying t = some (.map k e)) (hz : ∀ w, (zeroValue e).run P w = .ok (.bool false) w)
    {a : κ} {l : Lit} (ha : keyOf P k (fk a) = some l) : (Instr.lookup t (.map (some b)) (fk a) false).run P w = .ok (.bool (g.contains a)) w := by
  have := HasMap.lookup h K hinj ht (hz w) ha
  rwa [getA_set] at this
theorem SetAt.store (h : SetAt P k fk w b g) (K : Keyed P k) (hinj : ∀ x y, fk x = fk y → x = y) {t e : TypeId} (ht : P.underlying t = some (.map k e))
    {a : κ} {l : Lit} (ha : keyOf P k (fk a) = some l) :
    ∃ o, ∀ w' : World, w'.heap[b]? = w.heap[b]? → (Instr.mapUpdate t (.map (some b)) (fk a) (.bool true)).run P w' = .ok () (setBlock w' b o) ∧ SetAt P k fk (setBlock w' b o) b (addK a g) ∧ Kept (· = b) w' (setBlock w' b o) := by
  obtain ⟨o, ho⟩ := HasMap.update h K hinj ht true ha
  refine ⟨o, fun w' hb => ?_⟩
  obtain ⟨h1, h2⟩ := ho w' hb
  have hlt : b < w'.heap.size := by
    obtain ⟨es, c, h5, _⟩ := h
    exact lt_of_block (hb.trans h5)
  refine ⟨h1, ?_, kept_setBlock hlt o⟩
  unfold SetAt
  rw [← putA_addK]
  exact h2
end
/-! sessions as keys -/
theorem rowSess : (29 : TypeId) < Tryz.prog.types.size := of_decide_eq_true (by kernel_rfl)
set_option maxRecDepth 100000 in
theorem wideSess : (match Tryz.prog.underlying 29 with | some (.array _ _) | some (.struct _) => true | _ => false) = true := by
  have h := Tryz.underlying29
  revert h
  generalize Tryz.prog.underlying 29 = u
  rintro rfl
  rfl
set_option maxRecDepth 100000 in
theorem keySess : Keyed Tryz.prog 29 := Keyed.of_law (deep_law_laid Tryz.laidOut (m := 3) (by omega) rowSess (by kernel_rfl) wideSess)
theorem keyTypeSess : Tryz.prog.keyType 29 = true := by kernel_rfl
theorem who_inj : ∀ x y : Sess, whoV x = whoV y → x = y := by
  rintro ⟨a, b⟩ ⟨a', b'⟩ h
  simp [whoV] at h
  obtain ⟨h1, h2⟩ := h
  subst h1 h2
  rfl
theorem typesSize : Tryz.prog.types.size = (Tryz.prog.types.size - 2) + 2 := by kernel_rfl
theorem keyLitsSess (d : Nat) (x y : Int) (w1 : (Lit.int .i64 x).wf = true) (w2 : (Lit.int .u32 y).wf = true) :
    Tryz.prog.keyLits (d + 2) 29 [.int .i64 x, .int .u32 y] = some [.int .i64 x, .int .u32 y] := by
  simp [Program.keyLits, Tryz.underlying29, cellsSess, cellsInt, cellsU32, Tryz.underlying3, Tryz.underlying27, w1, w2]
theorem sess_key {x : Sess} (h : SessOk x) : ∃ l, keyOf Tryz.prog 29 (whoV x) = some l := by
  refine ⟨.string (keyBytes [.int .i64 x.site, .int .u32 x.n]), ?_⟩
  unfold keyOf
  rw [Tryz.underlying29]
  dsimp only
  rw [keyTypeSess, typesSize, show ((Tryz.prog.types.size - 2) + 2 + 1 : Nat) = (Tryz.prog.types.size - 2 + 1) + 2 by omega, show (whoV x).cells.toList = [.int .i64 x.site, .int .u32 x.n] from rfl, keyLitsSess _ _ _ h.1 h.2,
    show (whoV x).formed Tryz.prog 29 = true by simp [whoV, Value.formed, Tryz.underlying29, cellsSess]]
  rfl
end Go.Proofs.YtnclkfhdpkkakaaGreatDoor

namespace Go.Proofs.YtnclkfhdpkkakaaGreatDoor
set_option linter.unusedVariables false
set_option linter.unusedSimpArgs false
open Go Go.RowKit Go.Shelf Go.MapKept Go.ChangeMaps Go.Maps Go.Sort
theorem zeroBoo (w : World) : (zeroValue 4).run Tryz.prog w = .ok (.bool false) w := by kernel_rfl
def SetOf (w : World) (gb : Nat) (L : List AskRaw) : Prop := ∃ g : List Sess, SetAt Tryz.prog 29 whoV w gb g ∧ ∀ s, (s = ⟨0, 0⟩ ∨ ∃ x ∈ L, x.who = s) → s ∈ g
set_option maxRecDepth 100000 in
set_option maxHeartbeats 32000000 in
theorem opEph_core (w : World) (hm : MaxInt w) (PT : PowTab w) (a : Option Addr) (c : Nat) (L : List AskRaw) (hat : AsksAt w a L) (hl : L.length ≤ maxLen) :
    Calls Tryz.prog 9 #[.slice a L.length c] w fun e w' => e = .returned (.bool true) ∧ Below w.heap.size w w' := by
  obtain ⟨n, hn⟩ : ∃ n, n = L.length := ⟨_, rfl⟩
  have hgr := asks_great w a c L hat hl
  have hll := hl
  rw [← hn] at hgr hll ⊢
  unfold maxLen at hll
  obtain ⟨gl, hgl⟩ : ∃ gl, gl = greatL L := ⟨_, rfl⟩
  rw [← hgl] at hgr
  have HGR := Lib.hid hgr
  have HGL := Lib.hid hgl
  have HM := Lib.hid (And.intro hm (And.intro PT (And.intro hat hn)))
  have HSS : Hid ((Tryz.prog.info? 29).map (·.size) = some 2) := Lib.hid (by kernel_rfl)
  clear hgr hgl hm PT hat hl hn
  have hmm := @run_makeMap Tryz.prog
  go_enter Tryz.func9, Tryz.ntmps9
  go_wp2_with fail
  refine HGR.out.mono ?_
  rintro e w2 ⟨rfl, B2⟩
  have HB2 := Lib.hid B2
  clear B2
  cases gl
  rotate_left
  · go_wp2
    go_ret
    exact ⟨rfl, HB2.out⟩
  have hgw := grown_any w2 (HM.out.1.kept HB2.out) (tab_below HM.out.2.1 HB2.out) a c L (HM.out.2.2.1.below HB2.out) HGL.out.symm
  rw [← HM.out.2.2.2] at hgw
  have HGW := Lib.hid hgw
  clear hgw
  go_wp2_with fail
  refine HGW.out.mono ?_
  rintro e w3 ⟨b, rfl, hb2, S3, _, B3⟩
  have hE := eph_grown L
  generalize (grownS L).1 = at_ at S3
  generalize (grownS L).2 = M at S3 hE
  have HS3 := Lib.hid S3
  have HE := Lib.hid hE
  have HB3 := Lib.hid (And.intro (HB2.out.trans (B3.mono HB2.out.size)) hb2)
  clear S3 hE B3 hb2
  go_wp2_with fail
  refine HS3.out.tr.paths.mono ?_
  rintro e w4 ⟨pa, pc, rfl, hstr, B4⟩
  obtain ⟨K, hK⟩ : ∃ K, K = M.length := ⟨_, rfl⟩
  rw [← hK]
  have hK48 : K ≤ 48 := by rw [hK]; exact HS3.out.tr.fit.len
  have hb4 : Below w.heap.size w w4 := HB3.out.1.trans (B4.mono HB3.out.1.size)
  have HST := Lib.hid hstr
  have HB4 := Lib.hid (And.intro hb4 B4)
  have HKK := Lib.hid hK
  clear hstr hK B4 hb4
  obtain ⟨w5, hw5⟩ : ∃ w5, w5 = w4.alloc (.map #[] 0) := ⟨_, rfl⟩
  have B5 : Below w4.heap.size w4 w5 := by rw [hw5]; exact belowA (Below.refl _ w4) _
  have T5 : SetAt Tryz.prog 29 whoV w5 w4.heap.size ([] : List Sess) := by rw [hw5]; exact SetAt.made _ _ _ _
  obtain ⟨lz, hlz⟩ := sess_key (x := ⟨0, 0⟩) (by unfold SessOk; decide)
  obtain ⟨o5, ho5⟩ := T5.store keySess who_inj Tryz.underlying71 hlz
  obtain ⟨u1, u2, u3⟩ := ho5 w5 rfl
  have u1 : (Instr.mapUpdate 71 (.map (some w4.heap.size)) (.agg #[.int .i64 0, .int .u32 0]) (.bool true)).run Tryz.prog w5 = .ok () (setBlock w5 w4.heap.size o5) := u1
  rw [hw5] at u1
  obtain ⟨w6, hw6⟩ : ∃ w6, w6 = setBlock w5 w4.heap.size o5 := ⟨_, rfl⟩
  rw [← hw6] at u2 u3
  rw [hw5] at hw6
  have b46 : Below w4.heap.size w4 w6 := B5.trans (u3.below B5.size (fun j e => by have e : j = w4.heap.size := e; omega))
  have H6 : Hid (Below w4.heap.size w4 w6 ∧ SetOf w6 w4.heap.size (L.take 0)) := Lib.hid ⟨b46, _, u2, fun s hs => by
    rcases hs with rfl | ⟨x, hx, _⟩
    · exact mem_addK.2 (.inl rfl)
    · simp at hx⟩
  have HW6 := Lib.hid hw6
  clear B5 T5 hlz ho5 u2 u3 b46 hw5 hw6
  go_upto_region 8 with fail
  rw [← HW6.out]
  clear u1 hmm
  go_wp2_with fail
  go_loopw [6] (fun iv wr => ∃ k : Nat, k ≤ n ∧ iv = .int .i64 k ∧ Hid (Below w4.heap.size w4 wr ∧ SetOf wr w4.heap.size (L.take k))) (fun iv _ => n - (intOf iv).toNat)
  case atStart => exact ⟨0, by omega, rfl, H6⟩
  case round =>
    obtain ⟨k, hk, rfl, HS⟩ := hrel
    by_cases hlt : k < n
    · have tlt : decide ((k : Int) < (n : Int)) = true := by simp; omega
      obtain ⟨x, hx⟩ : ∃ x, L[k]? = some x := ⟨_, List.getElem?_eq_getElem (by rw [← HM.out.2.2.2]; exact hlt)⟩
      have hbw := HB4.out.1.trans (HS.out.1.mono HB4.out.1.size)
      obtain ⟨g, off, ha, hgl, hrg, hok⟩ := HM.out.2.2.1 k x hx
      subst ha
      obtain ⟨_, r2⟩ := ask_cells (range_kept hrg hbw hgl)
      obtain ⟨gs, T, hmem⟩ := HS.out.2
      obtain ⟨lx, hlx⟩ := sess_key hok.sess
      obtain ⟨o, ho⟩ := T.store keySess who_inj Tryz.underlying71 hlx
      obtain ⟨q1, q2, q3⟩ := ho wr rfl
      obtain ⟨who, hwho⟩ : ∃ who, who = x.who := ⟨_, rfl⟩
      rw [← hwho] at q1 q2 r2
      obtain ⟨s, sn⟩ := who
      have q1 : (Instr.mapUpdate 71 (.map (some w4.heap.size)) (.agg #[.int .i64 s, .int .u32 sn]) (.bool true)).run Tryz.prog wr = .ok () (setBlock wr w4.heap.size o) := q1
      have HBN : Hid (Below w4.heap.size w4 (setBlock wr w4.heap.size o) ∧ SetOf (setBlock wr w4.heap.size o) w4.heap.size (L.take (k + 1))) := Lib.hid ⟨HS.out.1.trans (q3.below HS.out.1.size (fun j e => by have e : j = w4.heap.size := e; omega)), _, q2, fun s' hs => by
        rw [mem_addK]
        rcases hs with rfl | ⟨y, hy, rfl⟩
        · exact .inr (hmem _ (.inl rfl))
        · rw [List.take_add_one, hx] at hy
          rcases List.mem_append.1 hy with h | h
          · exact .inr (hmem _ (.inr ⟨y, h, rfl⟩))
          · have h : y = x := by simpa using h
            rw [h]
            exact .inl hwho.symm⟩
      have HR := Lib.hid r2
      clear hx hbw hgl hrg hok r2 T hmem hlx ho q2 q3 hwho
      go_wp2_with (refine wpList_load_mid rfl 29 (.tmp 31) rfl g (off + k * 9 + 7) rfl [.int .i64 s, .int .u32 sn] _ HR.out Tryz.underlying29 rfl HSS.out ?_)
      go_roundw
      case rel => exact ⟨k + 1, by omega, by go_num, HBN⟩
      case measure => simp [intOf]; omega
    · obtain rfl : n = k := by omega
      have tlt : decide ((n : Int) < (n : Int)) = false := by simp
      have tltn : decide (n < n) = false := by simp
      obtain ⟨w7, hw7⟩ : ∃ w7, w7 = wr := ⟨_, rfl⟩
      subst hw7
      have hset := HS.out.2
      rw [List.take_of_length_le (by rw [← HM.out.2.2.2]; exact Nat.le_refl _)] at hset
      have h37 : Below w3.heap.size w3 w7 := HB4.out.2.trans (HS.out.1.mono HB4.out.2.size)
      have HS7 := Lib.hid (And.intro (HS3.out.below h37) (And.intro (HB4.out.1.trans (HS.out.1.mono HB4.out.1.size)) hset))
      have h0 : Hid (Below w7.heap.size w7 w7) := Lib.hid (Below.refl _ _)
      have HBL := Lib.hid HS.out.1
      clear hset h37 hlt hk
      go_wp2_with fail
      go_loopw [7] (fun jv wr => ∃ k : Nat, k ≤ K ∧ jv = .int .i64 k ∧ Hid (Below w7.heap.size w7 wr)) (fun jv _ => K - (intOf jv).toNat)
      case atStart => exact ⟨0, by omega, rfl, h0⟩
      case round =>
        obtain ⟨k, hk, rfl, HSB⟩ := hrel
        by_cases hjt : k < K
        · have tlt2 : decide ((k : Int) < (K : Int)) = true := by simp; omega
          have hkl : (keysS M).length = M.length := keysS_len M
          obtain ⟨p, hp⟩ : ∃ p, (keysS M)[k]? = some p := ⟨_, List.getElem?_eq_getElem (by rw [hkl, ← HKK.out]; exact hjt)⟩
          obtain ⟨g, off, hpa, hgl, hcl⟩ := HST.out k p hp
          subst hpa
          have hpm : p ∈ M.map (·.1) := keysS_mem.1 (List.mem_of_getElem? hp)
          obtain ⟨d, hd⟩ := Option.isSome_iff_exists.1 (getA_some.2 hpm)
          have hpl : p.length ≤ maxLen := by
            obtain ⟨z, hz, e⟩ := List.mem_map.1 hpm
            have := HS3.out.tr.fit.path z hz
            rw [e] at this
            unfold maxLen
            omega
          have Sw := HS7.out.1.below HSB.out
          have yp : wr.cell? ⟨g, off + k, none⟩ = some (.string (bs p)) := ((HBL.out.trans (HSB.out.mono HBL.out.size)).cell (p := ⟨g, off + k, none⟩) hgl).trans hcl
          have hget := Sw.tr.get p hpl
          rw [hd] at hget
          obtain ⟨gs, T, hmem⟩ := HS7.out.2.2
          have howner := HE.out.own p d hd
          have hin : ownS d ∈ gs := hmem _ (by
            rcases howner with h | h
            · exact .inl h
            · exact .inr h)
          have hsok : SessOk (ownS d) := by
            rcases howner with h | ⟨y, hy, h⟩
            · rw [h]; unfold SessOk; decide
            · rw [← h]
              obtain ⟨i, hi⟩ := List.mem_iff_getElem?.1 hy
              obtain ⟨_, _, _, _, _, hok⟩ := HM.out.2.2.1 i y hi
              exact hok.sess
          obtain ⟨lx, hlx⟩ := sess_key hsok
          have hkids : ownS d ≠ ⟨0, 0⟩ → (kidsS pR M p).length = 0 := fun h => HE.out.kids hd h
          have hTlt := T.lt
          have HGE := Lib.hid hget
          have HTT := Lib.hid (And.intro T (And.intro hin (And.intro hlx (And.intro hkids (And.intro hTlt (And.intro Sw hpl))))))
          clear hp hgl hcl hpm hd hpl Sw hget T hmem howner hin hsok hlx hkids hTlt hkl
          go_wp2_with fail
          refine HGE.out.mono ?_
          rintro e w8 ⟨⟨ga, gn, gc, ⟨g1, g2, g3, g4, g5, g6, g7, g8⟩⟩, rfl, hgr, B8, _⟩
          unfold Raw.val Raw.cells Nums.cells
          dsimp only
          have hnum : (⟨g1, g2, g3, g4, g5, g6, g7, g8⟩ : Nums) = d.num := hgr.num
          have hown : ownS d = ⟨g4, g5⟩ := by unfold ownS; rw [← hnum]
          obtain ⟨w9, hw9⟩ : ∃ w9, w9 = w8.alloc (.cells #[.slice ga gn gc, .int .u32 g1, .int .u32 g2, .int .u32 g3, .int .i64 g4, .int .u32 g5, .int .u64 g6, .int .u64 g7, .int .u64 g8] 39) := ⟨_, rfl⟩
          have B89 : Below w8.heap.size w8 w9 := by rw [hw9]; exact belowA (Below.refl _ w8) _
          have B9 : Below wr.heap.size wr w9 := B8.trans (B89.mono B8.size)
          have k9 : w9.heap[w8.heap.size]? = some (.cells #[.slice ga gn gc, .int .u32 g1, .int .u32 g2, .int .u32 g3, .int .i64 g4, .int .u32 g5, .int .u64 g6, .int .u64 g7, .int .u64 g8] 39 (0, 0)) := by rw [hw9]; exact heap_alloc_new w8 _
          have b79 : Below w7.heap.size w7 w9 := HSB.out.trans (B9.mono HSB.out.size)
          have T9 := HTT.out.1.of_block (b79.block _ HTT.out.2.2.2.2.1)
          have hlook := T9.look keySess who_inj Tryz.underlying71 zeroBoo HTT.out.2.2.1
          rw [show (List.contains _ (ownS d)) = true from by simpa using HTT.out.2.1, hown] at hlook
          have hlook : (Instr.lookup 71 (.map (some w4.heap.size)) (.agg #[.int .i64 g4, .int .u32 g5]) false).run Tryz.prog w9 = .ok (.bool true) w9 := hlook
          have n4 : w9.rangeAt w8.heap.size 4 [.int .i64 g4, .int .u32 g5] := mid_range 4 (o := 0) (range_blk k9) (fun j v hv => by
            match j, hv with
            | 0, hv => exact hv
            | 1, hv => exact hv)
          have hkid := (HTT.out.2.2.2.2.2.1.below B9).tr.kids p
          have yp9 : w9.cell? ⟨g, off + k, none⟩ = some (.string (bs p)) := (B9.cell (p := ⟨g, off + k, none⟩) (World.block_lt_of_cell? _ _ yp)).trans yp
          have HN4 := Lib.hid n4
          have cc4 : w9.cell? ⟨w8.heap.size, 4, none⟩ = some (.int .i64 g4) := cell_of_row _ _ 4 _ 39 (0, 0) k9
          have cc5 : w9.cell? ⟨w8.heap.size, 5, none⟩ = some (.int .u32 g5) := cell_of_row _ _ 5 _ 39 (0, 0) k9
          have HW9 := Lib.hid hw9
          have HB9 := Lib.hid b79
          have HKD := Lib.hid hkid
          have hz := HTT.out.2.2.2.1
          rw [hown] at hz
          clear hgr B8 hnum hown hw9 B89 B9 k9 b79 T9 n4 hkid
          go_upto_region 16 with fail
          rw [← HW9.out]
          cases h0 : noSess g4 g5 with
          | true =>
            have tz : ∀ W : World, (binOp .neq 29 (.agg #[.int .i64 g4, .int .u32 g5]) (.agg #[.int .i64 0, .int .u32 0])).run Tryz.prog W = .ok (.bool false) W := fun W => (sess_ne g4 g5 W).trans (by rw [h0]; rfl)
            have HBN := HB9
            clear hz h0
            go_wp2_with (first
              | (refine wpList_load_mid rfl 29 (.tmp 49) rfl w8.heap.size 4 rfl [.int .i64 g4, .int .u32 g5] _ HN4.out Tryz.underlying29 rfl HSS.out ?_))
            go_roundw
            case rel => exact ⟨k + 1, by omega, by go_num, HBN⟩
            case measure => simp [intOf]; omega
          | false =>
            have tz : ∀ W : World, (binOp .neq 29 (.agg #[.int .i64 g4, .int .u32 g5]) (.agg #[.int .i64 0, .int .u32 0])).run Tryz.prog W = .ok (.bool true) W := fun W => (sess_ne g4 g5 W).trans (by rw [h0]; rfl)
            have hk0 : (kidsS pR M p).length = 0 := hz (fun e => by injection e with e1 e2; rw [e1, e2] at h0; exact absurd h0 (by decide))
            have HK0 := Lib.hid hk0
            clear hz h0 hk0
            go_wp2_with (first
              | (refine wpList_load_mid rfl 29 (.tmp 49) rfl w8.heap.size 4 rfl [.int .i64 g4, .int .u32 g5] _ HN4.out Tryz.underlying29 rfl HSS.out ?_))
            refine HKD.out.mono ?_
            rintro e wk ⟨ka, kc, rfl, _, BK⟩
            rw [HK0.out]
            have HBN := Lib.hid (HB9.out.trans (BK.mono HB9.out.size))
            clear BK
            go_wp2_with fail
            go_roundw
            case rel => exact ⟨k + 1, by omega, by go_num, HBN⟩
            case measure => simp [intOf]; omega
        · obtain rfl : K = k := by omega
          have tlt2 : decide ((K : Int) < (K : Int)) = false := by simp
          have Sw := HS7.out.1.below HSB.out
          have HW := Lib.hid (works_any wr Sw.tr.max Sw.pow)
          have HBE := Lib.hid (HS7.out.2.1.trans (HSB.out.mono HS7.out.2.1.size))
          clear Sw hjt
          go_wp2_with fail
          refine HW.out.mono ?_
          rintro e wz ⟨rfl, BZ⟩
          have HZ := Lib.hid (HBE.out.trans (BZ.mono HBE.out.size))
          clear BZ
          go_wp2
          go_ret
          exact ⟨rfl, HZ.out⟩
end Go.Proofs.YtnclkfhdpkkakaaGreatDoor

namespace Go.Proofs.YtnclkfhdpkkakaaGreatDoor
set_option linter.unusedVariables false
set_option linter.unusedSimpArgs false
open Go Go.RowKit Go.ChangeShapes Go.WideShapes Go.Deep
set_option maxRecDepth 100000 in
theorem opEph_law {H : Type} (enc : TypeId × Value → H) (W : World)
    (v0 : Value) (d0 : DataW H) (p0 : List MemPlace) (h0 : DataW.Trod enc Tryz.prog W 0 (fun _ => true) true 22 v0 d0 p0) (o0 : ∃ b, Value.okWide Tryz.prog W .any b 22 v0) (hm : MaxInt W) (PT : PowTab W) :
    Calls Tryz.prog 9 #[v0] W fun e W' => e = .returned (.bool true) ∧ Below W.heap.size W W' := by
  obtain ⟨b0, o0⟩ := o0
  obtain ⟨a0, len0, cap0, rfl⟩ := okWide_slice Tryz.underlying22 o0
  obtain ⟨f0, h0⟩ := h0
  obtain ⟨a, c, L, e0, l0, hat⟩ := asks_open h0
  simp [Value.cells] at e0
  obtain ⟨rfl, rfl, rfl⟩ := e0
  exact opEph_core W hm PT _ _ L hat l0
end Go.Proofs.YtnclkfhdpkkakaaGreatDoor
