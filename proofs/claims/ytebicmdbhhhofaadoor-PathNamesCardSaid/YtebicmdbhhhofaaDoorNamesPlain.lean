/-
  A byte that may not be in a name, put in at any place, makes it none: the plain law.
-/
import Derived.Test.YtebicmdbhhhofaaDoorPathMore
namespace Go.Proofs.YtebicmdbhhhofaaDoor
set_option linter.unusedVariables false
set_option linter.unusedSimpArgs false
open Go.RowKit

def contC (b : UInt8) : Bool := b.toNat / 64 == 2
def extra (b : UInt8) : Nat := if b.toNat / 32 = 6 then 1 else if b.toNat / 16 = 14 then 2 else if b.toNat / 8 = 30 then 3 else 0
theorem extra_low {b : UInt8} (h : b.toNat < 192) : extra b = 0 := by
  unfold extra
  rw [if_neg (by omega), if_neg (by omega), if_neg (by omega)]
theorem contC_cont {b : UInt8} (h : contC b = true) : extra b = 0 := by
  unfold contC at h
  simp at h
  exact extra_low (by omega)

theorem lead_class (s : ByteArray) (i : Nat) (h : badB (Utf8.decode s i).1 = false) :
    ((s.get! i).toNat < 128 ∧ (Utf8.decode s i).2 = 1) ∨
    ((s.get! i).toNat / 32 = 6 ∧ (Utf8.decode s i).2 = 2 ∧ contB s (i + 1) = true) ∨
    ((s.get! i).toNat / 16 = 14 ∧ (Utf8.decode s i).2 = 3 ∧ contB s (i + 1) = true ∧ contB s (i + 2) = true) ∨
    ((s.get! i).toNat / 8 = 30 ∧ (Utf8.decode s i).2 = 4 ∧ contB s (i + 1) = true ∧ contB s (i + 2) = true ∧ contB s (i + 3) = true) := by
  have hb : badB 65533 = true := by decide
  rw [dec_unfold] at h ⊢
  by_cases h0 : (s.get! i).toNat < 128
  · rw [if_pos h0]
    exact .inl ⟨h0, rfl⟩
  · rw [if_neg h0] at h ⊢
    by_cases h1 : ((s.get! i).toNat / 32 == 6 && contB s (i + 1)) = true
    · rw [if_pos h1] at h ⊢
      simp only [Bool.and_eq_true, beq_iff_eq] at h1
      split at h
      · rename_i hc
        rw [if_pos hc]
        exact .inr (.inl ⟨h1.1, rfl, h1.2⟩)
      · rw [hb] at h; cases h
    · rw [if_neg h1] at h ⊢
      by_cases h2 : ((s.get! i).toNat / 16 == 14 && contB s (i + 1) && contB s (i + 2)) = true
      · rw [if_pos h2] at h ⊢
        simp only [Bool.and_eq_true, beq_iff_eq] at h2
        split at h
        · rename_i hc
          rw [if_pos hc]
          exact .inr (.inr (.inl ⟨h2.1.1, rfl, h2.1.2, h2.2⟩))
        · rw [hb] at h; cases h
      · rw [if_neg h2] at h ⊢
        by_cases h3 : ((s.get! i).toNat / 8 == 30 && contB s (i + 1) && contB s (i + 2) && contB s (i + 3)) = true
        · rw [if_pos h3] at h ⊢
          simp only [Bool.and_eq_true, beq_iff_eq] at h3
          split at h
          · rename_i hc
            rw [if_pos hc]
            exact .inr (.inr (.inr ⟨h3.1.1.1, rfl, h3.1.1.2, h3.1.2, h3.2⟩))
          · rw [hb] at h; cases h
        · rw [if_neg h3] at h
          rw [hb] at h; cases h

theorem contB_bs {l : Bytes} {j : Nat} (h : contB (bs l) j = true) : ∃ hj : j < l.length, contC l[j] = true := by
  unfold contB at h
  simp only [Bool.and_eq_true, decide_eq_true_eq] at h
  have hj : j < l.length := by rw [size_bs] at h; exact h.1
  exact ⟨hj, by unfold contC; rw [← get_bs l j hj]; exact h.2⟩
def Bal (m : Bytes) : Prop := m.countP contC = (m.map extra).sum
theorem bal_cons_ascii {c : UInt8} {m : Bytes} (h : c.toNat < 128) (hm : Bal m) : Bal (c :: m) := by
  unfold Bal at *
  have h1 : contC c = false := by unfold contC; simp; omega
  rw [List.countP_cons_of_neg (by simp [h1]), List.map_cons, List.sum_cons, extra_low (by omega), hm]
  omega
theorem cont_step {c : UInt8} {m : Bytes} (h : contC c = true) : (c :: m).countP contC = m.countP contC + 1 ∧ ((c :: m).map extra).sum = (m.map extra).sum := by
  rw [List.countP_cons_of_pos h, List.map_cons, List.sum_cons, contC_cont h]
  omega
theorem lead_step {c : UInt8} {m : Bytes} (n : Nat) (h : contC c = false) (he : extra c = n) : (c :: m).countP contC = m.countP contC ∧ ((c :: m).map extra).sum = (m.map extra).sum + n := by
  rw [List.countP_cons_of_neg (by simp [h]), List.map_cons, List.sum_cons, he]
  omega

theorem bal_good (l : Bytes) : ∀ (b pos : Nat), goodFrom (bs l) b pos = true → (bs l).size ≤ pos + b → Bal (l.drop pos)
  | 0, pos, _, h => by
    rw [List.drop_of_length_le (by rw [size_bs] at h; omega)]
    rfl
  | b + 1, pos, hg, h => by
    by_cases hp : pos < (bs l).size
    · rw [good_succ (bs l) b pos hp, Bool.and_eq_true, Bool.not_eq_true'] at hg
      have hw := width_pos (bs l) pos hp
      have ih := bal_good l b _ hg.2 (by omega)
      have hpl : pos < l.length := by rw [size_bs] at hp; exact hp
      rw [List.drop_eq_getElem_cons hpl]
      have hc := lead_class (bs l) pos hg.1
      rw [get_bs l pos hpl] at hc
      rcases hc with ⟨h1, h2⟩ | ⟨h1, h2, k1⟩ | ⟨h1, h2, k1, k2⟩ | ⟨h1, h2, k1, k2, k3⟩
      · rw [h2] at ih
        exact bal_cons_ascii h1 ih
      · rw [h2] at ih
        obtain ⟨j1, c1⟩ := contB_bs k1
        rw [List.drop_eq_getElem_cons j1]
        have s0 := lead_step (c := l[pos]) (m := l[pos + 1] :: l.drop (pos + 1 + 1)) 1 (by unfold contC; simp; omega) (by unfold extra; rw [if_pos h1])
        have s1 := cont_step (c := l[pos + 1]) (m := l.drop (pos + 1 + 1)) c1
        unfold Bal at *
        have e : pos + 2 = pos + 1 + 1 := by omega
        rw [e] at ih
        omega
      · rw [h2] at ih
        obtain ⟨j1, c1⟩ := contB_bs k1
        obtain ⟨j2, c2⟩ := contB_bs k2
        rw [List.drop_eq_getElem_cons j1, List.drop_eq_getElem_cons (i := pos + 1 + 1) j2]
        have s0 := lead_step (c := l[pos]) (m := l[pos + 1] :: l[pos + 1 + 1] :: l.drop (pos + 1 + 1 + 1)) 2 (by unfold contC; simp; omega) (by unfold extra; rw [if_neg (by omega), if_pos h1])
        have s1 := cont_step (c := l[pos + 1]) (m := l[pos + 1 + 1] :: l.drop (pos + 1 + 1 + 1)) c1
        have s2 := cont_step (c := l[pos + 1 + 1]) (m := l.drop (pos + 1 + 1 + 1)) c2
        unfold Bal at *
        have e : pos + 3 = pos + 1 + 1 + 1 := by omega
        rw [e] at ih
        omega
      · rw [h2] at ih
        obtain ⟨j1, c1⟩ := contB_bs k1
        obtain ⟨j2, c2⟩ := contB_bs k2
        obtain ⟨j3, c3⟩ := contB_bs k3
        rw [List.drop_eq_getElem_cons j1, List.drop_eq_getElem_cons (i := pos + 1 + 1) j2, List.drop_eq_getElem_cons (i := pos + 1 + 1 + 1) j3]
        have s0 := lead_step (c := l[pos]) (m := l[pos + 1] :: l[pos + 1 + 1] :: l[pos + 1 + 1 + 1] :: l.drop (pos + 1 + 1 + 1 + 1)) 3 (by unfold contC; simp; omega) (by unfold extra; rw [if_neg (by omega), if_neg (by omega), if_pos h1])
        have s1 := cont_step (c := l[pos + 1]) (m := l[pos + 1 + 1] :: l[pos + 1 + 1 + 1] :: l.drop (pos + 1 + 1 + 1 + 1)) c1
        have s2 := cont_step (c := l[pos + 1 + 1]) (m := l[pos + 1 + 1 + 1] :: l.drop (pos + 1 + 1 + 1 + 1)) c2
        have s3 := cont_step (c := l[pos + 1 + 1 + 1]) (m := l.drop (pos + 1 + 1 + 1 + 1)) c3
        unfold Bal at *
        have e : pos + 4 = pos + 1 + 1 + 1 + 1 := by omega
        rw [e] at ih
        omega
    · rw [List.drop_of_length_le (by rw [size_bs] at hp; omega)]
      rfl
theorem bal_name {l : Bytes} (h : okName l = true) : Bal l := by
  have := bal_good l _ 0 (name_good h) (by omega)
  rwa [List.drop_zero] at this

def insB (a : Bytes) (k : Nat) (c : UInt8) : Bytes := a.take k ++ c :: a.drop k
theorem ins_bad (a : Bytes) (k : Nat) (c : UInt8) (hk : k ≤ a.length) (ha : okName a = true) (hc : c ∈ ([0, 31, 127, 47, 128, 255, 192] : List UInt8)) : okName (insB a k c) = false := by
  cases h : okName (insB a k c) with
  | false => rfl
  | true =>
    exfalso
    have hlt : k < (insB a k c).length := by unfold insB; rw [List.length_append, List.length_take, List.length_cons]; omega
    have hq : (insB a k c)[k]? = some c := by
      unfold insB
      have hl : (a.take k).length = k := by rw [List.length_take]; omega
      rw [List.getElem?_append_right (by omega), hl, Nat.sub_self]
      rfl
    have hat : (insB a k c)[k] = c := by
      rw [List.getElem?_eq_getElem hlt] at hq
      exact Option.some.inj hq
    by_cases h128 : c = 128
    · subst h128
      have b1 := bal_name ha
      have b2 := bal_name h
      unfold Bal insB at b2
      have s1 := cont_step (c := 128) (m := a.drop k) (by decide)
      rw [List.countP_append, List.map_append, List.sum_append] at b2
      unfold Bal at b1
      rw [← List.take_append_drop k a, List.countP_append, List.map_append, List.sum_append] at b1
      omega
    · simp only [List.mem_cons, List.mem_nil_iff, or_false] at hc
      rcases hc with rfl | rfl | rfl | rfl | rfl | rfl | rfl
      · exact name_no _ h k hlt 0 hat rfl (.inl (by decide))
      · exact name_no _ h k hlt 31 hat rfl (.inl (by decide))
      · exact name_no _ h k hlt 127 hat rfl (.inr (.inr (.inl rfl)))
      · exact name_no _ h k hlt 47 hat rfl (.inr (.inl rfl))
      · exact h128 rfl
      · exact name_no _ h k hlt 255 hat rfl (.inr (.inr (.inr (.inl (by decide)))))
      · exact name_no _ h k hlt 192 hat rfl (.inr (.inr (.inr (.inr rfl))))
end Go.Proofs.YtebicmdbhhhofaaDoor
