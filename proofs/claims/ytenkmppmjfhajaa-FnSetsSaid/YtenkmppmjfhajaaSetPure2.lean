/- Sets as bit masks, in plain Lean: what adding, removing and counting come to. -/
import Derived.Test.YtenkmppmjfhajaaSetPure
namespace Go.Proofs.Ytenkmppmjfhajaa
open Go.RowKit
set_option linter.unusedVariables false

theorem delN_bit (s i j : Nat) (hs : s < 65536) (hi : i ≤ 15) : (delN s i).testBit j = (s.testBit j && !decide (j = i)) := by
  have hp := pow_lt i hi
  unfold delN
  rw [BitVec.toNat_and, Nat.testBit_and, BitVec.toNat_ofNat, Nat.mod_eq_of_lt (by omega)]
  by_cases h : s.testBit j = true
  · rw [h, Bool.true_and, Bool.true_and]
    have hj : j < 16 := by
      rcases Nat.lt_or_ge j 16 with h' | h'
      · exact h'
      · have := Nat.testBit_lt_two_pow (Nat.lt_of_lt_of_le (show s < 2 ^ 16 by omega) (Nat.pow_le_pow_right (by omega) h'))
        rw [this] at h
        cases h
    rw [BitVec.testBit_toNat, BitVec.getLsbD_not, BitVec.getLsbD_ofNat]
    simp only [show j < 64 by omega, decide_true, Bool.true_and]
    rw [Nat.testBit_two_pow]
    simp [eq_comm]
  · have : s.testBit j = false := by simpa using h
    rw [this]
    simp
theorem hasE_nat {s k : Nat} (hs : s ≤ 65535) (hk : k ≤ 15) : hasE (s : Int) (k : Int) = s.testBit k := by
  simp only [hasE, inR_true (show (0 : Int) ≤ (s : Int) by omega) (show (s : Int) ≤ 65535 by omega), inR_true (show (0 : Int) ≤ (k : Int) by omega) (show (k : Int) ≤ 15 by omega), Bool.true_and, Int.toNat_natCast]
theorem addE_nat {s k : Nat} (hs : s ≤ 65535) (hk : k ≤ 15) : addE (s : Int) (k : Int) = ((s ||| 2 ^ k : Nat) : Int) := by
  simp only [addE, inR_true (show (0 : Int) ≤ (s : Int) by omega) (show (s : Int) ≤ 65535 by omega), inR_true (show (0 : Int) ≤ (k : Int) by omega) (show (k : Int) ≤ 15 by omega), Bool.and_self, if_true, Int.toNat_natCast]
theorem delE_nat {s k : Nat} (hs : s ≤ 65535) (hk : k ≤ 15) : delE (s : Int) (k : Int) = (delN s k : Int) := by
  simp only [delE, inR_true (show (0 : Int) ≤ (s : Int) by omega) (show (s : Int) ≤ 65535 by omega), inR_true (show (0 : Int) ≤ (k : Int) by omega) (show (k : Int) ≤ 15 by omega), Bool.and_self, if_true, Int.toNat_natCast]
theorem or_le {s k : Nat} (hs : s ≤ 65535) (hk : k ≤ 15) : s ||| 2 ^ k ≤ 65535 := by
  have h : s ||| 2 ^ k < 2 ^ 16 := Nat.or_lt_two_pow (by omega) (by have := pow_lt k hk; omega)
  omega
theorem elems_count (s i k : Nat) (hs : s ≤ 65535) (hi : i ≤ 15) (hk : k ≤ 16) : (elemsTo ((s ||| 2 ^ i : Nat) : Int) k).length = (elemsTo (delN s i : Int) k).length + (if i < k then 1 else 0) := by
  have h1 := or_le hs hi
  have h2 := delN_le s i
  induction k with
  | zero => simp [elemsTo]
  | succ k ih =>
    rw [elemsTo_succ, elemsTo_succ, List.length_append, List.length_append, ih (by omega), hasE_nat h1 (by omega), hasE_nat (by omega) (by omega), delN_bit s i k (by omega) hi, Nat.testBit_or, Nat.testBit_two_pow]
    by_cases e : i = k
    · subst e
      simp
    · have e' : ¬ k = i := fun h => e h.symm
      have e2 : (if i < k + 1 then 1 else 0) = (if i < k then 1 else 0) := by
        by_cases q : i < k
        · rw [if_pos q, if_pos (by omega)]
        · rw [if_neg q, if_neg (by omega)]
      rw [e2]
      simp only [e, e', decide_false, Bool.or_false, Bool.not_false, Bool.and_true]
      omega
theorem mk_elems (s k : Nat) (hs : s ≤ 65535) (hk : k ≤ 16) : mkSet (elemsTo (s : Int) k) = ((s % 2 ^ k : Nat) : Int) := by
  induction k with
  | zero => simp [elemsTo, mkSet, Nat.mod_one]
  | succ k ih =>
    have hlt : s % 2 ^ k ≤ 65535 := Nat.le_trans (Nat.mod_le _ _) hs
    rw [elemsTo_succ]
    unfold mkSet at ih ⊢
    rw [List.foldl_append, ih (by omega), hasE_nat hs (by omega)]
    by_cases h : s.testBit k = true
    · rw [if_pos h]
      simp only [List.foldl_cons, List.foldl_nil]
      rw [addE_nat hlt (by omega)]
      congr 1
      apply Nat.eq_of_testBit_eq
      intro j
      rw [Nat.testBit_or, Nat.testBit_two_pow, Nat.testBit_mod_two_pow, Nat.testBit_mod_two_pow]
      by_cases e : k = j
      · subst e
        simp [h]
      · by_cases q : j < k
        · simp [e, q, show j < k + 1 by omega]
        · simp [e, q, show ¬ j < k + 1 by omega]
    · have h' : s.testBit k = false := by simpa using h
      rw [if_neg h]
      simp only [List.foldl_nil]
      congr 1
      apply Nat.eq_of_testBit_eq
      intro j
      rw [Nat.testBit_mod_two_pow, Nat.testBit_mod_two_pow]
      by_cases e : k = j
      · subst e
        simp [h']
      · by_cases q : j < k
        · simp [q, show j < k + 1 by omega]
        · simp [q, show ¬ j < k + 1 by omega]
theorem set_facts {s i : Int} (h1 : 0 ≤ s) (h2 : s ≤ 65535) (h3 : 0 ≤ i) (h4 : i ≤ 15) :
    hasE (addE s i) i = true ∧ hasE (delE s i) i = false ∧ mkSet (elemsE s) = s ∧ ((elemsE (addE s i)).length : Int) - ((elemsE (delE s i)).length : Int) = 1 := by
  obtain ⟨a, rfl⟩ := Int.eq_ofNat_of_zero_le h1
  obtain ⟨k, rfl⟩ := Int.eq_ofNat_of_zero_le h3
  have ha : a ≤ 65535 := by omega
  have hk : k ≤ 15 := by omega
  have hd := delN_le a k
  rw [addE_nat ha hk, delE_nat ha hk]
  refine ⟨?_, ?_, ?_, ?_⟩
  · rw [hasE_nat (or_le ha hk) hk, Nat.testBit_or, Nat.testBit_two_pow]
    simp
  · rw [hasE_nat (by omega) hk, delN_bit a k k (by omega) hk]
    simp
  · unfold elemsE
    rw [mk_elems a 16 ha (by omega), Nat.mod_eq_of_lt (by omega)]
  · unfold elemsE
    rw [elems_count a k 16 ha hk (by omega), if_pos (by omega)]
    omega
end Go.Proofs.Ytenkmppmjfhajaa
