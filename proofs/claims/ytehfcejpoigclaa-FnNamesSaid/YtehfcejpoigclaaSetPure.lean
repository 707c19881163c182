/- Sets as bit masks, in plain Lean: what the functions on sets compute. No program in sight. -/
import Derived.WalkKit
import Derived.Laws.BitsAllLaws
import Derived.Laws.BitsLemmas
namespace Go.Proofs.Ytehfcejpoigclaa
open Go.RowKit
set_option linter.unusedVariables false

def inR (n a b : Int) : Bool := decide (a ≤ n) && decide (n ≤ b)
theorem inR_true {n a b : Int} (h1 : a ≤ n) (h2 : n ≤ b) : inR n a b = true := by simp [inR, h1, h2]
theorem inR_iff {n a b : Int} : inR n a b = true ↔ a ≤ n ∧ n ≤ b := by simp [inR]
theorem inR_left {n a b : Int} (h : ¬ a ≤ n) : inR n a b = false := by simp [inR, h]
theorem inR_right {n a b : Int} (h : ¬ n ≤ b) : inR n a b = false := by simp [inR, h]

def hasE (s i : Int) : Bool := inR s 0 65535 && inR i 0 15 && s.toNat.testBit i.toNat
def addE (s i : Int) : Int := if inR s 0 65535 && inR i 0 15 then ((s.toNat ||| 2 ^ i.toNat : Nat) : Int) else s
def delN (s i : Nat) : Nat := (BitVec.ofNat 64 s &&& ~~~(BitVec.ofNat 64 (2 ^ i))).toNat
def delE (s i : Int) : Int := if inR s 0 65535 && inR i 0 15 then (delN s.toNat i.toNat : Int) else s
def uniE (a b : Int) : Int := if inR a 0 65535 && inR b 0 65535 then ((a.toNat ||| b.toNat : Nat) : Int) else 0
def intE (a b : Int) : Int := if inR a 0 65535 && inR b 0 65535 then ((a.toNat &&& b.toNat : Nat) : Int) else 0
def elemsTo (s : Int) (k : Nat) : List Int := ((List.range k).map Int.ofNat).filter (hasE s)
def elemsE (s : Int) : List Int := elemsTo s 16
def mkSet (l : List Int) : Int := l.foldl addE 0

theorem outside {s i m : Int} (h : ¬ (0 ≤ s ∧ s ≤ 65535 ∧ 0 ≤ i ∧ i ≤ m)) : (inR s 0 65535 && inR i 0 m) = false := by
  rw [Bool.eq_false_iff]
  intro hh
  rw [Bool.and_eq_true, inR_iff, inR_iff] at hh
  omega
theorem hasE_out {s i : Int} (h : ¬ (0 ≤ s ∧ s ≤ 65535 ∧ 0 ≤ i ∧ i ≤ 15)) : false = hasE s i := by simp [hasE, outside h]
theorem addE_out {s i : Int} (h : ¬ (0 ≤ s ∧ s ≤ 65535 ∧ 0 ≤ i ∧ i ≤ 15)) : s = addE s i := by simp [addE, outside h]
theorem delE_out {s i : Int} (h : ¬ (0 ≤ s ∧ s ≤ 65535 ∧ 0 ≤ i ∧ i ≤ 15)) : s = delE s i := by simp [delE, outside h]
theorem uniE_out {s i : Int} (h : ¬ (0 ≤ s ∧ s ≤ 65535 ∧ 0 ≤ i ∧ i ≤ 65535)) : 0 = uniE s i := by simp [uniE, outside h]
theorem intE_out {s i : Int} (h : ¬ (0 ≤ s ∧ s ≤ 65535 ∧ 0 ≤ i ∧ i ≤ 65535)) : 0 = intE s i := by simp [intE, outside h]
theorem mkSet_succ {l : List Int} {k : Nat} {x : Int} (h : l[k]? = some x) : addE (mkSet (l.take k)) x = mkSet (l.take (k + 1)) := by
  unfold mkSet
  rw [List.take_add_one, h, List.foldl_append]
  rfl
theorem ofInt64 (a : Nat) (ha : a < 9223372036854775808) : (BitVec.ofInt 64 (a : Int)).toNat = a := by
  rw [BitVec.ofInt_natCast, BitVec.toNat_ofNat]
  exact Nat.mod_eq_of_lt (by omega)
theorem wrap64_small (n : Int) (h : 0 ≤ n) (h2 : n ≤ 9223372036854775807) : wrap64 n = n := IntWalk.wrap64_in n (by omega)
theorem or64 (a b : Nat) (ha : a < 65536) (hb : b < 65536) : bits .or .i64 (a : Int) (b : Int) = ((a ||| b : Nat) : Int) := by
  have hx : a ||| b < 2 ^ 16 := Nat.or_lt_two_pow (by omega) (by omega)
  show IntKind.i64.wrap ((BitVec.ofInt 64 (a : Int) ||| BitVec.ofInt 64 (b : Int)).toNat : Int) = _
  rw [BitVec.toNat_or, ofInt64 a (by omega), ofInt64 b (by omega), IntKind.wrap_i64]
  omega
theorem and64 (a b : Nat) (ha : a < 65536) (hb : b < 65536) : bits .and .i64 (a : Int) (b : Int) = ((a &&& b : Nat) : Int) := by
  have hx : a &&& b < 2 ^ 16 := Nat.and_lt_two_pow _ (by omega)
  show IntKind.i64.wrap ((BitVec.ofInt 64 (a : Int) &&& BitVec.ofInt 64 (b : Int)).toNat : Int) = _
  rw [BitVec.toNat_and, ofInt64 a (by omega), ofInt64 b (by omega), IntKind.wrap_i64]
  omega
theorem delN_le (s i : Nat) : delN s i ≤ s := by
  unfold delN
  rw [BitVec.toNat_and]
  exact Nat.le_trans Nat.and_le_left (by rw [BitVec.toNat_ofNat]; exact Nat.mod_le _ _)
theorem andNot64 (a i : Nat) (ha : a < 65536) (hi : i ≤ 15) : bits .andNot .i64 (a : Int) ((2 ^ i : Nat) : Int) = (delN a i : Int) := by
  have hle := delN_le a i
  show IntKind.i64.wrap ((BitVec.ofInt 64 (a : Int) &&& ~~~(BitVec.ofInt 64 ((2 ^ i : Nat) : Int))).toNat : Int) = _
  rw [BitVec.ofInt_natCast, BitVec.ofInt_natCast]
  show IntKind.i64.wrap (delN a i : Int) = _
  rw [IntKind.wrap_i64]
  omega
theorem pow_cast (n : Nat) (h : n ≤ 15) : wrap64 ((2 : Int) ^ n) = ((2 ^ n : Nat) : Int) := by
  have h1 : ((2 ^ n : Nat) : Int) = (2 : Int) ^ n := by simp
  have h2 : 2 ^ n ≤ 2 ^ 15 := Nat.pow_le_pow_right (by omega) h
  rw [← h1]
  generalize 2 ^ n = m at *
  exact wrap64_small _ (by omega) (by omega)
theorem pow_lt (n : Nat) (h : n ≤ 15) : 2 ^ n < 65536 := by
  have h2 : 2 ^ n ≤ 2 ^ 15 := Nat.pow_le_pow_right (by omega) h
  omega
/-- The forms in which the walk leaves the four operations. -/
theorem walk_has (s i : Int) (h1 : 0 ≤ s) (h2 : s ≤ 65535) (h3 : 0 ≤ i) (h4 : i ≤ 15) : (bits .and .i64 (s / 2 ^ i.toNat) 1 == 1) = hasE s i := by
  obtain ⟨a, rfl⟩ := Int.eq_ofNat_of_zero_le h1
  obtain ⟨n, rfl⟩ := Int.eq_ofNat_of_zero_le h3
  have hq : ((a : Int) / 2 ^ ((n : Int).toNat)) = ((a / 2 ^ n : Nat) : Int) := by
    rw [Int.toNat_natCast]; simp
  have hl : a / 2 ^ n < 65536 := Nat.lt_of_le_of_lt (Nat.div_le_self _ _) (by omega)
  rw [hq, show (1 : Int) = ((1 : Nat) : Int) from rfl, and64 _ 1 hl (by omega)]
  simp only [hasE, inR_true h1 h2, inR_true h3 h4, Bool.true_and, Int.toNat_natCast]
  rw [Nat.testBit_eq_decide_div_mod_eq, Nat.and_one_is_mod, Bool.eq_iff_iff, beq_iff_eq, decide_eq_true_eq]
  generalize a / 2 ^ n = m
  omega
theorem walk_add (s i : Int) (h1 : 0 ≤ s) (h2 : s ≤ 65535) (h3 : 0 ≤ i) (h4 : i ≤ 15) : bits .or .i64 s (wrap64 (2 ^ i.toNat)) = addE s i := by
  obtain ⟨a, rfl⟩ := Int.eq_ofNat_of_zero_le h1
  obtain ⟨n, rfl⟩ := Int.eq_ofNat_of_zero_le h3
  simp only [addE, inR_true h1 h2, inR_true h3 h4, Bool.and_self, if_true, Int.toNat_natCast]
  rw [pow_cast n (by omega), or64 a _ (by omega) (pow_lt n (by omega))]
theorem walk_del (s i : Int) (h1 : 0 ≤ s) (h2 : s ≤ 65535) (h3 : 0 ≤ i) (h4 : i ≤ 15) : bits .andNot .i64 s (wrap64 (2 ^ i.toNat)) = delE s i := by
  obtain ⟨a, rfl⟩ := Int.eq_ofNat_of_zero_le h1
  obtain ⟨n, rfl⟩ := Int.eq_ofNat_of_zero_le h3
  simp only [delE, inR_true h1 h2, inR_true h3 h4, Bool.and_self, if_true, Int.toNat_natCast]
  rw [pow_cast n (by omega), andNot64 a n (by omega) (by omega)]
theorem walk_uni (a b : Int) (h1 : 0 ≤ a) (h2 : a ≤ 65535) (h3 : 0 ≤ b) (h4 : b ≤ 65535) : bits .or .i64 a b = uniE a b := by
  obtain ⟨x, rfl⟩ := Int.eq_ofNat_of_zero_le h1
  obtain ⟨y, rfl⟩ := Int.eq_ofNat_of_zero_le h3
  simp only [uniE, inR_true h1 h2, inR_true h3 h4, Bool.and_self, if_true, Int.toNat_natCast]
  rw [or64 x y (by omega) (by omega)]
theorem walk_int (a b : Int) (h1 : 0 ≤ a) (h2 : a ≤ 65535) (h3 : 0 ≤ b) (h4 : b ≤ 65535) : bits .and .i64 a b = intE a b := by
  obtain ⟨x, rfl⟩ := Int.eq_ofNat_of_zero_le h1
  obtain ⟨y, rfl⟩ := Int.eq_ofNat_of_zero_le h3
  simp only [intE, inR_true h1 h2, inR_true h3 h4, Bool.and_self, if_true, Int.toNat_natCast]
  rw [and64 x y (by omega) (by omega)]
theorem elemsTo_succ (s : Int) (k : Nat) : elemsTo s (k + 1) = elemsTo s k ++ (if hasE s k then [(k : Int)] else []) := by
  unfold elemsTo
  rw [List.range_succ, List.map_append, List.filter_append]
  congr 1
  simp only [List.map_cons, List.map_nil, List.filter_cons, List.filter_nil]
  rfl
theorem elemsTo_len (s : Int) (k : Nat) : (elemsTo s k).length ≤ k := by
  unfold elemsTo
  exact Nat.le_trans (List.length_filter_le _ _) (by simp)
end Go.Proofs.Ytehfcejpoigclaa
