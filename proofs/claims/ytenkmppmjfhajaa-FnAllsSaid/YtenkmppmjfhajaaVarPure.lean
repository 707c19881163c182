/- Variable-length encodings of integers, in plain Lean. -/
import Derived.WalkKit
import Derived.Laws.BitsAllLaws
import Derived.Laws.BitsLemmas
namespace Go.Proofs.Ytenkmppmjfhajaa
open Go.RowKit
set_option linter.unusedVariables false

def okV (n : Int) : Bool := decide (0 ≤ n ∧ n ≤ 1000000000000)
def encF : Nat → Int → List Int
  | 0, _ => []
  | f + 1, n => if n < 128 then [n] else (n % 128 + 128) :: encF f (n / 128)
def enc (n : Int) : List Int := encF 7 n
def appV (b : List Int) (n : Int) : List Int := if okV n then b ++ enc n else b
def appL (b : List Int) (l : List Int) : List Int := l.foldl appV b
def Bys (l : List Int) : Prop := ∀ x ∈ l, 0 ≤ x ∧ x ≤ 255

theorem encF_more (f : Nat) (n : Int) (h0 : 0 ≤ n) (h : n < 128 ^ (f + 1)) : encF (f + 1) n = encF (f + 2) n := by
  induction f generalizing n with
  | zero =>
    have : n < 128 := by simpa using h
    simp [encF, this]
  | succ f ih =>
    show (if n < 128 then [n] else (n % 128 + 128) :: encF (f + 1) (n / 128)) = (if n < 128 then [n] else (n % 128 + 128) :: encF (f + 2) (n / 128))
    rw [ih (n / 128) (by omega) (by rw [Int.pow_succ] at h; omega)]
theorem enc_small {n : Int} (h : n < 128) : enc n = [n] := by
  unfold enc
  rw [encF, if_pos h]
theorem enc_big {n : Int} (h : 128 ≤ n) (h2 : n ≤ 1000000000000) : enc n = (n % 128 + 128) :: enc (n / 128) := by
  unfold enc
  rw [encF, if_neg (by omega), encF_more 5 (n / 128) (by omega) (by have : (128 : Int) ^ 6 = 4398046511104 := by decide
                                                                    omega)]
theorem encF_len (f : Nat) (n : Int) : (encF f n).length ≤ f := by
  induction f generalizing n with
  | zero => simp [encF]
  | succ f ih =>
    rw [encF]
    split
    · simp
    · have := ih (n / 128)
      simp
      omega
theorem enc_len (n : Int) : (enc n).length ≤ 7 := encF_len 7 n
theorem encF_bys (f : Nat) (n : Int) (h : 0 ≤ n) : Bys (encF f n) := by
  induction f generalizing n with
  | zero => intro x hx; simp [encF] at hx
  | succ f ih =>
    rw [encF]
    split
    · intro x hx
      simp at hx
      omega
    · intro x hx
      rw [List.mem_cons] at hx
      rcases hx with rfl | hx
      · omega
      · exact ih (n / 128) (by omega) x hx
theorem enc_bys {n : Int} (h : 0 ≤ n) : Bys (enc n) := encF_bys 7 n h
theorem Bys.append {a b : List Int} (ha : Bys a) (hb : Bys b) : Bys (a ++ b) := by
  intro x hx
  rcases List.mem_append.1 hx with h | h
  · exact ha x h
  · exact hb x h
theorem appV_in {b : List Int} {n : Int} (h1 : 0 ≤ n) (h2 : n ≤ 1000000000000) : appV b n = b ++ enc n := by simp [appV, okV, h1, h2]
theorem appV_out {b : List Int} {n : Int} (h : ¬ (0 ≤ n ∧ n ≤ 1000000000000)) : appV b n = b := by simp [appV, okV, h]
theorem appV_len (b : List Int) (n : Int) : (appV b n).length ≤ b.length + 7 := by
  have := enc_len n
  unfold appV
  split
  · rw [List.length_append]; omega
  · omega
theorem appV_bys {b : List Int} {n : Int} (h : Bys b) : Bys (appV b n) := by
  unfold appV
  split
  · rename_i hn
    exact h.append (enc_bys (by simp [okV] at hn; omega))
  · exact h
theorem appL_len (b l : List Int) : (appL b l).length ≤ b.length + 7 * l.length := by
  induction l generalizing b with
  | nil => simp [appL]
  | cons x l ih =>
    have h1 := ih (appV b x)
    have h2 := appV_len b x
    simp only [appL, List.foldl_cons, List.length_cons] at h1 ⊢
    omega
theorem appL_succ {b l : List Int} {k : Nat} {x : Int} (h : l[k]? = some x) : appV (appL b (l.take k)) x = appL b (l.take (k + 1)) := by
  unfold appL
  rw [List.take_add_one, h, List.foldl_append]
  rfl

/-- Reading: fuel, the number of bytes read, the value so far, the bytes that are left. -/
def rdGo : Nat → Nat → Int → List Int → Option (Int × Nat)
  | 0, _, _, _ => none
  | _ + 1, _, _, [] => none
  | f + 1, k, n, x :: l =>
    if x < 128 then (if (x = 0 ∧ 0 < k) ∨ 1000000000000 < n + x % 128 * 2 ^ (7 * k) then none else some (n + x % 128 * 2 ^ (7 * k), k + 1))
    else rdGo f (k + 1) (n + x % 128 * 2 ^ (7 * k)) l
def rdV (b : List Int) (at_ : Int) : Option (Int × Nat) := if at_ < 0 then none else rdGo 6 0 0 (b.drop at_.toNat)
def rN (r : Option (Int × Nat)) : Int := match r with | some p => p.1 | none => 0
def rA (at_ : Int) (r : Option (Int × Nat)) : Int := match r with | some p => at_ + p.2 | none => 0
def rB (r : Option (Int × Nat)) : Bool := r.isSome
theorem rdGo_nil (f k : Nat) (n : Int) : rdGo f k n [] = none := by cases f <;> rfl
theorem rdGo_some {f k : Nat} {n : Int} {l : List Int} {v : Int} {c : Nat} (h : rdGo f k n l = some (v, c)) : v ≤ 1000000000000 ∧ k < c ∧ c ≤ k + l.length ∧ c ≤ k + f := by
  induction f generalizing k n l with
  | zero => simp [rdGo] at h
  | succ f ih =>
    cases l with
    | nil => simp [rdGo] at h
    | cons x l =>
      rw [rdGo] at h
      split at h
      · split at h
        · cases h
        · rename_i h1 h2
          simp only [Option.some.injEq, Prod.mk.injEq] at h
          simp only [List.length_cons]
          omega
      · have := ih h
        simp only [List.length_cons]
        omega
theorem rdGo_nonneg {f k : Nat} {n : Int} {l : List Int} {v : Int} {c : Nat} (hn : 0 ≤ n) (h : rdGo f k n l = some (v, c)) : 0 ≤ v := by
  induction f generalizing k n l with
  | zero => simp [rdGo] at h
  | succ f ih =>
    cases l with
    | nil => simp [rdGo] at h
    | cons x l =>
      have hp : 0 ≤ n + x % 128 * 2 ^ (7 * k) := by
        have h1 : (0 : Int) ≤ x % 128 := by omega
        have h2 : (0 : Int) ≤ 2 ^ (7 * k) := Int.le_of_lt (Int.pow_pos (by omega))
        have := Int.mul_nonneg h1 h2
        omega
      rw [rdGo] at h
      split at h
      · split at h
        · cases h
        · simp only [Option.some.injEq, Prod.mk.injEq] at h
          omega
      · exact ih hp h
theorem and127 (x : Int) (h0 : 0 ≤ x) (h1 : x ≤ 1000000000000) : bits .and .i64 x 127 = x % 128 := by
  obtain ⟨a, rfl⟩ := Int.eq_ofNat_of_zero_le h0
  have e : ∀ a : Nat, a < 9223372036854775808 → (BitVec.ofInt 64 (a : Int)).toNat = a := fun a ha => by
    rw [BitVec.ofInt_natCast, BitVec.toNat_ofNat]
    exact Nat.mod_eq_of_lt (by omega)
  show IntKind.i64.wrap ((BitVec.ofInt 64 (a : Int) &&& BitVec.ofInt 64 ((127 : Nat) : Int)).toNat : Int) = _
  rw [BitVec.toNat_and, e a (by omega), e 127 (by omega), nat_mask7, IntKind.wrap_i64]
  omega
theorem or_join (a b i : Nat) (ha : a < 2 ^ i) (hi : i ≤ 42) (hb : b < 2 ^ 20) : bits .or .i64 (a : Int) ((b * 2 ^ i : Nat) : Int) = ((a + b * 2 ^ i : Nat) : Int) := by
  have e : ∀ a : Nat, a < 9223372036854775808 → (BitVec.ofInt 64 (a : Int)).toNat = a := fun a ha => by
    rw [BitVec.ofInt_natCast, BitVec.toNat_ofNat]
    exact Nat.mod_eq_of_lt (by omega)
  have hp : 2 ^ i ≤ 2 ^ 42 := Nat.pow_le_pow_right (by omega) hi
  have hbp : b * 2 ^ i ≤ 2 ^ 20 * 2 ^ 42 := Nat.mul_le_mul (by omega) hp
  have hj := nat_join i (b * 2 ^ i) a (Nat.mul_mod_left _ _) ha
  show IntKind.i64.wrap ((BitVec.ofInt 64 (a : Int) ||| BitVec.ofInt 64 ((b * 2 ^ i : Nat) : Int)).toNat : Int) = _
  rw [BitVec.toNat_or, e a (by omega), e _ (by omega), Nat.or_comm, hj, IntKind.wrap_i64]
  generalize b * 2 ^ i = m at *
  omega
theorem or128 (x : Int) (h0 : 0 ≤ x) (h1 : x ≤ 1000000000000) : bits .or .i64 (x % 128) 128 = x % 128 + 128 := by
  obtain ⟨a, rfl⟩ := Int.eq_ofNat_of_zero_le h0
  have h := or_join (a % 128) 1 7 (by omega) (by omega) (by omega)
  have e1 : (((a % 128 : Nat)) : Int) = (a : Int) % 128 := by omega
  rw [e1] at h
  exact h.trans (by omega)
theorem or_lit (n y : Int) (i : Nat) (h0 : 0 ≤ n) (hn : n < 2 ^ i) (h1 : 0 ≤ y) (h2 : y < 128) (hi : i ≤ 42) : bits .or .i64 n (y * 2 ^ i) = n + y * 2 ^ i := by
  obtain ⟨a, rfl⟩ := Int.eq_ofNat_of_zero_le h0
  obtain ⟨b, rfl⟩ := Int.eq_ofNat_of_zero_le h1
  have e : (((2 : Nat) ^ i : Nat) : Int) = (2 : Int) ^ i := by simp
  have hn' : a < 2 ^ i := by rw [← e] at hn; omega
  have h := or_join a b i hn' hi (by omega)
  rw [← e, ← Int.natCast_mul, h]
  simp
theorem drop_at {l : List Int} {k : Nat} {x : Int} (h : l[k]? = some x) : l.drop k = x :: l.drop (k + 1) := by
  obtain ⟨hk, rfl⟩ := List.getElem?_eq_some_iff.1 h
  exact List.drop_eq_getElem_cons hk
theorem rd_end {r : Option (Int × Nat)} {f k m : Nat} {n : Int} {l : List Int} (h : r = rdGo f k n (l.drop m)) (hm : l.length ≤ m) : r = none := by rw [h, List.drop_eq_nil_of_le hm, rdGo_nil]
theorem rd_stop {r : Option (Int × Nat)} {f k m : Nat} {n x P : Int} {l : List Int} (h : r = rdGo (f + 1) k n (l.drop m)) (hx : l[m]? = some x) (h1 : x < 128) (hP : (2 : Int) ^ (7 * k) = P) (h2 : (x = 0 ∧ 0 < k) ∨ 1000000000000 < n + x % 128 * P) : r = none := by
  rw [h, drop_at hx, rdGo, hP, if_pos h1, if_pos h2]
theorem rd_good {r : Option (Int × Nat)} {f k m : Nat} {n x P : Int} {l : List Int} (h : r = rdGo (f + 1) k n (l.drop m)) (hx : l[m]? = some x) (h1 : x < 128) (hP : (2 : Int) ^ (7 * k) = P) (h2 : ¬ ((x = 0 ∧ 0 < k) ∨ 1000000000000 < n + x % 128 * P)) : r = some (n + x % 128 * P, k + 1) := by
  rw [h, drop_at hx, rdGo, hP, if_pos h1, if_neg h2]
theorem rd_more {r : Option (Int × Nat)} {f k m : Nat} {n x P : Int} {l : List Int} (h : r = rdGo (f + 1) k n (l.drop m)) (hx : l[m]? = some x) (h1 : ¬ x < 128) (hP : (2 : Int) ^ (7 * k) = P) : r = rdGo f (k + 1) (n + x % 128 * P) (l.drop (m + 1)) := by
  rw [h, drop_at hx, rdGo, hP, if_neg h1]
theorem enc_step {b acc : List Int} {n x : Int} (h : b ++ enc n = acc ++ enc x) (h1 : 128 ≤ x) (h2 : x ≤ 1000000000000) : b ++ enc n = (acc ++ [x % 128 + 128]) ++ enc (x / 128) := by
  rw [h, enc_big h1 h2]
  simp
theorem enc_last {b acc : List Int} {n x : Int} (h : b ++ enc n = acc ++ enc x) (h0 : 0 ≤ n) (h9 : n ≤ 1000000000000) (h1 : x < 128) : appV b n = acc ++ [x] := by
  rw [appV_in h0 h9, h, enc_small h1]
def appB (b s : List Int) : List Int := appV b (s.length : Int) ++ s
def rdBs (bs : List Int) (a most : Int) : Option (List Int × Int) :=
  match rdV bs a with
  | none => none
  | some (v, c) => if most < v ∨ (bs.length : Int) - (a + c) < v then none else some ((bs.drop (a + c).toNat).take v.toNat, a + c + v)
def lL (r : Option (List Int × Int)) : List Int := match r with | some p => p.1 | none => []
def lQ (r : Option (List Int × Int)) : Int := match r with | some p => p.2 | none => 0
def lB (r : Option (List Int × Int)) : Bool := r.isSome
def decL : Nat → List Int → Int → Option (List Int × Int)
  | 0, _, a => some ([], a)
  | k + 1, bs, a => match rdV bs a with
    | none => none
    | some (v, c) => (decL k bs (a + c)).map fun p => (v :: p.1, p.2)
def decI (bs : List Int) (a n : Int) : Option (List Int × Int) := if (0 ≤ n ∧ n ≤ 100) ∧ (0 ≤ a ∧ a ≤ (bs.length : Int)) then decL n.toNat bs a else none
theorem rdV_some {bs : List Int} {a v : Int} {c : Nat} (h : rdV bs a = some (v, c)) : 0 ≤ a ∧ 0 ≤ v ∧ v ≤ 1000000000000 ∧ 0 < c ∧ a + c ≤ (bs.length : Int) ∧ c ≤ 6 := by
  unfold rdV at h
  split at h
  · cases h
  · have h1 := rdGo_some h
    have h2 := rdGo_nonneg (by omega) h
    rw [List.length_drop] at h1
    omega
theorem dec_end {r : Option (List Int × Int)} {bs acc : List Int} {a : Int} {k : Nat} (h : r = (decL k bs a).map fun p => (acc ++ p.1, p.2)) (hk : k = 0) : r = some (acc, a) := by
  subst hk
  rw [h, decL]
  simp
theorem dec_none {r : Option (List Int × Int)} {bs acc : List Int} {a : Int} {k : Nat} (h : r = (decL (k + 1) bs a).map fun p => (acc ++ p.1, p.2)) (hr : rdV bs a = none) : r = none := by
  rw [h, decL, hr]
  rfl
theorem dec_step {r : Option (List Int × Int)} {bs acc : List Int} {a v : Int} {c k : Nat} (h : r = (decL (k + 1) bs a).map fun p => (acc ++ p.1, p.2)) (hr : rdV bs a = some (v, c)) : r = (decL k bs (a + c)).map fun p => ((acc ++ [v]) ++ p.1, p.2) := by
  rw [h, decL, hr]
  simp only [Option.map_map]
  congr 1
  funext p
  simp
theorem rdBs_len (bs : List Int) (a most : Int) : (lL (rdBs bs a most)).length ≤ bs.length := by
  unfold rdBs
  split
  · simp [lL]
  · split
    · simp [lL]
    · simp only [lL, List.length_take, List.length_drop]
      omega
theorem decL_len (n : Nat) (bs : List Int) (a : Int) : (lL (decL n bs a)).length ≤ n := by
  induction n generalizing a with
  | zero => simp [decL, lL]
  | succ n ih =>
    rw [decL]
    split
    · simp [lL]
    · rename_i v c hr
      have h := ih (a + c)
      cases hd : decL n bs (a + c) with
      | none => simp [lL]
      | some p =>
        rw [hd] at h
        simp only [lL, Option.map_some, List.length_cons] at h ⊢
        omega
theorem decI_len (bs : List Int) (a n : Int) : (lL (decI bs a n)).length ≤ 100 := by
  unfold decI
  split
  · rename_i h
    have := decL_len n.toNat bs a
    omega
  · simp [lL]
end Go.Proofs.Ytenkmppmjfhajaa
