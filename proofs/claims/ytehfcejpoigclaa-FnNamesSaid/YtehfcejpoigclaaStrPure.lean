/- Digits of integers, in plain Lean. -/
import Derived.WalkKit
import Derived.Laws.BytesArg
namespace Go.Proofs.Ytehfcejpoigclaa
open Go.RowKit
set_option linter.unusedVariables false

def digsF : Nat → Nat → List Int
  | 0, _ => []
  | f + 1, m => if m < 10 then [48 + (m : Int)] else digsF f (m / 10) ++ [48 + ((m % 10 : Nat) : Int)]
def digs (m : Nat) : List Int := digsF 20 m
def fmtI (n : Int) : List Int := if n < 0 then 45 :: digs n.natAbs else digs n.natAbs

theorem digsF_more (f m : Nat) (h : m < 10 ^ (f + 1)) : digsF (f + 1) m = digsF (f + 2) m := by
  induction f generalizing m with
  | zero =>
    have : m < 10 := by simpa using h
    simp [digsF, this]
  | succ f ih =>
    show (if m < 10 then [48 + (m : Int)] else digsF (f + 1) (m / 10) ++ [48 + ((m % 10 : Nat) : Int)]) = (if m < 10 then [48 + (m : Int)] else digsF (f + 2) (m / 10) ++ [48 + ((m % 10 : Nat) : Int)])
    rw [ih (m / 10) (by rw [Nat.pow_succ] at h; omega)]
theorem digs_small {m : Nat} (h : m < 10) : digs m = [48 + (m : Int)] := by
  unfold digs
  rw [digsF, if_pos h]
theorem digs_big {m : Nat} (h : 10 ≤ m) (hm : m < 100000000000000000000) : digs m = digs (m / 10) ++ [48 + ((m % 10 : Nat) : Int)] := by
  unfold digs
  rw [digsF, if_neg (by omega)]
  rw [digsF_more 18 (m / 10) (by have : (10 : Nat) ^ 19 = 10000000000000000000 := rfl; omega)]
theorem digsF_len (f m : Nat) : (digsF f m).length ≤ f := by
  induction f generalizing m with
  | zero => simp [digsF]
  | succ f ih =>
    rw [digsF]
    split
    · simp
    · have := ih (m / 10)
      simp
      omega
theorem digs_len (m : Nat) : (digs m).length ≤ 20 := digsF_len 20 m
theorem digsF_range (f m : Nat) : ∀ x ∈ digsF f m, 48 ≤ x ∧ x ≤ 57 := by
  induction f generalizing m with
  | zero => simp [digsF]
  | succ f ih =>
    rw [digsF]
    split
    · intro x hx
      simp at hx
      omega
    · intro x hx
      rw [List.mem_append] at hx
      rcases hx with hx | hx
      · exact ih _ x hx
      · simp at hx
        omega
theorem digs_range (m : Nat) : ∀ x ∈ digs m, 48 ≤ x ∧ x ≤ 57 := digsF_range 20 m
theorem fmtI_len (n : Int) : (fmtI n).length ≤ 21 := by
  have := digs_len n.natAbs
  unfold fmtI
  split <;> simp <;> omega
theorem fmtI_range (n : Int) : ∀ x ∈ fmtI n, 45 ≤ x ∧ x ≤ 57 := by
  have h := digs_range n.natAbs
  unfold fmtI
  split
  · intro x hx
    rw [List.mem_cons] at hx
    rcases hx with rfl | hx
    · omega
    · have := h x hx
      omega
  · intro x hx
    have := h x hx
    omega
theorem tdiv_abs (x : Int) : (x.tdiv 10).natAbs = x.natAbs / 10 := by rw [Int.natAbs_tdiv]; rfl
/-- One round of the loops that write digits: what is still to be written, ahead of what has been written. -/
theorem digs_step {x : Int} {acc : List Int} (h1 : -9223372036854775808 ≤ x) (h2 : x ≤ 9223372036854775807) (hx : 10 ≤ x.natAbs) : digs x.natAbs ++ acc = digs (x.tdiv 10).natAbs ++ ((48 + ((x.natAbs % 10 : Nat) : Int)) :: acc) := by
  rw [digs_big hx (by omega), tdiv_abs]
  simp
def pre (x : Int) : List Int := if x = 0 then [] else digs x.natAbs
theorem pre_step {x : Int} {acc : List Int} (h1 : -9223372036854775808 ≤ x) (h2 : x ≤ 9223372036854775807) (hx : ¬ x = 0) : pre x ++ acc = pre (x.tdiv 10) ++ ((48 + ((x.natAbs % 10 : Nat) : Int)) :: acc) := by
  have ht := tdiv_abs x
  rw [pre, if_neg hx, pre]
  by_cases h : x.natAbs < 10
  · rw [if_pos (by omega), digs_small h, Nat.mod_eq_of_lt h]
    rfl
  · rw [if_neg (by omega)]
    exact digs_step h1 h2 (by omega)
theorem tmod_abs (x : Int) : (x.tmod 10).natAbs = x.natAbs % 10 := by rw [Int.natAbs_tmod]; rfl
theorem neg_signs {x : Int} (h : x ≤ 0) : x.tmod 10 ≤ 0 ∧ x.tdiv 10 ≤ 0 := by
  obtain ⟨n, rfl⟩ : ∃ n : Nat, x = -(n : Int) := ⟨x.natAbs, by omega⟩
  rw [Int.neg_tmod, Int.neg_tdiv]
  have h1 := Int.tmod_nonneg 10 (show (0 : Int) ≤ (n : Int) by omega)
  have h2 : 0 ≤ (n : Int).tdiv 10 := Int.tdiv_nonneg (by omega) (by omega)
  omega
theorem strOf_append (a b : List Int) : strOfNums a ++ strOfNums b = strOfNums (a ++ b) := by
  apply ByteArray.ext
  simp [strOfNums, ByteArray.data_append]

def val (l : List Int) : Int := l.foldl (fun n c => 10 * n + (c - 48)) 0
def isDig (c : Int) : Bool := decide (48 ≤ c) && decide (c ≤ 57)
def parseB (l : List Int) : Bool := decide (1 ≤ l.length) && decide (l.length ≤ 13) && l.all isDig && decide (val l ≤ 1000000000000) && decide (fmtI (val l) = l)
def parseV (l : List Int) : Int := if parseB l then val l else 0
def bl (s : ByteArray) : List Int := s.data.toList.map fun b => (b.toNat : Int)
theorem bl_len (s : ByteArray) : (bl s).length = s.size := by
  unfold bl
  rw [List.length_map]
  rfl
theorem bl_get (s : ByteArray) (k : Nat) (h : k < s.size) : (bl s)[k]? = some (s[k].toNat : Int) := by
  unfold bl
  rw [List.getElem?_map, List.getElem?_eq_getElem (by simpa using h)]
  rfl
theorem strOf_bl (s : ByteArray) : strOfNums (bl s) = s := by
  apply ByteArray.ext
  unfold strOfNums bl
  rw [List.map_map]
  have h : ∀ l : List UInt8, l.map ((fun n : Int => UInt8.ofNat n.toNat) ∘ fun b : UInt8 => (b.toNat : Int)) = l := by
    intro l
    induction l with
    | nil => rfl
    | cons b l ih => rw [List.map_cons, ih]; simp
  rw [h]
theorem bl_strOf (l : List Int) (h : ∀ x ∈ l, 0 ≤ x ∧ x ≤ 255) : bl (strOfNums l) = l := by
  unfold bl strOfNums
  simp only [List.map_map]
  conv => rhs; rw [← List.map_id l]
  apply List.map_congr_left
  intro x hx
  have := h x hx
  simp only [Function.comp_apply, UInt8.toNat_ofNat', id_eq]
  omega
theorem bl_inj {s t : ByteArray} (h : bl s = bl t) : s = t := by rw [← strOf_bl s, ← strOf_bl t, h]
theorem bl_range (s : ByteArray) : ∀ x ∈ bl s, 0 ≤ x ∧ x ≤ 255 := by
  intro x hx
  obtain ⟨b, _, rfl⟩ := List.mem_map.1 hx
  have := b.toNat_lt
  omega
theorem val_snoc (l : List Int) (c : Int) : val (l ++ [c]) = 10 * val l + (c - 48) := by simp [val]
theorem val_bound (l : List Int) (h : l.all isDig = true) : 0 ≤ val l ∧ val l < 10 ^ l.length := by
  induction hn : l.length generalizing l with
  | zero =>
    have : l = [] := List.eq_nil_of_length_eq_zero hn
    subst this
    simp [val]
  | succ n ih =>
    rcases List.eq_nil_or_concat l with rfl | ⟨l', c, rfl⟩
    · simp at hn
    · rw [List.concat_eq_append] at h hn ⊢
      rw [List.all_append] at h
      simp only [Bool.and_eq_true, List.all_cons, List.all_nil, Bool.and_true] at h
      obtain ⟨h1, h2⟩ := h
      have := ih l' h1 (by simpa using hn)
      rw [val_snoc]
      simp only [isDig, Bool.and_eq_true, decide_eq_true_eq] at h2
      have hp : (10 : Int) ^ (n + 1) = 10 * 10 ^ n := by rw [Int.pow_succ]; omega
      omega
theorem val_small (l : List Int) (h : l.all isDig = true) (hl : l.length ≤ 13) : 0 ≤ val l ∧ val l ≤ 10000000000000 := by
  have := val_bound l h
  have h2 : (10 : Nat) ^ l.length ≤ 10 ^ 13 := Nat.pow_le_pow_right (by omega) hl
  have h4 : (((10 : Nat) ^ l.length : Nat) : Int) = (10 : Int) ^ l.length := by simp
  have h3 : (10 : Nat) ^ 13 = 10000000000000 := rfl
  rw [← h4] at this
  omega
theorem take_snoc {l : List Int} {k : Nat} {x : Int} (h : l[k]? = some x) : l.take (k + 1) = l.take k ++ [x] := by rw [List.take_add_one, h]; rfl
end Go.Proofs.Ytehfcejpoigclaa
