/- What was encoded is read back, in plain Lean. -/
import Derived.Test.YtenkmppmjfhajaaVarPure
namespace Go.Proofs.Ytenkmppmjfhajaa
open Go.RowKit
set_option linter.unusedVariables false

theorem pow7 (k : Nat) : (2 : Int) ^ (7 * (k + 1)) = 128 * 2 ^ (7 * k) := by
  rw [show 7 * (k + 1) = 7 * k + 7 by omega, Int.pow_add, Int.mul_comm]
  rfl
theorem pow7_pos (k : Nat) : (0 : Int) < 2 ^ (7 * k) := by
  have : ((2 ^ (7 * k) : Nat) : Int) = (2 : Int) ^ (7 * k) := by simp
  rw [← this]
  have h : 0 < 2 ^ (7 * k) := Nat.pow_pos (by omega)
  omega
/-- What was encoded is read back. -/
theorem rdGo_enc (f k : Nat) (acc x : Int) (t : List Int) (h0 : 0 ≤ acc) (hx : 0 ≤ x) (hf : x < 128 ^ (f + 1)) (hk : 0 < x ∨ k = 0) (hm : acc + x * 2 ^ (7 * k) ≤ 1000000000000) :
    rdGo (f + 1) k acc (enc x ++ t) = some (acc + x * 2 ^ (7 * k), k + (enc x).length) := by
  induction f generalizing k acc x with
  | zero =>
    have h1 : x < 128 := by simpa using hf
    rw [enc_small h1]
    have e : x % 128 = x := Int.emod_eq_of_lt hx h1
    show (if x < 128 then _ else _) = _
    rw [if_pos h1, e, if_neg (by omega)]
    rfl
  | succ f ih =>
    have hP := pow7_pos k
    by_cases h1 : x < 128
    · rw [enc_small h1]
      have e : x % 128 = x := Int.emod_eq_of_lt hx h1
      show (if x < 128 then _ else _) = _
      rw [if_pos h1, e, if_neg (by omega)]
      rfl
    · have hxm : x * 1 ≤ x * 2 ^ (7 * k) := Int.mul_le_mul_of_nonneg_left (by omega) hx
      have e2 : acc + x % 128 * 2 ^ (7 * k) + x / 128 * 2 ^ (7 * (k + 1)) = acc + x * 2 ^ (7 * k) := by
        rw [pow7, ← Int.mul_assoc, Int.add_assoc, ← Int.add_mul]
        congr 2
        omega
      rw [enc_big (by omega) (by omega)]
      have e3 : (x % 128 + 128) % 128 = x % 128 := by omega
      show (if x % 128 + 128 < 128 then _ else rdGo (f + 1) (k + 1) (acc + (x % 128 + 128) % 128 * 2 ^ (7 * k)) (enc (x / 128) ++ t)) = _
      rw [if_neg (by omega), e3]
      have hq : (0 : Int) ≤ x % 128 * 2 ^ (7 * k) := Int.mul_nonneg (by omega) (by omega)
      have hp : (128 : Int) ^ (f + 1 + 1) = 128 * 128 ^ (f + 1) := by rw [Int.pow_succ]; omega
      rw [ih (k + 1) _ (x / 128) (by omega) (by omega) (by omega) (by left; omega) (by omega), e2]
      simp only [List.length_cons]
      congr 2
      omega
theorem rdV_enc {b t : List Int} {n : Int} (h0 : 0 ≤ n) (h1 : n ≤ 1000000000000) : rdV (b ++ enc n ++ t) (b.length : Int) = some (n, (enc n).length) := by
  have hp : (128 : Int) ^ (5 + 1) = 4398046511104 := by decide
  unfold rdV
  rw [if_neg (by omega), Int.toNat_natCast, List.append_assoc, List.drop_left, rdGo_enc 5 0 0 n t (by omega) h0 (by omega) (Or.inr rfl) (by simp; omega)]
  simp
/-- What can be read was encoded so. -/
theorem rdGo_back {f k : Nat} {acc v : Int} {l : List Int} {c : Nat} (hb : Bys l) (h0 : 0 ≤ acc) (h : rdGo f k acc l = some (v, c)) :
    ∃ x : Int, 0 ≤ x ∧ (0 < x ∨ k = 0) ∧ v = acc + x * 2 ^ (7 * k) ∧ enc x = l.take (c - k) ∧ k < c := by
  induction f generalizing k acc l with
  | zero => cases h
  | succ f ih =>
    have hP := pow7_pos k
    cases l with
    | nil => cases h
    | cons y l =>
      have hy := hb y (by simp)
      have h' : (if y < 128 then (if (y = 0 ∧ 0 < k) ∨ 1000000000000 < acc + y % 128 * 2 ^ (7 * k) then none else some (acc + y % 128 * 2 ^ (7 * k), k + 1)) else rdGo f (k + 1) (acc + y % 128 * 2 ^ (7 * k)) l) = some (v, c) := h
      by_cases h1 : y < 128
      · rw [if_pos h1] at h'
        split at h'
        · cases h'
        · rename_i hn
          injection h' with h'
          injection h' with e1 e2
          have e : y % 128 = y := Int.emod_eq_of_lt hy.1 h1
          refine ⟨y, hy.1, by omega, by rw [← e1, e], ?_, by omega⟩
          rw [enc_small h1, ← e2, Nat.add_sub_cancel_left]
          rfl
      · rw [if_neg h1] at h'
        have hv := (rdGo_some h').1
        have hq : (0 : Int) ≤ y % 128 * 2 ^ (7 * k) := Int.mul_nonneg (by omega) (by omega)
        obtain ⟨z, z0, z1, z2, z3, z4⟩ := ih (fun x hx => hb x (by simp [hx])) (by omega) h'
        have z1' : 0 < z := by omega
        have e2 : v = acc + (y % 128 + 128 * z) * 2 ^ (7 * k) := by
          rw [z2, pow7, Int.add_mul, Int.add_assoc]
          congr 2
          rw [← Int.mul_assoc, Int.mul_comm z 128]
        have hxm : (y % 128 + 128 * z) * 1 ≤ (y % 128 + 128 * z) * 2 ^ (7 * k) := Int.mul_le_mul_of_nonneg_left (by omega) (by omega)
        refine ⟨y % 128 + 128 * z, by omega, by left; omega, e2, ?_, by omega⟩
        rw [enc_big (by omega) (by omega), show (y % 128 + 128 * z) / 128 = z by omega, z3, show c - k = (c - (k + 1)) + 1 by omega, List.take_succ_cons]
        congr 1
        omega
theorem rdV_back {b : List Int} {a v : Int} {c : Nat} (hb : Bys b) (h : rdV b a = some (v, c)) : appV (b.take a.toNat) v = b.take (a + c).toNat := by
  have hs := rdV_some h
  rw [appV_in hs.2.1 hs.2.2.1]
  unfold rdV at h
  rw [if_neg (by omega)] at h
  obtain ⟨x, x0, _, e, e2, _⟩ := rdGo_back (fun x hx => hb x (List.mem_of_mem_drop hx)) (by omega) h
  have ex : v = x := by rw [e]; simp
  rw [ex, e2, show (a + (c : Int)).toNat = a.toNat + c by omega, List.take_add]
  rfl
theorem rdBs_app {e f : List Int} (hf : f.length ≤ 1000) : rdBs (appB e f) (e.length : Int) (f.length : Int) = some (f, ((appB e f).length : Int)) := by
  unfold rdBs appB
  rw [appV_in (by omega) (by omega), rdV_enc (by omega) (by omega)]
  have h1 : ¬ ((f.length : Int) < (f.length : Int) ∨ ((e ++ enc (f.length : Int) ++ f).length : Int) - ((e.length : Int) + ((enc (f.length : Int)).length : Int)) < (f.length : Int)) := by
    simp only [List.length_append]
    omega
  simp only [h1, if_false]
  refine congrArg some ?_
  rw [show ((e.length : Int) + ((enc (f.length : Int)).length : Int)).toNat = (e ++ enc (f.length : Int)).length by rw [List.length_append]; omega, List.drop_left]
  refine Prod.ext ?_ ?_
  · simp
  · simp only [List.length_append]
    omega
theorem appB_bys {e f : List Int} (he : Bys e) (hf : Bys f) : Bys (appB e f) := Bys.append (appV_bys he) hf
theorem appL_cons_in {b l : List Int} {x : Int} (h0 : 0 ≤ x) (h1 : x ≤ 1000000000000) : appL b (x :: l) = appL (b ++ enc x) l := by
  unfold appL
  rw [List.foldl_cons, appV_in h0 h1]
theorem appL_split {l : List Int} (h : ∀ x ∈ l, 0 ≤ x ∧ x ≤ 1000000000000) (b : List Int) : appL b l = b ++ l.flatMap enc := by
  induction l generalizing b with
  | nil => simp [appL]
  | cons x l ih =>
    have hx := h x (by simp)
    rw [appL_cons_in hx.1 hx.2, ih (fun y hy => h y (by simp [hy])), List.flatMap_cons, List.append_assoc]
theorem decL_enc {l : List Int} (h : ∀ x ∈ l, 0 ≤ x ∧ x ≤ 1000000000000) (b : List Int) : decL l.length (b ++ l.flatMap enc) (b.length : Int) = some (l, ((b ++ l.flatMap enc).length : Int)) := by
  induction l generalizing b with
  | nil => simp [decL]
  | cons x l ih =>
    have hx := h x (by simp)
    have hi := ih (fun y hy => h y (by simp [hy])) (b ++ enc x)
    rw [List.flatMap_cons, ← List.append_assoc]
    show (match rdV (b ++ enc x ++ l.flatMap enc) (b.length : Int) with | none => none | some (v, c) => (decL l.length (b ++ enc x ++ l.flatMap enc) ((b.length : Int) + c)).map fun p : List Int × Int => (v :: p.1, p.2)) = _
    rw [rdV_enc hx.1 hx.2]
    simp only []
    rw [show ((b.length : Int) + ((enc x).length : Int)) = ((b ++ enc x).length : Int) by rw [List.length_append]; omega, hi]
    rfl
theorem decI_enc {l : List Int} (h : ∀ x ∈ l, 0 ≤ x ∧ x ≤ 1000000000000) (hl : l.length ≤ 100) : decI (appL [] l) 0 (l.length : Int) = some (l, ((appL [] l).length : Int)) := by
  unfold decI
  rw [if_pos (by omega), appL_split h []]
  have := decL_enc h []
  simpa using this
theorem decL_count {k : Nat} {bs : List Int} {a : Int} {p : List Int × Int} (h : decL k bs a = some p) : p.1.length = k := by
  induction k generalizing a p with
  | zero =>
    injection h with h
    subst h
    rfl
  | succ k ih =>
    have h' : (match rdV bs a with | none => none | some (v, c) => (decL k bs (a + c)).map fun p : List Int × Int => (v :: p.1, p.2)) = some p := h
    cases hr : rdV bs a with
    | none => rw [hr] at h'; cases h'
    | some q =>
      obtain ⟨v, c⟩ := q
      rw [hr] at h'
      simp only [] at h'
      cases hd : decL k bs (a + c) with
      | none => rw [hd] at h'; cases h'
      | some r =>
        rw [hd] at h'
        injection h' with h'
        subst h'
        simp [ih hd]
theorem decI_count {bs : List Int} {a n : Int} {p : List Int × Int} (h : decI bs a n = some p) : (p.1.length : Int) = n := by
  unfold decI at h
  split at h
  · have := decL_count h
    omega
  · cases h
theorem appL_bys {b l : List Int} (h : Bys b) : Bys (appL b l) := by
  unfold appL
  induction l generalizing b with
  | nil => exact h
  | cons x l ih => exact ih (appV_bys h)
end Go.Proofs.Ytenkmppmjfhajaa
