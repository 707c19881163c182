/- When a topology is valid, in plain Lean. -/
import Derived.Test.YtehfcejpoigclaaTopoMem
import Derived.Test.YtehfcejpoigclaaTopoPure
import Derived.Test.YtehfcejpoigclaaSetPure
namespace Go.Proofs.Ytehfcejpoigclaa
open Go.RowKit
set_option linter.unusedVariables false

def kdOk (k : Int) (a b : As) : Bool := if k = 1 then a.core && b.core else if k = 2 then (a.isd == b.isd) && !b.core else if k = 3 then !a.core && !b.core else false
def lkOk (xs : List As) (l : Lk) : Bool :=
  inR l.a 0 ((xs.length : Int) - 1) && inR l.b 0 ((xs.length : Int) - 1) && !decide (l.b ≤ l.a) && inR l.ai 1 6 && inR l.bi 1 6 &&
    (match xs[l.a.toNat]?, xs[l.b.toNat]? with | some a, some b => kdOk l.kind a b | _, _ => false)
def asOk (xs : List As) (i : Nat) : Bool := match xs[i]? with | none => true | some x => inR x.isd 0 2 && inR x.key 1 2147483646 && (xs.take i).all fun y => !(y.key == x.key)
def clash (l m : Lk) : Bool := uses m l.a l.ai || uses m l.b l.bi
def liOk (xs : List As) (ls : List Lk) (i : Nat) : Bool := match ls[i]? with | none => true | some l => lkOk xs l && (ls.take i).all fun m => !clash l m
def validT (xs : List As) (ls : List Lk) : Bool := inR (xs.length : Int) 1 8 && (List.range xs.length).all (asOk xs) && (List.range ls.length).all (liOk xs ls)
theorem lkOk_out {xs : List As} {l : Lk} (h : ¬ (0 ≤ l.a ∧ l.a ≤ (xs.length : Int) - 1 ∧ 0 ≤ l.b ∧ l.b ≤ (xs.length : Int) - 1 ∧ l.a < l.b ∧ 1 ≤ l.ai ∧ l.ai ≤ 6 ∧ 1 ≤ l.bi ∧ l.bi ≤ 6)) : false = lkOk xs l := by
  symm
  rw [Bool.eq_false_iff]
  intro hh
  simp only [lkOk, Bool.and_eq_true, inR_iff, Bool.not_eq_true', decide_eq_false_iff_not] at hh
  omega
theorem lkOk_in {xs : List As} {l : Lk} {a b : As} (h : 0 ≤ l.a ∧ l.a ≤ (xs.length : Int) - 1 ∧ 0 ≤ l.b ∧ l.b ≤ (xs.length : Int) - 1 ∧ l.a < l.b ∧ 1 ≤ l.ai ∧ l.ai ≤ 6 ∧ 1 ≤ l.bi ∧ l.bi ≤ 6) (ha : xs[l.a.toNat]? = some a) (hb : xs[l.b.toNat]? = some b) : kdOk l.kind a b = lkOk xs l := by
  obtain ⟨h1, h2, h3, h4, h5, h6, h7, h8, h9⟩ := h
  simp only [lkOk, inR_true h1 h2, inR_true h3 h4, inR_true h6 h7, inR_true h8 h9, decide_eq_false (show ¬ l.b ≤ l.a by omega), ha, hb, Bool.not_false, Bool.true_and]
theorem all_range_succ {p : Nat → Bool} {k : Nat} (h : (List.range k).all p = true) (hk : p k = true) : (List.range (k + 1)).all p = true := by
  rw [List.range_succ, List.all_append, h]
  simp [hk]
theorem all_range_bad {p : Nat → Bool} {k n : Nat} (hk : k < n) (hp : p k = false) : (List.range n).all p = false := by
  rw [Bool.eq_false_iff]
  intro h
  have := List.all_eq_true.1 h k (List.mem_range.2 hk)
  rw [hp] at this
  cases this
theorem asOk_bad {xs : List As} {k : Nat} {x : As} (hx : xs[k]? = some x) (h : ¬ (0 ≤ x.isd ∧ x.isd ≤ 2 ∧ 1 ≤ x.key ∧ x.key ≤ 2147483646)) : asOk xs k = false := by
  rw [Bool.eq_false_iff]
  intro hh
  simp only [asOk, hx, Bool.and_eq_true, inR_iff] at hh
  omega
theorem asOk_same {xs : List As} {k j : Nat} {x y : As} (hx : xs[k]? = some x) (hy : xs[j]? = some y) (hj : j < k) (h : y.key = x.key) : asOk xs k = false := by
  rw [Bool.eq_false_iff]
  intro hh
  simp only [asOk, hx, Bool.and_eq_true] at hh
  have := List.all_eq_true.1 hh.2 y (List.mem_of_getElem? (i := j) (by rw [List.getElem?_take, if_pos hj]; exact hy))
  rw [h] at this
  simp at this
theorem asOk_good {xs : List As} {k : Nat} {x : As} (hx : xs[k]? = some x) (h : 0 ≤ x.isd ∧ x.isd ≤ 2 ∧ 1 ≤ x.key ∧ x.key ≤ 2147483646) (ha : ((xs.take k).all fun y => !(y.key == x.key)) = true) : asOk xs k = true := by
  simp only [asOk, hx, ha, inR_true h.1 h.2.1, inR_true h.2.2.1 h.2.2.2, Bool.and_self]
theorem liOk_bad {xs : List As} {ls : List Lk} {k : Nat} {l : Lk} (hx : ls[k]? = some l) (h : lkOk xs l = false) : liOk xs ls k = false := by simp [liOk, hx, h]
theorem liOk_clash {xs : List As} {ls : List Lk} {k j : Nat} {l m : Lk} (hx : ls[k]? = some l) (hy : ls[j]? = some m) (hj : j < k) (h : clash l m = true) : liOk xs ls k = false := by
  rw [Bool.eq_false_iff]
  intro hh
  simp only [liOk, hx, Bool.and_eq_true] at hh
  have := List.all_eq_true.1 hh.2 m (List.mem_of_getElem? (i := j) (by rw [List.getElem?_take, if_pos hj]; exact hy))
  rw [h] at this
  cases this
theorem liOk_good {xs : List As} {ls : List Lk} {k : Nat} {l : Lk} (hx : ls[k]? = some l) (h : lkOk xs l = true) (ha : ((ls.take k).all fun m => !clash l m) = true) : liOk xs ls k = true := by simp only [liOk, hx, h, ha, Bool.and_self]
theorem all_take_succ {α : Type} {l : List α} {p : α → Bool} {k : Nat} {x : α} (h : (l.take k).all p = true) (hx : l[k]? = some x) (hp : p x = true) : (l.take (k + 1)).all p = true := by
  rw [List.take_add_one, hx, List.all_append, h]
  simp [hp]
theorem validT_len {xs : List As} {ls : List Lk} (h : ¬ (1 ≤ (xs.length : Int) ∧ (xs.length : Int) ≤ 8)) : false = validT xs ls := by
  have : inR (xs.length : Int) 1 8 = false := by rw [Bool.eq_false_iff]; intro hh; exact h (inR_iff.1 hh)
  simp [validT, this]
theorem validT_as {xs : List As} {ls : List Lk} {k : Nat} (hk : k < xs.length) (h : asOk xs k = false) : false = validT xs ls := by simp [validT, all_range_bad hk h]
theorem validT_lk {xs : List As} {ls : List Lk} {k : Nat} (hk : k < ls.length) (h : liOk xs ls k = false) : false = validT xs ls := by simp [validT, all_range_bad hk h]
theorem validT_good {xs : List As} {ls : List Lk} (h1 : 1 ≤ (xs.length : Int)) (h2 : (xs.length : Int) ≤ 8) (h3 : (List.range xs.length).all (asOk xs) = true) (h4 : (List.range ls.length).all (liOk xs ls) = true) : true = validT xs ls := by simp [validT, h3, h4, inR_true h1 h2]
end Go.Proofs.Ytehfcejpoigclaa
