/- Residues modulo the prime, digests and chains, in plain Lean. -/
import Derived.WalkKit
namespace Go.Proofs.Ytenkmppmjfhajaa
open Go.RowKit
set_option linter.unusedVariables false

def okP (n : Int) : Bool := decide (0 ≤ n ∧ n ≤ 2147483646)
def addM (b s : Int) : Int := if okP b && okP s then (b + s) % 2147483647 else 0
def subM (b s : Int) : Int := if okP b && okP s then (b - s + 2147483647) % 2147483647 else 0
def modE (n m : Int) : Int := if 1 ≤ m ∧ m ≤ 1000000000000 then (n.tmod m + m) % m else 0
def digStep (d x : Int) : Int := (d * 1000003 + modE x 2147483647 + 11) % 2147483647
def digest (l : List Int) : Int := l.foldl digStep 7
def chainAdd (b : Int) (l : List Int) : Int := l.foldl addM b
def chainSub (b : Int) (l : List Int) : Int := l.foldr (fun x b => subM b x) b

theorem tmod_bounds (n m : Int) (h : 1 ≤ m) : -m < n.tmod m ∧ n.tmod m < m := ⟨Int.lt_tmod_of_pos n (by omega), Int.tmod_lt_of_pos n (by omega)⟩
theorem modE_in {n m : Int} (h1 : 1 ≤ m) (h2 : m ≤ 1000000000000) : (n.tmod m + m) % m = modE n m := by simp [modE, h1, h2]
theorem modE_out {n m : Int} (h : ¬ (1 ≤ m ∧ m ≤ 1000000000000)) : 0 = modE n m := by simp [modE, h]
theorem modE_bounds (n m : Int) (h1 : 1 ≤ m) (h2 : m ≤ 1000000000000) : 0 ≤ modE n m ∧ modE n m < m := by
  rw [← modE_in h1 h2]
  exact ⟨Int.emod_nonneg _ (by omega), Int.emod_lt_of_pos _ (by omega)⟩
theorem addM_in {b s : Int} (h1 : 0 ≤ b) (h2 : b ≤ 2147483646) (h3 : 0 ≤ s) (h4 : s ≤ 2147483646) : (b + s) % 2147483647 = addM b s := by simp [addM, okP, h1, h2, h3, h4]
theorem addM_out {b s : Int} (h : ¬ (0 ≤ b ∧ b ≤ 2147483646 ∧ 0 ≤ s ∧ s ≤ 2147483646)) : 0 = addM b s := by
  unfold addM
  rw [if_neg]
  simp [okP]
  omega
theorem subM_in {b s : Int} (h1 : 0 ≤ b) (h2 : b ≤ 2147483646) (h3 : 0 ≤ s) (h4 : s ≤ 2147483646) : (b - s + 2147483647) % 2147483647 = subM b s := by simp [subM, okP, h1, h2, h3, h4]
theorem subM_out {b s : Int} (h : ¬ (0 ≤ b ∧ b ≤ 2147483646 ∧ 0 ≤ s ∧ s ≤ 2147483646)) : 0 = subM b s := by
  unfold subM
  rw [if_neg]
  simp [okP]
  omega
theorem digest_bounds (l : List Int) : 0 ≤ digest l ∧ digest l ≤ 2147483646 := by
  unfold digest
  have h : ∀ d : Int, 0 ≤ d ∧ d ≤ 2147483646 → 0 ≤ l.foldl digStep d ∧ l.foldl digStep d ≤ 2147483646 := by
    induction l with
    | nil => intro d h; exact h
    | cons x l ih =>
      intro d h
      refine ih _ ?_
      unfold digStep
      omega
  exact h 7 (by omega)
theorem digest_succ {l : List Int} {k : Nat} {x : Int} (h : l[k]? = some x) : (digest (l.take k) * 1000003 + modE x 2147483647 + 11) % 2147483647 = digest (l.take (k + 1)) := by
  unfold digest
  rw [List.take_add_one, h, List.foldl_append]
  rfl
theorem chainAdd_succ {b : Int} {l : List Int} {k : Nat} {x : Int} (h : l[k]? = some x) : addM (chainAdd b (l.take k)) x = chainAdd b (l.take (k + 1)) := by
  unfold chainAdd
  rw [List.take_add_one, h, List.foldl_append]
  rfl
theorem chainSub_succ {b : Int} {l : List Int} {k : Nat} {x : Int} (h : l[k]? = some x) : subM (chainSub b (l.drop (k + 1))) x = chainSub b (l.drop k) := by
  obtain ⟨hk, rfl⟩ := List.getElem?_eq_some_iff.1 h
  rw [List.drop_eq_getElem_cons hk]
  rfl
end Go.Proofs.Ytenkmppmjfhajaa
