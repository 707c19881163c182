/- Topologies in plain Lean: what the functions on topologies compute. -/
import Derived.Test.YtehfcejpoigclaaTopoMem
namespace Go.Proofs.Ytehfcejpoigclaa
open Go.RowKit
set_option linter.unusedVariables false

def uses (l : Lk) (r d : Int) : Bool := (l.a == r && l.ai == d) || (l.b == r && l.bi == d)
def lkFrom : List Lk → Nat → Int → Int → Int
  | [], _, _, _ => -1
  | l :: ls, k, r, d => if uses l r d then (k : Int) else lkFrom ls (k + 1) r d
def lkIx (ls : List Lk) (r d : Int) : Int := lkFrom ls 0 r d
theorem lkFrom_end {ls : List Lk} {k : Nat} {r d v : Int} (h : v = lkFrom (ls.drop k) k r d) (hk : ls.length ≤ k) : v = -1 := by rw [h, List.drop_eq_nil_of_le hk]; rfl
theorem lk_drop {ls : List Lk} {k : Nat} {l : Lk} (h : ls[k]? = some l) : ls.drop k = l :: ls.drop (k + 1) := by
  obtain ⟨hk, rfl⟩ := List.getElem?_eq_some_iff.1 h
  exact List.drop_eq_getElem_cons hk
theorem as_drop {ls : List As} {k : Nat} {l : As} (h : ls[k]? = some l) : ls.drop k = l :: ls.drop (k + 1) := by
  obtain ⟨hk, rfl⟩ := List.getElem?_eq_some_iff.1 h
  exact List.drop_eq_getElem_cons hk
theorem lkFrom_hit {ls : List Lk} {k : Nat} {r d v : Int} {l : Lk} (h : v = lkFrom (ls.drop k) k r d) (hl : ls[k]? = some l) (hu : uses l r d = true) : v = k := by rw [h, lk_drop hl, lkFrom, if_pos hu]
theorem lkFrom_miss {ls : List Lk} {k : Nat} {r d v : Int} {l : Lk} (h : v = lkFrom (ls.drop k) k r d) (hl : ls[k]? = some l) (hu : uses l r d = false) : v = lkFrom (ls.drop (k + 1)) (k + 1) r d := by rw [h, lk_drop hl, lkFrom, if_neg (by simp [hu])]

def lkOf (ls : List Lk) (r d : Int) : Option Lk := ls.find? fun l => uses l r d
def isA (l : Lk) (r d : Int) : Bool := l.a == r && l.ai == d
def remA (ls : List Lk) (r d : Int) : Int := match lkOf ls r d with | none => -1 | some l => if isA l r d then l.b else l.a
def remB (ls : List Lk) (r d : Int) : Int := match lkOf ls r d with | none => 0 | some l => if isA l r d then l.bi else l.ai
def kindOf (l : Lk) (r d : Int) : Int := if l.kind = 1 then 1 else if l.kind = 3 then 4 else if l.kind = 2 then (if isA l r d then 2 else 3) else 0
def ifK (ls : List Lk) (r d : Int) : Int := if d = 0 then 5 else match lkOf ls r d with | none => 0 | some l => kindOf l r d
theorem lkFrom_find (ls : List Lk) (j : Nat) (r d : Int) : (lkFrom ls j r d = -1 ∧ ls.find? (fun l => uses l r d) = none) ∨ ∃ k l, lkFrom ls j r d = ((j + k : Nat) : Int) ∧ ls[k]? = some l ∧ ls.find? (fun l => uses l r d) = some l := by
  induction ls generalizing j with
  | nil => left; exact ⟨rfl, rfl⟩
  | cons x ls ih =>
    rw [lkFrom, List.find?_cons]
    by_cases hu : uses x r d = true
    · right
      rw [if_pos hu, hu]
      exact ⟨0, x, rfl, rfl, rfl⟩
    · have hu' : uses x r d = false := by simpa using hu
      rw [if_neg hu, hu']
      rcases ih (j + 1) with h | ⟨k, l, h1, h2, h3⟩
      · left; exact h
      · right
        exact ⟨k + 1, l, by rw [h1]; omega, h2, h3⟩
theorem lk_cases (ls : List Lk) (r d : Int) : (lkIx ls r d = -1 ∧ lkOf ls r d = none) ∨ ∃ k l, lkIx ls r d = ((k : Nat) : Int) ∧ ls[k]? = some l ∧ lkOf ls r d = some l ∧ k < ls.length := by
  rcases lkFrom_find ls 0 r d with h | ⟨k, l, h1, h2, h3⟩
  · left; exact h
  · right
    exact ⟨k, l, by unfold lkIx; rw [h1]; omega, h2, h3, (List.getElem?_eq_some_iff.1 h2).1⟩
theorem remA_none {ls : List Lk} {r d : Int} (h : lkOf ls r d = none) : remA ls r d = -1 := by simp [remA, h]
theorem remB_none {ls : List Lk} {r d : Int} (h : lkOf ls r d = none) : remB ls r d = 0 := by simp [remB, h]
theorem remA_yes {ls : List Lk} {r d : Int} {l : Lk} (h : lkOf ls r d = some l) (h2 : isA l r d = true) : remA ls r d = l.b := by simp [remA, h, h2]
theorem remB_yes {ls : List Lk} {r d : Int} {l : Lk} (h : lkOf ls r d = some l) (h2 : isA l r d = true) : remB ls r d = l.bi := by simp [remB, h, h2]
theorem remA_no {ls : List Lk} {r d : Int} {l : Lk} (h : lkOf ls r d = some l) (h2 : isA l r d = false) : remA ls r d = l.a := by simp [remA, h, h2]
theorem remB_no {ls : List Lk} {r d : Int} {l : Lk} (h : lkOf ls r d = some l) (h2 : isA l r d = false) : remB ls r d = l.ai := by simp [remB, h, h2]
theorem ifK_zero {ls : List Lk} {r d : Int} (h : d = 0) : ifK ls r d = 5 := by simp [ifK, h]
theorem ifK_none {ls : List Lk} {r d : Int} (h0 : ¬ d = 0) (h : lkOf ls r d = none) : ifK ls r d = 0 := by simp [ifK, h, h0]
theorem ifK_some {ls : List Lk} {r d : Int} {l : Lk} (h0 : ¬ d = 0) (h : lkOf ls r d = some l) : ifK ls r d = kindOf l r d := by simp [ifK, h, h0]
/-- A number into an ascending list, once. -/
def put (l : List Int) (n : Int) : List Int := if (l.dropWhile fun x => decide (x < n)).head? = some n then l else (l.takeWhile fun x => decide (x < n)) ++ n :: (l.dropWhile fun x => decide (x < n))
theorem while_at {l : List Int} {n : Int} {k : Nat} (h : ∀ j x, j < k → l[j]? = some x → x < n) (hk : k ≤ l.length) (he : ∀ x, l[k]? = some x → ¬ x < n) : (l.takeWhile fun x => decide (x < n)) = l.take k ∧ (l.dropWhile fun x => decide (x < n)) = l.drop k := by
  induction l generalizing k with
  | nil => simp
  | cons y l ih =>
    cases k with
    | zero =>
      have := he y rfl
      simp [this]
    | succ k =>
      have hy := h 0 y (by omega) rfl
      have := ih (k := k) (fun j x hj hx => h (j + 1) x (by omega) hx) (by simpa using hk) (fun x hx => he x hx)
      simp [hy, this.1, this.2]
theorem put_same {l : List Int} {n : Int} {k : Nat} (h : ∀ j x, j < k → l[j]? = some x → x < n) (hk : k ≤ l.length) (hn : l[k]? = some n) : put l n = l := by
  have hw := while_at h hk (fun x hx => by rw [hn] at hx; injection hx with hx; omega)
  rw [put, hw.2, if_pos (by rw [List.head?_drop]; exact hn)]
theorem put_new {l : List Int} {n : Int} {k : Nat} (h : ∀ j x, j < k → l[j]? = some x → x < n) (hk : k ≤ l.length) (he : ∀ x, l[k]? = some x → n < x) : put l n = l.take k ++ [n] ++ l.drop k := by
  have hw := while_at h hk (fun x hx => by have := he x hx; omega)
  rw [put, hw.1, hw.2, if_neg (by rw [List.head?_drop]; intro e; have := he n e; omega)]
  simp
theorem put_len (l : List Int) (n : Int) : (put l n).length ≤ l.length + 1 := by
  unfold put
  split
  · omega
  · have := congrArg List.length (List.takeWhile_append_dropWhile (p := fun x => decide (x < n)) (l := l))
    rw [List.length_append] at this
    rw [List.length_append, List.length_cons]
    omega
def ifStep (r : Int) (out : List Int) (l : Lk) : List Int := if l.b == r then put (if l.a == r then put out l.ai else out) l.bi else (if l.a == r then put out l.ai else out)
def ifs (ls : List Lk) (r : Int) : List Int := ls.foldl (ifStep r) []
theorem ifs_succ {ls : List Lk} {r : Int} {k : Nat} {l : Lk} (h : ls[k]? = some l) : ifs (ls.take (k + 1)) r = ifStep r (ifs (ls.take k) r) l := by
  unfold ifs
  rw [List.take_add_one, h, List.foldl_append]
  rfl
theorem ifStep_len (r : Int) (out : List Int) (l : Lk) : (ifStep r out l).length ≤ out.length + 2 := by
  have h1 := put_len out l.ai
  have h2 := put_len out l.bi
  have h3 := put_len (put out l.ai) l.bi
  unfold ifStep
  split <;> split <;> omega
theorem ifs_len (ls : List Lk) (r : Int) : (ifs ls r).length ≤ 2 * ls.length := by
  unfold ifs
  have h : ∀ out : List Int, (ls.foldl (ifStep r) out).length ≤ out.length + 2 * ls.length := by
    induction ls with
    | nil => intro out; simp
    | cons l ls ih =>
      intro out
      have h1 := ih (ifStep r out l)
      have h2 := ifStep_len r out l
      simp only [List.foldl_cons, List.length_cons] at h1 ⊢
      omega
  simpa using h []
def ofKind (ls : List Lk) (r k : Int) (l : List Int) : List Int := l.filter fun x => ifK ls r x == k
def ifsOf (ls : List Lk) (r k : Int) : List Int := ofKind ls r k (ifs ls r)
def coreTo (xs : List As) (isd : Int) (k : Nat) : List Int := ((List.range k).filter fun i => match xs[i]? with | some x => x.core && x.isd == isd | none => false).map Int.ofNat
def cores (xs : List As) (isd : Int) : List Int := coreTo xs isd xs.length
theorem filter_take_succ {l : List Int} {p : Int → Bool} {k : Nat} {x : Int} (h : l[k]? = some x) : (l.take (k + 1)).filter p = (l.take k).filter p ++ (if p x then [x] else []) := by
  rw [List.take_add_one, h, List.filter_append]
  simp [List.filter_cons]
theorem coreTo_succ {xs : List As} {isd : Int} {k : Nat} {x : As} (h : xs[k]? = some x) : coreTo xs isd (k + 1) = coreTo xs isd k ++ (if x.core && x.isd == isd then [(k : Int)] else []) := by
  unfold coreTo
  rw [List.range_succ, List.filter_append, List.map_append]
  congr 1
  simp only [List.filter_cons, List.filter_nil, h]
  split <;> simp
theorem coreTo_len (xs : List As) (isd : Int) (k : Nat) : (coreTo xs isd k).length ≤ k := by
  unfold coreTo
  rw [List.length_map]
  exact Nat.le_trans (List.length_filter_le _ _) (by simp)
end Go.Proofs.Ytehfcejpoigclaa
