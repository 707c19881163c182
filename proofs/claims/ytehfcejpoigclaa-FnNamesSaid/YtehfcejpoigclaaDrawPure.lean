/- Drawn topologies in plain Lean: doors are numbered without gaps, no door is used twice, and so the topology is valid; what follows for a valid topology. -/
import Derived.Test.YtehfcejpoigclaaValidPure
namespace Go.Proofs.Ytehfcejpoigclaa
open Go.RowKit
set_option linter.unusedVariables false

theorem mem_put {l : List Int} {n x : Int} : x ∈ put l n ↔ x ∈ l ∨ x = n := by
  have hsp := List.takeWhile_append_dropWhile (p := fun x => decide (x < n)) (l := l)
  unfold put
  split
  · rename_i h
    constructor
    · exact Or.inl
    · rintro (h1 | rfl)
      · exact h1
      · rw [← hsp]
        exact List.mem_append_right _ (List.mem_of_mem_head? h)
  · rw [List.mem_append, List.mem_cons]
    constructor
    · rintro (h1 | h1 | h1)
      · left; rw [← hsp]; exact List.mem_append_left _ h1
      · right; exact h1
      · left; rw [← hsp]; exact List.mem_append_right _ h1
    · rintro (h1 | h1)
      · rw [← hsp, List.mem_append] at h1
        rcases h1 with h1 | h1
        · exact Or.inl h1
        · exact Or.inr (Or.inr h1)
      · exact Or.inr (Or.inl h1)
theorem put_len_new {l : List Int} {n : Int} (h : n ∉ l) : (put l n).length = l.length + 1 := by
  have hsp := congrArg List.length (List.takeWhile_append_dropWhile (p := fun x => decide (x < n)) (l := l))
  unfold put
  split
  · rename_i hh
    exfalso
    apply h
    rw [← List.takeWhile_append_dropWhile (p := fun x => decide (x < n)) (l := l)]
    exact List.mem_append_right _ (List.mem_of_mem_head? hh)
  · rw [List.length_append] at hsp
    rw [List.length_append, List.length_cons]
    omega
theorem uses_iff {l : Lk} {r d : Int} : uses l r d = true ↔ (l.a = r ∧ l.ai = d) ∨ (l.b = r ∧ l.bi = d) := by simp [uses]
theorem mem_ifStep {r x : Int} {out : List Int} {l : Lk} : x ∈ ifStep r out l ↔ x ∈ out ∨ uses l r x = true := by
  rw [uses_iff]
  unfold ifStep
  by_cases ha : l.a = r <;> by_cases hb : l.b = r
  · simp only [ha, hb, beq_self_eq_true, if_true, mem_put, true_and, or_assoc, eq_comm (a := x)]
  · simp only [ha, hb, beq_self_eq_true, beq_iff_eq, if_true, if_false, mem_put, true_and, false_and, or_false, eq_comm (a := x)]
  · simp only [ha, hb, beq_self_eq_true, beq_iff_eq, if_true, if_false, mem_put, true_and, false_and, false_or, eq_comm (a := x)]
  · simp only [ha, hb, beq_iff_eq, if_false, false_and, or_false]
theorem mem_ifs {ls : List Lk} {r x : Int} : x ∈ ifs ls r ↔ ∃ l ∈ ls, uses l r x = true := by
  have h : ∀ out : List Int, x ∈ ls.foldl (ifStep r) out ↔ x ∈ out ∨ ∃ l ∈ ls, uses l r x = true := by
    induction ls with
    | nil => intro out; simp
    | cons l ls ih =>
      intro out
      rw [List.foldl_cons, ih, mem_ifStep]
      constructor
      · rintro ((h | h) | ⟨m, hm, h⟩)
        · exact Or.inl h
        · exact Or.inr ⟨l, List.mem_cons_self, h⟩
        · exact Or.inr ⟨m, List.mem_cons_of_mem _ hm, h⟩
      · rintro (h | ⟨m, hm, h⟩)
        · exact Or.inl (Or.inl h)
        · rcases List.mem_cons.1 hm with rfl | hm
          · exact Or.inl (Or.inr h)
          · exact Or.inr ⟨m, hm, h⟩
  have := h []
  simpa [ifs] using this
theorem ifs_snoc (ls : List Lk) (l : Lk) (r : Int) : ifs (ls ++ [l]) r = ifStep r (ifs ls r) l := by simp [ifs]

/-- 1, 2 and so on up to the list's length. -/
def Up (l : List Int) : Prop := l = (List.range l.length).map fun i : Nat => (i : Int) + 1
theorem Up.lt {l : List Int} (h : Up l) {x : Int} (hx : x ∈ l) : x < (l.length : Int) + 1 := by
  rw [h] at hx
  obtain ⟨i, hi, rfl⟩ := List.mem_map.1 hx
  have := List.mem_range.1 hi
  omega
theorem Up.put {l : List Int} (h : Up l) {n : Int} (hn : n = (l.length : Int) + 1) : put l n = l ++ [n] := by
  have := put_new (l := l) (n := n) (k := l.length) (fun j x hj hx => by have := h.lt (List.mem_of_getElem? hx); omega) (Nat.le_refl _) (fun x hx => by rw [List.getElem?_eq_none (Nat.le_refl _)] at hx; cases hx)
  rw [this]
  simp
theorem Up.snoc {l : List Int} (h : Up l) {n : Int} (hn : n = (l.length : Int) + 1) : Up (l ++ [n]) := by
  have h' : l = (List.range l.length).map fun i : Nat => (i : Int) + 1 := h
  show l ++ [n] = _
  rw [List.length_append, List.length_singleton, List.range_succ, List.map_append, ← h', hn]
  rfl
/-- Every AS has its doors numbered without gaps; no door is used twice. -/
def Doors (ls : List Lk) : Prop := ∀ r, Up (ifs ls r)
def Apart (ls : List Lk) : Prop := ls.Pairwise fun m l => clash l m = false
theorem Doors.nil : Doors [] := fun r => rfl
theorem Apart.nil : Apart [] := List.Pairwise.nil
def newLk (ls : List Lk) (a b kd : Int) : Lk := ⟨a, ((ifs ls a).length : Int) + 1, b, ((ifs ls b).length : Int) + 1, kd⟩
theorem Doors.add {ls : List Lk} (h : Doors ls) {a b : Int} (hab : a ≠ b) (kd : Int) : Doors (ls ++ [newLk ls a b kd]) := by
  intro r
  rw [ifs_snoc]
  unfold ifStep newLk
  by_cases ha : a = r
  · subst ha
    have hb : ¬ b = a := fun e => hab e.symm
    simp only [beq_self_eq_true, if_true, beq_iff_eq, hb, if_false]
    rw [(h a).put rfl]
    exact (h a).snoc rfl
  · by_cases hb : b = r
    · subst hb
      simp only [beq_self_eq_true, if_true, beq_iff_eq, ha, if_false]
      rw [(h b).put rfl]
      exact (h b).snoc rfl
    · simp only [beq_iff_eq, ha, hb, if_false]
      exact h r
theorem Doors.free {ls : List Lk} (h : Doors ls) (r : Int) {l : Lk} (hl : l ∈ ls) : uses l r (((ifs ls r).length : Int) + 1) = false := by
  rw [Bool.eq_false_iff]
  intro hu
  have := (h r).lt (mem_ifs.2 ⟨l, hl, hu⟩)
  omega
theorem Apart.add {ls : List Lk} (h : Doors ls) (ha : Apart ls) (a b kd : Int) : Apart (ls ++ [newLk ls a b kd]) := by
  refine List.pairwise_append.2 ⟨ha, List.pairwise_singleton _ _, fun m hm l hl => ?_⟩
  rw [List.mem_singleton] at hl
  subst hl
  simp [clash, newLk, h.free a hm, h.free b hm]
/-- The ASes that are drawn. -/
def DrAs (xs : List As) : Prop := ∀ (i : Nat) (x : As), xs[i]? = some x → 0 ≤ x.isd ∧ x.isd ≤ 1 ∧ ∃ q : Int, 0 ≤ q ∧ q ≤ 999999 ∧ x.key = 1 + q * 8 + (i : Int)
theorem DrAs.nil : DrAs [] := fun i x h => by simp at h
theorem DrAs.snoc {xs : List As} (h : DrAs xs) {x : As} (h0 : 0 ≤ x.isd) (h1 : x.isd ≤ 1) {q : Int} (hq0 : 0 ≤ q) (hq1 : q ≤ 999999) (hk : x.key = 1 + q * 8 + (xs.length : Int)) : DrAs (xs ++ [x]) := by
  intro i y hy
  by_cases hi : i < xs.length
  · rw [List.getElem?_append_left hi] at hy
    exact h i y hy
  · rw [List.getElem?_append_right (by omega)] at hy
    have hi' : i - xs.length = 0 := by
      rcases Nat.eq_zero_or_pos (i - xs.length) with e | e
      · exact e
      · rw [List.getElem?_eq_none (by simp; omega)] at hy
        cases hy
    rw [hi'] at hy
    simp at hy
    subst hy
    have : i = xs.length := by omega
    subst this
    exact ⟨h0, h1, q, hq0, hq1, hk⟩
theorem DrAs.isd {xs : List As} (h : DrAs xs) {a b : Nat} {x y : As} (hx : xs[a]? = some x) (hy : xs[b]? = some y) : DrAs (xs.set b ⟨x.isd, y.core, y.key⟩) := by
  intro i z hz
  by_cases hi : i = b
  · subst hi
    rw [List.getElem?_set_self (List.getElem?_eq_some_iff.1 hy).1] at hz
    injection hz with hz
    subst hz
    exact ⟨(h a x hx).1, (h a x hx).2.1, (h i y hy).2.2⟩
  · rw [List.getElem?_set_ne (fun e => hi e.symm)] at hz
    exact h i z hz
theorem DrAs.ok {xs : List As} (h : DrAs xs) (hn : xs.length ≤ 8) (i : Nat) : asOk xs i = true := by
  cases hx : xs[i]? with
  | none => simp [asOk, hx]
  | some x =>
    have hi : i < xs.length := (List.getElem?_eq_some_iff.1 hx).1
    obtain ⟨h0, h1, q, hq0, hq1, hk⟩ := h i x hx
    refine asOk_good hx ⟨h0, by omega, by omega, by omega⟩ ?_
    rw [List.all_eq_true]
    intro y hy
    obtain ⟨j, hj⟩ := List.getElem?_of_mem hy
    rw [List.getElem?_take] at hj
    split at hj
    · rename_i hji
      obtain ⟨_, _, q', _, _, hk'⟩ := h j y hj
      have : ¬ y.key = x.key := by omega
      simpa using this
    · cases hj
theorem all_range {p : Nat → Bool} {n : Nat} (h : ∀ i, i < n → p i = true) : (List.range n).all p = true := by
  rw [List.all_eq_true]
  intro i hi
  exact h i (List.mem_range.1 hi)
theorem valid_draw {xs : List As} {ls : List Lk} (h1 : 1 ≤ xs.length) (h2 : xs.length ≤ 8) (hx : DrAs xs) (hl : Apart ls) : validT xs (ls.filter (lkOk xs)) = true := by
  have hp : Apart (ls.filter (lkOk xs)) := List.Pairwise.sublist List.filter_sublist hl
  symm
  refine validT_good (by omega) (by omega) (all_range fun i _ => hx.ok h2 i) (all_range fun i hi => ?_)
  obtain ⟨l, hl⟩ : ∃ l, (ls.filter (lkOk xs))[i]? = some l := ⟨_, List.getElem?_eq_getElem hi⟩
  refine liOk_good hl (List.mem_filter.1 (List.mem_of_getElem? hl)).2 ?_
  rw [List.all_eq_true]
  intro m hm
  obtain ⟨j, hj⟩ := List.getElem?_of_mem hm
  rw [List.getElem?_take] at hj
  split at hj
  · rename_i hji
    obtain ⟨a1, a2⟩ := List.getElem?_eq_some_iff.1 hj
    obtain ⟨b1, b2⟩ := List.getElem?_eq_some_iff.1 hl
    have := List.pairwise_iff_getElem.1 hp j i a1 b1 hji
    rw [a2, b2] at this
    simp [this]
  · cases hj

/-- What a valid topology says of its links. -/
theorem valid_ok {xs : List As} {ls : List Lk} (h : validT xs ls = true) {i : Nat} {l : Lk} (hl : ls[i]? = some l) : lkOk xs l = true ∧ ∀ j m, j < i → ls[j]? = some m → clash l m = false := by
  have hi : i < ls.length := (List.getElem?_eq_some_iff.1 hl).1
  simp only [validT, Bool.and_eq_true] at h
  have h1 := List.all_eq_true.1 h.2 i (List.mem_range.2 hi)
  simp only [liOk, hl, Bool.and_eq_true] at h1
  refine ⟨h1.1, fun j m hj hm => ?_⟩
  have := List.all_eq_true.1 h1.2 m (List.mem_of_getElem? (i := j) (by rw [List.getElem?_take, if_pos hj]; exact hm))
  simpa using this
theorem lkOk_parts {xs : List As} {l : Lk} (h : lkOk xs l = true) : (0 ≤ l.a ∧ l.a ≤ (xs.length : Int) - 1) ∧ (0 ≤ l.b ∧ l.b ≤ (xs.length : Int) - 1) ∧ l.a < l.b ∧ (1 ≤ l.ai ∧ l.ai ≤ 6) ∧ (1 ≤ l.bi ∧ l.bi ≤ 6) ∧ (l.kind = 1 ∨ l.kind = 2 ∨ l.kind = 3) := by
  simp only [lkOk, Bool.and_eq_true, inR_iff, Bool.not_eq_true', decide_eq_false_iff_not] at h
  obtain ⟨⟨⟨⟨⟨h1, h2⟩, h3⟩, h4⟩, h5⟩, h6⟩ := h
  refine ⟨h1, h2, by omega, h4, h5, ?_⟩
  split at h6
  · unfold kdOk at h6
    by_cases k1 : l.kind = 1
    · exact Or.inl k1
    · by_cases k2 : l.kind = 2
      · exact Or.inr (Or.inl k2)
      · by_cases k3 : l.kind = 3
        · exact Or.inr (Or.inr k3)
        · simp [k1, k2, k3] at h6
  · cases h6
theorem clash_of {l m : Lk} {r d : Int} (h1 : uses l r d = true) (h2 : uses m r d = true) : clash l m = true := by
  rw [uses_iff] at h1 h2
  have : uses m l.a l.ai = true ∨ uses m l.b l.bi = true := by
    rw [uses_iff, uses_iff]
    rcases h1 with ⟨rfl, rfl⟩ | ⟨rfl, rfl⟩
    · exact Or.inl h2
    · exact Or.inr h2
  unfold clash
  rcases this with e | e <;> simp [e]
theorem valid_uniq {xs : List As} {ls : List Lk} (h : validT xs ls = true) {i j : Nat} {l m : Lk} {r d : Int} (hl : ls[i]? = some l) (hm : ls[j]? = some m) (h1 : uses l r d = true) (h2 : uses m r d = true) : i = j := by
  rcases Nat.lt_trichotomy i j with e | e | e
  · have := (valid_ok h hm).2 i l e hl
    rw [clash_of h2 h1] at this
    cases this
  · exact e
  · have := (valid_ok h hl).2 j m e hm
    rw [clash_of h1 h2] at this
    cases this
theorem valid_at {xs : List As} {ls : List Lk} (h : validT xs ls = true) {i : Nat} {l : Lk} {r d : Int} (hl : ls[i]? = some l) (hu : uses l r d = true) : lkIx ls r d = (i : Int) ∧ lkOf ls r d = some l := by
  rcases lk_cases ls r d with ⟨_, hn⟩ | ⟨k, m, h1, h2, h3, _⟩
  · exfalso
    have := List.find?_eq_none.1 hn l (List.mem_of_getElem? hl)
    exact this hu
  · have hm : uses m r d = true := by have := List.find?_some h3; simpa using this
    have e := valid_uniq h hl h2 hu hm
    subst e
    rw [hl] at h2
    injection h2 with h2
    subst h2
    exact ⟨h1, h3⟩
/-- The ends of a link in a valid topology. -/
structure EndsOk (ls : List Lk) (i : Nat) (l : Lk) : Prop where
  ax : remA ls l.a l.ai = l.b
  ay : remB ls l.a l.ai = l.bi
  bx : remA ls l.b l.bi = l.a
  bz : remB ls l.b l.bi = l.ai
  ix : lkIx ls l.a l.ai = (i : Int)
  kd : (ifK ls l.a l.ai = 1 ∧ ifK ls l.b l.bi = 1) ∨ (ifK ls l.a l.ai = 2 ∧ ifK ls l.b l.bi = 3) ∨ (ifK ls l.a l.ai = 4 ∧ ifK ls l.b l.bi = 4)
theorem valid_ends {xs : List As} {ls : List Lk} (h : validT xs ls = true) {i : Nat} {l : Lk} (hl : ls[i]? = some l) : EndsOk ls i l := by
  obtain ⟨_, _, hab, h3, h4, hk⟩ := lkOk_parts (valid_ok h hl).1
  have ha := valid_at h hl (r := l.a) (d := l.ai) (by simp [uses])
  have hb := valid_at h hl (r := l.b) (d := l.bi) (by simp [uses])
  have ia : isA l l.a l.ai = true := by simp [isA]
  have ib : isA l l.b l.bi = false := by
    have : ¬ l.a = l.b := by omega
    simp [isA, this]
  refine ⟨remA_yes ha.2 ia, remB_yes ha.2 ia, remA_no hb.2 ib, remB_no hb.2 ib, ha.1, ?_⟩
  rw [ifK_some (by omega) ha.2, ifK_some (by omega) hb.2]
  unfold kindOf
  rcases hk with e | e | e <;> simp [e, ia, ib]
/-- Kind by kind. -/
theorem ifK_range {xs : List As} {ls : List Lk} (h : validT xs ls = true) {r d : Int} (hd : d ∈ ifs ls r) : 1 ≤ ifK ls r d ∧ ifK ls r d ≤ 4 := by
  obtain ⟨l, hl, hu⟩ := mem_ifs.1 hd
  obtain ⟨i, hi⟩ := List.getElem?_of_mem hl
  obtain ⟨_, _, hab, h3, h4, hk⟩ := lkOk_parts (valid_ok h hi).1
  have h0 : ¬ d = 0 := by
    rw [uses_iff] at hu
    omega
  rw [ifK_some h0 (valid_at h hi hu).2]
  unfold kindOf
  rcases hk with e | e | e <;> simp [e]
  split <;> simp
theorem kinds_sum (f : Int → Int) (l : List Int) (h : ∀ d ∈ l, 1 ≤ f d ∧ f d ≤ 4) : (l.filter fun x => f x == 1).length + (l.filter fun x => f x == 2).length + (l.filter fun x => f x == 3).length + (l.filter fun x => f x == 4).length = l.length := by
  induction l with
  | nil => rfl
  | cons d l ih =>
    have hd := h d List.mem_cons_self
    have := ih fun x hx => h x (List.mem_cons_of_mem _ hx)
    rcases (show f d = 1 ∨ f d = 2 ∨ f d = 3 ∨ f d = 4 by omega) with e | e | e | e <;> simp [e] <;> omega
theorem kinds_ok {xs : List As} {ls : List Lk} (h : validT xs ls = true) (r : Int) : (ifsOf ls r 1).length + (ifsOf ls r 2).length + (ifsOf ls r 3).length + (ifsOf ls r 4).length = (ifs ls r).length :=
  kinds_sum (ifK ls r) (ifs ls r) fun d hd => ifK_range h hd
/-- All doors. -/
def sumN (f : Nat → Nat) : Nat → Nat
  | 0 => 0
  | n + 1 => sumN f n + f n
theorem sumN_ext {f g : Nat → Nat} {n : Nat} (h : ∀ i, i < n → f i = g i) : sumN f n = sumN g n := by
  induction n with
  | zero => rfl
  | succ n ih => rw [sumN, sumN, ih fun i hi => h i (by omega), h n (by omega)]
theorem sumN_add (f g : Nat → Nat) (n : Nat) : sumN (fun i => f i + g i) n = sumN f n + sumN g n := by
  induction n with
  | zero => rfl
  | succ n ih => simp only [sumN, ih]; omega
theorem sumN_one (a n : Nat) : sumN (fun i => if i = a then 1 else 0) n = if a < n then 1 else 0 := by
  induction n with
  | zero => simp [sumN]
  | succ n ih =>
    rw [sumN, ih]
    by_cases h1 : a < n
    · have : ¬ n = a := by omega
      simp [h1, this]
      omega
    · by_cases h2 : n = a
      · subst h2; simp
      · have : ¬ a < n + 1 := by omega
        simp [h1, h2, this]
theorem sumN_zero (n : Nat) : sumN (fun _ => 0) n = 0 := by
  induction n with
  | zero => rfl
  | succ n ih => rw [sumN, ih]
def doorN (ls : List Lk) (i : Nat) : Nat := (ifs ls (i : Int)).length
theorem doorN_snoc {ls : List Lk} {l : Lk} (hl : ∀ m ∈ ls, clash l m = false) (hab : l.a < l.b) (i : Nat) : doorN (ls ++ [l]) i = doorN ls i + ((if i = l.a.toNat ∧ 0 ≤ l.a then 1 else 0) + (if i = l.b.toNat ∧ 0 ≤ l.b then 1 else 0)) := by
  unfold doorN
  rw [ifs_snoc]
  have n1 : l.ai ∉ ifs ls l.a := fun hh => by
    obtain ⟨m, hm, hu⟩ := mem_ifs.1 hh
    have := hl m hm
    simp [clash, hu] at this
  have n2 : l.bi ∉ ifs ls l.b := fun hh => by
    obtain ⟨m, hm, hu⟩ := mem_ifs.1 hh
    have := hl m hm
    simp [clash, hu] at this
  unfold ifStep
  by_cases ha : l.a = (i : Int)
  · have hb : ¬ l.b = (i : Int) := by omega
    have e1 : i = l.a.toNat ∧ 0 ≤ l.a := by omega
    have e2 : ¬ (i = l.b.toNat ∧ 0 ≤ l.b) := by omega
    rw [if_pos e1, if_neg e2]
    rw [ha] at n1
    simp only [beq_iff_eq, ha, hb, if_true, if_false]
    rw [put_len_new n1]
  · have e1 : ¬ (i = l.a.toNat ∧ 0 ≤ l.a) := by omega
    rw [if_neg e1]
    by_cases hb : l.b = (i : Int)
    · have e2 : i = l.b.toNat ∧ 0 ≤ l.b := by omega
      rw [if_pos e2]
      rw [hb] at n2
      simp only [beq_iff_eq, ha, hb, if_true, if_false]
      rw [put_len_new n2]
    · have e2 : ¬ (i = l.b.toNat ∧ 0 ≤ l.b) := by omega
      rw [if_neg e2]
      simp only [beq_iff_eq, ha, hb, if_false]
      rfl
theorem doors_take {xs : List As} {ls : List Lk} (h : validT xs ls = true) (k : Nat) (hk : k ≤ ls.length) : sumN (doorN (ls.take k)) xs.length = 2 * k := by
  induction k with
  | zero =>
    rw [List.take_zero, sumN_ext (f := doorN []) (g := fun _ => 0) (fun i _ => rfl), sumN_zero]
  | succ k ih =>
    obtain ⟨l, hl⟩ : ∃ l, ls[k]? = some l := ⟨_, List.getElem?_eq_getElem (by omega)⟩
    obtain ⟨h1, h2, hab, _⟩ := lkOk_parts (valid_ok h hl).1
    have hc := (valid_ok h hl).2
    rw [List.take_add_one, hl]
    show sumN (doorN (ls.take k ++ [l])) xs.length = _
    rw [sumN_ext (fun i _ => doorN_snoc (ls := ls.take k) (l := l) (fun m hm => by
      obtain ⟨j, hj⟩ := List.getElem?_of_mem hm
      rw [List.getElem?_take] at hj
      split at hj
      · exact hc j m ‹_› hj
      · cases hj) hab i), sumN_add, sumN_add, ih (by omega)]
    have e1 : sumN (fun i => if i = l.a.toNat ∧ 0 ≤ l.a then 1 else 0) xs.length = 1 := by
      rw [sumN_ext (g := fun i => if i = l.a.toNat then 1 else 0) (fun i _ => by simp [h1.1]), sumN_one, if_pos (by omega)]
    have e2 : sumN (fun i => if i = l.b.toNat ∧ 0 ≤ l.b then 1 else 0) xs.length = 1 := by
      rw [sumN_ext (g := fun i => if i = l.b.toNat then 1 else 0) (fun i _ => by simp [h2.1]), sumN_one, if_pos (by omega)]
    rw [e1, e2]
    omega
theorem doors_all {xs : List As} {ls : List Lk} (h : validT xs ls = true) : sumN (doorN ls) xs.length = 2 * ls.length := by
  have := doors_take h ls.length (Nat.le_refl _)
  rwa [List.take_of_length_le (Nat.le_refl _)] at this
theorem valid_len {xs : List As} {ls : List Lk} (h : validT xs ls = true) : 1 ≤ xs.length ∧ xs.length ≤ 8 := by
  simp only [validT, Bool.and_eq_true, inR_iff] at h
  omega
end Go.Proofs.Ytehfcejpoigclaa
