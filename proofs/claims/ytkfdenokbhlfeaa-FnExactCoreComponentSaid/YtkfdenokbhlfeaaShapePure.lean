/- Neighbours and what is reached, in plain Lean: the two ways of reckoning agree. No program in sight. -/
import Derived.Test.YtkfdenokbhlfeaaTopoMem
import Derived.Test.YtkfdenokbhlfeaaTopoPure
import Derived.Test.YtkfdenokbhlfeaaSetPure
namespace Go.Proofs.Ytkfdenokbhlfeaa
open Go.RowKit
set_option linter.unusedVariables false

def ValS (s : Int) : Prop := 0 ≤ s ∧ s ≤ 65535
theorem ValS.z : ValS 0 := ⟨by omega, by omega⟩
theorem hasE_val {s x : Int} (h : hasE s x = true) : 0 ≤ x ∧ x ≤ 15 := by
  unfold hasE at h
  simp only [Bool.and_eq_true, inR_iff] at h
  exact h.1.2
theorem hasE_bit {a n : Nat} (ha : a ≤ 65535) (hn : n ≤ 15) : hasE (a : Int) (n : Int) = a.testBit n := by
  unfold hasE
  rw [inR_true (by omega) (by omega), inR_true (by omega) (by omega)]
  simp
theorem or_le {a b : Nat} (ha : a ≤ 65535) (hb : b ≤ 65535) : a ||| b ≤ 65535 := by
  have : a ||| b < 2 ^ 16 := Nat.or_lt_two_pow (by omega) (by omega)
  omega
theorem uniE_val {a b : Int} (ha : ValS a) (hb : ValS b) : ValS (uniE a b) := by
  obtain ⟨x, rfl⟩ := Int.eq_ofNat_of_zero_le ha.1
  obtain ⟨y, rfl⟩ := Int.eq_ofNat_of_zero_le hb.1
  have h1 := ha.2
  have h2 := hb.2
  unfold uniE
  rw [inR_true (by omega) (by omega), inR_true (by omega) (by omega)]
  have := or_le (a := x) (b := y) (by omega) (by omega)
  simp only [Bool.and_self, if_true, Int.toNat_natCast]
  exact ⟨by omega, by omega⟩
theorem uniE_has {a b : Int} (ha : ValS a) (hb : ValS b) (x : Int) : hasE (uniE a b) x = (hasE a x || hasE b x) := by
  by_cases hx : 0 ≤ x ∧ x ≤ 15
  · obtain ⟨p, rfl⟩ := Int.eq_ofNat_of_zero_le ha.1
    obtain ⟨q, rfl⟩ := Int.eq_ofNat_of_zero_le hb.1
    obtain ⟨n, rfl⟩ := Int.eq_ofNat_of_zero_le hx.1
    have h1 := ha.2
    have h2 := hb.2
    unfold uniE
    rw [inR_true (by omega) (by omega), inR_true (by omega) (by omega)]
    have := or_le (a := p) (b := q) (by omega) (by omega)
    simp only [Bool.and_self, if_true, Int.toNat_natCast]
    rw [hasE_bit (by omega) (by omega), hasE_bit (by omega) (by omega), hasE_bit (by omega) (by omega), Nat.testBit_or]
  · rw [← hasE_out (s := uniE a b) (by omega), ← hasE_out (s := a) (by omega), ← hasE_out (s := b) (by omega)]; rfl
theorem addE_val {s i : Int} (hs : ValS s) : ValS (addE s i) := by
  by_cases h : 0 ≤ i ∧ i ≤ 15
  · obtain ⟨p, rfl⟩ := Int.eq_ofNat_of_zero_le hs.1
    obtain ⟨n, rfl⟩ := Int.eq_ofNat_of_zero_le h.1
    have h1 := hs.2
    unfold addE
    rw [inR_true (by omega) (by omega), inR_true (by omega) (by omega)]
    have := pow_lt n (by omega)
    have := or_le (a := p) (b := 2 ^ n) (by omega) (by omega)
    simp only [Bool.and_self, if_true, Int.toNat_natCast]
    exact ⟨by omega, by omega⟩
  · rw [← addE_out (by omega)]; exact hs
theorem addE_has {s i : Int} (hs : ValS s) (x : Int) : hasE (addE s i) x = (hasE s x || (inR x 0 15 && x == i)) := by
  by_cases hx : 0 ≤ x ∧ x ≤ 15
  · rw [inR_true hx.1 hx.2, Bool.true_and]
    by_cases h : 0 ≤ i ∧ i ≤ 15
    · obtain ⟨p, rfl⟩ := Int.eq_ofNat_of_zero_le hs.1
      obtain ⟨m, rfl⟩ := Int.eq_ofNat_of_zero_le h.1
      obtain ⟨n, rfl⟩ := Int.eq_ofNat_of_zero_le hx.1
      have h1 := hs.2
      unfold addE
      rw [inR_true (by omega) (by omega), inR_true (by omega) (by omega)]
      have := pow_lt m (by omega)
      have := or_le (a := p) (b := 2 ^ m) (by omega) (by omega)
      simp only [Bool.and_self, if_true, Int.toNat_natCast]
      rw [hasE_bit (by omega) (by omega), hasE_bit (by omega) (by omega), Nat.testBit_or, Nat.testBit_two_pow]
      congr 1
      rw [Bool.eq_iff_iff]
      simp
      omega
    · rw [← addE_out (by omega)]
      have : (x == i) = false := by rw [beq_eq_false_iff_ne]; intro e; subst e; exact h hx
      rw [this, Bool.or_false]
  · have hf : inR x 0 15 = false := by rw [Bool.eq_false_iff]; intro hh; exact hx (inR_iff.1 hh)
    rw [hf, ← hasE_out (s := addE s i) (by omega), ← hasE_out (s := s) (by omega)]; rfl
theorem ext_bits {a b : Nat} (ha : a ≤ 65535) (hb : b ≤ 65535) (h : ∀ n, n ≤ 15 → a.testBit n = b.testBit n) : a = b := by
  apply Nat.eq_of_testBit_eq
  intro n
  by_cases hn : n ≤ 15
  · exact h n hn
  · have hp : 2 ^ 16 ≤ 2 ^ n := Nat.pow_le_pow_right (by omega) (by omega)
    rw [Nat.testBit_lt_two_pow (by omega), Nat.testBit_lt_two_pow (by omega)]
theorem extE {a b : Int} (ha : ValS a) (hb : ValS b) (h : ∀ x, hasE a x = hasE b x) : a = b := by
  obtain ⟨p, rfl⟩ := Int.eq_ofNat_of_zero_le ha.1
  obtain ⟨q, rfl⟩ := Int.eq_ofNat_of_zero_le hb.1
  have h1 := ha.2
  have h2 := hb.2
  have : p = q := ext_bits (by omega) (by omega) fun n hn => by
    have := h (n : Int)
    rwa [hasE_bit (by omega) hn, hasE_bit (by omega) hn] at this
  rw [this]
theorem hasE_zero (x : Int) : hasE 0 x = false := by
  unfold hasE
  simp
theorem foldAdd_val (l : List Int) : ∀ {s : Int}, ValS s → ValS (l.foldl addE s) := by
  induction l with
  | nil => intro s h; exact h
  | cons a l ih => intro s h; exact ih (addE_val h)
theorem foldAdd_has (l : List Int) (x : Int) : ∀ {s : Int}, ValS s → hasE (l.foldl addE s) x = (hasE s x || (inR x 0 15 && l.contains x)) := by
  induction l with
  | nil => intro s h; simp
  | cons a l ih =>
    intro s h
    rw [List.foldl_cons, ih (addE_val h), addE_has h, List.contains_cons, Bool.or_assoc, ← Bool.and_or_distrib_left]
theorem mkSet_val (l : List Int) : ValS (mkSet l) := foldAdd_val l ValS.z
theorem mkSet_has (l : List Int) (x : Int) : hasE (mkSet l) x = (inR x 0 15 && l.contains x) := by
  unfold mkSet
  rw [foldAdd_has l x ValS.z, hasE_zero, Bool.false_or]
theorem elems_mem {s x : Int} : x ∈ elemsE s ↔ hasE s x = true := by
  unfold elemsE elemsTo
  rw [List.mem_filter]
  constructor
  · exact fun h => h.2
  · intro h
    have := hasE_val h
    refine ⟨List.mem_map.2 ⟨x.toNat, by simp; omega, ?_⟩, h⟩
    simp
    omega

/-- Strictly ascending lists. -/
def Asc (l : List Int) : Prop := l.Pairwise (· < ·)
theorem asc_ext : ∀ {l m : List Int}, Asc l → Asc m → (∀ x, x ∈ l ↔ x ∈ m) → l = m
  | [], [], _, _, _ => rfl
  | [], b :: m, _, _, h => by have := (h b).2 (by simp); simp at this
  | a :: l, [], _, _, h => by have := (h a).1 (by simp); simp at this
  | a :: l, b :: m, hl, hm, h => by
    have h1 := List.pairwise_cons.1 hl
    have h2 := List.pairwise_cons.1 hm
    have hab : a = b := by
      have ha := (h a).1 (by simp)
      have hb := (h b).2 (by simp)
      rcases List.mem_cons.1 ha with e | e
      · exact e
      · rcases List.mem_cons.1 hb with e' | e'
        · exact e'.symm
        · have := h1.1 b e'
          have := h2.1 a e
          omega
    subst hab
    congr 1
    refine asc_ext h1.2 h2.2 fun x => ?_
    constructor
    · intro hx
      have := h1.1 x hx
      rcases List.mem_cons.1 ((h x).1 (by simp [hx])) with e | e
      · omega
      · exact e
    · intro hx
      have := h2.1 x hx
      rcases List.mem_cons.1 ((h x).2 (by simp [hx])) with e | e
      · omega
      · exact e
theorem put_mem (l : List Int) (n x : Int) : x ∈ put l n ↔ x ∈ l ∨ x = n := by
  have hl : ∀ y, y ∈ l ↔ y ∈ (l.takeWhile fun x => decide (x < n)) ∨ y ∈ (l.dropWhile fun x => decide (x < n)) := by
    intro y
    conv => lhs; rw [← List.takeWhile_append_dropWhile (p := fun x => decide (x < n)) (l := l)]
    exact List.mem_append
  unfold put
  split
  · rename_i h
    have : n ∈ l := (hl n).2 (Or.inr (List.mem_of_mem_head? (by rw [h]; rfl)))
    constructor
    · exact Or.inl
    · rintro (h | rfl)
      · exact h
      · exact this
  · rw [List.mem_append, List.mem_cons, hl x]
    constructor
    · rintro (h | h | h)
      · exact Or.inl (Or.inl h)
      · exact Or.inr h
      · exact Or.inl (Or.inr h)
    · rintro ((h | h) | h)
      · exact Or.inl h
      · exact Or.inr (Or.inr h)
      · exact Or.inr (Or.inl h)
theorem put_asc {l : List Int} (h : Asc l) (n : Int) : Asc (put l n) := by
  have hl : (l.takeWhile fun x => decide (x < n)) ++ (l.dropWhile fun x => decide (x < n)) = l := List.takeWhile_append_dropWhile
  unfold put
  split
  · exact h
  · rename_i hne
    have h' := h
    unfold Asc at h'
    rw [← hl, List.pairwise_append] at h'
    obtain ⟨h1, h2, h3⟩ := h'
    have hlt : ∀ x ∈ (l.takeWhile fun x => decide (x < n)), x < n := by
      intro x hx
      have : ∀ (q : List Int) y, y ∈ q.takeWhile (fun x => decide (x < n)) → y < n := by
        intro q
        induction q with
        | nil => intro y hy; simp at hy
        | cons a q ih =>
          intro y hy
          rw [List.takeWhile_cons] at hy
          split at hy
          · rename_i ha
            rcases List.mem_cons.1 hy with e | e
            · subst e; simpa using ha
            · exact ih y e
          · simp at hy
      exact this l x hx
    have hgt : ∀ x ∈ (l.dropWhile fun x => decide (x < n)), n < x := by
      have hd : ∀ (q : List Int) a, (q.dropWhile fun x => decide (x < n)).head? = some a → ¬ a < n := by
        intro q
        induction q with
        | nil => intro a ha; simp at ha
        | cons b q ih =>
          intro a ha
          rw [List.dropWhile_cons] at ha
          split at ha
          · exact ih a ha
          · rename_i hb
            simp at ha hb
            omega
      cases hdw : (l.dropWhile fun x => decide (x < n)) with
      | nil => intro x hx; simp at hx
      | cons a q =>
        have ha := hd l a (by rw [hdw]; rfl)
        have hna : a ≠ n := by intro e; subst e; exact hne (by rw [hdw]; rfl)
        rw [hdw] at h2
        have h4 := List.pairwise_cons.1 h2
        intro x hx
        rcases List.mem_cons.1 hx with e | e
        · omega
        · have := h4.1 x e
          omega
    unfold Asc
    rw [List.pairwise_append]
    refine ⟨h1, List.pairwise_cons.2 ⟨hgt, h2⟩, fun a ha b hb => ?_⟩
    have := hlt a ha
    rcases List.mem_cons.1 hb with e | e
    · omega
    · have := hgt b e
      omega
theorem elems_asc (s : Int) : Asc (elemsE s) := by
  unfold elemsE elemsTo Asc
  apply List.Pairwise.filter
  rw [List.pairwise_map]
  refine List.Pairwise.imp ?_ List.pairwise_lt_range
  intro a b h
  exact Int.ofNat_lt.2 h

/-- What the loops over the far ends build. -/
def nbStepI (f : Int → Int) (out : List Int) (x : Int) : List Int := if inR (f x) 0 15 then put out (f x) else out
def nbI (f : Int → Int) (l : List Int) : List Int := l.foldl (nbStepI f) []
def nbStepS (f : Int → Int) (s x : Int) : Int := addE s (f x)
def nbS (f : Int → Int) (l : List Int) : Int := l.foldl (nbStepS f) 0
def nbr (ls : List Lk) (r kd : Int) : List Int := elemsE (nbS (remA ls r) (ifsOf ls r kd))
theorem nbI_spec (f : Int → Int) (l : List Int) : ∀ {out : List Int} {s : Int}, Asc out → ValS s → (∀ x, x ∈ out ↔ hasE s x = true) → Asc (l.foldl (nbStepI f) out) ∧ ∀ x, x ∈ l.foldl (nbStepI f) out ↔ hasE (l.foldl (nbStepS f) s) x = true := by
  induction l with
  | nil => intro out s h1 h2 h3; exact ⟨h1, h3⟩
  | cons a l ih =>
    intro out s h1 h2 h3
    rw [List.foldl_cons, List.foldl_cons]
    refine ih ?_ (addE_val h2) fun x => ?_
    · unfold nbStepI
      split
      · exact put_asc h1 _
      · exact h1
    · unfold nbStepI nbStepS
      rw [addE_has h2, Bool.or_eq_true, Bool.and_eq_true, beq_iff_eq, ← h3 x]
      split
      · rename_i hi
        rw [put_mem]
        constructor
        · rintro (h | h)
          · exact Or.inl h
          · subst h; exact Or.inr ⟨hi, rfl⟩
        · rintro (h | ⟨_, h⟩)
          · exact Or.inl h
          · exact Or.inr h
      · rename_i hi
        constructor
        · exact Or.inl
        · rintro (h | ⟨h, e⟩)
          · exact h
          · subst e; exact absurd h hi
theorem nb_eq (ls : List Lk) (r kd : Int) : nbI (remA ls r) (ifsOf ls r kd) = nbr ls r kd := by
  obtain ⟨h1, h2⟩ := nbI_spec (remA ls r) (ifsOf ls r kd) (out := []) (s := 0) List.Pairwise.nil ValS.z (fun x => by simp [hasE_zero])
  exact asc_ext h1 (elems_asc _) fun x => (h2 x).trans elems_mem.symm
theorem nbI_succ {f : Int → Int} {l : List Int} {k : Nat} {x : Int} (h : l[k]? = some x) : nbI f (l.take (k + 1)) = nbStepI f (nbI f (l.take k)) x := foldl_take_succ _ _ _ _ _ h
theorem nbS_succ {f : Int → Int} {l : List Int} {k : Nat} {x : Int} (h : l[k]? = some x) : nbS f (l.take (k + 1)) = nbStepS f (nbS f (l.take k)) x := foldl_take_succ _ _ _ _ _ h
theorem elemsE_len (s : Int) : (elemsE s).length ≤ 16 := elemsTo_len s 16
theorem nbr_len (ls : List Lk) (r kd : Int) : (nbr ls r kd).length ≤ 16 := elemsE_len _
theorem nbI_len (f : Int → Int) (l : List Int) (k : Nat) : (nbI f (l.take k)).length ≤ k := by
  unfold nbI
  have : ∀ (q out : List Int), (q.foldl (nbStepI f) out).length ≤ out.length + q.length := by
    intro q
    induction q with
    | nil => intro out; simp
    | cons a q ih =>
      intro out
      have h1 := ih (nbStepI f out a)
      have h2 : (nbStepI f out a).length ≤ out.length + 1 := by
        unfold nbStepI
        split
        · exact put_len _ _
        · omega
      simp only [List.foldl_cons, List.length_cons] at h1 ⊢
      omega
  have h1 := this (l.take k) []
  have h2 := List.length_take_le k l
  simp only [List.length_nil] at h1
  omega

/-- One step from all of a list, joined to a set. -/
def uStep (nb : Int → List Int) (s r : Int) : Int := uniE s (mkSet (nb r))
def uAll (nb : Int → List Int) (s : Int) (l : List Int) : Int := l.foldl (uStep nb) s
theorem uAll_succ {nb : Int → List Int} {s : Int} {l : List Int} {k : Nat} {x : Int} (h : l[k]? = some x) : uAll nb s (l.take (k + 1)) = uniE (uAll nb s (l.take k)) (mkSet (nb x)) := foldl_take_succ _ _ _ _ _ h
theorem uAll_val (nb : Int → List Int) (l : List Int) : ∀ {s : Int}, ValS s → ValS (uAll nb s l) := by
  induction l with
  | nil => intro s h; exact h
  | cons a l ih => intro s h; exact ih (uniE_val h (mkSet_val _))
def Edge (nb : Int → List Int) (y x : Int) : Prop := inR x 0 15 = true ∧ x ∈ nb y
theorem uAll_has (nb : Int → List Int) (l : List Int) (x : Int) : ∀ {s : Int}, ValS s → (hasE (uAll nb s l) x = true ↔ hasE s x = true ∨ ∃ y, y ∈ l ∧ Edge nb y x) := by
  induction l with
  | nil => intro s h; simp [uAll]
  | cons a l ih =>
    intro s h
    show hasE (uAll nb (uniE s (mkSet (nb a))) l) x = true ↔ _
    rw [ih (uniE_val h (mkSet_val _))]
    rw [uniE_has h (mkSet_val _), mkSet_has, Bool.or_eq_true, Bool.and_eq_true, List.contains_iff_mem]
    constructor
    · rintro ((h1 | h1) | ⟨y, h1, h2⟩)
      · exact Or.inl h1
      · exact Or.inr ⟨a, by simp, h1⟩
      · exact Or.inr ⟨y, by simp [h1], h2⟩
    · rintro (h1 | ⟨y, h1, h2⟩)
      · exact Or.inl (Or.inl h1)
      · rcases List.mem_cons.1 h1 with e | e
        · subst e; exact Or.inl (Or.inr h2)
        · exact Or.inr ⟨y, e, h2⟩
/-- The rounds of the program: what is reached so far, and the last ones. -/
def rI (nb : Int → List Int) (f0 : List Int) : Nat → Int × List Int
  | 0 => (0, f0)
  | k + 1 => (uniE (rI nb f0 k).1 (uAll nb 0 (rI nb f0 k).2), elemsE (uAll nb 0 (rI nb f0 k).2))
/-- The rounds of the reference. -/
def rS (nb : Int → List Int) (s0 : Int) : Nat → Int
  | 0 => s0
  | k + 1 => uAll nb (rS nb s0 k) (elemsE (rS nb s0 k))
theorem rI_val (nb : Int → List Int) (f0 : List Int) (k : Nat) : ValS (rI nb f0 k).1 := by
  induction k with
  | zero => exact ValS.z
  | succ k ih => exact uniE_val ih (uAll_val _ _ ValS.z)
theorem rS_val (nb : Int → List Int) {s0 : Int} (h : ValS s0) (k : Nat) : ValS (rS nb s0 k) := by
  induction k with
  | zero => exact h
  | succ k ih => exact uAll_val _ _ ih
theorem rI_next (nb : Int → List Int) (f0 : List Int) (k : Nat) (x : Int) : x ∈ (rI nb f0 (k + 1)).2 ↔ ∃ y, y ∈ (rI nb f0 k).2 ∧ Edge nb y x := by
  show x ∈ elemsE (uAll nb 0 (rI nb f0 k).2) ↔ _
  rw [elems_mem, uAll_has nb _ x ValS.z, hasE_zero]
  simp
theorem rI_all (nb : Int → List Int) (f0 : List Int) (k : Nat) (x : Int) : hasE (rI nb f0 k).1 x = true ↔ ∃ j, 1 ≤ j ∧ j ≤ k ∧ x ∈ (rI nb f0 j).2 := by
  induction k with
  | zero =>
    show hasE 0 x = true ↔ _
    rw [hasE_zero]
    constructor
    · intro h; cases h
    · rintro ⟨j, h1, h2, _⟩; omega
  | succ k ih =>
    show hasE (uniE (rI nb f0 k).1 (uAll nb 0 (rI nb f0 k).2)) x = true ↔ _
    rw [uniE_has (rI_val nb f0 k) (uAll_val _ _ ValS.z), Bool.or_eq_true, ih, ← elems_mem]
    show _ ∨ x ∈ (rI nb f0 (k + 1)).2 ↔ _
    constructor
    · rintro (⟨j, h1, h2, h3⟩ | h)
      · exact ⟨j, h1, by omega, h3⟩
      · exact ⟨k + 1, by omega, by omega, h⟩
    · rintro ⟨j, h1, h2, h3⟩
      by_cases hj : j ≤ k
      · exact Or.inl ⟨j, h1, hj, h3⟩
      · obtain rfl : j = k + 1 := by omega
        exact Or.inr h3
theorem rS_all (nb : Int → List Int) (f0 : List Int) (s0 : Int) (m : Nat) (hv : ValS s0) (h0 : ∀ x, hasE s0 x = true ↔ x ∈ (rI nb f0 m).2) (k : Nat) (x : Int) : hasE (rS nb s0 k) x = true ↔ ∃ j, m ≤ j ∧ j ≤ m + k ∧ x ∈ (rI nb f0 j).2 := by
  induction k generalizing x with
  | zero =>
    show hasE s0 x = true ↔ _
    rw [h0 x]
    constructor
    · intro h; exact ⟨m, by omega, by omega, h⟩
    · rintro ⟨j, h1, h2, h3⟩
      obtain rfl : j = m := by omega
      exact h3
  | succ k ih =>
    show hasE (uAll nb (rS nb s0 k) (elemsE (rS nb s0 k))) x = true ↔ _
    rw [uAll_has nb _ x (rS_val nb hv k), ih x]
    constructor
    · rintro (⟨j, h1, h2, h3⟩ | ⟨y, h1, h2⟩)
      · exact ⟨j, h1, by omega, h3⟩
      · rw [elems_mem, ih y] at h1
        obtain ⟨j, h3, h4, h5⟩ := h1
        exact ⟨j + 1, by omega, by omega, (rI_next nb f0 j x).2 ⟨y, h5, h2⟩⟩
    · rintro ⟨j, h1, h2, h3⟩
      by_cases hj : j ≤ m + k
      · exact Or.inl ⟨j, h1, hj, h3⟩
      · obtain ⟨i, rfl⟩ : ∃ i, j = i + 1 := ⟨j - 1, by omega⟩
        obtain ⟨y, h4, h5⟩ := (rI_next nb f0 i x).1 h3
        exact Or.inr ⟨y, elems_mem.2 ((ih y).2 ⟨i, by omega, by omega, h4⟩), h5⟩
theorem uAll_one (nb : Int → List Int) (r : Int) : uAll nb 0 [r] = mkSet (nb r) := by
  refine extE (uAll_val _ _ ValS.z) (mkSet_val _) fun x => ?_
  show hasE (uniE 0 (mkSet (nb r))) x = _
  rw [uniE_has ValS.z (mkSet_val _), hasE_zero, Bool.false_or]
/-- All above, or below. -/
theorem reach_eq (nb : Int → List Int) (r : Int) (k : Nat) : (rI nb [r] (k + 1)).1 = rS nb (mkSet (nb r)) k := by
  refine extE (rI_val _ _ _) (rS_val nb (mkSet_val _) k) fun x => ?_
  rw [Bool.eq_iff_iff, rI_all, rS_all nb [r] _ 1 (mkSet_val _) (fun x => ?_) k x]
  · constructor
    · rintro ⟨j, h1, h2, h3⟩; exact ⟨j, h1, by omega, h3⟩
    · rintro ⟨j, h1, h2, h3⟩; exact ⟨j, h1, by omega, h3⟩
  · rw [← uAll_one, ← elems_mem]
    exact Iff.rfl
/-- The component of a core. -/
theorem comp_eq (nb : Int → List Int) (r : Int) (hr : inR r 0 15 = true) (k : Nat) : addE (rI nb [r] k).1 r = rS nb (addE 0 r) k := by
  refine extE (addE_val (rI_val _ _ _)) (rS_val nb (addE_val ValS.z) k) fun x => ?_
  rw [Bool.eq_iff_iff, addE_has (rI_val _ _ _), Bool.or_eq_true, rI_all, rS_all nb [r] _ 0 (addE_val ValS.z) (fun x => ?_) k x]
  · constructor
    · rintro (⟨j, h1, h2, h3⟩ | h)
      · exact ⟨j, by omega, by omega, h3⟩
      · rw [Bool.and_eq_true, beq_iff_eq] at h
        exact ⟨0, by omega, by omega, by rw [h.2]; exact List.mem_singleton.2 rfl⟩
    · rintro ⟨j, h1, h2, h3⟩
      by_cases hj : 1 ≤ j
      · exact Or.inl ⟨j, hj, by omega, h3⟩
      · obtain rfl : j = 0 := by omega
        have : x = r := List.mem_singleton.1 h3
        subst this
        right
        rw [hr]
        simp
  · rw [addE_has ValS.z, hasE_zero, Bool.false_or, Bool.and_eq_true, beq_iff_eq]
    constructor
    · rintro ⟨_, h⟩; rw [h]; exact List.mem_singleton.2 rfl
    · intro h
      have : x = r := List.mem_singleton.1 h
      subst this
      exact ⟨hr, rfl⟩
theorem rS_zero (nb : Int → List Int) (k : Nat) : rS nb 0 k = 0 := by
  induction k with
  | zero => rfl
  | succ k ih =>
    show uAll nb (rS nb 0 k) (elemsE (rS nb 0 k)) = 0
    rw [ih]
    have : elemsE 0 = [] := List.eq_nil_iff_forall_not_mem.2 fun x hx => by rw [elems_mem, hasE_zero] at hx; cases hx
    rw [this]
    rfl
/-- How many steps upwards there are, f at most. -/
def dep (nb : Int → List Int) : Nat → Int → Nat
  | 0, _ => 0
  | f + 1, s => if s = 0 then 0 else dep nb f (uAll nb 0 (elemsE s)) + 1
theorem dep_le (nb : Int → List Int) (f : Nat) (s : Int) : dep nb f s ≤ f := by
  induction f generalizing s with
  | zero => exact Nat.le_refl _
  | succ f ih =>
    unfold dep
    split
    · omega
    · have := ih (uAll nb 0 (elemsE s))
      omega
end Go.Proofs.Ytkfdenokbhlfeaa
