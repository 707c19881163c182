/- Contracts of the functions that look links up. -/
import Derived.Test.YthigpjkdmlkjmaaRows
import Derived.Test.YthigpjkdmlkjmaaMem
import Derived.Test.YthigpjkdmlkjmaaTopoMem
import Derived.Test.YthigpjkdmlkjmaaTopoPure
import Derived.Outline
namespace Go.Proofs.Ythigpjkdmlkjmaa
open Go.RowKit
set_option linter.unusedVariables false

theorem uses_i (l : Lk) (r d : Int) (w : World) : Calls Try.prog 42 #[.agg #[.int .i64 l.a, .int .i64 l.ai, .int .i64 l.b, .int .i64 l.bi, .int .i64 l.kind], .int .i64 r, .int .i64 d] w fun e w' => e = .returned (.bool (uses l r d)) ∧ Below w.heap.size w w' := by
  unfold uses
  rcases Bool.eq_false_or_eq_true (l.a == r) with h0 | h0
  · rcases Bool.eq_false_or_eq_true (l.ai == d) with h1 | h1
    · rcases Bool.eq_false_or_eq_true (l.b == r) with h2 | h2
      · rcases Bool.eq_false_or_eq_true (l.bi == d) with h3 | h3
        · go_enter Try.func42, Try.ntmps42
          go_wp2
          go_ret
          exact ⟨by simp [*], (Below.refl _ _).alloc (Nat.le_refl _) _⟩
        · go_enter Try.func42, Try.ntmps42
          go_wp2
          go_ret
          exact ⟨by simp [*], (Below.refl _ _).alloc (Nat.le_refl _) _⟩
      · rcases Bool.eq_false_or_eq_true (l.bi == d) with h3 | h3
        · go_enter Try.func42, Try.ntmps42
          go_wp2
          go_ret
          exact ⟨by simp [*], (Below.refl _ _).alloc (Nat.le_refl _) _⟩
        · go_enter Try.func42, Try.ntmps42
          go_wp2
          go_ret
          exact ⟨by simp [*], (Below.refl _ _).alloc (Nat.le_refl _) _⟩
    · rcases Bool.eq_false_or_eq_true (l.b == r) with h2 | h2
      · rcases Bool.eq_false_or_eq_true (l.bi == d) with h3 | h3
        · go_enter Try.func42, Try.ntmps42
          go_wp2
          go_ret
          exact ⟨by simp [*], (Below.refl _ _).alloc (Nat.le_refl _) _⟩
        · go_enter Try.func42, Try.ntmps42
          go_wp2
          go_ret
          exact ⟨by simp [*], (Below.refl _ _).alloc (Nat.le_refl _) _⟩
      · rcases Bool.eq_false_or_eq_true (l.bi == d) with h3 | h3
        · go_enter Try.func42, Try.ntmps42
          go_wp2
          go_ret
          exact ⟨by simp [*], (Below.refl _ _).alloc (Nat.le_refl _) _⟩
        · go_enter Try.func42, Try.ntmps42
          go_wp2
          go_ret
          exact ⟨by simp [*], (Below.refl _ _).alloc (Nat.le_refl _) _⟩
  · rcases Bool.eq_false_or_eq_true (l.ai == d) with h1 | h1
    · rcases Bool.eq_false_or_eq_true (l.b == r) with h2 | h2
      · rcases Bool.eq_false_or_eq_true (l.bi == d) with h3 | h3
        · go_enter Try.func42, Try.ntmps42
          go_wp2
          go_ret
          exact ⟨by simp [*], (Below.refl _ _).alloc (Nat.le_refl _) _⟩
        · go_enter Try.func42, Try.ntmps42
          go_wp2
          go_ret
          exact ⟨by simp [*], (Below.refl _ _).alloc (Nat.le_refl _) _⟩
      · rcases Bool.eq_false_or_eq_true (l.bi == d) with h3 | h3
        · go_enter Try.func42, Try.ntmps42
          go_wp2
          go_ret
          exact ⟨by simp [*], (Below.refl _ _).alloc (Nat.le_refl _) _⟩
        · go_enter Try.func42, Try.ntmps42
          go_wp2
          go_ret
          exact ⟨by simp [*], (Below.refl _ _).alloc (Nat.le_refl _) _⟩
    · rcases Bool.eq_false_or_eq_true (l.b == r) with h2 | h2
      · rcases Bool.eq_false_or_eq_true (l.bi == d) with h3 | h3
        · go_enter Try.func42, Try.ntmps42
          go_wp2
          go_ret
          exact ⟨by simp [*], (Below.refl _ _).alloc (Nat.le_refl _) _⟩
        · go_enter Try.func42, Try.ntmps42
          go_wp2
          go_ret
          exact ⟨by simp [*], (Below.refl _ _).alloc (Nat.le_refl _) _⟩
      · rcases Bool.eq_false_or_eq_true (l.bi == d) with h3 | h3
        · go_enter Try.func42, Try.ntmps42
          go_wp2
          go_ret
          exact ⟨by simp [*], (Below.refl _ _).alloc (Nat.le_refl _) _⟩
        · go_enter Try.func42, Try.ntmps42
          go_wp2
          go_ret
          exact ⟨by simp [*], (Below.refl _ _).alloc (Nat.le_refl _) _⟩

theorem uses_s (l : Lk) (r d : Int) (w : World) : Calls Try.prog 39 #[.agg #[.int .i64 l.a, .int .i64 l.ai, .int .i64 l.b, .int .i64 l.bi, .int .i64 l.kind], .int .i64 r, .int .i64 d] w fun e w' => e = .returned (.bool (uses l r d)) ∧ Below w.heap.size w w' := by
  unfold uses
  rcases Bool.eq_false_or_eq_true (l.a == r) with h0 | h0
  · rcases Bool.eq_false_or_eq_true (l.ai == d) with h1 | h1
    · rcases Bool.eq_false_or_eq_true (l.b == r) with h2 | h2
      · rcases Bool.eq_false_or_eq_true (l.bi == d) with h3 | h3
        · go_enter Try.func39, Try.ntmps39
          go_wp2
          go_ret
          exact ⟨by simp [*], (Below.refl _ _).alloc (Nat.le_refl _) _⟩
        · go_enter Try.func39, Try.ntmps39
          go_wp2
          go_ret
          exact ⟨by simp [*], (Below.refl _ _).alloc (Nat.le_refl _) _⟩
      · rcases Bool.eq_false_or_eq_true (l.bi == d) with h3 | h3
        · go_enter Try.func39, Try.ntmps39
          go_wp2
          go_ret
          exact ⟨by simp [*], (Below.refl _ _).alloc (Nat.le_refl _) _⟩
        · go_enter Try.func39, Try.ntmps39
          go_wp2
          go_ret
          exact ⟨by simp [*], (Below.refl _ _).alloc (Nat.le_refl _) _⟩
    · rcases Bool.eq_false_or_eq_true (l.b == r) with h2 | h2
      · rcases Bool.eq_false_or_eq_true (l.bi == d) with h3 | h3
        · go_enter Try.func39, Try.ntmps39
          go_wp2
          go_ret
          exact ⟨by simp [*], (Below.refl _ _).alloc (Nat.le_refl _) _⟩
        · go_enter Try.func39, Try.ntmps39
          go_wp2
          go_ret
          exact ⟨by simp [*], (Below.refl _ _).alloc (Nat.le_refl _) _⟩
      · rcases Bool.eq_false_or_eq_true (l.bi == d) with h3 | h3
        · go_enter Try.func39, Try.ntmps39
          go_wp2
          go_ret
          exact ⟨by simp [*], (Below.refl _ _).alloc (Nat.le_refl _) _⟩
        · go_enter Try.func39, Try.ntmps39
          go_wp2
          go_ret
          exact ⟨by simp [*], (Below.refl _ _).alloc (Nat.le_refl _) _⟩
  · rcases Bool.eq_false_or_eq_true (l.ai == d) with h1 | h1
    · rcases Bool.eq_false_or_eq_true (l.b == r) with h2 | h2
      · rcases Bool.eq_false_or_eq_true (l.bi == d) with h3 | h3
        · go_enter Try.func39, Try.ntmps39
          go_wp2
          go_ret
          exact ⟨by simp [*], (Below.refl _ _).alloc (Nat.le_refl _) _⟩
        · go_enter Try.func39, Try.ntmps39
          go_wp2
          go_ret
          exact ⟨by simp [*], (Below.refl _ _).alloc (Nat.le_refl _) _⟩
      · rcases Bool.eq_false_or_eq_true (l.bi == d) with h3 | h3
        · go_enter Try.func39, Try.ntmps39
          go_wp2
          go_ret
          exact ⟨by simp [*], (Below.refl _ _).alloc (Nat.le_refl _) _⟩
        · go_enter Try.func39, Try.ntmps39
          go_wp2
          go_ret
          exact ⟨by simp [*], (Below.refl _ _).alloc (Nat.le_refl _) _⟩
    · rcases Bool.eq_false_or_eq_true (l.b == r) with h2 | h2
      · rcases Bool.eq_false_or_eq_true (l.bi == d) with h3 | h3
        · go_enter Try.func39, Try.ntmps39
          go_wp2
          go_ret
          exact ⟨by simp [*], (Below.refl _ _).alloc (Nat.le_refl _) _⟩
        · go_enter Try.func39, Try.ntmps39
          go_wp2
          go_ret
          exact ⟨by simp [*], (Below.refl _ _).alloc (Nat.le_refl _) _⟩
      · rcases Bool.eq_false_or_eq_true (l.bi == d) with h3 | h3
        · go_enter Try.func39, Try.ntmps39
          go_wp2
          go_ret
          exact ⟨by simp [*], (Below.refl _ _).alloc (Nat.le_refl _) _⟩
        · go_enter Try.func39, Try.ntmps39
          go_wp2
          go_ret
          exact ⟨by simp [*], (Below.refl _ _).alloc (Nat.le_refl _) _⟩

def LkRel (w : World) (m : Nat) (ls : List Lk) (r d : Int) (e0 : Nat) (L : Option Addr) (i : Value) (wr : World) : Prop :=
  ∃ k : Nat, k ≤ m ∧ i = .int .i64 k ∧ Hid (lkIx ls r d = lkFrom (ls.drop k) k r d) ∧ Below w.heap.size w wr ∧ wr.cell? ⟨w.heap.size, 1, none⟩ = some (.slice L m e0)
end Go.Proofs.Ythigpjkdmlkjmaa
