/- Contracts of the functions that look links up. -/
import Derived.Test.YtehfcejpoigclaaRows
import Derived.Test.YtehfcejpoigclaaMem
import Derived.Test.YtehfcejpoigclaaTopoMem
import Derived.Test.YtehfcejpoigclaaTopoPure
import Derived.Outline
namespace Go.Proofs.Ytehfcejpoigclaa
open Go.RowKit
set_option linter.unusedVariables false

theorem uses_i (l : Lk) (r d : Int) (w : World) : Calls Try.prog 52 #[.agg #[.int .i64 l.a, .int .i64 l.ai, .int .i64 l.b, .int .i64 l.bi, .int .i64 l.kind], .int .i64 r, .int .i64 d] w fun e w' => e = .returned (.bool (uses l r d)) ∧ Below w.heap.size w w' := by
  unfold uses
  rcases Bool.eq_false_or_eq_true (l.a == r) with h0 | h0
  · rcases Bool.eq_false_or_eq_true (l.ai == d) with h1 | h1
    · rcases Bool.eq_false_or_eq_true (l.b == r) with h2 | h2
      · rcases Bool.eq_false_or_eq_true (l.bi == d) with h3 | h3
        · go_enter Try.func52, Try.ntmps52
          go_wp2
          go_ret
          exact ⟨by simp [*], (Below.refl _ _).alloc (Nat.le_refl _) _⟩
        · go_enter Try.func52, Try.ntmps52
          go_wp2
          go_ret
          exact ⟨by simp [*], (Below.refl _ _).alloc (Nat.le_refl _) _⟩
      · rcases Bool.eq_false_or_eq_true (l.bi == d) with h3 | h3
        · go_enter Try.func52, Try.ntmps52
          go_wp2
          go_ret
          exact ⟨by simp [*], (Below.refl _ _).alloc (Nat.le_refl _) _⟩
        · go_enter Try.func52, Try.ntmps52
          go_wp2
          go_ret
          exact ⟨by simp [*], (Below.refl _ _).alloc (Nat.le_refl _) _⟩
    · rcases Bool.eq_false_or_eq_true (l.b == r) with h2 | h2
      · rcases Bool.eq_false_or_eq_true (l.bi == d) with h3 | h3
        · go_enter Try.func52, Try.ntmps52
          go_wp2
          go_ret
          exact ⟨by simp [*], (Below.refl _ _).alloc (Nat.le_refl _) _⟩
        · go_enter Try.func52, Try.ntmps52
          go_wp2
          go_ret
          exact ⟨by simp [*], (Below.refl _ _).alloc (Nat.le_refl _) _⟩
      · rcases Bool.eq_false_or_eq_true (l.bi == d) with h3 | h3
        · go_enter Try.func52, Try.ntmps52
          go_wp2
          go_ret
          exact ⟨by simp [*], (Below.refl _ _).alloc (Nat.le_refl _) _⟩
        · go_enter Try.func52, Try.ntmps52
          go_wp2
          go_ret
          exact ⟨by simp [*], (Below.refl _ _).alloc (Nat.le_refl _) _⟩
  · rcases Bool.eq_false_or_eq_true (l.ai == d) with h1 | h1
    · rcases Bool.eq_false_or_eq_true (l.b == r) with h2 | h2
      · rcases Bool.eq_false_or_eq_true (l.bi == d) with h3 | h3
        · go_enter Try.func52, Try.ntmps52
          go_wp2
          go_ret
          exact ⟨by simp [*], (Below.refl _ _).alloc (Nat.le_refl _) _⟩
        · go_enter Try.func52, Try.ntmps52
          go_wp2
          go_ret
          exact ⟨by simp [*], (Below.refl _ _).alloc (Nat.le_refl _) _⟩
      · rcases Bool.eq_false_or_eq_true (l.bi == d) with h3 | h3
        · go_enter Try.func52, Try.ntmps52
          go_wp2
          go_ret
          exact ⟨by simp [*], (Below.refl _ _).alloc (Nat.le_refl _) _⟩
        · go_enter Try.func52, Try.ntmps52
          go_wp2
          go_ret
          exact ⟨by simp [*], (Below.refl _ _).alloc (Nat.le_refl _) _⟩
    · rcases Bool.eq_false_or_eq_true (l.b == r) with h2 | h2
      · rcases Bool.eq_false_or_eq_true (l.bi == d) with h3 | h3
        · go_enter Try.func52, Try.ntmps52
          go_wp2
          go_ret
          exact ⟨by simp [*], (Below.refl _ _).alloc (Nat.le_refl _) _⟩
        · go_enter Try.func52, Try.ntmps52
          go_wp2
          go_ret
          exact ⟨by simp [*], (Below.refl _ _).alloc (Nat.le_refl _) _⟩
      · rcases Bool.eq_false_or_eq_true (l.bi == d) with h3 | h3
        · go_enter Try.func52, Try.ntmps52
          go_wp2
          go_ret
          exact ⟨by simp [*], (Below.refl _ _).alloc (Nat.le_refl _) _⟩
        · go_enter Try.func52, Try.ntmps52
          go_wp2
          go_ret
          exact ⟨by simp [*], (Below.refl _ _).alloc (Nat.le_refl _) _⟩

theorem uses_s (l : Lk) (r d : Int) (w : World) : Calls Try.prog 53 #[.agg #[.int .i64 l.a, .int .i64 l.ai, .int .i64 l.b, .int .i64 l.bi, .int .i64 l.kind], .int .i64 r, .int .i64 d] w fun e w' => e = .returned (.bool (uses l r d)) ∧ Below w.heap.size w w' := by
  unfold uses
  rcases Bool.eq_false_or_eq_true (l.a == r) with h0 | h0
  · rcases Bool.eq_false_or_eq_true (l.ai == d) with h1 | h1
    · rcases Bool.eq_false_or_eq_true (l.b == r) with h2 | h2
      · rcases Bool.eq_false_or_eq_true (l.bi == d) with h3 | h3
        · go_enter Try.func53, Try.ntmps53
          go_wp2
          go_ret
          exact ⟨by simp [*], (Below.refl _ _).alloc (Nat.le_refl _) _⟩
        · go_enter Try.func53, Try.ntmps53
          go_wp2
          go_ret
          exact ⟨by simp [*], (Below.refl _ _).alloc (Nat.le_refl _) _⟩
      · rcases Bool.eq_false_or_eq_true (l.bi == d) with h3 | h3
        · go_enter Try.func53, Try.ntmps53
          go_wp2
          go_ret
          exact ⟨by simp [*], (Below.refl _ _).alloc (Nat.le_refl _) _⟩
        · go_enter Try.func53, Try.ntmps53
          go_wp2
          go_ret
          exact ⟨by simp [*], (Below.refl _ _).alloc (Nat.le_refl _) _⟩
    · rcases Bool.eq_false_or_eq_true (l.b == r) with h2 | h2
      · rcases Bool.eq_false_or_eq_true (l.bi == d) with h3 | h3
        · go_enter Try.func53, Try.ntmps53
          go_wp2
          go_ret
          exact ⟨by simp [*], (Below.refl _ _).alloc (Nat.le_refl _) _⟩
        · go_enter Try.func53, Try.ntmps53
          go_wp2
          go_ret
          exact ⟨by simp [*], (Below.refl _ _).alloc (Nat.le_refl _) _⟩
      · rcases Bool.eq_false_or_eq_true (l.bi == d) with h3 | h3
        · go_enter Try.func53, Try.ntmps53
          go_wp2
          go_ret
          exact ⟨by simp [*], (Below.refl _ _).alloc (Nat.le_refl _) _⟩
        · go_enter Try.func53, Try.ntmps53
          go_wp2
          go_ret
          exact ⟨by simp [*], (Below.refl _ _).alloc (Nat.le_refl _) _⟩
  · rcases Bool.eq_false_or_eq_true (l.ai == d) with h1 | h1
    · rcases Bool.eq_false_or_eq_true (l.b == r) with h2 | h2
      · rcases Bool.eq_false_or_eq_true (l.bi == d) with h3 | h3
        · go_enter Try.func53, Try.ntmps53
          go_wp2
          go_ret
          exact ⟨by simp [*], (Below.refl _ _).alloc (Nat.le_refl _) _⟩
        · go_enter Try.func53, Try.ntmps53
          go_wp2
          go_ret
          exact ⟨by simp [*], (Below.refl _ _).alloc (Nat.le_refl _) _⟩
      · rcases Bool.eq_false_or_eq_true (l.bi == d) with h3 | h3
        · go_enter Try.func53, Try.ntmps53
          go_wp2
          go_ret
          exact ⟨by simp [*], (Below.refl _ _).alloc (Nat.le_refl _) _⟩
        · go_enter Try.func53, Try.ntmps53
          go_wp2
          go_ret
          exact ⟨by simp [*], (Below.refl _ _).alloc (Nat.le_refl _) _⟩
    · rcases Bool.eq_false_or_eq_true (l.b == r) with h2 | h2
      · rcases Bool.eq_false_or_eq_true (l.bi == d) with h3 | h3
        · go_enter Try.func53, Try.ntmps53
          go_wp2
          go_ret
          exact ⟨by simp [*], (Below.refl _ _).alloc (Nat.le_refl _) _⟩
        · go_enter Try.func53, Try.ntmps53
          go_wp2
          go_ret
          exact ⟨by simp [*], (Below.refl _ _).alloc (Nat.le_refl _) _⟩
      · rcases Bool.eq_false_or_eq_true (l.bi == d) with h3 | h3
        · go_enter Try.func53, Try.ntmps53
          go_wp2
          go_ret
          exact ⟨by simp [*], (Below.refl _ _).alloc (Nat.le_refl _) _⟩
        · go_enter Try.func53, Try.ntmps53
          go_wp2
          go_ret
          exact ⟨by simp [*], (Below.refl _ _).alloc (Nat.le_refl _) _⟩

def LkRel (w : World) (m : Nat) (ls : List Lk) (r d : Int) (e0 : Nat) (L : Option Addr) (i : Value) (wr : World) : Prop :=
  ∃ k : Nat, k ≤ m ∧ i = .int .i64 k ∧ Hid (lkIx ls r d = lkFrom (ls.drop k) k r d) ∧ Below w.heap.size w wr ∧ wr.cell? ⟨w.heap.size, 1, none⟩ = some (.slice L m e0)
set_option maxHeartbeats 1000000 in
theorem linkIndex_i (A : Option Addr) (n c : Nat) (L : Option Addr) (m e0 : Nat) (T : Tp) (r d : Int) (w : World) (hT : Rl w L m T.links) (hm : m ≤ 1048576) :
    Calls Try.prog 24 #[.agg #[.slice A n c, .slice L m e0], .int .i64 r, .int .i64 d] w fun e w' => e = .returned (.int .i64 (lkIx T.links r d)) ∧ Below w.heap.size w w' := by
  have hl := Lib.hid hT.len
  go_enter Try.func24, Try.ntmps24
  go_wp2
  go_loopw [12] (LkRel w m T.links r d e0 L) (fun i _ => m - (intOf i).toNat)
  case atStart => exact ⟨0, Nat.zero_le _, rfl, Lib.hid rfl, (Below.refl _ _).alloc (Nat.le_refl _) _, by simp⟩
  case round =>
    obtain ⟨k, hk, rfl, hd, hb, hcell⟩ := hrel
    have hs := hb.size
    by_cases hlt : k < m
    · have hT' := hT.below hb (Nat.le_refl _)
      obtain ⟨b, off, l, rfl, hx0, c0, c1, c2, c3, c4⟩ := hT'.get hlt
      have hx := Lib.hid hx0
      clear hx0
      rcases Bool.eq_false_or_eq_true (uses l r d) with hu | hu
      · go_wp2_with (first | (go_at_call 52; refine (uses_i l _ _ _).mono ?_; rintro e w1 ⟨rfl, hb1⟩; rw [hu]))
        go_ret
        exact ⟨congrArg (fun v => Ending.returned (.int .i64 v)) (lkFrom_hit hd.out hx.out hu).symm, below_keep hb hb1⟩
      · go_wp2_with (first | (go_at_call 52; refine (uses_i l _ _ _).mono ?_; rintro e w1 ⟨rfl, hb1⟩; rw [hu]))
        go_roundw
        case rel => exact ⟨k + 1, by omega, by go_num, Lib.hid (lkFrom_miss hd.out hx.out hu), below_keep hb hb1, cell_keep hcell hb1⟩
        case measure => simp [intOf]; omega
    · go_wp2
      go_ret
      exact ⟨congrArg (fun v => Ending.returned (.int .i64 v)) (lkFrom_end hd.out (by rw [hl.out]; omega)).symm, hb⟩
set_option maxHeartbeats 1000000 in
theorem linkIndex_s (A : Option Addr) (n c : Nat) (L : Option Addr) (m e0 : Nat) (T : Tp) (r d : Int) (w : World) (hT : Rl w L m T.links) (hm : m ≤ 1048576) :
    Calls Try.prog 25 #[.agg #[.slice A n c, .slice L m e0], .int .i64 r, .int .i64 d] w fun e w' => e = .returned (.int .i64 (lkIx T.links r d)) ∧ Below w.heap.size w w' := by
  have hl := Lib.hid hT.len
  go_enter Try.func25, Try.ntmps25
  go_wp2
  go_loopw [7] (LkRel w m T.links r d e0 L) (fun i _ => m - (intOf i).toNat)
  case atStart => exact ⟨0, Nat.zero_le _, rfl, Lib.hid rfl, (Below.refl _ _).alloc (Nat.le_refl _) _, by simp⟩
  case round =>
    obtain ⟨k, hk, rfl, hd, hb, hcell⟩ := hrel
    have hs := hb.size
    by_cases hlt : k < m
    · have hT' := hT.below hb (Nat.le_refl _)
      obtain ⟨b, off, l, rfl, hx0, c0, c1, c2, c3, c4⟩ := hT'.get hlt
      have hx := Lib.hid hx0
      clear hx0
      rcases Bool.eq_false_or_eq_true (uses l r d) with hu | hu
      · go_wp2_with (first | (go_at_call 53; refine (uses_s l _ _ _).mono ?_; rintro e w1 ⟨rfl, hb1⟩; rw [hu]))
        go_ret
        exact ⟨congrArg (fun v => Ending.returned (.int .i64 v)) (lkFrom_hit hd.out hx.out hu).symm, below_keep0 hb hb1⟩
      · go_wp2_with (first | (go_at_call 53; refine (uses_s l _ _ _).mono ?_; rintro e w1 ⟨rfl, hb1⟩; rw [hu]))
        go_roundw
        case rel => exact ⟨k + 1, by omega, by go_num, Lib.hid (lkFrom_miss hd.out hx.out hu), below_keep0 hb hb1, cell_keep0 hcell hb1⟩
        case measure => simp [intOf]; omega
    · go_wp2
      go_ret
      exact ⟨congrArg (fun v => Ending.returned (.int .i64 v)) (lkFrom_end hd.out (by rw [hl.out]; omega)).symm, hb⟩
end Go.Proofs.Ytehfcejpoigclaa
