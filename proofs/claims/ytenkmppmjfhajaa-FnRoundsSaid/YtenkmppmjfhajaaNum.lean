/- Contracts of CeilDiv, Min, Max and InRange, and of the numbers drawn for them. -/
import Derived.Test.YtenkmppmjfhajaaRows
import Derived.Test.YtenkmppmjfhajaaMem
import Derived.Test.YtenkmppmjfhajaaSetPure
import Derived.Test.YtenkmppmjfhajaaCurMem
import Derived.Test.YtenkmppmjfhajaaDraw1
import Derived.Test.YtenkmppmjfhajaaDraw2
import Derived.Test.YtenkmppmjfhajaaLaw6
import Derived.Test.YtenkmppmjfhajaaMixPure
import Derived.Test.YtenkmppmjfhajaaMix
import Derived.Test.YtenkmppmjfhajaaRng
import Derived.Deep.QuietTactic
import Derived.BigQuiet
import Derived.WalkSmall
import Derived.Deep.RegionHeld3
import Derived.Outline
namespace Go.Proofs.Ytenkmppmjfhajaa
open Go.RowKit
set_option linter.unusedVariables false

def ceilD (a b : Int) : Int := if 0 ≤ a ∧ a ≤ 1000000000000 ∧ 1 ≤ b ∧ b ≤ 1000000000000 then (a + b - 1) / b else 0
theorem ceilD_in {a b : Int} (h1 : 0 ≤ a) (h2 : a ≤ 1000000000000) (h3 : 1 ≤ b) (h4 : b ≤ 1000000000000) : (a + b - 1) / b = ceilD a b := by simp [ceilD, h1, h2, h3, h4]
theorem ceilD_out {a b : Int} (h : ¬ (0 ≤ a ∧ a ≤ 1000000000000 ∧ 1 ≤ b ∧ b ≤ 1000000000000)) : 0 = ceilD a b := by unfold ceilD; rw [if_neg h]
theorem ceilD_zero {a b : Int} (h : a ≤ 0) : ceilD a b = 0 := by
  unfold ceilD
  split
  · rename_i q
    obtain rfl : a = 0 := by omega
    exact Int.ediv_eq_zero_of_lt (by omega) (by omega)
  · rfl
theorem ceilD_facts {a b : Int} (h1 : 0 < a) (h2 : a ≤ 1000000000000) (h3 : 1 ≤ b) (h4 : b ≤ 1000000000000) : 0 < ceilD a b ∧ ceilD a b ≤ 1000000000000 ∧ 0 ≤ (ceilD a b - 1) * b ∧ (ceilD a b - 1) * b < a := by
  rw [← ceilD_in (by omega) h2 h3 h4]
  have e := Int.mul_ediv_add_emod (a + b - 1) b
  have m0 := Int.emod_nonneg (a + b - 1) (show b ≠ 0 by omega)
  have m1 := Int.emod_lt_of_pos (a + b - 1) (show 0 < b by omega)
  generalize hq : (a + b - 1) / b = q at *
  have hq0 : 0 < q := by
    rcases Int.lt_or_le 0 q with h | h
    · exact h
    · have := Int.mul_le_mul_of_nonneg_left h (show 0 ≤ b by omega)
      omega
  have hp : (q - 1) * b = b * q - b := by rw [Int.sub_mul, Int.mul_comm]; omega
  have hq1 : 0 ≤ (q - 1) * b := Int.mul_nonneg (by omega) (by omega)
  have hq2 : q - 1 ≤ (q - 1) * b := by have := Int.mul_le_mul_of_nonneg_left h3 (show 0 ≤ q - 1 by omega); omega
  refine ⟨hq0, by omega, hq1, by omega⟩
theorem modE_facts {p q : Int} (h1 : 1 ≤ q) (h2 : q ≤ 1000000000000) : 0 ≤ modE p q ∧ modE p q < q ∧ ((p.tmod q == modE p q) || (p.tmod q == modE p q - q)) = true := by
  have hb := modE_bounds p q h1 h2
  refine ⟨hb.1, hb.2, ?_⟩
  have ht := tmod_bounds p q h1
  rw [← modE_in h1 h2] at hb ⊢
  generalize p.tmod q = t at *
  rcases Int.lt_or_le t 0 with h | h
  · have e : (t + q) % q = t + q := Int.emod_eq_of_lt (by omega) (by omega)
    rw [e]
    simp
  · have e : (t + q) % q = t := by rw [Int.add_emod_right]; exact Int.emod_eq_of_lt (by omega) (by omega)
    rw [e]
    simp
/-- Three numbers, and nothing that was there has turned. -/
def Three (w : World) (P : Int → Int → Int → Prop) (e : Ending) (w' : World) : Prop := ∃ x y z : Int, P x y z ∧ e = .returned (.tuple #[.int .i64 x, .int .i64 y, .int .i64 z]) ∧ Below w.heap.size w w'
theorem ceil_i (a b : Int) (w : World) : Calls Try.prog 20 #[.int .i64 a, .int .i64 b] w fun e w' => e = .returned (.int .i64 (ceilD a b)) ∧ w = w' := by
  by_cases h1 : 0 ≤ a
  · by_cases h2 : a ≤ 1000000000000
    · by_cases h3 : 1 ≤ b
      · by_cases h4 : b ≤ 1000000000000
        · go_enter Try.func20, Try.ntmps20
          go_wp2
          all_goals go_ret
          exact ⟨retInt (ceilD_in h1 h2 h3 h4), rfl⟩
        · go_enter Try.func20, Try.ntmps20
          go_wp2
          all_goals go_ret
          exact ⟨retInt (ceilD_out (by omega)), rfl⟩
      · go_enter Try.func20, Try.ntmps20
        go_wp2
        all_goals go_ret
        exact ⟨retInt (ceilD_out (by omega)), rfl⟩
    · go_enter Try.func20, Try.ntmps20
      go_wp2
      all_goals go_ret
      exact ⟨retInt (ceilD_out (by omega)), rfl⟩
  · go_enter Try.func20, Try.ntmps20
    go_wp2
    all_goals go_ret
    exact ⟨retInt (ceilD_out (by omega)), rfl⟩
theorem ceil_s (a b : Int) (w : World) : Calls Try.prog 22 #[.int .i64 a, .int .i64 b] w fun e w' => e = .returned (.int .i64 (ceilD a b)) ∧ w = w' := by
  by_cases h1 : 0 ≤ a
  · by_cases h2 : a ≤ 1000000000000
    · by_cases h3 : 1 ≤ b
      · by_cases h4 : b ≤ 1000000000000
        · go_enter Try.func22, Try.ntmps22
          go_wp2
          all_goals go_ret
          exact ⟨retInt (ceilD_in h1 h2 h3 h4), rfl⟩
        · go_enter Try.func22, Try.ntmps22
          go_wp2
          all_goals go_ret
          exact ⟨retInt (ceilD_out (by omega)), rfl⟩
      · go_enter Try.func22, Try.ntmps22
        go_wp2
        all_goals go_ret
        exact ⟨retInt (ceilD_out (by omega)), rfl⟩
    · go_enter Try.func22, Try.ntmps22
      go_wp2
      all_goals go_ret
      exact ⟨retInt (ceilD_out (by omega)), rfl⟩
  · go_enter Try.func22, Try.ntmps22
    go_wp2
    all_goals go_ret
    exact ⟨retInt (ceilD_out (by omega)), rfl⟩
theorem mn_i (a b : Int) (w : World) : Calls Try.prog 24 #[.int .i64 a, .int .i64 b] w fun e w' => e = .returned (.int .i64 (if b < a then b else a)) ∧ w = w' := by
  by_cases h1 : a < b
  · go_enter Try.func24, Try.ntmps24
    go_wp2
    all_goals go_ret
    all_goals exact ⟨retInt (by first | rfl | omega | (split <;> omega)), rfl⟩
  · by_cases h2 : b < a
    · go_enter Try.func24, Try.ntmps24
      go_wp2
      all_goals go_ret
      all_goals exact ⟨retInt (by first | rfl | omega | (split <;> omega)), rfl⟩
    · obtain rfl : a = b := by omega
      go_enter Try.func24, Try.ntmps24
      go_wp2
      all_goals go_ret
      all_goals exact ⟨retInt (by first | rfl | omega | (split <;> omega)), rfl⟩
theorem mx_i (a b : Int) (w : World) : Calls Try.prog 26 #[.int .i64 a, .int .i64 b] w fun e w' => e = .returned (.int .i64 (if b > a then b else a)) ∧ w = w' := by
  by_cases h1 : a < b
  · go_enter Try.func26, Try.ntmps26
    go_wp2
    all_goals go_ret
    all_goals exact ⟨retInt (by first | rfl | omega | (split <;> omega)), rfl⟩
  · by_cases h2 : b < a
    · go_enter Try.func26, Try.ntmps26
      go_wp2
      all_goals go_ret
      all_goals exact ⟨retInt (by first | rfl | omega | (split <;> omega)), rfl⟩
    · obtain rfl : a = b := by omega
      go_enter Try.func26, Try.ntmps26
      go_wp2
      all_goals go_ret
      all_goals exact ⟨retInt (by first | rfl | omega | (split <;> omega)), rfl⟩
theorem mn_s (a b : Int) (w : World) : Calls Try.prog 25 #[.int .i64 a, .int .i64 b] w fun e w' => e = .returned (.int .i64 (if b < a then b else a)) ∧ w = w' := by
  by_cases h1 : a < b
  · go_enter Try.func25, Try.ntmps25
    go_wp2
    all_goals go_ret
    all_goals exact ⟨retInt (by first | rfl | omega | (split <;> omega)), rfl⟩
  · by_cases h2 : b < a
    · go_enter Try.func25, Try.ntmps25
      go_wp2
      all_goals go_ret
      all_goals exact ⟨retInt (by first | rfl | omega | (split <;> omega)), rfl⟩
    · obtain rfl : a = b := by omega
      go_enter Try.func25, Try.ntmps25
      go_wp2
      all_goals go_ret
      all_goals exact ⟨retInt (by first | rfl | omega | (split <;> omega)), rfl⟩
theorem mx_s (a b : Int) (w : World) : Calls Try.prog 27 #[.int .i64 a, .int .i64 b] w fun e w' => e = .returned (.int .i64 (if b > a then b else a)) ∧ w = w' := by
  by_cases h1 : a < b
  · go_enter Try.func27, Try.ntmps27
    go_wp2
    all_goals go_ret
    all_goals exact ⟨retInt (by first | rfl | omega | (split <;> omega)), rfl⟩
  · by_cases h2 : b < a
    · go_enter Try.func27, Try.ntmps27
      go_wp2
      all_goals go_ret
      all_goals exact ⟨retInt (by first | rfl | omega | (split <;> omega)), rfl⟩
    · obtain rfl : a = b := by omega
      go_enter Try.func27, Try.ntmps27
      go_wp2
      all_goals go_ret
      all_goals exact ⟨retInt (by first | rfl | omega | (split <;> omega)), rfl⟩
theorem inRgS_s (x a b : Int) (w : World) : Calls Try.prog 29 #[.int .i64 x, .int .i64 a, .int .i64 b] w fun e w' => e = .returned (.bool (inR x a b)) ∧ w = w' := by
  by_cases h1 : a ≤ x
  · by_cases h2 : x ≤ b
    · go_enter Try.func29, Try.ntmps29
      go_wp2
      all_goals go_ret
      all_goals exact ⟨ret_boolR (by rw [inR_true (by omega) (by omega)] <;> simp <;> omega), rfl⟩
    · go_enter Try.func29, Try.ntmps29
      go_wp2
      all_goals go_ret
      all_goals exact ⟨ret_boolR (by rw [inR_right (by omega)] <;> simp <;> omega), rfl⟩
  · go_enter Try.func29, Try.ntmps29
    go_wp2
    all_goals go_ret
    all_goals exact ⟨ret_boolR (by rw [inR_left (by omega)] <;> simp <;> omega), rfl⟩
theorem drCeil_s (A : Option Addr) (n c : Nat) (bs : List Int) (w : World) (h8 : Code8 w A n bs) : Calls Try.prog 16 #[.slice A n c] w (Two w fun x y => I64 x ∧ I64 y) := by
  go_enter Try.func16, Try.ntmps16
  go_wp2_with fail
  refine (new_s _ _ _ bs _ h8).mono ?_
  rintro e w1 ⟨g, hg, rfl, hq, hb⟩
  go_wp2_with fail
  refine (one_s _ _ hq).mono ?_
  rintro e w2 ⟨x, hx0, hx1, rfl, hd1⟩
  go_wp2_with fail
  refine (one_s _ _ hd1.2).mono ?_
  rintro e w3 ⟨y, hy0, hy1, rfl, hd2⟩
  go_wp2
  go_ret2
  exact ⟨x, y, ⟨⟨hx0, hx1⟩, hy0, hy1⟩, rfl, hb.trans ((hd1.trans hd2).below hg hb.size)⟩
theorem drMin_s (A : Option Addr) (n c : Nat) (bs : List Int) (w : World) (h8 : Code8 w A n bs) : Calls Try.prog 18 #[.slice A n c] w (Two w fun x y => I64 x ∧ I64 y) := by
  go_enter Try.func18, Try.ntmps18
  go_wp2_with fail
  refine (new_s _ _ _ bs _ h8).mono ?_
  rintro e w1 ⟨g, hg, rfl, hq, hb⟩
  go_wp2_with fail
  refine (one_s _ _ hq).mono ?_
  rintro e w2 ⟨x, hx0, hx1, rfl, hd1⟩
  go_wp2_with fail
  refine (one_s _ _ hd1.2).mono ?_
  rintro e w3 ⟨y, hy0, hy1, rfl, hd2⟩
  go_wp2
  go_ret2
  exact ⟨x, y, ⟨⟨hx0, hx1⟩, hy0, hy1⟩, rfl, hb.trans ((hd1.trans hd2).below hg hb.size)⟩
theorem drMod_s (A : Option Addr) (n c : Nat) (bs : List Int) (w : World) (h8 : Code8 w A n bs) : Calls Try.prog 17 #[.slice A n c] w (Two w fun x y => I64 x ∧ -3 ≤ y ∧ y ≤ 251) := by
  go_enter Try.func17, Try.ntmps17
  go_wp2_with fail
  refine (new_s _ _ _ bs _ h8).mono ?_
  rintro e w1 ⟨g, hg, rfl, hq, hb⟩
  go_wp2_with fail
  refine (one_s _ _ hq).mono ?_
  rintro e w2 ⟨x, hx0, hx1, rfl, hd1⟩
  go_wp2_with fail
  refine (below_s _ _ _ hd1.2 (by omega)).mono ?_
  rintro e w3 ⟨y, hy0, hy1, rfl, hd2⟩
  go_wp2_with fail
  have hd3 := (hd1.trans hd2).alloc (.cells #[.int .i64 1, .int .i64 2, .int .i64 7, .int .i64 251, .int .i64 0, .int .i64 (-3)] 3)
  refine (int_s _ _ _ _ [1, 2, 7, 251, 0, -3] _ ((hd1.trans hd2).2.alloc _) (Ri.litA (zs := [1, 2, 7, 251, 0, -3])) (by decide) (by decide) (fun b off e => by injection e with e; injection e with e; have := hd2.2.lt; omega)).mono ?_
  rintro e w4 ⟨z, hm, rfl, hd⟩
  have hz : Hid (z ∈ [1, 2, 7, 251, 0, -3]) := Lib.hid hm
  clear hm
  go_wp2
  go_ret2
  exact ⟨_, z, ⟨wrap_range _, by have := hz.out; simp at this; omega, by have := hz.out; simp at this; omega⟩, rfl, hb.trans ((((hd1.trans hd2).alloc _).trans hd).below hg hb.size)⟩
theorem drRange_s (A : Option Addr) (n c : Nat) (bs : List Int) (w : World) (h8 : Code8 w A n bs) : Calls Try.prog 19 #[.slice A n c] w (Three w fun x y z => 0 ≤ x ∧ x ≤ 5 ∧ 0 ≤ y ∧ y ≤ 5 ∧ 0 ≤ z ∧ z ≤ 5) := by
  go_enter Try.func19, Try.ntmps19
  go_wp2_with fail
  refine (new_s _ _ _ bs _ h8).mono ?_
  rintro e w1 ⟨g, hg, rfl, hq, hb⟩
  go_wp2_with fail
  refine (below_s _ _ _ hq (by omega)).mono ?_
  rintro e w2 ⟨x, hx0, hx1, rfl, hd1⟩
  go_wp2_with fail
  refine (below_s _ _ _ hd1.2 (by omega)).mono ?_
  rintro e w3 ⟨y, hy0, hy1, rfl, hd2⟩
  go_wp2_with fail
  refine (below_s _ _ _ hd2.2 (by omega)).mono ?_
  rintro e w4 ⟨z, hz0, hz1, rfl, hd3⟩
  go_wp2
  go_ret3
  exact ⟨x, y, z, ⟨hx0, by omega, hy0, by omega, hz0, by omega⟩, rfl, hb.trans (((hd1.trans hd2).trans hd3).below hg hb.size)⟩
end Go.Proofs.Ytenkmppmjfhajaa
