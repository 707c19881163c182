/- Contracts of the functions on residues, digests and chains. -/
import Derived.Test.YtenkmppmjfhajaaRows
import Derived.Test.YtenkmppmjfhajaaMem
import Derived.Test.YtenkmppmjfhajaaLawInts
import Derived.Test.YtenkmppmjfhajaaMixPure
namespace Go.Proofs.Ytenkmppmjfhajaa
open Go.RowKit
set_option linter.unusedVariables false

theorem retInt {k : IntKind} {a b : Int} (h : a = b) : Ending.returned (.int k a) = .returned (.int k b) := by rw [h]
theorem addM_i (b s : Int) (w : World) : Calls Try.prog 12 #[.int .i64 b, .int .i64 s] w fun e w' => e = .returned (.int .i64 (addM b s)) ∧ w = w' := by
  by_cases h1 : 0 ≤ b
  · by_cases h2 : b ≤ 2147483646
    · by_cases h3 : 0 ≤ s
      · by_cases h4 : s ≤ 2147483646
        · go_enter Try.func12, Try.ntmps12
          go_wp2
          all_goals go_ret
          exact ⟨retInt (addM_in h1 h2 h3 h4), rfl⟩
        · go_enter Try.func12, Try.ntmps12
          go_wp2
          all_goals go_ret
          exact ⟨retInt (addM_out (by omega)), rfl⟩
      · go_enter Try.func12, Try.ntmps12
        go_wp2
        all_goals go_ret
        exact ⟨retInt (addM_out (by omega)), rfl⟩
    · go_enter Try.func12, Try.ntmps12
      go_wp2
      all_goals go_ret
      exact ⟨retInt (addM_out (by omega)), rfl⟩
  · go_enter Try.func12, Try.ntmps12
    go_wp2
    all_goals go_ret
    exact ⟨retInt (addM_out (by omega)), rfl⟩

theorem subM_i (b s : Int) (w : World) : Calls Try.prog 14 #[.int .i64 b, .int .i64 s] w fun e w' => e = .returned (.int .i64 (subM b s)) ∧ w = w' := by
  by_cases h1 : 0 ≤ b
  · by_cases h2 : b ≤ 2147483646
    · by_cases h3 : 0 ≤ s
      · by_cases h4 : s ≤ 2147483646
        · go_enter Try.func14, Try.ntmps14
          go_wp2
          all_goals go_ret
          exact ⟨retInt (subM_in h1 h2 h3 h4), rfl⟩
        · go_enter Try.func14, Try.ntmps14
          go_wp2
          all_goals go_ret
          exact ⟨retInt (subM_out (by omega)), rfl⟩
      · go_enter Try.func14, Try.ntmps14
        go_wp2
        all_goals go_ret
        exact ⟨retInt (subM_out (by omega)), rfl⟩
    · go_enter Try.func14, Try.ntmps14
      go_wp2
      all_goals go_ret
      exact ⟨retInt (subM_out (by omega)), rfl⟩
  · go_enter Try.func14, Try.ntmps14
    go_wp2
    all_goals go_ret
    exact ⟨retInt (subM_out (by omega)), rfl⟩

theorem mod_i (n m : Int) (w : World) : Calls Try.prog 21 #[.int .i64 n, .int .i64 m] w fun e w' => e = .returned (.int .i64 (modE n m)) ∧ w = w' := by
  by_cases h1 : 1 ≤ m
  · have hb := tmod_bounds n m h1
    have hb1 := hb.1
    have hb2 := hb.2
    clear hb
    by_cases h2 : m ≤ 1000000000000
    · go_enter Try.func21, Try.ntmps21
      go_wp2
      go_ret
      exact ⟨retInt (modE_in h1 h2), rfl⟩
    · go_enter Try.func21, Try.ntmps21
      go_wp2
      go_ret
      exact ⟨retInt (modE_out (by omega)), rfl⟩
  · go_enter Try.func21, Try.ntmps21
    go_wp2
    go_ret
    exact ⟨retInt (modE_out (by omega)), rfl⟩
theorem addM_s (b s : Int) (w : World) : Calls Try.prog 13 #[.int .i64 b, .int .i64 s] w fun e w' => e = .returned (.int .i64 (addM b s)) ∧ w = w' := by
  by_cases h1 : 0 ≤ b
  · by_cases h2 : b ≤ 2147483646
    · by_cases h3 : 0 ≤ s
      · by_cases h4 : s ≤ 2147483646
        · go_enter Try.func13, Try.ntmps13
          go_wp2
          all_goals go_ret
          exact ⟨retInt (addM_in h1 h2 h3 h4), rfl⟩
        · go_enter Try.func13, Try.ntmps13
          go_wp2
          all_goals go_ret
          exact ⟨retInt (addM_out (by omega)), rfl⟩
      · go_enter Try.func13, Try.ntmps13
        go_wp2
        all_goals go_ret
        exact ⟨retInt (addM_out (by omega)), rfl⟩
    · go_enter Try.func13, Try.ntmps13
      go_wp2
      all_goals go_ret
      exact ⟨retInt (addM_out (by omega)), rfl⟩
  · go_enter Try.func13, Try.ntmps13
    go_wp2
    all_goals go_ret
    exact ⟨retInt (addM_out (by omega)), rfl⟩

theorem subM_s (b s : Int) (w : World) : Calls Try.prog 15 #[.int .i64 b, .int .i64 s] w fun e w' => e = .returned (.int .i64 (subM b s)) ∧ w = w' := by
  by_cases h1 : 0 ≤ b
  · by_cases h2 : b ≤ 2147483646
    · by_cases h3 : 0 ≤ s
      · by_cases h4 : s ≤ 2147483646
        · go_enter Try.func15, Try.ntmps15
          go_wp2
          all_goals go_ret
          exact ⟨retInt (subM_in h1 h2 h3 h4), rfl⟩
        · go_enter Try.func15, Try.ntmps15
          go_wp2
          all_goals go_ret
          exact ⟨retInt (subM_out (by omega)), rfl⟩
      · go_enter Try.func15, Try.ntmps15
        go_wp2
        all_goals go_ret
        exact ⟨retInt (subM_out (by omega)), rfl⟩
    · go_enter Try.func15, Try.ntmps15
      go_wp2
      all_goals go_ret
      exact ⟨retInt (subM_out (by omega)), rfl⟩
  · go_enter Try.func15, Try.ntmps15
    go_wp2
    all_goals go_ret
    exact ⟨retInt (subM_out (by omega)), rfl⟩

theorem mod_s (n m : Int) (w : World) : Calls Try.prog 23 #[.int .i64 n, .int .i64 m] w fun e w' => e = .returned (.int .i64 (modE n m)) ∧ w = w' := by
  by_cases h1 : 1 ≤ m
  · have hb := tmod_bounds n m h1
    have hb1 := hb.1
    have hb2 := hb.2
    clear hb
    by_cases h2 : m ≤ 1000000000000
    · go_enter Try.func23, Try.ntmps23
      go_wp2
      go_ret
      exact ⟨retInt (modE_in h1 h2), rfl⟩
    · go_enter Try.func23, Try.ntmps23
      go_wp2
      go_ret
      exact ⟨retInt (modE_out (by omega)), rfl⟩
  · go_enter Try.func23, Try.ntmps23
    go_wp2
    go_ret
    exact ⟨retInt (modE_out (by omega)), rfl⟩
end Go.Proofs.Ytenkmppmjfhajaa
