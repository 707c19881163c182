/- Contracts of InRange and l1In: whether a number lies between two others. -/
import Derived.Test.YtehfcejpoigclaaRows
import Derived.Test.YtehfcejpoigclaaSetPure
namespace Go.Proofs.Ytehfcejpoigclaa
open Go.RowKit
set_option linter.unusedVariables false

theorem ret_boolR {a b : Bool} (h : a = b) : Ending.returned (.bool a) = .returned (.bool b) := by rw [h]
theorem inRg_i (x a b : Int) (w : World) : Calls Try.prog 54 #[.int .i64 x, .int .i64 a, .int .i64 b] w fun e w' => e = .returned (.bool (inR x a b)) ∧ w = w' := by
  by_cases h1 : a ≤ x
  · by_cases h2 : x ≤ b
    · go_enter Try.func54, Try.ntmps54
      go_wp2
      all_goals go_ret
      all_goals exact ⟨ret_boolR (by rw [inR_true (by omega) (by omega)] <;> simp <;> omega), rfl⟩
    · go_enter Try.func54, Try.ntmps54
      go_wp2
      all_goals go_ret
      all_goals exact ⟨ret_boolR (by rw [inR_right (by omega)] <;> simp <;> omega), rfl⟩
  · go_enter Try.func54, Try.ntmps54
    go_wp2
    all_goals go_ret
    all_goals exact ⟨ret_boolR (by rw [inR_left (by omega)] <;> simp <;> omega), rfl⟩
theorem inRg_s (x a b : Int) (w : World) : Calls Try.prog 57 #[.int .i64 x, .int .i64 a, .int .i64 b] w fun e w' => e = .returned (.bool (inR x a b)) ∧ w = w' := by
  by_cases h1 : a ≤ x
  · by_cases h2 : x ≤ b
    · go_enter Try.func57, Try.ntmps57
      go_wp2
      all_goals go_ret
      all_goals exact ⟨ret_boolR (by rw [inR_true (by omega) (by omega)] <;> simp <;> omega), rfl⟩
    · go_enter Try.func57, Try.ntmps57
      go_wp2
      all_goals go_ret
      all_goals exact ⟨ret_boolR (by rw [inR_right (by omega)] <;> simp <;> omega), rfl⟩
  · go_enter Try.func57, Try.ntmps57
    go_wp2
    all_goals go_ret
    all_goals exact ⟨ret_boolR (by rw [inR_left (by omega)] <;> simp <;> omega), rfl⟩
end Go.Proofs.Ytehfcejpoigclaa
