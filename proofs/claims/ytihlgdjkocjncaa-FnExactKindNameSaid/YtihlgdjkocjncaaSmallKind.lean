/- Walks of the laws that only compute with integers: each law's call returns true. -/
import Derived.Test.YtihlgdjkocjncaaRows
import Derived.WalkKit
import Derived.WalkLawsBesides
import Derived.Below
namespace Go.Proofs.Ytihlgdjkocjncaa
open Go.RowKit
set_option linter.unusedVariables false


set_option maxHeartbeats 1000000 in
theorem kindName_walk (n : Int) (wn : (Lit.int .i64 n).wf = true) (w : World) :
    Calls Try.prog 12 #[.int .i64 n] w fun e w' => e = .returned (.bool true) ∧ Below w.heap.size w w' := by
  by_cases h1 : 0 ≤ n
  · by_cases h2 : n ≤ 5
    · rcases (show n = 0 ∨ n = 1 ∨ n = 2 ∨ n = 3 ∨ n = 4 ∨ n = 5 from by omega) with rfl | rfl | rfl | rfl | rfl | rfl
      · have hi : ∀ W, (Instr.index 30 (.agg #[.string ⟨#[110, 111, 110, 101]⟩, .string ⟨#[99, 111, 114, 101]⟩, .string ⟨#[99, 104, 105, 108, 100]⟩, .string ⟨#[112, 97, 114, 101, 110, 116]⟩, .string ⟨#[112, 101, 101, 114]⟩, .string ⟨#[115, 101, 108, 102]⟩]) (.int .i64 0)).run Try.prog W = .ok (.string ⟨#[110, 111, 110, 101]⟩) W := fun _ => by kernel_rfl
        go_enter Try.func12, Try.ntmps12
        go_wp2
        all_goals go_ret
        all_goals exact ⟨rfl, by repeat (first | exact Below.refl _ _ | exact Nat.le_refl _ | apply Below.drew | apply Below.alloc)⟩
      · have hi : ∀ W, (Instr.index 30 (.agg #[.string ⟨#[110, 111, 110, 101]⟩, .string ⟨#[99, 111, 114, 101]⟩, .string ⟨#[99, 104, 105, 108, 100]⟩, .string ⟨#[112, 97, 114, 101, 110, 116]⟩, .string ⟨#[112, 101, 101, 114]⟩, .string ⟨#[115, 101, 108, 102]⟩]) (.int .i64 1)).run Try.prog W = .ok (.string ⟨#[99, 111, 114, 101]⟩) W := fun _ => by kernel_rfl
        go_enter Try.func12, Try.ntmps12
        go_wp2
        all_goals go_ret
        all_goals exact ⟨rfl, by repeat (first | exact Below.refl _ _ | exact Nat.le_refl _ | apply Below.drew | apply Below.alloc)⟩
      · have hi : ∀ W, (Instr.index 30 (.agg #[.string ⟨#[110, 111, 110, 101]⟩, .string ⟨#[99, 111, 114, 101]⟩, .string ⟨#[99, 104, 105, 108, 100]⟩, .string ⟨#[112, 97, 114, 101, 110, 116]⟩, .string ⟨#[112, 101, 101, 114]⟩, .string ⟨#[115, 101, 108, 102]⟩]) (.int .i64 2)).run Try.prog W = .ok (.string ⟨#[99, 104, 105, 108, 100]⟩) W := fun _ => by kernel_rfl
        go_enter Try.func12, Try.ntmps12
        go_wp2
        all_goals go_ret
        all_goals exact ⟨rfl, by repeat (first | exact Below.refl _ _ | exact Nat.le_refl _ | apply Below.drew | apply Below.alloc)⟩
      · have hi : ∀ W, (Instr.index 30 (.agg #[.string ⟨#[110, 111, 110, 101]⟩, .string ⟨#[99, 111, 114, 101]⟩, .string ⟨#[99, 104, 105, 108, 100]⟩, .string ⟨#[112, 97, 114, 101, 110, 116]⟩, .string ⟨#[112, 101, 101, 114]⟩, .string ⟨#[115, 101, 108, 102]⟩]) (.int .i64 3)).run Try.prog W = .ok (.string ⟨#[112, 97, 114, 101, 110, 116]⟩) W := fun _ => by kernel_rfl
        go_enter Try.func12, Try.ntmps12
        go_wp2
        all_goals go_ret
        all_goals exact ⟨rfl, by repeat (first | exact Below.refl _ _ | exact Nat.le_refl _ | apply Below.drew | apply Below.alloc)⟩
      · have hi : ∀ W, (Instr.index 30 (.agg #[.string ⟨#[110, 111, 110, 101]⟩, .string ⟨#[99, 111, 114, 101]⟩, .string ⟨#[99, 104, 105, 108, 100]⟩, .string ⟨#[112, 97, 114, 101, 110, 116]⟩, .string ⟨#[112, 101, 101, 114]⟩, .string ⟨#[115, 101, 108, 102]⟩]) (.int .i64 4)).run Try.prog W = .ok (.string ⟨#[112, 101, 101, 114]⟩) W := fun _ => by kernel_rfl
        go_enter Try.func12, Try.ntmps12
        go_wp2
        all_goals go_ret
        all_goals exact ⟨rfl, by repeat (first | exact Below.refl _ _ | exact Nat.le_refl _ | apply Below.drew | apply Below.alloc)⟩
      · have hi : ∀ W, (Instr.index 30 (.agg #[.string ⟨#[110, 111, 110, 101]⟩, .string ⟨#[99, 111, 114, 101]⟩, .string ⟨#[99, 104, 105, 108, 100]⟩, .string ⟨#[112, 97, 114, 101, 110, 116]⟩, .string ⟨#[112, 101, 101, 114]⟩, .string ⟨#[115, 101, 108, 102]⟩]) (.int .i64 5)).run Try.prog W = .ok (.string ⟨#[115, 101, 108, 102]⟩) W := fun _ => by kernel_rfl
        go_enter Try.func12, Try.ntmps12
        go_wp2
        all_goals go_ret
        all_goals exact ⟨rfl, by repeat (first | exact Below.refl _ _ | exact Nat.le_refl _ | apply Below.drew | apply Below.alloc)⟩
    · go_enter Try.func12, Try.ntmps12
      go_wp2
      all_goals go_ret
      all_goals exact ⟨rfl, by repeat (first | exact Below.refl _ _ | exact Nat.le_refl _ | apply Below.drew | apply Below.alloc)⟩
  · go_enter Try.func12, Try.ntmps12
    go_wp2
    all_goals go_ret
    all_goals exact ⟨rfl, by repeat (first | exact Below.refl _ _ | exact Nat.le_refl _ | apply Below.drew | apply Below.alloc)⟩

end Go.Proofs.Ytihlgdjkocjncaa
