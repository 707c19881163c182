/- Walks of the laws that only compute with integers: each law's call returns true. -/
import Derived.Test.YtihlgdjkocjncaaRows
import Derived.WalkKit
import Derived.WalkLawsBesides
import Derived.Below
namespace Go.Proofs.Ytihlgdjkocjncaa
open Go.RowKit
set_option linter.unusedVariables false

theorem const_walk (w : World) : Calls Try.prog 3 #[] w fun e w' => e = .returned (.bool true) ∧ Below w.heap.size w w' := by
  go_enter Try.func3, Try.ntmps3
  go_wp2
  go_ret
  exact ⟨rfl, Below.refl _ _⟩

theorem inRange_walk (n : Int) (wn : (Lit.int .i64 n).wf = true) (a : Int) (wa : (Lit.int .i64 a).wf = true) (b : Int) (wb : (Lit.int .i64 b).wf = true) (w : World) :
    Calls Try.prog 4 #[.int .i64 n, .int .i64 a, .int .i64 b] w fun e w' => e = .returned (.bool true) ∧ Below w.heap.size w w' := by
  by_cases h1 : a ≤ n
  · by_cases h2 : n ≤ b
    · go_enter Try.func4, Try.ntmps4
      go_wp2
      all_goals go_ret
      all_goals exact ⟨rfl, by repeat (first | exact Below.refl _ _ | exact Nat.le_refl _ | apply Below.drew | apply Below.alloc)⟩
    · go_enter Try.func4, Try.ntmps4
      go_wp2
      all_goals go_ret
      all_goals exact ⟨rfl, by repeat (first | exact Below.refl _ _ | exact Nat.le_refl _ | apply Below.drew | apply Below.alloc)⟩
  · by_cases h2 : n ≤ b
    · go_enter Try.func4, Try.ntmps4
      go_wp2
      all_goals go_ret
      all_goals exact ⟨rfl, by repeat (first | exact Below.refl _ _ | exact Nat.le_refl _ | apply Below.drew | apply Below.alloc)⟩
    · go_enter Try.func4, Try.ntmps4
      go_wp2
      all_goals go_ret
      all_goals exact ⟨rfl, by repeat (first | exact Below.refl _ _ | exact Nat.le_refl _ | apply Below.drew | apply Below.alloc)⟩


theorem validKey_walk (n : Int) (wn : (Lit.int .i64 n).wf = true) (w : World) :
    Calls Try.prog 5 #[.int .i64 n] w fun e w' => e = .returned (.bool true) ∧ Below w.heap.size w w' := by
  by_cases h1 : 1 ≤ n
  · by_cases h2 : n ≤ 2147483646
    · go_enter Try.func5, Try.ntmps5
      go_wp2
      all_goals go_ret
      all_goals exact ⟨rfl, by repeat (first | exact Below.refl _ _ | exact Nat.le_refl _ | apply Below.drew | apply Below.alloc)⟩
    · go_enter Try.func5, Try.ntmps5
      go_wp2
      all_goals go_ret
      all_goals exact ⟨rfl, by repeat (first | exact Below.refl _ _ | exact Nat.le_refl _ | apply Below.drew | apply Below.alloc)⟩
  · by_cases h2 : n ≤ 2147483646
    · go_enter Try.func5, Try.ntmps5
      go_wp2
      all_goals go_ret
      all_goals exact ⟨rfl, by repeat (first | exact Below.refl _ _ | exact Nat.le_refl _ | apply Below.drew | apply Below.alloc)⟩
    · go_enter Try.func5, Try.ntmps5
      go_wp2
      all_goals go_ret
      all_goals exact ⟨rfl, by repeat (first | exact Below.refl _ _ | exact Nat.le_refl _ | apply Below.drew | apply Below.alloc)⟩


theorem validSet_walk (n : Int) (wn : (Lit.int .i64 n).wf = true) (w : World) :
    Calls Try.prog 6 #[.int .i64 n] w fun e w' => e = .returned (.bool true) ∧ Below w.heap.size w w' := by
  by_cases h1 : 0 ≤ n
  · by_cases h2 : n ≤ 65535
    · go_enter Try.func6, Try.ntmps6
      go_wp2
      all_goals go_ret
      all_goals exact ⟨rfl, by repeat (first | exact Below.refl _ _ | exact Nat.le_refl _ | apply Below.drew | apply Below.alloc)⟩
    · go_enter Try.func6, Try.ntmps6
      go_wp2
      all_goals go_ret
      all_goals exact ⟨rfl, by repeat (first | exact Below.refl _ _ | exact Nat.le_refl _ | apply Below.drew | apply Below.alloc)⟩
  · by_cases h2 : n ≤ 65535
    · go_enter Try.func6, Try.ntmps6
      go_wp2
      all_goals go_ret
      all_goals exact ⟨rfl, by repeat (first | exact Below.refl _ _ | exact Nat.le_refl _ | apply Below.drew | apply Below.alloc)⟩
    · go_enter Try.func6, Try.ntmps6
      go_wp2
      all_goals go_ret
      all_goals exact ⟨rfl, by repeat (first | exact Below.refl _ _ | exact Nat.le_refl _ | apply Below.drew | apply Below.alloc)⟩


theorem max_walk (a : Int) (wa : (Lit.int .i64 a).wf = true) (b : Int) (wb : (Lit.int .i64 b).wf = true) (w : World) :
    Calls Try.prog 7 #[.int .i64 a, .int .i64 b] w fun e w' => e = .returned (.bool true) ∧ Below w.heap.size w w' := by
  by_cases h1 : a < b
  · go_enter Try.func7, Try.ntmps7
    go_wp2
    all_goals go_ret
    all_goals exact ⟨rfl, by repeat (first | exact Below.refl _ _ | exact Nat.le_refl _ | apply Below.drew | apply Below.alloc)⟩
  · go_enter Try.func7, Try.ntmps7
    go_wp2
    all_goals go_ret
    all_goals exact ⟨rfl, by repeat (first | exact Below.refl _ _ | exact Nat.le_refl _ | apply Below.drew | apply Below.alloc)⟩


theorem min_walk (a : Int) (wa : (Lit.int .i64 a).wf = true) (b : Int) (wb : (Lit.int .i64 b).wf = true) (w : World) :
    Calls Try.prog 8 #[.int .i64 a, .int .i64 b] w fun e w' => e = .returned (.bool true) ∧ Below w.heap.size w w' := by
  by_cases h1 : b < a
  · go_enter Try.func8, Try.ntmps8
    go_wp2
    all_goals go_ret
    all_goals exact ⟨rfl, by repeat (first | exact Below.refl _ _ | exact Nat.le_refl _ | apply Below.drew | apply Below.alloc)⟩
  · go_enter Try.func8, Try.ntmps8
    go_wp2
    all_goals go_ret
    all_goals exact ⟨rfl, by repeat (first | exact Below.refl _ _ | exact Nat.le_refl _ | apply Below.drew | apply Below.alloc)⟩


theorem addMod_walk (b : Int) (wb : (Lit.int .i64 b).wf = true) (s : Int) (ws : (Lit.int .i64 s).wf = true) (w : World) :
    Calls Try.prog 13 #[.int .i64 b, .int .i64 s] w fun e w' => e = .returned (.bool true) ∧ Below w.heap.size w w' := by
  by_cases h1 : 0 ≤ b
  · by_cases h2 : b ≤ 2147483646
    · by_cases h3 : 0 ≤ s
      · by_cases h4 : s ≤ 2147483646
        · go_enter Try.func13, Try.ntmps13
          go_wp2
          all_goals go_ret
          all_goals exact ⟨rfl, by repeat (first | exact Below.refl _ _ | exact Nat.le_refl _ | apply Below.drew | apply Below.alloc)⟩
        · go_enter Try.func13, Try.ntmps13
          go_wp2
          all_goals go_ret
          all_goals exact ⟨rfl, by repeat (first | exact Below.refl _ _ | exact Nat.le_refl _ | apply Below.drew | apply Below.alloc)⟩
      · by_cases h4 : s ≤ 2147483646
        · go_enter Try.func13, Try.ntmps13
          go_wp2
          all_goals go_ret
          all_goals exact ⟨rfl, by repeat (first | exact Below.refl _ _ | exact Nat.le_refl _ | apply Below.drew | apply Below.alloc)⟩
        · go_enter Try.func13, Try.ntmps13
          go_wp2
          all_goals go_ret
          all_goals exact ⟨rfl, by repeat (first | exact Below.refl _ _ | exact Nat.le_refl _ | apply Below.drew | apply Below.alloc)⟩
    · by_cases h3 : 0 ≤ s
      · by_cases h4 : s ≤ 2147483646
        · go_enter Try.func13, Try.ntmps13
          go_wp2
          all_goals go_ret
          all_goals exact ⟨rfl, by repeat (first | exact Below.refl _ _ | exact Nat.le_refl _ | apply Below.drew | apply Below.alloc)⟩
        · go_enter Try.func13, Try.ntmps13
          go_wp2
          all_goals go_ret
          all_goals exact ⟨rfl, by repeat (first | exact Below.refl _ _ | exact Nat.le_refl _ | apply Below.drew | apply Below.alloc)⟩
      · by_cases h4 : s ≤ 2147483646
        · go_enter Try.func13, Try.ntmps13
          go_wp2
          all_goals go_ret
          all_goals exact ⟨rfl, by repeat (first | exact Below.refl _ _ | exact Nat.le_refl _ | apply Below.drew | apply Below.alloc)⟩
        · go_enter Try.func13, Try.ntmps13
          go_wp2
          all_goals go_ret
          all_goals exact ⟨rfl, by repeat (first | exact Below.refl _ _ | exact Nat.le_refl _ | apply Below.drew | apply Below.alloc)⟩
  · by_cases h2 : b ≤ 2147483646
    · by_cases h3 : 0 ≤ s
      · by_cases h4 : s ≤ 2147483646
        · go_enter Try.func13, Try.ntmps13
          go_wp2
          all_goals go_ret
          all_goals exact ⟨rfl, by repeat (first | exact Below.refl _ _ | exact Nat.le_refl _ | apply Below.drew | apply Below.alloc)⟩
        · go_enter Try.func13, Try.ntmps13
          go_wp2
          all_goals go_ret
          all_goals exact ⟨rfl, by repeat (first | exact Below.refl _ _ | exact Nat.le_refl _ | apply Below.drew | apply Below.alloc)⟩
      · by_cases h4 : s ≤ 2147483646
        · go_enter Try.func13, Try.ntmps13
          go_wp2
          all_goals go_ret
          all_goals exact ⟨rfl, by repeat (first | exact Below.refl _ _ | exact Nat.le_refl _ | apply Below.drew | apply Below.alloc)⟩
        · go_enter Try.func13, Try.ntmps13
          go_wp2
          all_goals go_ret
          all_goals exact ⟨rfl, by repeat (first | exact Below.refl _ _ | exact Nat.le_refl _ | apply Below.drew | apply Below.alloc)⟩
    · by_cases h3 : 0 ≤ s
      · by_cases h4 : s ≤ 2147483646
        · go_enter Try.func13, Try.ntmps13
          go_wp2
          all_goals go_ret
          all_goals exact ⟨rfl, by repeat (first | exact Below.refl _ _ | exact Nat.le_refl _ | apply Below.drew | apply Below.alloc)⟩
        · go_enter Try.func13, Try.ntmps13
          go_wp2
          all_goals go_ret
          all_goals exact ⟨rfl, by repeat (first | exact Below.refl _ _ | exact Nat.le_refl _ | apply Below.drew | apply Below.alloc)⟩
      · by_cases h4 : s ≤ 2147483646
        · go_enter Try.func13, Try.ntmps13
          go_wp2
          all_goals go_ret
          all_goals exact ⟨rfl, by repeat (first | exact Below.refl _ _ | exact Nat.le_refl _ | apply Below.drew | apply Below.alloc)⟩
        · go_enter Try.func13, Try.ntmps13
          go_wp2
          all_goals go_ret
          all_goals exact ⟨rfl, by repeat (first | exact Below.refl _ _ | exact Nat.le_refl _ | apply Below.drew | apply Below.alloc)⟩


theorem subMod_walk (b : Int) (wb : (Lit.int .i64 b).wf = true) (s : Int) (ws : (Lit.int .i64 s).wf = true) (w : World) :
    Calls Try.prog 14 #[.int .i64 b, .int .i64 s] w fun e w' => e = .returned (.bool true) ∧ Below w.heap.size w w' := by
  by_cases h1 : 0 ≤ b
  · by_cases h2 : b ≤ 2147483646
    · by_cases h3 : 0 ≤ s
      · by_cases h4 : s ≤ 2147483646
        · go_enter Try.func14, Try.ntmps14
          go_wp2
          all_goals go_ret
          all_goals exact ⟨rfl, by repeat (first | exact Below.refl _ _ | exact Nat.le_refl _ | apply Below.drew | apply Below.alloc)⟩
        · go_enter Try.func14, Try.ntmps14
          go_wp2
          all_goals go_ret
          all_goals exact ⟨rfl, by repeat (first | exact Below.refl _ _ | exact Nat.le_refl _ | apply Below.drew | apply Below.alloc)⟩
      · by_cases h4 : s ≤ 2147483646
        · go_enter Try.func14, Try.ntmps14
          go_wp2
          all_goals go_ret
          all_goals exact ⟨rfl, by repeat (first | exact Below.refl _ _ | exact Nat.le_refl _ | apply Below.drew | apply Below.alloc)⟩
        · go_enter Try.func14, Try.ntmps14
          go_wp2
          all_goals go_ret
          all_goals exact ⟨rfl, by repeat (first | exact Below.refl _ _ | exact Nat.le_refl _ | apply Below.drew | apply Below.alloc)⟩
    · by_cases h3 : 0 ≤ s
      · by_cases h4 : s ≤ 2147483646
        · go_enter Try.func14, Try.ntmps14
          go_wp2
          all_goals go_ret
          all_goals exact ⟨rfl, by repeat (first | exact Below.refl _ _ | exact Nat.le_refl _ | apply Below.drew | apply Below.alloc)⟩
        · go_enter Try.func14, Try.ntmps14
          go_wp2
          all_goals go_ret
          all_goals exact ⟨rfl, by repeat (first | exact Below.refl _ _ | exact Nat.le_refl _ | apply Below.drew | apply Below.alloc)⟩
      · by_cases h4 : s ≤ 2147483646
        · go_enter Try.func14, Try.ntmps14
          go_wp2
          all_goals go_ret
          all_goals exact ⟨rfl, by repeat (first | exact Below.refl _ _ | exact Nat.le_refl _ | apply Below.drew | apply Below.alloc)⟩
        · go_enter Try.func14, Try.ntmps14
          go_wp2
          all_goals go_ret
          all_goals exact ⟨rfl, by repeat (first | exact Below.refl _ _ | exact Nat.le_refl _ | apply Below.drew | apply Below.alloc)⟩
  · by_cases h2 : b ≤ 2147483646
    · by_cases h3 : 0 ≤ s
      · by_cases h4 : s ≤ 2147483646
        · go_enter Try.func14, Try.ntmps14
          go_wp2
          all_goals go_ret
          all_goals exact ⟨rfl, by repeat (first | exact Below.refl _ _ | exact Nat.le_refl _ | apply Below.drew | apply Below.alloc)⟩
        · go_enter Try.func14, Try.ntmps14
          go_wp2
          all_goals go_ret
          all_goals exact ⟨rfl, by repeat (first | exact Below.refl _ _ | exact Nat.le_refl _ | apply Below.drew | apply Below.alloc)⟩
      · by_cases h4 : s ≤ 2147483646
        · go_enter Try.func14, Try.ntmps14
          go_wp2
          all_goals go_ret
          all_goals exact ⟨rfl, by repeat (first | exact Below.refl _ _ | exact Nat.le_refl _ | apply Below.drew | apply Below.alloc)⟩
        · go_enter Try.func14, Try.ntmps14
          go_wp2
          all_goals go_ret
          all_goals exact ⟨rfl, by repeat (first | exact Below.refl _ _ | exact Nat.le_refl _ | apply Below.drew | apply Below.alloc)⟩
    · by_cases h3 : 0 ≤ s
      · by_cases h4 : s ≤ 2147483646
        · go_enter Try.func14, Try.ntmps14
          go_wp2
          all_goals go_ret
          all_goals exact ⟨rfl, by repeat (first | exact Below.refl _ _ | exact Nat.le_refl _ | apply Below.drew | apply Below.alloc)⟩
        · go_enter Try.func14, Try.ntmps14
          go_wp2
          all_goals go_ret
          all_goals exact ⟨rfl, by repeat (first | exact Below.refl _ _ | exact Nat.le_refl _ | apply Below.drew | apply Below.alloc)⟩
      · by_cases h4 : s ≤ 2147483646
        · go_enter Try.func14, Try.ntmps14
          go_wp2
          all_goals go_ret
          all_goals exact ⟨rfl, by repeat (first | exact Below.refl _ _ | exact Nat.le_refl _ | apply Below.drew | apply Below.alloc)⟩
        · go_enter Try.func14, Try.ntmps14
          go_wp2
          all_goals go_ret
          all_goals exact ⟨rfl, by repeat (first | exact Below.refl _ _ | exact Nat.le_refl _ | apply Below.drew | apply Below.alloc)⟩


theorem ceilDiv_walk (a : Int) (wa : (Lit.int .i64 a).wf = true) (b : Int) (wb : (Lit.int .i64 b).wf = true) (w : World) :
    Calls Try.prog 10 #[.int .i64 a, .int .i64 b] w fun e w' => e = .returned (.bool true) ∧ Below w.heap.size w w' := by
  by_cases h1 : 0 ≤ a
  · by_cases h2 : a ≤ 1000000000000
    · by_cases h3 : 1 ≤ b
      · by_cases h4 : b ≤ 1000000000000
        · go_enter Try.func10, Try.ntmps10
          go_wp2
          all_goals go_ret
          all_goals exact ⟨rfl, by repeat (first | exact Below.refl _ _ | exact Nat.le_refl _ | apply Below.drew | apply Below.alloc)⟩
        · go_enter Try.func10, Try.ntmps10
          go_wp2
          all_goals go_ret
          all_goals exact ⟨rfl, by repeat (first | exact Below.refl _ _ | exact Nat.le_refl _ | apply Below.drew | apply Below.alloc)⟩
      · by_cases h4 : b ≤ 1000000000000
        · go_enter Try.func10, Try.ntmps10
          go_wp2
          all_goals go_ret
          all_goals exact ⟨rfl, by repeat (first | exact Below.refl _ _ | exact Nat.le_refl _ | apply Below.drew | apply Below.alloc)⟩
        · go_enter Try.func10, Try.ntmps10
          go_wp2
          all_goals go_ret
          all_goals exact ⟨rfl, by repeat (first | exact Below.refl _ _ | exact Nat.le_refl _ | apply Below.drew | apply Below.alloc)⟩
    · by_cases h3 : 1 ≤ b
      · by_cases h4 : b ≤ 1000000000000
        · go_enter Try.func10, Try.ntmps10
          go_wp2
          all_goals go_ret
          all_goals exact ⟨rfl, by repeat (first | exact Below.refl _ _ | exact Nat.le_refl _ | apply Below.drew | apply Below.alloc)⟩
        · go_enter Try.func10, Try.ntmps10
          go_wp2
          all_goals go_ret
          all_goals exact ⟨rfl, by repeat (first | exact Below.refl _ _ | exact Nat.le_refl _ | apply Below.drew | apply Below.alloc)⟩
      · by_cases h4 : b ≤ 1000000000000
        · go_enter Try.func10, Try.ntmps10
          go_wp2
          all_goals go_ret
          all_goals exact ⟨rfl, by repeat (first | exact Below.refl _ _ | exact Nat.le_refl _ | apply Below.drew | apply Below.alloc)⟩
        · go_enter Try.func10, Try.ntmps10
          go_wp2
          all_goals go_ret
          all_goals exact ⟨rfl, by repeat (first | exact Below.refl _ _ | exact Nat.le_refl _ | apply Below.drew | apply Below.alloc)⟩
  · by_cases h2 : a ≤ 1000000000000
    · by_cases h3 : 1 ≤ b
      · by_cases h4 : b ≤ 1000000000000
        · go_enter Try.func10, Try.ntmps10
          go_wp2
          all_goals go_ret
          all_goals exact ⟨rfl, by repeat (first | exact Below.refl _ _ | exact Nat.le_refl _ | apply Below.drew | apply Below.alloc)⟩
        · go_enter Try.func10, Try.ntmps10
          go_wp2
          all_goals go_ret
          all_goals exact ⟨rfl, by repeat (first | exact Below.refl _ _ | exact Nat.le_refl _ | apply Below.drew | apply Below.alloc)⟩
      · by_cases h4 : b ≤ 1000000000000
        · go_enter Try.func10, Try.ntmps10
          go_wp2
          all_goals go_ret
          all_goals exact ⟨rfl, by repeat (first | exact Below.refl _ _ | exact Nat.le_refl _ | apply Below.drew | apply Below.alloc)⟩
        · go_enter Try.func10, Try.ntmps10
          go_wp2
          all_goals go_ret
          all_goals exact ⟨rfl, by repeat (first | exact Below.refl _ _ | exact Nat.le_refl _ | apply Below.drew | apply Below.alloc)⟩
    · by_cases h3 : 1 ≤ b
      · by_cases h4 : b ≤ 1000000000000
        · go_enter Try.func10, Try.ntmps10
          go_wp2
          all_goals go_ret
          all_goals exact ⟨rfl, by repeat (first | exact Below.refl _ _ | exact Nat.le_refl _ | apply Below.drew | apply Below.alloc)⟩
        · go_enter Try.func10, Try.ntmps10
          go_wp2
          all_goals go_ret
          all_goals exact ⟨rfl, by repeat (first | exact Below.refl _ _ | exact Nat.le_refl _ | apply Below.drew | apply Below.alloc)⟩
      · by_cases h4 : b ≤ 1000000000000
        · go_enter Try.func10, Try.ntmps10
          go_wp2
          all_goals go_ret
          all_goals exact ⟨rfl, by repeat (first | exact Below.refl _ _ | exact Nat.le_refl _ | apply Below.drew | apply Below.alloc)⟩
        · go_enter Try.func10, Try.ntmps10
          go_wp2
          all_goals go_ret
          all_goals exact ⟨rfl, by repeat (first | exact Below.refl _ _ | exact Nat.le_refl _ | apply Below.drew | apply Below.alloc)⟩


theorem mod_walk (n : Int) (wn : (Lit.int .i64 n).wf = true) (m : Int) (wm : (Lit.int .i64 m).wf = true) (w : World) :
    Calls Try.prog 11 #[.int .i64 n, .int .i64 m] w fun e w' => e = .returned (.bool true) ∧ Below w.heap.size w w' := by
  by_cases h1 : 1 ≤ m
  · by_cases h2 : m ≤ 1000000000000
    · go_enter Try.func11, Try.ntmps11
      go_wp2
      all_goals go_ret
      all_goals exact ⟨rfl, by repeat (first | exact Below.refl _ _ | exact Nat.le_refl _ | apply Below.drew | apply Below.alloc)⟩
    · go_enter Try.func11, Try.ntmps11
      go_wp2
      all_goals go_ret
      all_goals exact ⟨rfl, by repeat (first | exact Below.refl _ _ | exact Nat.le_refl _ | apply Below.drew | apply Below.alloc)⟩
  · by_cases h2 : m ≤ 1000000000000
    · go_enter Try.func11, Try.ntmps11
      go_wp2
      all_goals go_ret
      all_goals exact ⟨rfl, by repeat (first | exact Below.refl _ _ | exact Nat.le_refl _ | apply Below.drew | apply Below.alloc)⟩
    · go_enter Try.func11, Try.ntmps11
      go_wp2
      all_goals go_ret
      all_goals exact ⟨rfl, by repeat (first | exact Below.refl _ _ | exact Nat.le_refl _ | apply Below.drew | apply Below.alloc)⟩


theorem contains_walk (s : Int) (ws : (Lit.int .i64 s).wf = true) (i : Int) (wi : (Lit.int .i64 i).wf = true) (w : World) :
    Calls Try.prog 9 #[.int .i64 s, .int .i64 i] w fun e w' => e = .returned (.bool true) ∧ Below w.heap.size w w' := by
  by_cases h1 : 0 ≤ s
  · by_cases h2 : s ≤ 65535
    · by_cases h3 : 0 ≤ i
      · by_cases h4 : i ≤ 15
        · go_enter Try.func9, Try.ntmps9
          go_wp2
          all_goals go_ret
          all_goals exact ⟨rfl, by repeat (first | exact Below.refl _ _ | exact Nat.le_refl _ | apply Below.drew | apply Below.alloc)⟩
        · go_enter Try.func9, Try.ntmps9
          go_wp2
          all_goals go_ret
          all_goals exact ⟨rfl, by repeat (first | exact Below.refl _ _ | exact Nat.le_refl _ | apply Below.drew | apply Below.alloc)⟩
      · by_cases h4 : i ≤ 15
        · go_enter Try.func9, Try.ntmps9
          go_wp2
          all_goals go_ret
          all_goals exact ⟨rfl, by repeat (first | exact Below.refl _ _ | exact Nat.le_refl _ | apply Below.drew | apply Below.alloc)⟩
        · go_enter Try.func9, Try.ntmps9
          go_wp2
          all_goals go_ret
          all_goals exact ⟨rfl, by repeat (first | exact Below.refl _ _ | exact Nat.le_refl _ | apply Below.drew | apply Below.alloc)⟩
    · by_cases h3 : 0 ≤ i
      · by_cases h4 : i ≤ 15
        · go_enter Try.func9, Try.ntmps9
          go_wp2
          all_goals go_ret
          all_goals exact ⟨rfl, by repeat (first | exact Below.refl _ _ | exact Nat.le_refl _ | apply Below.drew | apply Below.alloc)⟩
        · go_enter Try.func9, Try.ntmps9
          go_wp2
          all_goals go_ret
          all_goals exact ⟨rfl, by repeat (first | exact Below.refl _ _ | exact Nat.le_refl _ | apply Below.drew | apply Below.alloc)⟩
      · by_cases h4 : i ≤ 15
        · go_enter Try.func9, Try.ntmps9
          go_wp2
          all_goals go_ret
          all_goals exact ⟨rfl, by repeat (first | exact Below.refl _ _ | exact Nat.le_refl _ | apply Below.drew | apply Below.alloc)⟩
        · go_enter Try.func9, Try.ntmps9
          go_wp2
          all_goals go_ret
          all_goals exact ⟨rfl, by repeat (first | exact Below.refl _ _ | exact Nat.le_refl _ | apply Below.drew | apply Below.alloc)⟩
  · by_cases h2 : s ≤ 65535
    · by_cases h3 : 0 ≤ i
      · by_cases h4 : i ≤ 15
        · go_enter Try.func9, Try.ntmps9
          go_wp2
          all_goals go_ret
          all_goals exact ⟨rfl, by repeat (first | exact Below.refl _ _ | exact Nat.le_refl _ | apply Below.drew | apply Below.alloc)⟩
        · go_enter Try.func9, Try.ntmps9
          go_wp2
          all_goals go_ret
          all_goals exact ⟨rfl, by repeat (first | exact Below.refl _ _ | exact Nat.le_refl _ | apply Below.drew | apply Below.alloc)⟩
      · by_cases h4 : i ≤ 15
        · go_enter Try.func9, Try.ntmps9
          go_wp2
          all_goals go_ret
          all_goals exact ⟨rfl, by repeat (first | exact Below.refl _ _ | exact Nat.le_refl _ | apply Below.drew | apply Below.alloc)⟩
        · go_enter Try.func9, Try.ntmps9
          go_wp2
          all_goals go_ret
          all_goals exact ⟨rfl, by repeat (first | exact Below.refl _ _ | exact Nat.le_refl _ | apply Below.drew | apply Below.alloc)⟩
    · by_cases h3 : 0 ≤ i
      · by_cases h4 : i ≤ 15
        · go_enter Try.func9, Try.ntmps9
          go_wp2
          all_goals go_ret
          all_goals exact ⟨rfl, by repeat (first | exact Below.refl _ _ | exact Nat.le_refl _ | apply Below.drew | apply Below.alloc)⟩
        · go_enter Try.func9, Try.ntmps9
          go_wp2
          all_goals go_ret
          all_goals exact ⟨rfl, by repeat (first | exact Below.refl _ _ | exact Nat.le_refl _ | apply Below.drew | apply Below.alloc)⟩
      · by_cases h4 : i ≤ 15
        · go_enter Try.func9, Try.ntmps9
          go_wp2
          all_goals go_ret
          all_goals exact ⟨rfl, by repeat (first | exact Below.refl _ _ | exact Nat.le_refl _ | apply Below.drew | apply Below.alloc)⟩
        · go_enter Try.func9, Try.ntmps9
          go_wp2
          all_goals go_ret
          all_goals exact ⟨rfl, by repeat (first | exact Below.refl _ _ | exact Nat.le_refl _ | apply Below.drew | apply Below.alloc)⟩

end Go.Proofs.Ytihlgdjkocjncaa
