/- The walk of the law FnMixes: its call returns true. -/
import Derived.Test.YtenkmppmjfhajaaRows
import Derived.Test.YtenkmppmjfhajaaMem
import Derived.Test.YtenkmppmjfhajaaSetPure
import Derived.Test.YtenkmppmjfhajaaCurMem
import Derived.Test.YtenkmppmjfhajaaDraw1
import Derived.Test.YtenkmppmjfhajaaDraw2
import Derived.Test.YtenkmppmjfhajaaLaw6
import Derived.Test.YtenkmppmjfhajaaMixPure
import Derived.Test.YtenkmppmjfhajaaMix
import Derived.Deep.QuietTactic
import Derived.BigQuiet
import Derived.WalkSmall
import Derived.Deep.RegionHeld3
import Derived.Outline
namespace Go.Proofs.Ytenkmppmjfhajaa
open Go.RowKit
set_option linter.unusedVariables false

theorem drAdd_s (A : Option Addr) (n c : Nat) (bs : List Int) (w : World) (h8 : Code8 w A n bs) : Calls Try.prog 10 #[.slice A n c] w (Two w fun x y => I64 x ∧ I64 y) := by
  go_enter Try.func10, Try.ntmps10
  go_wp2_with fail
  refine (two_s _ _ _ bs _ h8).mono ?_
  rintro e w1 ⟨x, y, hP, rfl, hb⟩
  go_wp2
  go_ret2
  exact ⟨x, y, hP, rfl, hb⟩
theorem drSub_s (A : Option Addr) (n c : Nat) (bs : List Int) (w : World) (h8 : Code8 w A n bs) : Calls Try.prog 11 #[.slice A n c] w (Two w fun x y => I64 x ∧ I64 y) := by
  go_enter Try.func11, Try.ntmps11
  go_wp2_with fail
  refine (two_s _ _ _ bs _ h8).mono ?_
  rintro e w1 ⟨x, y, hP, rfl, hb⟩
  go_wp2
  go_ret2
  exact ⟨x, y, hP, rfl, hb⟩
theorem mix_facts {b s : Int} (h1 : 0 ≤ b) (h2 : b ≤ 2147483646) (h3 : 0 ≤ s) (h4 : s ≤ 2147483646) : 0 ≤ addM b s ∧ addM b s < 2147483647 ∧ subM (addM b s) s = b ∧ addM (subM b s) s = b ∧ addM s b = addM b s := by
  have e1 := addM_in h1 h2 h3 h4
  have e2 := subM_in h1 h2 h3 h4
  have e3 := addM_in h3 h4 h1 h2
  have b1 : 0 ≤ addM b s ∧ addM b s ≤ 2147483646 := by omega
  have b2 : 0 ≤ subM b s ∧ subM b s ≤ 2147483646 := by omega
  have e4 := subM_in b1.1 b1.2 h3 h4
  have e5 := addM_in b2.1 b2.2 h3 h4
  refine ⟨b1.1, by omega, ?_, ?_, ?_⟩ <;> omega
set_option maxHeartbeats 2000000 in
set_option maxRecDepth 100000 in
theorem FnMixes_walk {w : World} (A : Option Addr) (n c : Nat) (bs : List Int) (hin : InInts .u8 w w.heap.size A n c bs) :
    Calls Try.prog 3 #[.slice A n c] w fun e w' => e = .returned (.bool true) ∧ Below w.heap.size w w' := by
  by_cases big : 1048576 < n
  · go_enter Try.func3, Try.ntmps3
    go_wp2_with fail
    refine (big_yes _ _ _ _ big).mono ?_
    rintro e w1 ⟨rfl, rfl⟩
    go_wp2
    go_ret
    exact ⟨rfl, Below.refl _ _⟩
  have hn : n ≤ 1048576 := by omega
  have h8 := code8_of hin hn
  clear big hin
  go_enter Try.func3, Try.ntmps3
  go_wp2_with fail
  refine (big_no _ _ _ _ hn).mono ?_
  rintro e w0 ⟨rfl, rfl⟩
  go_wp2_with fail
  refine (drAdd_s _ _ _ bs _ h8).mono ?_
  rintro e w1 ⟨b, s, hbs, rfl, hb1⟩
  go_wp2_with fail
  refine (drSub_s _ _ _ bs _ (h8.below hb1)).mono ?_
  rintro e w2 ⟨c', d', hcd, rfl, hb2⟩
  have hB := below_keep00 hb1 hb2
  clear hcd hbs
  by_cases hin : 0 ≤ b ∧ b ≤ 2147483646 ∧ 0 ≤ s ∧ s ≤ 2147483646
  · obtain ⟨h1, h2, h3, h4⟩ := hin
    obtain ⟨f1, f2, f3, f4, f5⟩ := mix_facts h1 h2 h3 h4
    have g3 : (subM (addM b s) s == b) = true := by rw [f3]; simp
    have g4 : (addM (subM b s) s == b) = true := by rw [f4]; simp
    have g5 : (addM s b == addM b s) = true := by rw [f5]; simp
    clear f3 f4 f5
    go_wp2_with (first
        | (go_at_call 12; refine (addM_i _ _ _).mono ?_; rintro e w' ⟨rfl, rfl⟩)
        | (go_at_call 13; refine (addM_s _ _ _).mono ?_; rintro e w' ⟨rfl, rfl⟩)
        | (go_at_call 14; refine (subM_i _ _ _).mono ?_; rintro e w' ⟨rfl, rfl⟩)
        | (go_at_call 15; refine (subM_s _ _ _).mono ?_; rintro e w' ⟨rfl, rfl⟩))
    go_ret
    exact ⟨rfl, hB⟩
  · have f0 : (addM b s == 0) = true := by rw [← addM_out hin]; rfl
    by_cases h1 : 0 ≤ b
    · by_cases h2 : b ≤ 2147483646
      · by_cases h3 : 0 ≤ s
        · have h4 : ¬ s ≤ 2147483646 := fun h4 => hin ⟨h1, h2, h3, h4⟩
          clear hin
          go_wp2_with (first
              | (go_at_call 12; refine (addM_i _ _ _).mono ?_; rintro e w' ⟨rfl, rfl⟩)
              | (go_at_call 13; refine (addM_s _ _ _).mono ?_; rintro e w' ⟨rfl, rfl⟩)
              | (go_at_call 14; refine (subM_i _ _ _).mono ?_; rintro e w' ⟨rfl, rfl⟩)
              | (go_at_call 15; refine (subM_s _ _ _).mono ?_; rintro e w' ⟨rfl, rfl⟩))
          go_ret
          exact ⟨rfl, hB⟩
        · clear hin
          go_wp2_with (first
              | (go_at_call 12; refine (addM_i _ _ _).mono ?_; rintro e w' ⟨rfl, rfl⟩)
              | (go_at_call 13; refine (addM_s _ _ _).mono ?_; rintro e w' ⟨rfl, rfl⟩)
              | (go_at_call 14; refine (subM_i _ _ _).mono ?_; rintro e w' ⟨rfl, rfl⟩)
              | (go_at_call 15; refine (subM_s _ _ _).mono ?_; rintro e w' ⟨rfl, rfl⟩))
          go_ret
          exact ⟨rfl, hB⟩
      · clear hin
        go_wp2_with (first
            | (go_at_call 12; refine (addM_i _ _ _).mono ?_; rintro e w' ⟨rfl, rfl⟩)
            | (go_at_call 13; refine (addM_s _ _ _).mono ?_; rintro e w' ⟨rfl, rfl⟩)
            | (go_at_call 14; refine (subM_i _ _ _).mono ?_; rintro e w' ⟨rfl, rfl⟩)
            | (go_at_call 15; refine (subM_s _ _ _).mono ?_; rintro e w' ⟨rfl, rfl⟩))
        go_ret
        exact ⟨rfl, hB⟩
    · clear hin
      go_wp2_with (first
          | (go_at_call 12; refine (addM_i _ _ _).mono ?_; rintro e w' ⟨rfl, rfl⟩)
          | (go_at_call 13; refine (addM_s _ _ _).mono ?_; rintro e w' ⟨rfl, rfl⟩)
          | (go_at_call 14; refine (subM_i _ _ _).mono ?_; rintro e w' ⟨rfl, rfl⟩)
          | (go_at_call 15; refine (subM_s _ _ _).mono ?_; rintro e w' ⟨rfl, rfl⟩))
      go_ret
      exact ⟨rfl, hB⟩
end Go.Proofs.Ytenkmppmjfhajaa
