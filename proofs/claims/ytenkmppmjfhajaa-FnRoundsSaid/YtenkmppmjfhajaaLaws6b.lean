/- The walk of the law FnRounds: its call returns true. -/
import Derived.Test.YtenkmppmjfhajaaRows
import Derived.Test.YtenkmppmjfhajaaMem
import Derived.Test.YtenkmppmjfhajaaSetPure
import Derived.Test.YtenkmppmjfhajaaCurMem
import Derived.Test.YtenkmppmjfhajaaDraw1
import Derived.Test.YtenkmppmjfhajaaDraw2
import Derived.Test.YtenkmppmjfhajaaLaw6
import Derived.Test.YtenkmppmjfhajaaMixPure
import Derived.Test.YtenkmppmjfhajaaMix
import Derived.Test.YtenkmppmjfhajaaRng
import Derived.Test.YtenkmppmjfhajaaNum
import Derived.Deep.QuietTactic
import Derived.BigQuiet
import Derived.WalkSmall
import Derived.Deep.RegionHeld3
import Derived.Outline
namespace Go.Proofs.Ytenkmppmjfhajaa
open Go.RowKit
set_option linter.unusedVariables false

set_option maxHeartbeats 2000000 in
set_option maxRecDepth 100000 in
theorem FnRounds_walk {w : World} (A : Option Addr) (n c : Nat) (bs : List Int) (hin : InInts .u8 w w.heap.size A n c bs) :
    Calls Try.prog 4 #[.slice A n c] w fun e w' => e = .returned (.bool true) ∧ Below w.heap.size w w' := by
  by_cases big : 1048576 < n
  · go_enter Try.func4, Try.ntmps4
    go_wp2_with fail
    refine (big_yes _ _ _ _ big).mono ?_
    rintro e w1 ⟨rfl, rfl⟩
    go_wp2
    go_ret
    exact ⟨rfl, Below.refl _ _⟩
  have hn : n ≤ 1048576 := by omega
  have h8 := code8_of hin hn
  clear big hin
  go_enter Try.func4, Try.ntmps4
  go_wp2_with fail
  refine (big_no _ _ _ _ hn).mono ?_
  rintro e w0 ⟨rfl, rfl⟩
  go_wp2_with fail
  refine (drCeil_s _ _ _ bs _ h8).mono ?_
  rintro e w1 ⟨a, b, hab, rfl, hb1⟩
  go_wp2_with fail
  refine (drMod_s _ _ _ bs _ (h8.below hb1)).mono ?_
  rintro e w2 ⟨p, q, ⟨hp, hq0, hq1⟩, rfl, hb2⟩
  have hB2 := below_keep00 hb1 hb2
  go_wp2_with fail
  refine (drMin_s _ _ _ bs _ (h8.below hB2)).mono ?_
  rintro e w3 ⟨x, y, hxy, rfl, hb3⟩
  have hB3 := below_keep00 hB2 hb3
  go_wp2_with fail
  refine (drRange_s _ _ _ bs _ (h8.below hB3)).mono ?_
  rintro e w4 ⟨k, lo, hi, hk, rfl, hb4⟩
  have hB := below_keep00 hB3 hb4
  clear hab hp hxy hk hb1 hb2 hb3 hb4 hB2 hB3
  obtain ⟨X, hX⟩ : ∃ X : Int, X = if y < x then y else x := ⟨_, rfl⟩
  obtain ⟨Y, hY⟩ : ∃ Y : Int, Y = if y > x then y else x := ⟨_, rfl⟩
  by_cases h1 : 0 ≤ a
  · by_cases h2 : a ≤ 1000000000000
    · by_cases h3 : 1 ≤ b
      · by_cases h4 : b ≤ 1000000000000
        · by_cases h5 : 0 < a
          · obtain ⟨c0, c1, c2, c3⟩ := ceilD_facts h5 h2 h3 h4
            by_cases hq2 : 1 ≤ q
            · obtain ⟨r0, r1, fq⟩ := modE_facts (p := p) hq2 (show q ≤ 1000000000000 by omega)
              go_wp2_with (first
                  | (go_at_call 20; refine (ceil_i _ _ _).mono ?_; rintro e w' ⟨rfl, rfl⟩)
                  | (go_at_call 22; refine (ceil_s _ _ _).mono ?_; rintro e w' ⟨rfl, rfl⟩)
                  | (go_at_call 21; refine (mod_i _ _ _).mono ?_; rintro e w' ⟨rfl, rfl⟩)
                  | (go_at_call 23; refine (mod_s _ _ _).mono ?_; rintro e w' ⟨rfl, rfl⟩)
                  | (go_at_call 24; refine (mn_i _ _ _).mono ?_; rintro e w' ⟨rfl, rfl⟩)
                  | (go_at_call 25; refine (mn_s _ _ _).mono ?_; rintro e w' ⟨rfl, rfl⟩)
                  | (go_at_call 26; refine (mx_i _ _ _).mono ?_; rintro e w' ⟨rfl, rfl⟩)
                  | (go_at_call 27; refine (mx_s _ _ _).mono ?_; rintro e w' ⟨rfl, rfl⟩)
                  | (go_at_call 28; refine (inRg_i _ _ _ _).mono ?_; rintro e w' ⟨rfl, rfl⟩)
                  | (go_at_call 29; refine (inRgS_s _ _ _ _).mono ?_; rintro e w' ⟨rfl, rfl⟩))
              all_goals go_ret
              all_goals first | exact ⟨rfl, hB⟩ | exact ⟨by simp [fq], hB⟩
            · go_wp2_with (first
                  | (go_at_call 20; refine (ceil_i _ _ _).mono ?_; rintro e w' ⟨rfl, rfl⟩)
                  | (go_at_call 22; refine (ceil_s _ _ _).mono ?_; rintro e w' ⟨rfl, rfl⟩)
                  | (go_at_call 21; refine (mod_i _ _ _).mono ?_; rintro e w' ⟨rfl, rfl⟩)
                  | (go_at_call 23; refine (mod_s _ _ _).mono ?_; rintro e w' ⟨rfl, rfl⟩)
                  | (go_at_call 24; refine (mn_i _ _ _).mono ?_; rintro e w' ⟨rfl, rfl⟩)
                  | (go_at_call 25; refine (mn_s _ _ _).mono ?_; rintro e w' ⟨rfl, rfl⟩)
                  | (go_at_call 26; refine (mx_i _ _ _).mono ?_; rintro e w' ⟨rfl, rfl⟩)
                  | (go_at_call 27; refine (mx_s _ _ _).mono ?_; rintro e w' ⟨rfl, rfl⟩)
                  | (go_at_call 28; refine (inRg_i _ _ _ _).mono ?_; rintro e w' ⟨rfl, rfl⟩)
                  | (go_at_call 29; refine (inRgS_s _ _ _ _).mono ?_; rintro e w' ⟨rfl, rfl⟩))
              all_goals go_ret
              all_goals first | exact ⟨rfl, hB⟩ | exact ⟨by simp [fq], hB⟩
          · obtain rfl : a = 0 := by omega
            have c0 := ceilD_zero (a := 0) (b := b) (by omega)
            by_cases hq2 : 1 ≤ q
            · obtain ⟨r0, r1, fq⟩ := modE_facts (p := p) hq2 (show q ≤ 1000000000000 by omega)
              go_wp2_with (first
                  | (go_at_call 20; refine (ceil_i _ _ _).mono ?_; rintro e w' ⟨rfl, rfl⟩)
                  | (go_at_call 22; refine (ceil_s _ _ _).mono ?_; rintro e w' ⟨rfl, rfl⟩)
                  | (go_at_call 21; refine (mod_i _ _ _).mono ?_; rintro e w' ⟨rfl, rfl⟩)
                  | (go_at_call 23; refine (mod_s _ _ _).mono ?_; rintro e w' ⟨rfl, rfl⟩)
                  | (go_at_call 24; refine (mn_i _ _ _).mono ?_; rintro e w' ⟨rfl, rfl⟩)
                  | (go_at_call 25; refine (mn_s _ _ _).mono ?_; rintro e w' ⟨rfl, rfl⟩)
                  | (go_at_call 26; refine (mx_i _ _ _).mono ?_; rintro e w' ⟨rfl, rfl⟩)
                  | (go_at_call 27; refine (mx_s _ _ _).mono ?_; rintro e w' ⟨rfl, rfl⟩)
                  | (go_at_call 28; refine (inRg_i _ _ _ _).mono ?_; rintro e w' ⟨rfl, rfl⟩)
                  | (go_at_call 29; refine (inRgS_s _ _ _ _).mono ?_; rintro e w' ⟨rfl, rfl⟩))
              all_goals go_ret
              all_goals first | exact ⟨rfl, hB⟩ | exact ⟨by simp [fq], hB⟩
            · go_wp2_with (first
                  | (go_at_call 20; refine (ceil_i _ _ _).mono ?_; rintro e w' ⟨rfl, rfl⟩)
                  | (go_at_call 22; refine (ceil_s _ _ _).mono ?_; rintro e w' ⟨rfl, rfl⟩)
                  | (go_at_call 21; refine (mod_i _ _ _).mono ?_; rintro e w' ⟨rfl, rfl⟩)
                  | (go_at_call 23; refine (mod_s _ _ _).mono ?_; rintro e w' ⟨rfl, rfl⟩)
                  | (go_at_call 24; refine (mn_i _ _ _).mono ?_; rintro e w' ⟨rfl, rfl⟩)
                  | (go_at_call 25; refine (mn_s _ _ _).mono ?_; rintro e w' ⟨rfl, rfl⟩)
                  | (go_at_call 26; refine (mx_i _ _ _).mono ?_; rintro e w' ⟨rfl, rfl⟩)
                  | (go_at_call 27; refine (mx_s _ _ _).mono ?_; rintro e w' ⟨rfl, rfl⟩)
                  | (go_at_call 28; refine (inRg_i _ _ _ _).mono ?_; rintro e w' ⟨rfl, rfl⟩)
                  | (go_at_call 29; refine (inRgS_s _ _ _ _).mono ?_; rintro e w' ⟨rfl, rfl⟩))
              all_goals go_ret
              all_goals first | exact ⟨rfl, hB⟩ | exact ⟨by simp [fq], hB⟩
        · by_cases hq2 : 1 ≤ q
          · obtain ⟨r0, r1, fq⟩ := modE_facts (p := p) hq2 (show q ≤ 1000000000000 by omega)
            go_wp2_with (first
                | (go_at_call 20; refine (ceil_i _ _ _).mono ?_; rintro e w' ⟨rfl, rfl⟩)
                | (go_at_call 22; refine (ceil_s _ _ _).mono ?_; rintro e w' ⟨rfl, rfl⟩)
                | (go_at_call 21; refine (mod_i _ _ _).mono ?_; rintro e w' ⟨rfl, rfl⟩)
                | (go_at_call 23; refine (mod_s _ _ _).mono ?_; rintro e w' ⟨rfl, rfl⟩)
                | (go_at_call 24; refine (mn_i _ _ _).mono ?_; rintro e w' ⟨rfl, rfl⟩)
                | (go_at_call 25; refine (mn_s _ _ _).mono ?_; rintro e w' ⟨rfl, rfl⟩)
                | (go_at_call 26; refine (mx_i _ _ _).mono ?_; rintro e w' ⟨rfl, rfl⟩)
                | (go_at_call 27; refine (mx_s _ _ _).mono ?_; rintro e w' ⟨rfl, rfl⟩)
                | (go_at_call 28; refine (inRg_i _ _ _ _).mono ?_; rintro e w' ⟨rfl, rfl⟩)
                | (go_at_call 29; refine (inRgS_s _ _ _ _).mono ?_; rintro e w' ⟨rfl, rfl⟩))
            all_goals go_ret
            all_goals first | exact ⟨rfl, hB⟩ | exact ⟨by simp [fq], hB⟩
          · go_wp2_with (first
                | (go_at_call 20; refine (ceil_i _ _ _).mono ?_; rintro e w' ⟨rfl, rfl⟩)
                | (go_at_call 22; refine (ceil_s _ _ _).mono ?_; rintro e w' ⟨rfl, rfl⟩)
                | (go_at_call 21; refine (mod_i _ _ _).mono ?_; rintro e w' ⟨rfl, rfl⟩)
                | (go_at_call 23; refine (mod_s _ _ _).mono ?_; rintro e w' ⟨rfl, rfl⟩)
                | (go_at_call 24; refine (mn_i _ _ _).mono ?_; rintro e w' ⟨rfl, rfl⟩)
                | (go_at_call 25; refine (mn_s _ _ _).mono ?_; rintro e w' ⟨rfl, rfl⟩)
                | (go_at_call 26; refine (mx_i _ _ _).mono ?_; rintro e w' ⟨rfl, rfl⟩)
                | (go_at_call 27; refine (mx_s _ _ _).mono ?_; rintro e w' ⟨rfl, rfl⟩)
                | (go_at_call 28; refine (inRg_i _ _ _ _).mono ?_; rintro e w' ⟨rfl, rfl⟩)
                | (go_at_call 29; refine (inRgS_s _ _ _ _).mono ?_; rintro e w' ⟨rfl, rfl⟩))
            all_goals go_ret
            all_goals first | exact ⟨rfl, hB⟩ | exact ⟨by simp [fq], hB⟩
      · by_cases hq2 : 1 ≤ q
        · obtain ⟨r0, r1, fq⟩ := modE_facts (p := p) hq2 (show q ≤ 1000000000000 by omega)
          go_wp2_with (first
              | (go_at_call 20; refine (ceil_i _ _ _).mono ?_; rintro e w' ⟨rfl, rfl⟩)
              | (go_at_call 22; refine (ceil_s _ _ _).mono ?_; rintro e w' ⟨rfl, rfl⟩)
              | (go_at_call 21; refine (mod_i _ _ _).mono ?_; rintro e w' ⟨rfl, rfl⟩)
              | (go_at_call 23; refine (mod_s _ _ _).mono ?_; rintro e w' ⟨rfl, rfl⟩)
              | (go_at_call 24; refine (mn_i _ _ _).mono ?_; rintro e w' ⟨rfl, rfl⟩)
              | (go_at_call 25; refine (mn_s _ _ _).mono ?_; rintro e w' ⟨rfl, rfl⟩)
              | (go_at_call 26; refine (mx_i _ _ _).mono ?_; rintro e w' ⟨rfl, rfl⟩)
              | (go_at_call 27; refine (mx_s _ _ _).mono ?_; rintro e w' ⟨rfl, rfl⟩)
              | (go_at_call 28; refine (inRg_i _ _ _ _).mono ?_; rintro e w' ⟨rfl, rfl⟩)
              | (go_at_call 29; refine (inRgS_s _ _ _ _).mono ?_; rintro e w' ⟨rfl, rfl⟩))
          all_goals go_ret
          all_goals first | exact ⟨rfl, hB⟩ | exact ⟨by simp [fq], hB⟩
        · go_wp2_with (first
              | (go_at_call 20; refine (ceil_i _ _ _).mono ?_; rintro e w' ⟨rfl, rfl⟩)
              | (go_at_call 22; refine (ceil_s _ _ _).mono ?_; rintro e w' ⟨rfl, rfl⟩)
              | (go_at_call 21; refine (mod_i _ _ _).mono ?_; rintro e w' ⟨rfl, rfl⟩)
              | (go_at_call 23; refine (mod_s _ _ _).mono ?_; rintro e w' ⟨rfl, rfl⟩)
              | (go_at_call 24; refine (mn_i _ _ _).mono ?_; rintro e w' ⟨rfl, rfl⟩)
              | (go_at_call 25; refine (mn_s _ _ _).mono ?_; rintro e w' ⟨rfl, rfl⟩)
              | (go_at_call 26; refine (mx_i _ _ _).mono ?_; rintro e w' ⟨rfl, rfl⟩)
              | (go_at_call 27; refine (mx_s _ _ _).mono ?_; rintro e w' ⟨rfl, rfl⟩)
              | (go_at_call 28; refine (inRg_i _ _ _ _).mono ?_; rintro e w' ⟨rfl, rfl⟩)
              | (go_at_call 29; refine (inRgS_s _ _ _ _).mono ?_; rintro e w' ⟨rfl, rfl⟩))
          all_goals go_ret
          all_goals first | exact ⟨rfl, hB⟩ | exact ⟨by simp [fq], hB⟩
    · by_cases hq2 : 1 ≤ q
      · obtain ⟨r0, r1, fq⟩ := modE_facts (p := p) hq2 (show q ≤ 1000000000000 by omega)
        go_wp2_with (first
            | (go_at_call 20; refine (ceil_i _ _ _).mono ?_; rintro e w' ⟨rfl, rfl⟩)
            | (go_at_call 22; refine (ceil_s _ _ _).mono ?_; rintro e w' ⟨rfl, rfl⟩)
            | (go_at_call 21; refine (mod_i _ _ _).mono ?_; rintro e w' ⟨rfl, rfl⟩)
            | (go_at_call 23; refine (mod_s _ _ _).mono ?_; rintro e w' ⟨rfl, rfl⟩)
            | (go_at_call 24; refine (mn_i _ _ _).mono ?_; rintro e w' ⟨rfl, rfl⟩)
            | (go_at_call 25; refine (mn_s _ _ _).mono ?_; rintro e w' ⟨rfl, rfl⟩)
            | (go_at_call 26; refine (mx_i _ _ _).mono ?_; rintro e w' ⟨rfl, rfl⟩)
            | (go_at_call 27; refine (mx_s _ _ _).mono ?_; rintro e w' ⟨rfl, rfl⟩)
            | (go_at_call 28; refine (inRg_i _ _ _ _).mono ?_; rintro e w' ⟨rfl, rfl⟩)
            | (go_at_call 29; refine (inRgS_s _ _ _ _).mono ?_; rintro e w' ⟨rfl, rfl⟩))
        all_goals go_ret
        all_goals first | exact ⟨rfl, hB⟩ | exact ⟨by simp [fq], hB⟩
      · go_wp2_with (first
            | (go_at_call 20; refine (ceil_i _ _ _).mono ?_; rintro e w' ⟨rfl, rfl⟩)
            | (go_at_call 22; refine (ceil_s _ _ _).mono ?_; rintro e w' ⟨rfl, rfl⟩)
            | (go_at_call 21; refine (mod_i _ _ _).mono ?_; rintro e w' ⟨rfl, rfl⟩)
            | (go_at_call 23; refine (mod_s _ _ _).mono ?_; rintro e w' ⟨rfl, rfl⟩)
            | (go_at_call 24; refine (mn_i _ _ _).mono ?_; rintro e w' ⟨rfl, rfl⟩)
            | (go_at_call 25; refine (mn_s _ _ _).mono ?_; rintro e w' ⟨rfl, rfl⟩)
            | (go_at_call 26; refine (mx_i _ _ _).mono ?_; rintro e w' ⟨rfl, rfl⟩)
            | (go_at_call 27; refine (mx_s _ _ _).mono ?_; rintro e w' ⟨rfl, rfl⟩)
            | (go_at_call 28; refine (inRg_i _ _ _ _).mono ?_; rintro e w' ⟨rfl, rfl⟩)
            | (go_at_call 29; refine (inRgS_s _ _ _ _).mono ?_; rintro e w' ⟨rfl, rfl⟩))
        all_goals go_ret
        all_goals first | exact ⟨rfl, hB⟩ | exact ⟨by simp [fq], hB⟩
  · by_cases hq2 : 1 ≤ q
    · obtain ⟨r0, r1, fq⟩ := modE_facts (p := p) hq2 (show q ≤ 1000000000000 by omega)
      go_wp2_with (first
          | (go_at_call 20; refine (ceil_i _ _ _).mono ?_; rintro e w' ⟨rfl, rfl⟩)
          | (go_at_call 22; refine (ceil_s _ _ _).mono ?_; rintro e w' ⟨rfl, rfl⟩)
          | (go_at_call 21; refine (mod_i _ _ _).mono ?_; rintro e w' ⟨rfl, rfl⟩)
          | (go_at_call 23; refine (mod_s _ _ _).mono ?_; rintro e w' ⟨rfl, rfl⟩)
          | (go_at_call 24; refine (mn_i _ _ _).mono ?_; rintro e w' ⟨rfl, rfl⟩)
          | (go_at_call 25; refine (mn_s _ _ _).mono ?_; rintro e w' ⟨rfl, rfl⟩)
          | (go_at_call 26; refine (mx_i _ _ _).mono ?_; rintro e w' ⟨rfl, rfl⟩)
          | (go_at_call 27; refine (mx_s _ _ _).mono ?_; rintro e w' ⟨rfl, rfl⟩)
          | (go_at_call 28; refine (inRg_i _ _ _ _).mono ?_; rintro e w' ⟨rfl, rfl⟩)
          | (go_at_call 29; refine (inRgS_s _ _ _ _).mono ?_; rintro e w' ⟨rfl, rfl⟩))
      all_goals go_ret
      all_goals first | exact ⟨rfl, hB⟩ | exact ⟨by simp [fq], hB⟩
    · go_wp2_with (first
          | (go_at_call 20; refine (ceil_i _ _ _).mono ?_; rintro e w' ⟨rfl, rfl⟩)
          | (go_at_call 22; refine (ceil_s _ _ _).mono ?_; rintro e w' ⟨rfl, rfl⟩)
          | (go_at_call 21; refine (mod_i _ _ _).mono ?_; rintro e w' ⟨rfl, rfl⟩)
          | (go_at_call 23; refine (mod_s _ _ _).mono ?_; rintro e w' ⟨rfl, rfl⟩)
          | (go_at_call 24; refine (mn_i _ _ _).mono ?_; rintro e w' ⟨rfl, rfl⟩)
          | (go_at_call 25; refine (mn_s _ _ _).mono ?_; rintro e w' ⟨rfl, rfl⟩)
          | (go_at_call 26; refine (mx_i _ _ _).mono ?_; rintro e w' ⟨rfl, rfl⟩)
          | (go_at_call 27; refine (mx_s _ _ _).mono ?_; rintro e w' ⟨rfl, rfl⟩)
          | (go_at_call 28; refine (inRg_i _ _ _ _).mono ?_; rintro e w' ⟨rfl, rfl⟩)
          | (go_at_call 29; refine (inRgS_s _ _ _ _).mono ?_; rintro e w' ⟨rfl, rfl⟩))
      all_goals go_ret
      all_goals first | exact ⟨rfl, hB⟩ | exact ⟨by simp [fq], hB⟩
end Go.Proofs.Ytenkmppmjfhajaa
