/- The walk of the law FnSets: its call returns true. -/
import Derived.Test.YtenkmppmjfhajaaRows
import Derived.Test.YtenkmppmjfhajaaMem
import Derived.Test.YtenkmppmjfhajaaSetPure
import Derived.Test.YtenkmppmjfhajaaCurMem
import Derived.Test.YtenkmppmjfhajaaDraw1
import Derived.Test.YtenkmppmjfhajaaDraw2
import Derived.Test.YtenkmppmjfhajaaLaw6
import Derived.Test.YtenkmppmjfhajaaDraw3
import Derived.Test.YtenkmppmjfhajaaSetPure2
import Derived.Test.YtenkmppmjfhajaaLawInts
import Derived.Test.YtenkmppmjfhajaaSets
import Derived.Test.YtenkmppmjfhajaaSame
import Derived.Test.YtenkmppmjfhajaaRng
import Derived.Test.YtenkmppmjfhajaaDraw4
import Derived.Deep.QuietTactic
import Derived.BigQuiet
import Derived.WalkSmall
import Derived.Deep.RegionHeld3
import Derived.Outline
namespace Go.Proofs.Ytenkmppmjfhajaa
open Go.RowKit
set_option linter.unusedVariables false

set_option maxHeartbeats 2000000 in
set_option maxRecDepth 100000 in
theorem FnSets_walk {w : World} (A : Option Addr) (n c : Nat) (bs : List Int) (hin : InInts .u8 w w.heap.size A n c bs) :
    Calls Try.prog 6 #[.slice A n c] w fun e w' => e = .returned (.bool true) ∧ Below w.heap.size w w' := by
  by_cases big : 1048576 < n
  · go_enter Try.func6, Try.ntmps6
    go_wp2_with fail
    refine (big_yes _ _ _ _ big).mono ?_
    rintro e w1 ⟨rfl, rfl⟩
    go_wp2
    go_ret
    exact ⟨rfl, Below.refl _ _⟩
  have hn : n ≤ 1048576 := by omega
  have h8 := code8_of hin hn
  clear big hin
  go_enter Try.func6, Try.ntmps6
  go_wp2_with fail
  refine (big_no _ _ _ _ hn).mono ?_
  rintro e w0 ⟨rfl, rfl⟩
  go_wp2_with fail
  refine (drCont_s _ _ _ bs _ h8).mono ?_
  rintro e w1 ⟨s, i, hsi, rfl, hb1⟩
  go_wp2_with fail
  refine (drUnion_s _ _ _ bs _ (h8.below hb1)).mono ?_
  rintro e w2 ⟨a, b, hab, rfl, hb2⟩
  have hB2 := below_keep00 hb1 hb2
  go_wp2_with fail
  refine (drMake_s _ _ _ bs _ (h8.below hB2)).mono ?_
  rintro e w3 ⟨C, cn, cc, cz, rfl, hcn, hcc, hcr, hb3⟩
  have hB3 := below_keep00 hB2 hb3
  clear hsi hab hb1 hb2 hb3 hB2 h8
  go_wp2_with fail
  refine (elements_i _ _).mono ?_
  rintro e w4 ⟨L, lc, rfl, hlo, hb4⟩
  have hcr4 := hcr.below hb4 (Nat.le_refl _)
  have hB4 := below_keep00 hB3 hb4
  have hlr := hlo.rd
  have hln := elemsTo_len s 16
  have eL : (elemsE s).length ≤ 16 := hln
  clear hcr hb4 hB3 hlo hln
  go_wp2_with (first
      | (go_at_call 40; refine (contains_i _ _ _).mono ?_; rintro e w' ⟨rfl, rfl⟩)
      | (go_at_call 41; refine (contains_s _ _ _).mono ?_; rintro e w' ⟨rfl, rfl⟩)
      | (go_at_call 42; refine (add_i _ _ _).mono ?_; rintro e w' ⟨rfl, rfl⟩)
      | (go_at_call 43; refine (add_s _ _ _).mono ?_; rintro e w' ⟨rfl, rfl⟩)
      | (go_at_call 44; refine (del_i _ _ _).mono ?_; rintro e w' ⟨rfl, rfl⟩)
      | (go_at_call 45; refine (del_s _ _ _).mono ?_; rintro e w' ⟨rfl, rfl⟩)
      | (go_at_call 46; refine (uni_i _ _ _).mono ?_; rintro e w' ⟨rfl, rfl⟩)
      | (go_at_call 47; refine (uni_s _ _ _).mono ?_; rintro e w' ⟨rfl, rfl⟩)
      | (go_at_call 48; refine (inter_i _ _ _).mono ?_; rintro e w' ⟨rfl, rfl⟩)
      | (go_at_call 49; refine (inter_s _ _ _).mono ?_; rintro e w' ⟨rfl, rfl⟩)
      | (go_at_call 55; refine (vset_i _ _).mono ?_; rintro e w' ⟨rfl, rfl⟩)
      | (go_at_call 56; refine (vset_s _ _).mono ?_; rintro e w' ⟨rfl, rfl⟩)
      | (go_at_call 50; refine (makeSet_i _ _ _ _ _ hcr4 (by omega)).mono ?_; rintro e w' ⟨rfl, rfl⟩)
      | (go_at_call 51; refine (makeSet_s _ _ _ _ _ hcr4 (by omega)).mono ?_; rintro e w' ⟨rfl, rfl⟩))
  refine (elements_s _ _).mono ?_
  rintro e w5 ⟨M, mc, rfl, hmo, hb5⟩
  have hlr5 := hlr.below hb5 (Nat.le_refl _)
  have hmr5 := hmo.rd
  clear hmo hlr hcr4
  go_wp2_with fail
  refine (sameI_any _ _ _ _ _ _ _ _ _ hlr5 hmr5 (by omega) (by omega)).mono ?_
  rintro e w6 ⟨rfl, hb6⟩
  have hlr6 := hlr5.below hb6 (Nat.le_refl _)
  have hB6 := below_keep00 (below_keep00 hB4 hb5) hb6
  clear hlr5 hmr5 hb5 hb6 hB4
  have hdec : decide (elemsE s = elemsE s) = true := by simp
  go_wp2_with fail
  refine (setSize_i _ _).mono ?_
  rintro e w7 ⟨rfl, hb7⟩
  have hlr7 := hlr6.below hb7 (Nat.le_refl _)
  have hB := below_keep00 hB6 hb7
  clear hlr6 hb7 hB6
  by_cases h1 : 0 ≤ s ∧ s ≤ 65535
  · obtain ⟨h1, h2⟩ := h1
    have v1 : inR s 0 65535 = true := inR_true h1 h2
    by_cases h3 : 0 ≤ i
    · by_cases h4 : i ≤ 15
      · obtain ⟨f1, f2, f3, f4⟩ := set_facts h1 h2 h3 h4
        have g3 : (mkSet (elemsE s) == s) = true := by rw [f3]; simp
        clear f3
        have l1 : (elemsE (addE s i)).length ≤ 16 := elemsTo_len _ 16
        have l2 : (elemsE (delE s i)).length ≤ 16 := elemsTo_len _ 16
        have g4 : (((elemsE (addE s i)).length : Int) - ((elemsE (delE s i)).length : Int) == 1) = true := by rw [f4]; rfl
        clear f4
        go_wp2_with (first
            | (go_at_call 40; refine (contains_i _ _ _).mono ?_; rintro e w' ⟨rfl, rfl⟩)
            | (go_at_call 41; refine (contains_s _ _ _).mono ?_; rintro e w' ⟨rfl, rfl⟩)
            | (go_at_call 42; refine (add_i _ _ _).mono ?_; rintro e w' ⟨rfl, rfl⟩)
            | (go_at_call 43; refine (add_s _ _ _).mono ?_; rintro e w' ⟨rfl, rfl⟩)
            | (go_at_call 44; refine (del_i _ _ _).mono ?_; rintro e w' ⟨rfl, rfl⟩)
            | (go_at_call 45; refine (del_s _ _ _).mono ?_; rintro e w' ⟨rfl, rfl⟩)
            | (go_at_call 46; refine (uni_i _ _ _).mono ?_; rintro e w' ⟨rfl, rfl⟩)
            | (go_at_call 47; refine (uni_s _ _ _).mono ?_; rintro e w' ⟨rfl, rfl⟩)
            | (go_at_call 48; refine (inter_i _ _ _).mono ?_; rintro e w' ⟨rfl, rfl⟩)
            | (go_at_call 49; refine (inter_s _ _ _).mono ?_; rintro e w' ⟨rfl, rfl⟩)
            | (go_at_call 55; refine (vset_i _ _).mono ?_; rintro e w' ⟨rfl, rfl⟩)
            | (go_at_call 56; refine (vset_s _ _).mono ?_; rintro e w' ⟨rfl, rfl⟩)
            | (go_at_call 50; refine (makeSet_i _ _ _ _ _ hlr7 (by omega)).mono ?_; rintro e w' ⟨rfl, rfl⟩))
        refine (setSize_i _ _).mono ?_
        rintro e w8 ⟨rfl, hb8⟩
        go_wp2_with (first
            | (go_at_call 40; refine (contains_i _ _ _).mono ?_; rintro e w' ⟨rfl, rfl⟩)
            | (go_at_call 41; refine (contains_s _ _ _).mono ?_; rintro e w' ⟨rfl, rfl⟩)
            | (go_at_call 42; refine (add_i _ _ _).mono ?_; rintro e w' ⟨rfl, rfl⟩)
            | (go_at_call 43; refine (add_s _ _ _).mono ?_; rintro e w' ⟨rfl, rfl⟩)
            | (go_at_call 44; refine (del_i _ _ _).mono ?_; rintro e w' ⟨rfl, rfl⟩)
            | (go_at_call 45; refine (del_s _ _ _).mono ?_; rintro e w' ⟨rfl, rfl⟩)
            | (go_at_call 46; refine (uni_i _ _ _).mono ?_; rintro e w' ⟨rfl, rfl⟩)
            | (go_at_call 47; refine (uni_s _ _ _).mono ?_; rintro e w' ⟨rfl, rfl⟩)
            | (go_at_call 48; refine (inter_i _ _ _).mono ?_; rintro e w' ⟨rfl, rfl⟩)
            | (go_at_call 49; refine (inter_s _ _ _).mono ?_; rintro e w' ⟨rfl, rfl⟩)
            | (go_at_call 55; refine (vset_i _ _).mono ?_; rintro e w' ⟨rfl, rfl⟩)
            | (go_at_call 56; refine (vset_s _ _).mono ?_; rintro e w' ⟨rfl, rfl⟩))
        refine (setSize_i _ _).mono ?_
        rintro e w9 ⟨rfl, hb9⟩
        go_wp2
        go_ret
        exact ⟨by first | rfl | simp, below_keep00 (below_keep00 hB hb8) hb9⟩
      · go_wp2_with (first
            | (go_at_call 40; refine (contains_i _ _ _).mono ?_; rintro e w' ⟨rfl, rfl⟩)
            | (go_at_call 41; refine (contains_s _ _ _).mono ?_; rintro e w' ⟨rfl, rfl⟩)
            | (go_at_call 42; refine (add_i _ _ _).mono ?_; rintro e w' ⟨rfl, rfl⟩)
            | (go_at_call 43; refine (add_s _ _ _).mono ?_; rintro e w' ⟨rfl, rfl⟩)
            | (go_at_call 44; refine (del_i _ _ _).mono ?_; rintro e w' ⟨rfl, rfl⟩)
            | (go_at_call 45; refine (del_s _ _ _).mono ?_; rintro e w' ⟨rfl, rfl⟩)
            | (go_at_call 46; refine (uni_i _ _ _).mono ?_; rintro e w' ⟨rfl, rfl⟩)
            | (go_at_call 47; refine (uni_s _ _ _).mono ?_; rintro e w' ⟨rfl, rfl⟩)
            | (go_at_call 48; refine (inter_i _ _ _).mono ?_; rintro e w' ⟨rfl, rfl⟩)
            | (go_at_call 49; refine (inter_s _ _ _).mono ?_; rintro e w' ⟨rfl, rfl⟩)
            | (go_at_call 55; refine (vset_i _ _).mono ?_; rintro e w' ⟨rfl, rfl⟩)
            | (go_at_call 56; refine (vset_s _ _).mono ?_; rintro e w' ⟨rfl, rfl⟩))
        all_goals go_ret
        all_goals exact ⟨by simp [← addE_out (s := s) (i := i) (by omega)], hB⟩
    · go_wp2_with (first
          | (go_at_call 40; refine (contains_i _ _ _).mono ?_; rintro e w' ⟨rfl, rfl⟩)
          | (go_at_call 41; refine (contains_s _ _ _).mono ?_; rintro e w' ⟨rfl, rfl⟩)
          | (go_at_call 42; refine (add_i _ _ _).mono ?_; rintro e w' ⟨rfl, rfl⟩)
          | (go_at_call 43; refine (add_s _ _ _).mono ?_; rintro e w' ⟨rfl, rfl⟩)
          | (go_at_call 44; refine (del_i _ _ _).mono ?_; rintro e w' ⟨rfl, rfl⟩)
          | (go_at_call 45; refine (del_s _ _ _).mono ?_; rintro e w' ⟨rfl, rfl⟩)
          | (go_at_call 46; refine (uni_i _ _ _).mono ?_; rintro e w' ⟨rfl, rfl⟩)
          | (go_at_call 47; refine (uni_s _ _ _).mono ?_; rintro e w' ⟨rfl, rfl⟩)
          | (go_at_call 48; refine (inter_i _ _ _).mono ?_; rintro e w' ⟨rfl, rfl⟩)
          | (go_at_call 49; refine (inter_s _ _ _).mono ?_; rintro e w' ⟨rfl, rfl⟩)
          | (go_at_call 55; refine (vset_i _ _).mono ?_; rintro e w' ⟨rfl, rfl⟩)
          | (go_at_call 56; refine (vset_s _ _).mono ?_; rintro e w' ⟨rfl, rfl⟩))
      all_goals go_ret
      all_goals exact ⟨by simp [← addE_out (s := s) (i := i) (by omega)], hB⟩
  · have v1 : inR s 0 65535 = false := by rw [Bool.eq_false_iff]; intro h; exact h1 (inR_iff.1 h)
    go_wp2_with (first
        | (go_at_call 40; refine (contains_i _ _ _).mono ?_; rintro e w' ⟨rfl, rfl⟩)
        | (go_at_call 41; refine (contains_s _ _ _).mono ?_; rintro e w' ⟨rfl, rfl⟩)
        | (go_at_call 42; refine (add_i _ _ _).mono ?_; rintro e w' ⟨rfl, rfl⟩)
        | (go_at_call 43; refine (add_s _ _ _).mono ?_; rintro e w' ⟨rfl, rfl⟩)
        | (go_at_call 44; refine (del_i _ _ _).mono ?_; rintro e w' ⟨rfl, rfl⟩)
        | (go_at_call 45; refine (del_s _ _ _).mono ?_; rintro e w' ⟨rfl, rfl⟩)
        | (go_at_call 46; refine (uni_i _ _ _).mono ?_; rintro e w' ⟨rfl, rfl⟩)
        | (go_at_call 47; refine (uni_s _ _ _).mono ?_; rintro e w' ⟨rfl, rfl⟩)
        | (go_at_call 48; refine (inter_i _ _ _).mono ?_; rintro e w' ⟨rfl, rfl⟩)
        | (go_at_call 49; refine (inter_s _ _ _).mono ?_; rintro e w' ⟨rfl, rfl⟩)
        | (go_at_call 55; refine (vset_i _ _).mono ?_; rintro e w' ⟨rfl, rfl⟩)
        | (go_at_call 56; refine (vset_s _ _).mono ?_; rintro e w' ⟨rfl, rfl⟩))
    all_goals go_ret
    all_goals exact ⟨by simp [← addE_out (s := s) (i := i) (by omega)], hB⟩
end Go.Proofs.Ytenkmppmjfhajaa
