/- The walk of the law FnDigits: its call returns true. -/
import Derived.Test.YtenkmppmjfhajaaRows
import Derived.Test.YtenkmppmjfhajaaMem
import Derived.Test.YtenkmppmjfhajaaSetPure
import Derived.Test.YtenkmppmjfhajaaCurMem
import Derived.Test.YtenkmppmjfhajaaDraw1
import Derived.Test.YtenkmppmjfhajaaDraw2
import Derived.Test.YtenkmppmjfhajaaLaw6
import Derived.Test.YtenkmppmjfhajaaStrPure
import Derived.Test.YtenkmppmjfhajaaFmt
import Derived.Test.YtenkmppmjfhajaaParse
import Derived.Test.YtenkmppmjfhajaaDig
import Derived.Deep.QuietTactic
import Derived.BigQuiet
import Derived.WalkSmall
import Derived.Deep.RegionHeld3
import Derived.Outline
namespace Go.Proofs.Ytenkmppmjfhajaa
open Go.RowKit
set_option linter.unusedVariables false

attribute [local go_sem] strOfNums_size
set_option maxHeartbeats 2000000 in
set_option maxRecDepth 100000 in
theorem FnDigits_walk {w : World} (A : Option Addr) (n c : Nat) (bs : List Int) (hin : InInts .u8 w w.heap.size A n c bs) :
    Calls Try.prog 5 #[.slice A n c] w fun e w' => e = .returned (.bool true) ∧ Below w.heap.size w w' := by
  by_cases big : 1048576 < n
  · go_enter Try.func5, Try.ntmps5
    go_wp2_with fail
    refine (big_yes _ _ _ _ big).mono ?_
    rintro e w1 ⟨rfl, rfl⟩
    go_wp2
    go_ret
    exact ⟨rfl, Below.refl _ _⟩
  have hn : n ≤ 1048576 := by omega
  have h8 := code8_of hin hn
  clear big hin
  go_enter Try.func5, Try.ntmps5
  go_wp2_with fail
  refine (big_no _ _ _ _ hn).mono ?_
  rintro e w0 ⟨rfl, rfl⟩
  go_wp2_with fail
  refine (drFmt_s _ _ _ bs _ h8).mono ?_
  rintro e w1 ⟨x, ⟨hx0, hx1⟩, rfl, hb1⟩
  go_wp2_with fail
  refine (drParse_s _ _ _ bs _ (h8.below hb1)).mono ?_
  rintro e w2 ⟨s, hs, rfl, hb2⟩
  have hB2 := below_keep00 hb1 hb2
  clear h8 hb1 hb2
  go_wp2_with fail
  refine (fmt_i _ _ hx0 hx1).mono ?_
  rintro e w3 ⟨rfl, hb3⟩
  have hl := fmtI_len x
  go_wp2_with fail
  refine (parse_i _ _ (by rw [strOfNums_size]; omega)).mono ?_
  rintro e w4 ⟨rfl, hb4⟩
  rw [fmt_bl]
  go_wp2_with fail
  refine (parse_i _ _ (by omega)).mono ?_
  rintro e w5 ⟨rfl, hb5⟩
  go_wp2_with fail
  refine (parse_s _ _ (by omega)).mono ?_
  rintro e w6 ⟨rfl, hb6⟩
  have hB := below_keep00 (below_keep00 (below_keep00 (below_keep00 hB2 hb3) hb4) hb5) hb6
  clear hB2 hb3 hb4 hb5 hb6
  go_wp2_with fail
  refine (fmt_i _ _ hx0 hx1).mono ?_
  rintro e w7 ⟨rfl, hb7⟩
  go_wp2_with fail
  refine (fmt_s _ _ hx0 hx1).mono ?_
  rintro e w8 ⟨rfl, hb8⟩
  have hB8 := below_keep00 (below_keep00 hB hb7) hb8
  clear hB hb7 hb8
  have hp := parseV_range (bl s)
  have e1 : ∀ a : ByteArray, (a.toList == a.toList) = true := fun a => by simp
  have tailS : ∀ b : Bool, parseB (bl s) = b → True := fun _ _ => trivial
  by_cases h0 : 0 ≤ x
  · by_cases h1 : x ≤ 1000000000000
    · obtain ⟨p1, p2⟩ := parse_fmt h0 h1
      rw [p1, p2]
      clear p1 p2
      rcases Bool.eq_false_or_eq_true (parseB (bl s)) with hs1 | hs1
      · have es : strOfNums (fmtI (parseV (bl s))) = s := by rw [fmt_parse hs1, strOf_bl]
        have ES := Lib.hid es
        clear es
        go_wp2_with fail
        refine (fmt_i _ _ (by omega) (by omega)).mono ?_
        rintro e w9 ⟨rfl, hb9⟩
        rw [ES.out]
        go_wp2
        go_ret
        exact ⟨by simp <;> omega, below_keep00 hB8 hb9⟩
      · go_wp2
        go_ret
        exact ⟨by simp <;> omega, hB8⟩
    · rw [parse_fmt_out (by omega) hx0 hx1]
      rcases Bool.eq_false_or_eq_true (parseB (bl s)) with hs1 | hs1
      · have es : strOfNums (fmtI (parseV (bl s))) = s := by rw [fmt_parse hs1, strOf_bl]
        have ES := Lib.hid es
        clear es
        go_wp2_with fail
        refine (fmt_i _ _ (by omega) (by omega)).mono ?_
        rintro e w9 ⟨rfl, hb9⟩
        rw [ES.out]
        go_wp2
        go_ret
        exact ⟨by simp <;> omega, below_keep00 hB8 hb9⟩
      · go_wp2
        go_ret
        exact ⟨by simp <;> omega, hB8⟩
  · rw [parse_fmt_out (by omega) hx0 hx1]
    rcases Bool.eq_false_or_eq_true (parseB (bl s)) with hs1 | hs1
    · have es : strOfNums (fmtI (parseV (bl s))) = s := by rw [fmt_parse hs1, strOf_bl]
      have ES := Lib.hid es
      clear es
      go_wp2_with fail
      refine (fmt_i _ _ (by omega) (by omega)).mono ?_
      rintro e w9 ⟨rfl, hb9⟩
      rw [ES.out]
      go_wp2
      go_ret
      exact ⟨by simp <;> omega, below_keep00 hB8 hb9⟩
    · go_wp2
      go_ret
      exact ⟨by simp <;> omega, hB8⟩
end Go.Proofs.Ytenkmppmjfhajaa
