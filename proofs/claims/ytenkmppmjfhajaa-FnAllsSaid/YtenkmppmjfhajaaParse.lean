/- Contracts of ParseInt. -/
import Derived.Test.YtenkmppmjfhajaaRows
import Derived.Test.YtenkmppmjfhajaaMem
import Derived.Test.YtenkmppmjfhajaaStrPure
import Derived.Test.YtenkmppmjfhajaaFmt
import Derived.Outline
namespace Go.Proofs.Ytenkmppmjfhajaa
open Go.RowKit
set_option linter.unusedVariables false
attribute [local go_sem] strOfNums_size

theorem parse_no {s : ByteArray} (h : parseB (bl s) = false) : Ending.returned (.tuple #[.int .i64 0, .bool false]) = .returned (.tuple #[.int .i64 (parseV (bl s)), .bool (parseB (bl s))]) := by rw [parseV, h]; rfl
theorem parse_yes {s : ByteArray} (h : parseB (bl s) = true) : Ending.returned (.tuple #[.int .i64 (val (bl s)), .bool true]) = .returned (.tuple #[.int .i64 (parseV (bl s)), .bool (parseB (bl s))]) := by rw [parseV, h]; rfl
theorem parse_short {s : ByteArray} (h : s.size = 0 ∨ 13 < s.size) : parseB (bl s) = false := by
  rw [Bool.eq_false_iff]
  intro hb
  simp only [parseB, Bool.and_eq_true, decide_eq_true_eq, bl_len] at hb
  omega
theorem parse_digit {s : ByteArray} {k : Nat} {x : Int} (hx : (bl s)[k]? = some x) (h : ¬ (48 ≤ x ∧ x ≤ 57)) : parseB (bl s) = false := by
  rw [Bool.eq_false_iff]
  intro hb
  simp only [parseB, Bool.and_eq_true, decide_eq_true_eq] at hb
  have := List.all_eq_true.1 hb.1.1.2 x (List.mem_of_getElem? hx)
  simp only [isDig, Bool.and_eq_true, decide_eq_true_eq] at this
  exact h this
theorem parse_big {s : ByteArray} (h : 1000000000000 < val (bl s)) : parseB (bl s) = false := by
  rw [Bool.eq_false_iff]
  intro hb
  simp only [parseB, Bool.and_eq_true, decide_eq_true_eq] at hb
  omega
theorem parse_other {s : ByteArray} (h : ¬ strOfNums (fmtI (val (bl s))) = s) : parseB (bl s) = false := by
  rw [Bool.eq_false_iff]
  intro hb
  simp only [parseB, Bool.and_eq_true, decide_eq_true_eq] at hb
  exact h (by rw [hb.2, strOf_bl])
theorem parse_good {s : ByteArray} (h1 : 1 ≤ s.size) (h2 : s.size ≤ 13) (h3 : (bl s).all isDig = true) (h4 : val (bl s) ≤ 1000000000000) (h5 : strOfNums (fmtI (val (bl s))) = s) : parseB (bl s) = true := by
  simp only [parseB, Bool.and_eq_true, decide_eq_true_eq, bl_len]
  refine ⟨⟨⟨⟨h1, h2⟩, h3⟩, h4⟩, ?_⟩
  have := bl_strOf (fmtI (val (bl s))) (fun x hx => by have := fmtI_range _ x hx; omega)
  rw [← this, h5]
theorem isEmpty_size (s : ByteArray) : s.toList.isEmpty = decide (s.size = 0) := by
  rw [Go.ByteArray.toList_eq, Bool.eq_iff_iff, List.isEmpty_iff, decide_eq_true_eq]
  show s.data.toList = [] ↔ s.data.size = 0
  rw [← Array.length_toList, List.length_eq_zero_iff]
theorem str_eq_iff (a b : ByteArray) : (a.toList == b.toList) = decide (a = b) := by
  rw [Bool.eq_iff_iff, beq_iff_eq, decide_eq_true_eq]
  constructor
  · intro h
    apply ByteArray.ext
    apply Array.toList_inj.1
    rw [← Go.ByteArray.toList_eq, ← Go.ByteArray.toList_eq]; exact h
  · rintro rfl
    rfl

set_option maxHeartbeats 1000000 in
theorem parse_i (s : ByteArray) (w : World) (hs : s.size ≤ 9223372036854775807) :
    Calls Try.prog 32 #[.string s] w fun e w' => e = .returned (.tuple #[.int .i64 (parseV (bl s)), .bool (parseB (bl s))]) ∧ Below w.heap.size w w' := by
  by_cases h0 : s.size = 0
  · have he : s.toList.isEmpty = true := by rw [isEmpty_size]; simpa using h0
    have h1 : ¬ ((1 : Int) ≤ (s.size : Int)) := by omega
    have hd1 : decide ((1 : Int) ≤ (s.size : Int)) = false := decide_eq_false (by omega)
    go_enter Try.func32, Try.ntmps32
    go_wp2
    go_ret2
    exact ⟨parse_no (parse_short (by omega)), Below.refl _ _⟩
  by_cases h13 : 13 < s.size
  · have he : s.toList.isEmpty = false := by rw [isEmpty_size]; simpa using h0
    have h3 : (13 : Int) < (s.size : Int) := by omega
    have hd1 : decide ((1 : Int) ≤ (s.size : Int)) = true := decide_eq_true (by omega)
    have hd2 : decide ((s.size : Int) ≤ 13) = false := decide_eq_false (by omega)
    go_enter Try.func32, Try.ntmps32
    go_wp2
    go_ret2
    exact ⟨parse_no (parse_short (by omega)), Below.refl _ _⟩
  have h1 : 0 < s.size := by omega
  have h2 : s.size ≤ 13 := by omega
  have h3 : ¬ ((13 : Int) < (s.size : Int)) := by omega
  have hd1 : decide ((1 : Int) ≤ (s.size : Int)) = true := decide_eq_true (by omega)
  have hd2 : decide ((s.size : Int) ≤ 13) = true := decide_eq_true (by omega)
  have he : s.toList.isEmpty = false := by rw [isEmpty_size]; simpa using h0
  go_enter Try.func32, Try.ntmps32
  go_wp2
  go_loop [4, 5] (fun q i => ∃ k : Nat, k ≤ s.size ∧ i = .int .i64 k ∧ q = .int .i64 (val ((bl s).take k)) ∧ ((bl s).take k).all isDig = true) (fun _ i => s.size - (intOf i).toNat)
  case atStart => exact ⟨0, Nat.zero_le _, rfl, rfl, rfl⟩
  case round =>
    obtain ⟨k, hk, rfl, rfl, hdg0⟩ := hrel
    have hdg := Lib.hid hdg0
    clear hdg0
    have hvb := val_small _ hdg.out (by rw [List.length_take]; omega)
    have hv1 := hvb.1
    have hv2 := hvb.2
    clear hvb
    by_cases hlt : k < s.size
    · have hx := Lib.hid (bl_get s k hlt)
      have hub : (s[k].toNat : Int) ≤ 255 := by have := s[k].toNat_lt; omega
      by_cases hc : (48 : Int) ≤ (s[k].toNat : Int) ∧ (s[k].toNat : Int) ≤ 57
      · obtain ⟨hc1, hc2⟩ := hc
        go_wp2
        go_round
        case rel => exact ⟨k + 1, by omega, by go_num, congrArg (Value.int .i64) (by rw [take_snoc hx.out, val_snoc]), by rw [take_snoc hx.out, List.all_append, hdg.out]; simp [isDig, hc1, hc2]⟩
        case measure => simp [intOf]; omega
      · by_cases hc1 : (48 : Int) ≤ (s[k].toNat : Int)
        · have hc2 : (57 : Int) < (s[k].toNat : Int) := by omega
          have hd3 : decide ((s[k].toNat : Int) ≤ 57) = false := decide_eq_false (by omega)
          go_wp2
          go_ret2
          exact ⟨parse_no (parse_digit hx.out (by omega)), Below.refl _ _⟩
        · have hc2 : (s[k].toNat : Int) < 48 := by omega
          go_wp2
          go_ret2
          exact ⟨parse_no (parse_digit hx.out (by omega)), Below.refl _ _⟩
    · obtain rfl : k = s.size := by omega
      have htk := Lib.hid (show (bl s).take s.size = bl s from List.take_of_length_le (by rw [bl_len]; omega))
      rw [htk.out] at hv1 hv2 hdg ⊢
      by_cases hmx : (1000000000000 : Int) < val (bl s)
      · go_wp2
        go_ret2
        exact ⟨parse_no (parse_big hmx), Below.refl _ _⟩
      · go_wp2_with (first | (go_at_call 33; refine (fmt_i _ _ (by omega) (by omega)).mono ?_; rintro e w1 ⟨rfl, hb1⟩))
        · go_ret2
          refine ⟨parse_no (parse_other fun e => ?_), hb1⟩
          have hh : (!(strOfNums (fmtI (val (bl s)))).toList == s.toList) = true := by assumption
          rw [str_eq_iff, decide_eq_true e] at hh
          cases hh
        · go_ret2
          refine ⟨parse_yes (parse_good h1 h2 hdg.out (by omega) ?_), hb1⟩
          have hh : (!(strOfNums (fmtI (val (bl s)))).toList == s.toList) = false := by assumption
          rw [str_eq_iff] at hh
          simpa using hh

set_option maxHeartbeats 1000000 in
theorem parse_s (s : ByteArray) (w : World) (hs : s.size ≤ 9223372036854775807) :
    Calls Try.prog 34 #[.string s] w fun e w' => e = .returned (.tuple #[.int .i64 (parseV (bl s)), .bool (parseB (bl s))]) ∧ Below w.heap.size w w' := by
  by_cases h0 : s.size = 0
  · have he : s.toList.isEmpty = true := by rw [isEmpty_size]; simpa using h0
    have h1 : ¬ ((1 : Int) ≤ (s.size : Int)) := by omega
    have hd1 : decide ((1 : Int) ≤ (s.size : Int)) = false := decide_eq_false (by omega)
    go_enter Try.func34, Try.ntmps34
    go_wp2
    go_ret2
    exact ⟨parse_no (parse_short (by omega)), Below.refl _ _⟩
  by_cases h13 : 13 < s.size
  · have he : s.toList.isEmpty = false := by rw [isEmpty_size]; simpa using h0
    have h3 : (13 : Int) < (s.size : Int) := by omega
    have hd1 : decide ((1 : Int) ≤ (s.size : Int)) = true := decide_eq_true (by omega)
    have hd2 : decide ((s.size : Int) ≤ 13) = false := decide_eq_false (by omega)
    go_enter Try.func34, Try.ntmps34
    go_wp2
    go_ret2
    exact ⟨parse_no (parse_short (by omega)), Below.refl _ _⟩
  have h1 : 0 < s.size := by omega
  have h2 : s.size ≤ 13 := by omega
  have h3 : ¬ ((13 : Int) < (s.size : Int)) := by omega
  have hd1 : decide ((1 : Int) ≤ (s.size : Int)) = true := decide_eq_true (by omega)
  have hd2 : decide ((s.size : Int) ≤ 13) = true := decide_eq_true (by omega)
  have he : s.toList.isEmpty = false := by rw [isEmpty_size]; simpa using h0
  go_enter Try.func34, Try.ntmps34
  go_wp2
  go_loop [4, 5] (fun q i => ∃ k : Nat, k ≤ s.size ∧ i = .int .i64 k ∧ q = .int .i64 (val ((bl s).take k)) ∧ ((bl s).take k).all isDig = true) (fun _ i => s.size - (intOf i).toNat)
  case atStart => exact ⟨0, Nat.zero_le _, rfl, rfl, rfl⟩
  case round =>
    obtain ⟨k, hk, rfl, rfl, hdg0⟩ := hrel
    have hdg := Lib.hid hdg0
    clear hdg0
    have hvb := val_small _ hdg.out (by rw [List.length_take]; omega)
    have hv1 := hvb.1
    have hv2 := hvb.2
    clear hvb
    by_cases hlt : k < s.size
    · have hx := Lib.hid (bl_get s k hlt)
      have hub : (s[k].toNat : Int) ≤ 255 := by have := s[k].toNat_lt; omega
      by_cases hc : (48 : Int) ≤ (s[k].toNat : Int) ∧ (s[k].toNat : Int) ≤ 57
      · obtain ⟨hc1, hc2⟩ := hc
        go_wp2
        go_round
        case rel => exact ⟨k + 1, by omega, by go_num, congrArg (Value.int .i64) (by rw [take_snoc hx.out, val_snoc]), by rw [take_snoc hx.out, List.all_append, hdg.out]; simp [isDig, hc1, hc2]⟩
        case measure => simp [intOf]; omega
      · by_cases hc1 : (48 : Int) ≤ (s[k].toNat : Int)
        · have hc2 : (57 : Int) < (s[k].toNat : Int) := by omega
          have hd3 : decide ((s[k].toNat : Int) ≤ 57) = false := decide_eq_false (by omega)
          go_wp2
          go_ret2
          exact ⟨parse_no (parse_digit hx.out (by omega)), Below.refl _ _⟩
        · have hc2 : (s[k].toNat : Int) < 48 := by omega
          go_wp2
          go_ret2
          exact ⟨parse_no (parse_digit hx.out (by omega)), Below.refl _ _⟩
    · obtain rfl : k = s.size := by omega
      have htk := Lib.hid (show (bl s).take s.size = bl s from List.take_of_length_le (by rw [bl_len]; omega))
      rw [htk.out] at hv1 hv2 hdg ⊢
      by_cases hmx : (1000000000000 : Int) < val (bl s)
      · go_wp2
        go_ret2
        exact ⟨parse_no (parse_big hmx), Below.refl _ _⟩
      · go_wp2_with (first | (go_at_call 35; refine (fmt_s _ _ (by omega) (by omega)).mono ?_; rintro e w1 ⟨rfl, hb1⟩))
        · go_ret2
          refine ⟨parse_no (parse_other fun e => ?_), hb1⟩
          have hh : (!(strOfNums (fmtI (val (bl s)))).toList == s.toList) = true := by assumption
          rw [str_eq_iff, decide_eq_true e] at hh
          cases hh
        · go_ret2
          refine ⟨parse_yes (parse_good h1 h2 hdg.out (by omega) ?_), hb1⟩
          have hh : (!(strOfNums (fmtI (val (bl s)))).toList == s.toList) = false := by assumption
          rw [str_eq_iff] at hh
          simpa using hh
end Go.Proofs.Ytenkmppmjfhajaa
