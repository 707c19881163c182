/- Contracts of the functions on residues, digests and chains. -/
import Derived.Test.YtkoidpagehcegaaRows
import Derived.Test.YtkoidpagehcegaaMem
import Derived.Test.YtkoidpagehcegaaLawInts
import Derived.Test.YtkoidpagehcegaaMixPure
namespace Go.Proofs.Ytkoidpagehcegaa
open Go.RowKit
set_option linter.unusedVariables false

theorem retInt {k : IntKind} {a b : Int} (h : a = b) : Ending.returned (.int k a) = .returned (.int k b) := by rw [h]
theorem addM_i (b s : Int) (w : World) : Calls Try.prog 52 #[.int .i64 b, .int .i64 s] w fun e w' => e = .returned (.int .i64 (addM b s)) ∧ w = w' := by
  by_cases h1 : 0 ≤ b
  · by_cases h2 : b ≤ 2147483646
    · by_cases h3 : 0 ≤ s
      · by_cases h4 : s ≤ 2147483646
        · go_enter Try.func52, Try.ntmps52
          go_wp2
          all_goals go_ret
          exact ⟨retInt (addM_in h1 h2 h3 h4), rfl⟩
        · go_enter Try.func52, Try.ntmps52
          go_wp2
          all_goals go_ret
          exact ⟨retInt (addM_out (by omega)), rfl⟩
      · go_enter Try.func52, Try.ntmps52
        go_wp2
        all_goals go_ret
        exact ⟨retInt (addM_out (by omega)), rfl⟩
    · go_enter Try.func52, Try.ntmps52
      go_wp2
      all_goals go_ret
      exact ⟨retInt (addM_out (by omega)), rfl⟩
  · go_enter Try.func52, Try.ntmps52
    go_wp2
    all_goals go_ret
    exact ⟨retInt (addM_out (by omega)), rfl⟩

theorem subM_i (b s : Int) (w : World) : Calls Try.prog 54 #[.int .i64 b, .int .i64 s] w fun e w' => e = .returned (.int .i64 (subM b s)) ∧ w = w' := by
  by_cases h1 : 0 ≤ b
  · by_cases h2 : b ≤ 2147483646
    · by_cases h3 : 0 ≤ s
      · by_cases h4 : s ≤ 2147483646
        · go_enter Try.func54, Try.ntmps54
          go_wp2
          all_goals go_ret
          exact ⟨retInt (subM_in h1 h2 h3 h4), rfl⟩
        · go_enter Try.func54, Try.ntmps54
          go_wp2
          all_goals go_ret
          exact ⟨retInt (subM_out (by omega)), rfl⟩
      · go_enter Try.func54, Try.ntmps54
        go_wp2
        all_goals go_ret
        exact ⟨retInt (subM_out (by omega)), rfl⟩
    · go_enter Try.func54, Try.ntmps54
      go_wp2
      all_goals go_ret
      exact ⟨retInt (subM_out (by omega)), rfl⟩
  · go_enter Try.func54, Try.ntmps54
    go_wp2
    all_goals go_ret
    exact ⟨retInt (subM_out (by omega)), rfl⟩

theorem mod_i (n m : Int) (w : World) : Calls Try.prog 50 #[.int .i64 n, .int .i64 m] w fun e w' => e = .returned (.int .i64 (modE n m)) ∧ w = w' := by
  by_cases h1 : 1 ≤ m
  · have hb := tmod_bounds n m h1
    have hb1 := hb.1
    have hb2 := hb.2
    clear hb
    by_cases h2 : m ≤ 1000000000000
    · go_enter Try.func50, Try.ntmps50
      go_wp2
      go_ret
      exact ⟨retInt (modE_in h1 h2), rfl⟩
    · go_enter Try.func50, Try.ntmps50
      go_wp2
      go_ret
      exact ⟨retInt (modE_out (by omega)), rfl⟩
  · go_enter Try.func50, Try.ntmps50
    go_wp2
    go_ret
    exact ⟨retInt (modE_out (by omega)), rfl⟩
theorem addM_s (b s : Int) (w : World) : Calls Try.prog 51 #[.int .i64 b, .int .i64 s] w fun e w' => e = .returned (.int .i64 (addM b s)) ∧ w = w' := by
  by_cases h1 : 0 ≤ b
  · by_cases h2 : b ≤ 2147483646
    · by_cases h3 : 0 ≤ s
      · by_cases h4 : s ≤ 2147483646
        · go_enter Try.func51, Try.ntmps51
          go_wp2
          all_goals go_ret
          exact ⟨retInt (addM_in h1 h2 h3 h4), rfl⟩
        · go_enter Try.func51, Try.ntmps51
          go_wp2
          all_goals go_ret
          exact ⟨retInt (addM_out (by omega)), rfl⟩
      · go_enter Try.func51, Try.ntmps51
        go_wp2
        all_goals go_ret
        exact ⟨retInt (addM_out (by omega)), rfl⟩
    · go_enter Try.func51, Try.ntmps51
      go_wp2
      all_goals go_ret
      exact ⟨retInt (addM_out (by omega)), rfl⟩
  · go_enter Try.func51, Try.ntmps51
    go_wp2
    all_goals go_ret
    exact ⟨retInt (addM_out (by omega)), rfl⟩

theorem subM_s (b s : Int) (w : World) : Calls Try.prog 53 #[.int .i64 b, .int .i64 s] w fun e w' => e = .returned (.int .i64 (subM b s)) ∧ w = w' := by
  by_cases h1 : 0 ≤ b
  · by_cases h2 : b ≤ 2147483646
    · by_cases h3 : 0 ≤ s
      · by_cases h4 : s ≤ 2147483646
        · go_enter Try.func53, Try.ntmps53
          go_wp2
          all_goals go_ret
          exact ⟨retInt (subM_in h1 h2 h3 h4), rfl⟩
        · go_enter Try.func53, Try.ntmps53
          go_wp2
          all_goals go_ret
          exact ⟨retInt (subM_out (by omega)), rfl⟩
      · go_enter Try.func53, Try.ntmps53
        go_wp2
        all_goals go_ret
        exact ⟨retInt (subM_out (by omega)), rfl⟩
    · go_enter Try.func53, Try.ntmps53
      go_wp2
      all_goals go_ret
      exact ⟨retInt (subM_out (by omega)), rfl⟩
  · go_enter Try.func53, Try.ntmps53
    go_wp2
    all_goals go_ret
    exact ⟨retInt (subM_out (by omega)), rfl⟩

theorem mod_s (n m : Int) (w : World) : Calls Try.prog 49 #[.int .i64 n, .int .i64 m] w fun e w' => e = .returned (.int .i64 (modE n m)) ∧ w = w' := by
  by_cases h1 : 1 ≤ m
  · have hb := tmod_bounds n m h1
    have hb1 := hb.1
    have hb2 := hb.2
    clear hb
    by_cases h2 : m ≤ 1000000000000
    · go_enter Try.func49, Try.ntmps49
      go_wp2
      go_ret
      exact ⟨retInt (modE_in h1 h2), rfl⟩
    · go_enter Try.func49, Try.ntmps49
      go_wp2
      go_ret
      exact ⟨retInt (modE_out (by omega)), rfl⟩
  · go_enter Try.func49, Try.ntmps49
    go_wp2
    go_ret
    exact ⟨retInt (modE_out (by omega)), rfl⟩
theorem digest_i (A : Option Addr) (n c : Nat) (zs : List Int) (w : World) (hr : Ri w .i64 A n zs) (hn : n ≤ 9223372036854775806) :
    Calls Try.prog 36 #[.slice A n c] w fun e w' => e = .returned (.int .i64 (digest zs)) ∧ w = w' := by
  have hl := Lib.hid hr.len
  go_enter Try.func36, Try.ntmps36
  go_wp2
  go_loop [3, 8] (fun s i => ∃ k : Nat, k ≤ n ∧ i = .int .i64 k ∧ s = .int .i64 (digest (zs.take k))) (fun _ i => n - (intOf i).toNat)
  case atStart => exact ⟨0, Nat.zero_le _, rfl, rfl⟩
  case round =>
    obtain ⟨k, hk, rfl, rfl⟩ := hrel
    by_cases hlt : k < n
    · obtain ⟨b, off, x, rfl, hx0, hc⟩ := hr.get hlt
      have hx := Lib.hid hx0
      clear hx0
      have hd := digest_bounds (zs.take k)
      have hd1 := hd.1
      have hd2 := hd.2
      clear hd
      have hm := modE_bounds x 2147483647 (by omega) (by omega)
      have hm1 := hm.1
      have hm2 := hm.2
      clear hm
      go_wp2_with (first
        | (go_at_call 50; refine (mod_i _ _ _).mono ?_; rintro e w' ⟨rfl, rfl⟩))
      go_round
      case rel => exact ⟨k + 1, by omega, by go_num, congrArg (Value.int .i64) (digest_succ hx.out)⟩
      case measure => simp [intOf]; omega
    · go_wp2
      go_ret
      exact ⟨retInt (by rw [List.take_of_length_le (by rw [hl.out]; omega)]), rfl⟩
theorem digest_s (A : Option Addr) (n c : Nat) (zs : List Int) (w : World) (hr : Ri w .i64 A n zs) (hn : n ≤ 9223372036854775806) :
    Calls Try.prog 35 #[.slice A n c] w fun e w' => e = .returned (.int .i64 (digest zs)) ∧ w = w' := by
  have hl := Lib.hid hr.len
  go_enter Try.func35, Try.ntmps35
  go_wp2
  go_loop [3, 4] (fun s i => ∃ k : Nat, k ≤ n ∧ i = .int .i64 k ∧ s = .int .i64 (digest (zs.take k))) (fun _ i => n - (intOf i).toNat)
  case atStart => exact ⟨0, Nat.zero_le _, rfl, rfl⟩
  case round =>
    obtain ⟨k, hk, rfl, rfl⟩ := hrel
    by_cases hlt : k < n
    · obtain ⟨b, off, x, rfl, hx0, hc⟩ := hr.get hlt
      have hx := Lib.hid hx0
      clear hx0
      have hd := digest_bounds (zs.take k)
      have hd1 := hd.1
      have hd2 := hd.2
      clear hd
      have hm := modE_bounds x 2147483647 (by omega) (by omega)
      have hm1 := hm.1
      have hm2 := hm.2
      clear hm
      go_wp2_with (first
        | (go_at_call 49; refine (mod_s _ _ _).mono ?_; rintro e w' ⟨rfl, rfl⟩))
      go_round
      case rel => exact ⟨k + 1, by omega, by go_num, congrArg (Value.int .i64) (digest_succ hx.out)⟩
      case measure => simp [intOf]; omega
    · go_wp2
      go_ret
      exact ⟨retInt (by rw [List.take_of_length_le (by rw [hl.out]; omega)]), rfl⟩
theorem chainAdd_i (b0 : Int) (A : Option Addr) (n c : Nat) (zs : List Int) (w : World) (hr : Ri w .i64 A n zs) (hn : n ≤ 9223372036854775806) :
    Calls Try.prog 38 #[.int .i64 b0, .slice A n c] w fun e w' => e = .returned (.int .i64 (chainAdd b0 zs)) ∧ w = w' := by
  have hl := Lib.hid hr.len
  go_enter Try.func38, Try.ntmps38
  go_wp2
  go_loop [0, 9] (fun s i => ∃ k : Nat, k ≤ n ∧ i = .int .i64 k ∧ s = .int .i64 (chainAdd b0 (zs.take k))) (fun _ i => n - (intOf i).toNat)
  case atStart => exact ⟨0, Nat.zero_le _, rfl, rfl⟩
  case round =>
    obtain ⟨k, hk, rfl, rfl⟩ := hrel
    by_cases hlt : k < n
    · obtain ⟨b, off, x, rfl, hx0, hc⟩ := hr.get hlt
      have hx := Lib.hid hx0
      clear hx0
      go_wp2_with (first
        | (go_at_call 52; refine (addM_i _ _ _).mono ?_; rintro e w' ⟨rfl, rfl⟩))
      go_round
      case rel => exact ⟨k + 1, by omega, by go_num, congrArg (Value.int .i64) (chainAdd_succ hx.out)⟩
      case measure => simp [intOf]; omega
    · go_wp2
      go_ret
      exact ⟨retInt (by rw [List.take_of_length_le (by rw [hl.out]; omega)]), rfl⟩
theorem chainAdd_s (b0 : Int) (A : Option Addr) (n c : Nat) (zs : List Int) (w : World) (hr : Ri w .i64 A n zs) (hn : n ≤ 9223372036854775806) :
    Calls Try.prog 37 #[.int .i64 b0, .slice A n c] w fun e w' => e = .returned (.int .i64 (chainAdd b0 zs)) ∧ w = w' := by
  have hl := Lib.hid hr.len
  go_enter Try.func37, Try.ntmps37
  go_wp2
  go_loop [0, 5] (fun s i => ∃ k : Nat, k ≤ n ∧ i = .int .i64 k ∧ s = .int .i64 (chainAdd b0 (zs.take k))) (fun _ i => n - (intOf i).toNat)
  case atStart => exact ⟨0, Nat.zero_le _, rfl, rfl⟩
  case round =>
    obtain ⟨k, hk, rfl, rfl⟩ := hrel
    by_cases hlt : k < n
    · obtain ⟨b, off, x, rfl, hx0, hc⟩ := hr.get hlt
      have hx := Lib.hid hx0
      clear hx0
      go_wp2_with (first
        | (go_at_call 51; refine (addM_s _ _ _).mono ?_; rintro e w' ⟨rfl, rfl⟩))
      go_round
      case rel => exact ⟨k + 1, by omega, by go_num, congrArg (Value.int .i64) (chainAdd_succ hx.out)⟩
      case measure => simp [intOf]; omega
    · go_wp2
      go_ret
      exact ⟨retInt (by rw [List.take_of_length_le (by rw [hl.out]; omega)]), rfl⟩
theorem chainSub_i (b0 : Int) (A : Option Addr) (n c : Nat) (zs : List Int) (w : World) (hr : Ri w .i64 A n zs) (hn : n ≤ 9223372036854775806) :
    Calls Try.prog 40 #[.int .i64 b0, .slice A n c] w fun e w' => e = .returned (.int .i64 (chainSub b0 zs)) ∧ w = w' := by
  have hl := Lib.hid hr.len
  go_enter Try.func40, Try.ntmps40
  go_wp2
  go_loop [0, 5] (fun s i => ∃ k : Nat, k ≤ n ∧ i = .int .i64 (k - 1) ∧ s = .int .i64 (chainSub b0 (zs.drop k))) (fun _ i => (intOf i + 1).toNat)
  case atStart => exact ⟨n, Nat.le_refl _, rfl, by rw [List.drop_eq_nil_of_le (by rw [hl.out]; omega)]; rfl⟩
  case round =>
    obtain ⟨k, hk, rfl, rfl⟩ := hrel
    by_cases hlt : 0 < k
    · obtain ⟨j, rfl⟩ : ∃ j, k = j + 1 := ⟨k - 1, by omega⟩
      have ej : (((j + 1 : Nat) : Int) - 1) = (j : Int) := by omega
      rw [ej]
      obtain ⟨b, off, x, rfl, hx0, hc⟩ := hr.get (show j < n by omega)
      have hx := Lib.hid hx0
      clear hx0 ej
      go_wp2_with (first
        | (go_at_call 54; refine (subM_i _ _ _).mono ?_; rintro e w' ⟨rfl, rfl⟩))
      go_round
      case rel => exact ⟨j, by omega, by go_num, congrArg (Value.int .i64) (chainSub_succ hx.out)⟩
      case measure => simp [intOf] <;> omega
    · obtain rfl : k = 0 := by omega
      go_wp2
      go_ret
      exact ⟨retInt (by simp), rfl⟩
theorem chainSub_s (b0 : Int) (A : Option Addr) (n c : Nat) (zs : List Int) (w : World) (hr : Ri w .i64 A n zs) (hn : n ≤ 9223372036854775806) :
    Calls Try.prog 39 #[.int .i64 b0, .slice A n c] w fun e w' => e = .returned (.int .i64 (chainSub b0 zs)) ∧ w = w' := by
  have hl := Lib.hid hr.len
  go_enter Try.func39, Try.ntmps39
  go_wp2
  go_loop [0, 5] (fun s i => ∃ k : Nat, k ≤ n ∧ i = .int .i64 (k - 1) ∧ s = .int .i64 (chainSub b0 (zs.drop k))) (fun _ i => (intOf i + 1).toNat)
  case atStart => exact ⟨n, Nat.le_refl _, rfl, by rw [List.drop_eq_nil_of_le (by rw [hl.out]; omega)]; rfl⟩
  case round =>
    obtain ⟨k, hk, rfl, rfl⟩ := hrel
    by_cases hlt : 0 < k
    · obtain ⟨j, rfl⟩ : ∃ j, k = j + 1 := ⟨k - 1, by omega⟩
      have ej : (((j + 1 : Nat) : Int) - 1) = (j : Int) := by omega
      rw [ej]
      obtain ⟨b, off, x, rfl, hx0, hc⟩ := hr.get (show j < n by omega)
      have hx := Lib.hid hx0
      clear hx0 ej
      go_wp2_with (first
        | (go_at_call 53; refine (subM_s _ _ _).mono ?_; rintro e w' ⟨rfl, rfl⟩))
      go_round
      case rel => exact ⟨j, by omega, by go_num, congrArg (Value.int .i64) (chainSub_succ hx.out)⟩
      case measure => simp [intOf] <;> omega
    · obtain rfl : k = 0 := by omega
      go_wp2
      go_ret
      exact ⟨retInt (by simp), rfl⟩
set_option maxHeartbeats 400000 in
theorem equalInts_i (A : Option Addr) (n c : Nat) (zs : List Int) (B : Option Addr) (m d : Nat) (ys : List Int) (w : World) (ha : Ri w .i64 A n zs) (hb : Ri w .i64 B m ys) (hn : n ≤ 9223372036854775806) (hm : m ≤ 9223372036854775806) :
    Calls Try.prog 34 #[.slice A n c, .slice B m d] w fun e w' => e = .returned (.bool (decide (zs = ys))) ∧ Below w.heap.size w w' := by
  have hla := Lib.hid ha.len
  have hlb := Lib.hid hb.len
  by_cases hnm : n = m
  · subst hnm
    have hz : ((n : Int) != (n : Int)) = false := by simp
    go_enter Try.func34, Try.ntmps34
    go_wp2
    go_loopw [13] (fun i wr => ∃ k : Nat, k ≤ n ∧ i = .int .i64 k ∧ (∀ j, j < k → zs[j]? = ys[j]?) ∧ Below w.heap.size w wr) (fun i _ => n - (intOf i).toNat)
    case atStart => exact ⟨0, Nat.zero_le _, rfl, fun j hj => absurd hj (by omega), Below.refl _ _⟩
    case round =>
      obtain ⟨k, hk, rfl, heq0, hbl⟩ := hrel
      have heq := Lib.hid heq0
      clear heq0
      by_cases hlt : k < n
      · have ha' := ha.below hbl (Nat.le_refl _)
        have hb' := hb.below hbl (Nat.le_refl _)
        obtain ⟨b1, o1, x, rfl, hx0, hc1⟩ := ha'.get hlt
        obtain ⟨b2, o2, y, rfl, hy0, hc2⟩ := hb'.get hlt
        have hx := Lib.hid hx0
        have hy := Lib.hid hy0
        clear hx0 hy0
        have hi1 : (0 : Int) ≤ (k : Int) := by omega
        have hi2 : (k : Int) < (n : Int) := by omega
        by_cases hxy : x = y
        · subst hxy
          go_wp2_with fail
          go_quiet (fail)
          go_wp2
          go_roundw
          case rel =>
            refine ⟨k + 1, by omega, by go_num, fun j hj => ?_, below_drewN hbl _⟩
            rcases Nat.lt_or_ge j k with h | h
            · exact heq.out j h
            · obtain rfl : j = k := by omega
              rw [hx.out, hy.out]
          case measure => simp [intOf]; omega
        · have hne : (x != y) = true := by simpa using hxy
          go_wp2_with fail
          go_quiet (fail)
          go_wp2
          go_ret
          refine ⟨congrArg (fun b => Ending.returned (.bool b)) (Eq.symm (decide_eq_false fun e => hxy ?_)), below_drewN hbl _⟩
          have h1 := hx.out
          rw [e, hy.out] at h1
          exact (Option.some.inj h1).symm
      · go_wp2
        go_ret
        refine ⟨congrArg (fun b => Ending.returned (.bool b)) (Eq.symm (decide_eq_true (List.ext_getElem? fun j => ?_))), hbl⟩
        rcases Nat.lt_or_ge j k with h | h
        · exact heq.out j h
        · rw [List.getElem?_eq_none (by rw [hla.out]; omega), List.getElem?_eq_none (by rw [hlb.out]; omega)]
  · have hz : ((n : Int) != (m : Int)) = true := by rw [bne_iff_ne]; omega
    go_enter Try.func34, Try.ntmps34
    go_wp2
    go_ret
    exact ⟨congrArg (fun b => Ending.returned (.bool b)) (Eq.symm (decide_eq_false fun e => hnm (by rw [← hla.out, ← hlb.out, e]))), Below.refl _ _⟩
set_option maxHeartbeats 400000 in
theorem equalInts_s (A : Option Addr) (n c : Nat) (zs : List Int) (B : Option Addr) (m d : Nat) (ys : List Int) (w : World) (ha : Ri w .i64 A n zs) (hb : Ri w .i64 B m ys) (hn : n ≤ 9223372036854775806) (hm : m ≤ 9223372036854775806) :
    Calls Try.prog 33 #[.slice A n c, .slice B m d] w fun e w' => e = .returned (.bool (decide (zs = ys))) ∧ Below w.heap.size w w' := by
  have hla := Lib.hid ha.len
  have hlb := Lib.hid hb.len
  by_cases hnm : n = m
  · subst hnm
    have hz : ((n : Int) != (n : Int)) = false := by simp
    go_enter Try.func33, Try.ntmps33
    go_wp2
    go_loopw [5] (fun i wr => ∃ k : Nat, k ≤ n ∧ i = .int .i64 k ∧ (∀ j, j < k → zs[j]? = ys[j]?) ∧ Below w.heap.size w wr) (fun i _ => n - (intOf i).toNat)
    case atStart => exact ⟨0, Nat.zero_le _, rfl, fun j hj => absurd hj (by omega), Below.refl _ _⟩
    case round =>
      obtain ⟨k, hk, rfl, heq0, hbl⟩ := hrel
      have heq := Lib.hid heq0
      clear heq0
      by_cases hlt : k < n
      · have ha' := ha.below hbl (Nat.le_refl _)
        have hb' := hb.below hbl (Nat.le_refl _)
        obtain ⟨b1, o1, x, rfl, hx0, hc1⟩ := ha'.get hlt
        obtain ⟨b2, o2, y, rfl, hy0, hc2⟩ := hb'.get hlt
        have hx := Lib.hid hx0
        have hy := Lib.hid hy0
        clear hx0 hy0
        have hi1 : (0 : Int) ≤ (k : Int) := by omega
        have hi2 : (k : Int) < (n : Int) := by omega
        by_cases hxy : x = y
        · subst hxy
          go_wp2_with fail
          go_quiet (fail)
          go_wp2
          go_roundw
          case rel =>
            refine ⟨k + 1, by omega, by go_num, fun j hj => ?_, below_drewN hbl _⟩
            rcases Nat.lt_or_ge j k with h | h
            · exact heq.out j h
            · obtain rfl : j = k := by omega
              rw [hx.out, hy.out]
          case measure => simp [intOf]; omega
        · have hne : (x != y) = true := by simpa using hxy
          go_wp2_with fail
          go_quiet (fail)
          go_wp2
          go_ret
          refine ⟨congrArg (fun b => Ending.returned (.bool b)) (Eq.symm (decide_eq_false fun e => hxy ?_)), below_drewN hbl _⟩
          have h1 := hx.out
          rw [e, hy.out] at h1
          exact (Option.some.inj h1).symm
      · go_wp2
        go_ret
        refine ⟨congrArg (fun b => Ending.returned (.bool b)) (Eq.symm (decide_eq_true (List.ext_getElem? fun j => ?_))), hbl⟩
        rcases Nat.lt_or_ge j k with h | h
        · exact heq.out j h
        · rw [List.getElem?_eq_none (by rw [hla.out]; omega), List.getElem?_eq_none (by rw [hlb.out]; omega)]
  · have hz : ((n : Int) != (m : Int)) = true := by rw [bne_iff_ne]; omega
    go_enter Try.func33, Try.ntmps33
    go_wp2
    go_ret
    exact ⟨congrArg (fun b => Ending.returned (.bool b)) (Eq.symm (decide_eq_false fun e => hnm (by rw [← hla.out, ← hlb.out, e]))), Below.refl _ _⟩
theorem mac_i (key : Int) (A : Option Addr) (n c : Nat) (zs : List Int) (w : World) (hr : Ri w .i64 A n zs) (hn : n ≤ 1048576) :
    Calls Try.prog 42 #[.int .i64 key, .slice A n c] w fun e w' => e = .returned (.int .i64 (digest (key :: zs ++ [key]))) ∧ Below w.heap.size w w' := by
  obtain ⟨i0, hi, hz0, hz1, hz2⟩ := info_parts ints_info
  have hown0 : Oi (w.alloc (.cells #[.int .i64 key] 3)) w.heap.size 3 .i64 (some ⟨w.heap.size, 0, none⟩) 1 1 [key] := World.ownsRow_lit w #[.int .i64 key] 1 (Nat.le_refl _) (by simp [maxLen]) rfl
  go_enter Try.func42, Try.ntmps42
  go_wp2_with (first
    | (at_builtin; refine wpList_pushAll _ rfl (.tmp 6) (.tmp 7) 26 rfl w.heap.size 3 i0 (.int .i64 0) 8 .i64 Try.underlying26 hi hz0 hz1 hz2 rfl (by omega) _ 1 1 _ rfl hown0 A n c zs rfl (hr.alloc _) (by omega) (by simp) ?_; intro A1 c1 w1 hown1 hb1)
    | (at_builtin; refine wpList_push _ rfl (.tmp 8) (.tmp 10) 26 rfl w.heap.size 3 i0 (.int .i64 0) 8 .i64 Try.underlying26 hi hz0 hz1 hz2 rfl (by omega) A1 (1 + n) c1 _ rfl (hown1.alloc _) w1.heap.size key rfl (by simp) (by omega) (by have := hb1.size; simp at this ⊢; omega) ?_; intro A2 c2 w2 hown2 hb2)
    | (go_at_call 36; refine (digest_i _ _ _ _ _ hown2.rd (by omega)).mono ?_; rintro e w' ⟨rfl, rfl⟩))
  go_ret
  refine ⟨rfl, ?_⟩
  have h1 : w.heap.size ≤ w1.heap.size := by have := hb1.size; simp at this; omega
  exact ((((Below.refl _ _).alloc (Nat.le_refl _) _).trans hb1).alloc h1 _).trans hb2
theorem mac_s (key : Int) (A : Option Addr) (n c : Nat) (zs : List Int) (w : World) (hr : Ri w .i64 A n zs) (hn : n ≤ 1048576) :
    Calls Try.prog 41 #[.int .i64 key, .slice A n c] w fun e w' => e = .returned (.int .i64 (digest (key :: zs ++ [key]))) ∧ Below w.heap.size w w' := by
  obtain ⟨i0, hi, hz0, hz1, hz2⟩ := info_parts ints_info
  have hown0 : Oi (w.alloc (.cells #[.int .i64 key] 3)) w.heap.size 3 .i64 (some ⟨w.heap.size, 0, none⟩) 1 1 [key] := World.ownsRow_lit w #[.int .i64 key] 1 (Nat.le_refl _) (by simp [maxLen]) rfl
  go_enter Try.func41, Try.ntmps41
  go_wp2_with (first
    | (at_builtin; refine wpList_pushAll _ rfl (.tmp 6) (.tmp 7) 26 rfl w.heap.size 3 i0 (.int .i64 0) 8 .i64 Try.underlying26 hi hz0 hz1 hz2 rfl (by omega) _ 1 1 _ rfl hown0 A n c zs rfl (hr.alloc _) (by omega) (by simp) ?_; intro A1 c1 w1 hown1 hb1)
    | (at_builtin; refine wpList_push _ rfl (.tmp 8) (.tmp 10) 26 rfl w.heap.size 3 i0 (.int .i64 0) 8 .i64 Try.underlying26 hi hz0 hz1 hz2 rfl (by omega) A1 (1 + n) c1 _ rfl (hown1.alloc _) w1.heap.size key rfl (by simp) (by omega) (by have := hb1.size; simp at this ⊢; omega) ?_; intro A2 c2 w2 hown2 hb2)
    | (go_at_call 35; refine (digest_s _ _ _ _ _ hown2.rd (by omega)).mono ?_; rintro e w' ⟨rfl, rfl⟩))
  go_ret
  refine ⟨rfl, ?_⟩
  have h1 : w.heap.size ≤ w1.heap.size := by have := hb1.size; simp at this; omega
  exact ((((Below.refl _ _).alloc (Nat.le_refl _) _).trans hb1).alloc h1 _).trans hb2
end Go.Proofs.Ytkoidpagehcegaa
