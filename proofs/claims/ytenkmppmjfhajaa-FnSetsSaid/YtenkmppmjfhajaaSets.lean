/- Contracts of the functions on sets: what each call returns. -/
import Derived.Test.YtenkmppmjfhajaaRows
import Derived.Test.YtenkmppmjfhajaaMem
import Derived.Test.YtenkmppmjfhajaaSetPure
namespace Go.Proofs.Ytenkmppmjfhajaa
open Go.RowKit
set_option linter.unusedVariables false

theorem ret_int {k : IntKind} {a b : Int} (h : a = b) : Ending.returned (.int k a) = .returned (.int k b) := by rw [h]
theorem ret_bool {a b : Bool} (h : a = b) : Ending.returned (.bool a) = .returned (.bool b) := by rw [h]
theorem int_info : (Try.prog.info? 3).map (fun i => (i.zero, i.size, i.bytes)) = some (some (.int .i64 0), 1, 8) := by kernel_rfl

/-- A call that returns the integers zs in a new row, and turns nothing that was there. -/
def RetInts (w : World) (zs : List Int) (e : Ending) (w' : World) : Prop :=
  ∃ A c, e = .returned (.slice A zs.length c) ∧ Oi w' w.heap.size 3 .i64 A zs.length c zs ∧ Below w.heap.size w w'

theorem contains_i (s i : Int) (w : World) : Calls Try.prog 40 #[.int .i64 s, .int .i64 i] w fun e w' => e = .returned (.bool (hasE s i)) ∧ w = w' := by
  by_cases h1 : 0 ≤ s
  · by_cases h2 : s ≤ 65535
    · by_cases h3 : 0 ≤ i
      · by_cases h4 : i ≤ 15
        · go_enter Try.func40, Try.ntmps40
          go_wp2
          all_goals go_ret
          exact ⟨ret_bool (walk_has s i h1 h2 h3 h4), rfl⟩
        · go_enter Try.func40, Try.ntmps40
          go_wp2
          all_goals go_ret
          exact ⟨ret_bool (hasE_out (by omega)), rfl⟩
      · go_enter Try.func40, Try.ntmps40
        go_wp2
        all_goals go_ret
        exact ⟨ret_bool (hasE_out (by omega)), rfl⟩
    · go_enter Try.func40, Try.ntmps40
      go_wp2
      all_goals go_ret
      exact ⟨ret_bool (hasE_out (by omega)), rfl⟩
  · go_enter Try.func40, Try.ntmps40
    go_wp2
    all_goals go_ret
    exact ⟨ret_bool (hasE_out (by omega)), rfl⟩

theorem add_i (s i : Int) (w : World) : Calls Try.prog 42 #[.int .i64 s, .int .i64 i] w fun e w' => e = .returned (.int .i64 (addE s i)) ∧ w = w' := by
  by_cases h1 : 0 ≤ s
  · by_cases h2 : s ≤ 65535
    · by_cases h3 : 0 ≤ i
      · by_cases h4 : i ≤ 15
        · go_enter Try.func42, Try.ntmps42
          go_wp2
          all_goals go_ret
          exact ⟨ret_int (walk_add s i h1 h2 h3 h4), rfl⟩
        · go_enter Try.func42, Try.ntmps42
          go_wp2
          all_goals go_ret
          exact ⟨ret_int (addE_out (by omega)), rfl⟩
      · go_enter Try.func42, Try.ntmps42
        go_wp2
        all_goals go_ret
        exact ⟨ret_int (addE_out (by omega)), rfl⟩
    · go_enter Try.func42, Try.ntmps42
      go_wp2
      all_goals go_ret
      exact ⟨ret_int (addE_out (by omega)), rfl⟩
  · go_enter Try.func42, Try.ntmps42
    go_wp2
    all_goals go_ret
    exact ⟨ret_int (addE_out (by omega)), rfl⟩

theorem del_i (s i : Int) (w : World) : Calls Try.prog 44 #[.int .i64 s, .int .i64 i] w fun e w' => e = .returned (.int .i64 (delE s i)) ∧ w = w' := by
  by_cases h1 : 0 ≤ s
  · by_cases h2 : s ≤ 65535
    · by_cases h3 : 0 ≤ i
      · by_cases h4 : i ≤ 15
        · go_enter Try.func44, Try.ntmps44
          go_wp2
          all_goals go_ret
          exact ⟨ret_int (walk_del s i h1 h2 h3 h4), rfl⟩
        · go_enter Try.func44, Try.ntmps44
          go_wp2
          all_goals go_ret
          exact ⟨ret_int (delE_out (by omega)), rfl⟩
      · go_enter Try.func44, Try.ntmps44
        go_wp2
        all_goals go_ret
        exact ⟨ret_int (delE_out (by omega)), rfl⟩
    · go_enter Try.func44, Try.ntmps44
      go_wp2
      all_goals go_ret
      exact ⟨ret_int (delE_out (by omega)), rfl⟩
  · go_enter Try.func44, Try.ntmps44
    go_wp2
    all_goals go_ret
    exact ⟨ret_int (delE_out (by omega)), rfl⟩

theorem uni_i (a b : Int) (w : World) : Calls Try.prog 46 #[.int .i64 a, .int .i64 b] w fun e w' => e = .returned (.int .i64 (uniE a b)) ∧ w = w' := by
  by_cases h1 : 0 ≤ a
  · by_cases h2 : a ≤ 65535
    · by_cases h3 : 0 ≤ b
      · by_cases h4 : b ≤ 65535
        · go_enter Try.func46, Try.ntmps46
          go_wp2
          all_goals go_ret
          exact ⟨ret_int (walk_uni a b h1 h2 h3 h4), rfl⟩
        · go_enter Try.func46, Try.ntmps46
          go_wp2
          all_goals go_ret
          exact ⟨ret_int (uniE_out (by omega)), rfl⟩
      · go_enter Try.func46, Try.ntmps46
        go_wp2
        all_goals go_ret
        exact ⟨ret_int (uniE_out (by omega)), rfl⟩
    · go_enter Try.func46, Try.ntmps46
      go_wp2
      all_goals go_ret
      exact ⟨ret_int (uniE_out (by omega)), rfl⟩
  · go_enter Try.func46, Try.ntmps46
    go_wp2
    all_goals go_ret
    exact ⟨ret_int (uniE_out (by omega)), rfl⟩

theorem inter_i (a b : Int) (w : World) : Calls Try.prog 48 #[.int .i64 a, .int .i64 b] w fun e w' => e = .returned (.int .i64 (intE a b)) ∧ w = w' := by
  by_cases h1 : 0 ≤ a
  · by_cases h2 : a ≤ 65535
    · by_cases h3 : 0 ≤ b
      · by_cases h4 : b ≤ 65535
        · go_enter Try.func48, Try.ntmps48
          go_wp2
          all_goals go_ret
          exact ⟨ret_int (walk_int a b h1 h2 h3 h4), rfl⟩
        · go_enter Try.func48, Try.ntmps48
          go_wp2
          all_goals go_ret
          exact ⟨ret_int (intE_out (by omega)), rfl⟩
      · go_enter Try.func48, Try.ntmps48
        go_wp2
        all_goals go_ret
        exact ⟨ret_int (intE_out (by omega)), rfl⟩
    · go_enter Try.func48, Try.ntmps48
      go_wp2
      all_goals go_ret
      exact ⟨ret_int (intE_out (by omega)), rfl⟩
  · go_enter Try.func48, Try.ntmps48
    go_wp2
    all_goals go_ret
    exact ⟨ret_int (intE_out (by omega)), rfl⟩

theorem contains_s (s i : Int) (w : World) : Calls Try.prog 41 #[.int .i64 s, .int .i64 i] w fun e w' => e = .returned (.bool (hasE s i)) ∧ w = w' := by
  by_cases h1 : 0 ≤ s
  · by_cases h2 : s ≤ 65535
    · by_cases h3 : 0 ≤ i
      · by_cases h4 : i ≤ 15
        · go_enter Try.func41, Try.ntmps41
          go_wp2
          all_goals go_ret
          exact ⟨ret_bool (walk_has s i h1 h2 h3 h4), rfl⟩
        · go_enter Try.func41, Try.ntmps41
          go_wp2
          all_goals go_ret
          exact ⟨ret_bool (hasE_out (by omega)), rfl⟩
      · go_enter Try.func41, Try.ntmps41
        go_wp2
        all_goals go_ret
        exact ⟨ret_bool (hasE_out (by omega)), rfl⟩
    · go_enter Try.func41, Try.ntmps41
      go_wp2
      all_goals go_ret
      exact ⟨ret_bool (hasE_out (by omega)), rfl⟩
  · go_enter Try.func41, Try.ntmps41
    go_wp2
    all_goals go_ret
    exact ⟨ret_bool (hasE_out (by omega)), rfl⟩

theorem add_s (s i : Int) (w : World) : Calls Try.prog 43 #[.int .i64 s, .int .i64 i] w fun e w' => e = .returned (.int .i64 (addE s i)) ∧ w = w' := by
  by_cases h1 : 0 ≤ s
  · by_cases h2 : s ≤ 65535
    · by_cases h3 : 0 ≤ i
      · by_cases h4 : i ≤ 15
        · go_enter Try.func43, Try.ntmps43
          go_wp2
          all_goals go_ret
          exact ⟨ret_int (walk_add s i h1 h2 h3 h4), rfl⟩
        · go_enter Try.func43, Try.ntmps43
          go_wp2
          all_goals go_ret
          exact ⟨ret_int (addE_out (by omega)), rfl⟩
      · go_enter Try.func43, Try.ntmps43
        go_wp2
        all_goals go_ret
        exact ⟨ret_int (addE_out (by omega)), rfl⟩
    · go_enter Try.func43, Try.ntmps43
      go_wp2
      all_goals go_ret
      exact ⟨ret_int (addE_out (by omega)), rfl⟩
  · go_enter Try.func43, Try.ntmps43
    go_wp2
    all_goals go_ret
    exact ⟨ret_int (addE_out (by omega)), rfl⟩

theorem del_s (s i : Int) (w : World) : Calls Try.prog 45 #[.int .i64 s, .int .i64 i] w fun e w' => e = .returned (.int .i64 (delE s i)) ∧ w = w' := by
  by_cases h1 : 0 ≤ s
  · by_cases h2 : s ≤ 65535
    · by_cases h3 : 0 ≤ i
      · by_cases h4 : i ≤ 15
        · go_enter Try.func45, Try.ntmps45
          go_wp2
          all_goals go_ret
          exact ⟨ret_int (walk_del s i h1 h2 h3 h4), rfl⟩
        · go_enter Try.func45, Try.ntmps45
          go_wp2
          all_goals go_ret
          exact ⟨ret_int (delE_out (by omega)), rfl⟩
      · go_enter Try.func45, Try.ntmps45
        go_wp2
        all_goals go_ret
        exact ⟨ret_int (delE_out (by omega)), rfl⟩
    · go_enter Try.func45, Try.ntmps45
      go_wp2
      all_goals go_ret
      exact ⟨ret_int (delE_out (by omega)), rfl⟩
  · go_enter Try.func45, Try.ntmps45
    go_wp2
    all_goals go_ret
    exact ⟨ret_int (delE_out (by omega)), rfl⟩

theorem uni_s (a b : Int) (w : World) : Calls Try.prog 47 #[.int .i64 a, .int .i64 b] w fun e w' => e = .returned (.int .i64 (uniE a b)) ∧ w = w' := by
  by_cases h1 : 0 ≤ a
  · by_cases h2 : a ≤ 65535
    · by_cases h3 : 0 ≤ b
      · by_cases h4 : b ≤ 65535
        · go_enter Try.func47, Try.ntmps47
          go_wp2
          all_goals go_ret
          exact ⟨ret_int (walk_uni a b h1 h2 h3 h4), rfl⟩
        · go_enter Try.func47, Try.ntmps47
          go_wp2
          all_goals go_ret
          exact ⟨ret_int (uniE_out (by omega)), rfl⟩
      · go_enter Try.func47, Try.ntmps47
        go_wp2
        all_goals go_ret
        exact ⟨ret_int (uniE_out (by omega)), rfl⟩
    · go_enter Try.func47, Try.ntmps47
      go_wp2
      all_goals go_ret
      exact ⟨ret_int (uniE_out (by omega)), rfl⟩
  · go_enter Try.func47, Try.ntmps47
    go_wp2
    all_goals go_ret
    exact ⟨ret_int (uniE_out (by omega)), rfl⟩

theorem inter_s (a b : Int) (w : World) : Calls Try.prog 49 #[.int .i64 a, .int .i64 b] w fun e w' => e = .returned (.int .i64 (intE a b)) ∧ w = w' := by
  by_cases h1 : 0 ≤ a
  · by_cases h2 : a ≤ 65535
    · by_cases h3 : 0 ≤ b
      · by_cases h4 : b ≤ 65535
        · go_enter Try.func49, Try.ntmps49
          go_wp2
          all_goals go_ret
          exact ⟨ret_int (walk_int a b h1 h2 h3 h4), rfl⟩
        · go_enter Try.func49, Try.ntmps49
          go_wp2
          all_goals go_ret
          exact ⟨ret_int (intE_out (by omega)), rfl⟩
      · go_enter Try.func49, Try.ntmps49
        go_wp2
        all_goals go_ret
        exact ⟨ret_int (intE_out (by omega)), rfl⟩
    · go_enter Try.func49, Try.ntmps49
      go_wp2
      all_goals go_ret
      exact ⟨ret_int (intE_out (by omega)), rfl⟩
  · go_enter Try.func49, Try.ntmps49
    go_wp2
    all_goals go_ret
    exact ⟨ret_int (intE_out (by omega)), rfl⟩

set_option maxHeartbeats 400000 in
theorem elements_i (s : Int) (w : World) : Calls Try.prog 39 #[.int .i64 s] w (RetInts w (elemsE s)) := by
  obtain ⟨i0, hi, hz0, hz1, hz2⟩ := info_parts int_info
  go_enter Try.func39, Try.ntmps39
  go_wp2
  go_loopw [3, 4] (fun v i wr => ∃ (k n : Nat) (A : Option Addr) (c : Nat), k ≤ 16 ∧ i = .int .i64 k ∧ v = .slice A n c ∧ n ≤ k ∧ Oi wr w.heap.size 3 .i64 A n c (elemsTo s k) ∧ Below w.heap.size w wr) (fun _ i _ => 16 - (intOf i).toNat)
  case atStart => exact ⟨0, 0, none, 0, by omega, rfl, rfl, by omega, Oi.nil, Below.refl _ _⟩
  case round =>
    obtain ⟨k, n, A, c, hk, rfl, rfl, hnk, hown, hb⟩ := hrel
    have hsz := hb.size
    by_cases hlt : k < 16
    · have hes := Lib.hid (elemsTo_succ s k)
      by_cases hh : hasE s (k : Int) = true
      · go_wp2_with (first
          | (go_at_call 40; refine (contains_i _ _ _).mono ?_; rintro e w' ⟨rfl, rfl⟩)
          | (at_builtin; refine wpList_push _ rfl _ _ 35 rfl w.heap.size 3 i0 (.int .i64 0) 8 .i64 Try.underlying35 hi hz0 hz1 hz2 rfl (by omega) A n c _ rfl (hown.alloc _) wr.heap.size (k : Int) rfl (by simp) (by omega) (by simp; omega) ?_; intro A' c' w1 hown' hb'))
        go_roundw
        case rel =>
          refine ⟨k + 1, n + 1, A', c', by omega, by go_num, rfl, by omega, ?_, (hb.alloc hsz _).trans hb'⟩
          rw [hes.out, if_pos hh]
          exact hown'
        case measure => simp [intOf]; omega
      · have hf : hasE s (k : Int) = false := by simpa using hh
        go_wp2_with (first
          | (go_at_call 40; refine (contains_i _ _ _).mono ?_; rintro e w' ⟨rfl, rfl⟩))
        go_roundw
        case rel =>
          refine ⟨k + 1, n, A, c, by omega, by go_num, rfl, by omega, ?_, hb⟩
          rw [hes.out, if_neg (by simp [hf]), List.append_nil]
          exact hown
        case measure => simp [intOf]; omega
    · obtain rfl : k = 16 := by omega
      go_wp2
      go_ret
      have hl := hown.len
      subst hl
      exact ⟨A, c, rfl, hown, hb⟩
set_option maxHeartbeats 400000 in
theorem elements_s (s : Int) (w : World) : Calls Try.prog 53 #[.int .i64 s] w (RetInts w (elemsE s)) := by
  obtain ⟨i0, hi, hz0, hz1, hz2⟩ := info_parts int_info
  go_enter Try.func53, Try.ntmps53
  go_wp2
  go_loopw [3, 4] (fun v i wr => ∃ (k n : Nat) (A : Option Addr) (c : Nat), k ≤ 16 ∧ i = .int .i64 k ∧ v = .slice A n c ∧ n ≤ k ∧ Oi wr w.heap.size 3 .i64 A n c (elemsTo s k) ∧ Below w.heap.size w wr) (fun _ i _ => 16 - (intOf i).toNat)
  case atStart => exact ⟨0, 0, some ⟨w.heap.size, 0, none⟩, 0, by omega, rfl, rfl, by omega, World.ownsRow_made w #[] 0 (Nat.le_refl _) (Nat.zero_le _) rfl, (Below.refl _ _).alloc (Nat.le_refl _) _⟩
  case round =>
    obtain ⟨k, n, A, c, hk, rfl, rfl, hnk, hown, hb⟩ := hrel
    have hsz := hb.size
    by_cases hlt : k < 16
    · have hes := Lib.hid (elemsTo_succ s k)
      by_cases hh : hasE s (k : Int) = true
      · go_wp2_with (first
          | (go_at_call 41; refine (contains_s _ _ _).mono ?_; rintro e w' ⟨rfl, rfl⟩)
          | (at_builtin; refine wpList_push _ rfl _ _ 35 rfl w.heap.size 3 i0 (.int .i64 0) 8 .i64 Try.underlying35 hi hz0 hz1 hz2 rfl (by omega) A n c _ rfl (hown.alloc _) wr.heap.size (k : Int) rfl (by simp) (by omega) (by simp; omega) ?_; intro A' c' w1 hown' hb'))
        go_roundw
        case rel =>
          refine ⟨k + 1, n + 1, A', c', by omega, by go_num, rfl, by omega, ?_, (hb.alloc hsz _).trans hb'⟩
          rw [hes.out, if_pos hh]
          exact hown'
        case measure => simp [intOf]; omega
      · have hf : hasE s (k : Int) = false := by simpa using hh
        go_wp2_with (first
          | (go_at_call 41; refine (contains_s _ _ _).mono ?_; rintro e w' ⟨rfl, rfl⟩))
        go_roundw
        case rel =>
          refine ⟨k + 1, n, A, c, by omega, by go_num, rfl, by omega, ?_, hb⟩
          rw [hes.out, if_neg (by simp [hf]), List.append_nil]
          exact hown
        case measure => simp [intOf]; omega
    · obtain rfl : k = 16 := by omega
      go_wp2
      go_ret
      have hl := hown.len
      subst hl
      exact ⟨A, c, rfl, hown, hb⟩
theorem makeSet_i (A : Option Addr) (n c : Nat) (zs : List Int) (w : World) (hr : Ri w .i64 A n zs) (hn : n ≤ 9223372036854775806) :
    Calls Try.prog 50 #[.slice A n c] w fun e w' => e = .returned (.int .i64 (mkSet zs)) ∧ w = w' := by
  have hl := Lib.hid hr.len
  go_enter Try.func50, Try.ntmps50
  go_wp2
  go_loop [3, 8] (fun s i => ∃ k : Nat, k ≤ n ∧ i = .int .i64 k ∧ s = .int .i64 (mkSet (zs.take k))) (fun _ i => n - (intOf i).toNat)
  case atStart => exact ⟨0, Nat.zero_le _, rfl, rfl⟩
  case round =>
    obtain ⟨k, hk, rfl, rfl⟩ := hrel
    by_cases hlt : k < n
    · obtain ⟨b, off, x, rfl, hx0, hc⟩ := hr.get hlt
      have hx := Lib.hid hx0
      clear hx0
      go_wp2_with (first
        | (go_at_call 42; refine (add_i _ _ _).mono ?_; rintro e w' ⟨rfl, rfl⟩))
      go_round
      case rel => exact ⟨k + 1, by omega, by go_num, congrArg (Value.int .i64) (mkSet_succ hx.out)⟩
      case measure => simp [intOf]; omega
    · go_wp2
      go_ret
      exact ⟨ret_int (by rw [List.take_of_length_le (by rw [hl.out]; omega)]), rfl⟩
theorem makeSet_s (A : Option Addr) (n c : Nat) (zs : List Int) (w : World) (hr : Ri w .i64 A n zs) (hn : n ≤ 9223372036854775806) :
    Calls Try.prog 51 #[.slice A n c] w fun e w' => e = .returned (.int .i64 (mkSet zs)) ∧ w = w' := by
  have hl := Lib.hid hr.len
  go_enter Try.func51, Try.ntmps51
  go_wp2
  go_loop [3, 4] (fun s i => ∃ k : Nat, k ≤ n ∧ i = .int .i64 k ∧ s = .int .i64 (mkSet (zs.take k))) (fun _ i => n - (intOf i).toNat)
  case atStart => exact ⟨0, Nat.zero_le _, rfl, rfl⟩
  case round =>
    obtain ⟨k, hk, rfl, rfl⟩ := hrel
    by_cases hlt : k < n
    · obtain ⟨b, off, x, rfl, hx0, hc⟩ := hr.get hlt
      have hx := Lib.hid hx0
      clear hx0
      go_wp2_with (first
        | (go_at_call 43; refine (add_s _ _ _).mono ?_; rintro e w' ⟨rfl, rfl⟩))
      go_round
      case rel => exact ⟨k + 1, by omega, by go_num, congrArg (Value.int .i64) (mkSet_succ hx.out)⟩
      case measure => simp [intOf]; omega
    · go_wp2
      go_ret
      exact ⟨ret_int (by rw [List.take_of_length_le (by rw [hl.out]; omega)]), rfl⟩
theorem setSize_i (s : Int) (w : World) : Calls Try.prog 54 #[.int .i64 s] w fun e w' => e = .returned (.int .i64 (elemsE s).length) ∧ Below w.heap.size w w' := by
  go_enter Try.func54, Try.ntmps54
  go_wp2_with (first
    | (go_at_call 39; refine (elements_i _ _).mono ?_; rintro e w' ⟨A, c, rfl, hown, hb⟩))
  go_ret
  exact ⟨rfl, hb⟩
end Go.Proofs.Ytenkmppmjfhajaa
