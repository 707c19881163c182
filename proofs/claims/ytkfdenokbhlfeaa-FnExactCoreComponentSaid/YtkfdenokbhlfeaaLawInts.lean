/- Contracts of the laws' own helpers on slices of int: copy, compare, mark, look at the marks. -/
import Derived.Test.YtkfdenokbhlfeaaRows
import Derived.Test.YtkfdenokbhlfeaaMem
import Derived.Deep.QuietTactic
import Derived.BigQuiet
import Derived.WalkSmall
namespace Go.Proofs.Ytkfdenokbhlfeaa
open Go.RowKit
set_option linter.unusedVariables false

theorem ints_info : (Try.prog.info? 3).map (fun i => (i.zero, i.size, i.bytes)) = some (some (.int .i64 0), 1, 8) := by kernel_rfl
/-- A call that returns the integers zs in a new row, and turns nothing that was there. -/
def RetIntS (w : World) (zs : List Int) (e : Ending) (w' : World) : Prop :=
  ∃ A c, e = .returned (.slice A zs.length c) ∧ Oi w' w.heap.size 3 .i64 A zs.length c zs ∧ Below w.heap.size w w'

set_option maxHeartbeats 400000 in
theorem eqIntS_any (A : Option Addr) (n c : Nat) (zs : List Int) (B : Option Addr) (m d : Nat) (ys : List Int) (w : World) (ha : Ri w .i64 A n zs) (hb : Ri w .i64 B m ys) (hn : n ≤ 9223372036854775806) (hm : m ≤ 9223372036854775806) :
    Calls Try.prog 26 #[.slice A n c, .slice B m d] w fun e w' => e = .returned (.bool (decide (zs = ys))) ∧ Below w.heap.size w w' := by
  have hla := Lib.hid ha.len
  have hlb := Lib.hid hb.len
  by_cases hnm : n = m
  · subst hnm
    have hz : ((n : Int) != (n : Int)) = false := by simp
    go_enter Try.func26, Try.ntmps26
    go_wp2
    go_loopw [5] (fun i wr => ∃ k : Nat, k ≤ n ∧ i = .int .i64 k ∧ (∀ j, j < k → zs[j]? = ys[j]?) ∧ Below w.heap.size w wr) (fun i _ => n - (intOf i).toNat)
    case atStart => exact ⟨0, Nat.zero_le _, rfl, fun j hj => absurd hj (by omega), Below.refl _ _⟩
    case round =>
      obtain ⟨k, hk, rfl, heq0, hbl⟩ := hrel
      have heq := Lib.hid heq0
      clear heq0
      by_cases hlt : k < n
      · have ha' := ha.below hbl (Nat.le_refl _)
        have hb' := hb.below hbl (Nat.le_refl _)
        obtain ⟨b1, o1, x, rfl, hx0, hc1⟩ := ha'.get hlt
        obtain ⟨b2, o2, y, rfl, hy0, hc2⟩ := hb'.get hlt
        have hx := Lib.hid hx0
        have hy := Lib.hid hy0
        clear hx0 hy0
        have hi1 : (0 : Int) ≤ (k : Int) := by omega
        have hi2 : (k : Int) < (n : Int) := by omega
        by_cases hxy : x = y
        · subst hxy
          go_wp2_with fail
          go_quiet (fail)
          go_wp2
          go_roundw
          case rel =>
            refine ⟨k + 1, by omega, by go_num, fun j hj => ?_, below_drewN hbl _⟩
            rcases Nat.lt_or_ge j k with h | h
            · exact heq.out j h
            · obtain rfl : j = k := by omega
              rw [hx.out, hy.out]
          case measure => simp [intOf]; omega
        · have hne : (x != y) = true := by simpa using hxy
          go_wp2_with fail
          go_quiet (fail)
          go_wp2
          go_ret
          refine ⟨congrArg (fun b => Ending.returned (.bool b)) (Eq.symm (decide_eq_false fun e => hxy ?_)), below_drewN hbl _⟩
          have h1 := hx.out
          rw [e, hy.out] at h1
          exact (Option.some.inj h1).symm
      · go_wp2
        go_ret
        refine ⟨congrArg (fun b => Ending.returned (.bool b)) (Eq.symm (decide_eq_true (List.ext_getElem? fun j => ?_))), hbl⟩
        rcases Nat.lt_or_ge j k with h | h
        · exact heq.out j h
        · rw [List.getElem?_eq_none (by rw [hla.out]; omega), List.getElem?_eq_none (by rw [hlb.out]; omega)]
  · have hz : ((n : Int) != (m : Int)) = true := by rw [bne_iff_ne]; omega
    go_enter Try.func26, Try.ntmps26
    go_wp2
    go_ret
    exact ⟨congrArg (fun b => Ending.returned (.bool b)) (Eq.symm (decide_eq_false fun e => hnm (by rw [← hla.out, ← hlb.out, e]))), Below.refl _ _⟩
set_option maxHeartbeats 400000 in
theorem markIntS_any (A : Option Addr) (n c : Nat) (zs : List Int) (k0 : Int) (w : World) (base : Nat) (hown0 : Oi w base 3 .i64 A n c zs) (hk0 : 0 ≤ k0) (hk1 : k0 ≤ 100000000) (hn : n ≤ 100000000) :
    Calls Try.prog 28 #[.slice A n c, .int .i64 k0] w fun e w' => e = .returned (.int .i64 (k0 + n)) ∧ Oi w' base 3 .i64 A n c (marks .i64 k0 n) ∧ w.grownBy w' (Value.slice A n c).ownBlock := by
  have hl := Lib.hid hown0.len
  go_enter Try.func28, Try.ntmps28
  go_wp2
  go_loopw [1, 5] (fun q i wr => ∃ k : Nat, k ≤ n ∧ i = .int .i64 k ∧ q = .int .i64 (k0 + k) ∧ Oi wr base 3 .i64 A n c (marks .i64 k0 k ++ zs.drop k) ∧ w.grownBy wr (Value.slice A n c).ownBlock) (fun _ i _ => n - (intOf i).toNat)
  case atStart => exact ⟨0, Nat.zero_le _, rfl, by go_num, hown0, World.grownBy.refl _ _⟩
  case round =>
    clear hown0
    obtain ⟨k, hk, rfl, rfl, hown, hg⟩ := hrel
    by_cases hlt : k < n
    · have hw := IntWalk.i64_in (k0 + k) (by omega)
      obtain ⟨g, rfl, hbg, hgl, ⟨u, hu⟩, hf, hown', hg'⟩ := hown.store hlt (IntKind.i64.wrap (k0 + k))
      have Ho := Lib.hid hown'
      have Hg := Lib.hid hg'
      have Hs := Lib.hid (marks_step (K := .i64) (k0 := k0) hl.out hlt)
      clear hown' hg'
      go_wp2
      go_roundw
      case rel =>
        refine ⟨k + 1, by omega, by go_num, by go_num, ?_, ?_⟩
        · rw [← Hs.out]
          first | exact Ho.out | (rw [hw] at Ho ⊢; exact Ho.out)
        · first | exact hg.trans Hg.out | (rw [hw] at Hg; exact hg.trans Hg.out)
      case measure => simp [intOf]; omega
    · obtain rfl : k = n := by omega
      go_wp2
      go_ret
      rw [List.drop_eq_nil_of_le (by rw [hl.out]; omega), List.append_nil] at hown
      exact ⟨rfl, hown, hg⟩
set_option maxHeartbeats 400000 in
theorem heldIntS_any (A : Option Addr) (n c : Nat) (k0 : Int) (w : World) (hr : Ri w .i64 A n (marks .i64 k0 n)) (hk0 : 0 ≤ k0) (hk1 : k0 ≤ 100000000) (hn : n ≤ 100000000) :
    Calls Try.prog 29 #[.slice A n c, .int .i64 k0] w fun e w' => e = .returned (.int .i64 (k0 + n)) ∧ w = w' := by
  go_enter Try.func29, Try.ntmps29
  go_wp2
  go_loop [1, 5] (fun q i => ∃ k : Nat, k ≤ n ∧ i = .int .i64 k ∧ q = .int .i64 (k0 + k)) (fun _ i => n - (intOf i).toNat)
  case atStart => exact ⟨0, Nat.zero_le _, rfl, by go_num⟩
  case round =>
    obtain ⟨k, hk, rfl, rfl⟩ := hrel
    by_cases hlt : k < n
    · obtain ⟨b1, o1, x, rfl, hx0, hc1⟩ := hr.get hlt
      rw [marks_get _ _ _ _ hlt] at hx0
      injection hx0 with hx0
      subst hx0
      have hw := IntWalk.i64_in (k0 + k) (by omega)
      first | rw [hw] at hc1 | skip
      clear hw
      go_wp2
      go_round
      case rel => exact ⟨k + 1, by omega, by go_num, by go_num⟩
      case measure => simp [intOf]; omega
    · obtain rfl : k = n := by omega
      go_wp2
      go_ret
      exact ⟨rfl, rfl⟩
end Go.Proofs.Ytkfdenokbhlfeaa
