/- Contracts of the laws' own comparisons of slices. -/
import Derived.Test.YtehfcejpoigclaaRows
import Derived.Test.YtehfcejpoigclaaMem
import Derived.Deep.QuietTactic
import Derived.BigQuiet
import Derived.WalkSmall
namespace Go.Proofs.Ytehfcejpoigclaa
open Go.RowKit
set_option linter.unusedVariables false

set_option maxHeartbeats 400000 in
theorem sameI_any (A : Option Addr) (n c : Nat) (zs : List Int) (B : Option Addr) (m d : Nat) (ys : List Int) (w : World) (ha : Ri w .i64 A n zs) (hb : Ri w .i64 B m ys) (hn : n ≤ 9223372036854775806) (hm : m ≤ 9223372036854775806) :
    Calls Try.prog 11 #[.slice A n c, .slice B m d] w fun e w' => e = .returned (.bool (decide (zs = ys))) ∧ Below w.heap.size w w' := by
  have hla := Lib.hid ha.len
  have hlb := Lib.hid hb.len
  by_cases hnm : n = m
  · subst hnm
    have hz : ((n : Int) != (n : Int)) = false := by simp
    go_enter Try.func11, Try.ntmps11
    go_wp2
    go_loopw [5] (fun i wr => ∃ k : Nat, k ≤ n ∧ i = .int .i64 k ∧ (∀ j, j < k → zs[j]? = ys[j]?) ∧ Below w.heap.size w wr) (fun i _ => n - (intOf i).toNat)
    case atStart => exact ⟨0, Nat.zero_le _, rfl, fun j hj => absurd hj (by omega), Below.refl _ _⟩
    case round =>
      obtain ⟨k, hk, rfl, heq0, hbl⟩ := hrel
      have heq := Lib.hid heq0
      clear heq0
      by_cases hlt : k < n
      · have ha' := ha.below hbl (Nat.le_refl _)
        have hb' := hb.below hbl (Nat.le_refl _)
        obtain ⟨b1, o1, x, rfl, hx0, hc1⟩ := ha'.get hlt
        obtain ⟨b2, o2, y, rfl, hy0, hc2⟩ := hb'.get hlt
        have hx := Lib.hid hx0
        have hy := Lib.hid hy0
        clear hx0 hy0
        have hi1 : (0 : Int) ≤ (k : Int) := by omega
        have hi2 : (k : Int) < (n : Int) := by omega
        by_cases hxy : x = y
        · subst hxy
          go_wp2_with fail
          go_quiet (fail)
          go_wp2
          go_roundw
          case rel =>
            refine ⟨k + 1, by omega, by go_num, fun j hj => ?_, below_drewN hbl _⟩
            rcases Nat.lt_or_ge j k with h | h
            · exact heq.out j h
            · obtain rfl : j = k := by omega
              rw [hx.out, hy.out]
          case measure => simp [intOf]; omega
        · have hne : (x != y) = true := by simpa using hxy
          go_wp2_with fail
          go_quiet (fail)
          go_wp2
          go_ret
          refine ⟨congrArg (fun b => Ending.returned (.bool b)) (Eq.symm (decide_eq_false fun e => hxy ?_)), below_drewN hbl _⟩
          have h1 := hx.out
          rw [e, hy.out] at h1
          exact (Option.some.inj h1).symm
      · go_wp2
        go_ret
        refine ⟨congrArg (fun b => Ending.returned (.bool b)) (Eq.symm (decide_eq_true (List.ext_getElem? fun j => ?_))), hbl⟩
        rcases Nat.lt_or_ge j k with h | h
        · exact heq.out j h
        · rw [List.getElem?_eq_none (by rw [hla.out]; omega), List.getElem?_eq_none (by rw [hlb.out]; omega)]
  · have hz : ((n : Int) != (m : Int)) = true := by rw [bne_iff_ne]; omega
    go_enter Try.func11, Try.ntmps11
    go_wp2
    go_ret
    exact ⟨congrArg (fun b => Ending.returned (.bool b)) (Eq.symm (decide_eq_false fun e => hnm (by rw [← hla.out, ← hlb.out, e]))), Below.refl _ _⟩
end Go.Proofs.Ytehfcejpoigclaa
