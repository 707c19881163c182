/- Contracts of the laws' own helpers on topologies: size, compare. -/
import Derived.Test.YthigpjkdmlkjmaaRows
import Derived.Test.YthigpjkdmlkjmaaMem
import Derived.Test.YthigpjkdmlkjmaaTopoMem
import Derived.Test.YthigpjkdmlkjmaaLawTopo
import Derived.Deep.RegionWith
namespace Go.Proofs.Ythigpjkdmlkjmaa
open Go.RowKit
set_option linter.unusedVariables false

theorem szTopology_yes (A : Option Addr) (n c : Nat) (L : Option Addr) (m d : Nat) (w : World) (h : n + m ≤ 1048576) :
    Calls Try.prog 9 #[.agg #[.slice A n c, .slice L m d], .int .i64 1048576] w fun e w' => e = .returned (.int .i64 (1048576 - (n : Int) - (m : Int))) ∧ Below w.heap.size w w' := by
  have h1 : ¬ ((1048576 : Int) - (n : Int) < 0) := by omega
  have h2 : ¬ ((1048576 : Int) - (n : Int) - (m : Int) < 0) := by omega
  go_enter Try.func9, Try.ntmps9
  go_wp2
  go_ret
  exact ⟨rfl, (Below.refl _ _).alloc (Nat.le_refl _) _⟩
theorem szTopology_no (A : Option Addr) (n c : Nat) (L : Option Addr) (m d : Nat) (w : World) (h : 1048576 < n + m) (hn : n ≤ 9223372036854775807) (hm : m ≤ 9223372036854775807) :
    Calls Try.prog 9 #[.agg #[.slice A n c, .slice L m d], .int .i64 1048576] w fun e w' => e = .returned (.int .i64 (-1)) ∧ Below w.heap.size w w' := by
  by_cases h1 : (1048576 : Int) - (n : Int) < 0
  · go_enter Try.func9, Try.ntmps9
    go_wp2
    go_ret
    exact ⟨rfl, (Below.refl _ _).alloc (Nat.le_refl _) _⟩
  · have h2 : (1048576 : Int) - (n : Int) - (m : Int) < 0 := by omega
    go_enter Try.func9, Try.ntmps9
    go_wp2
    go_ret
    exact ⟨rfl, (Below.refl _ _).alloc (Nat.le_refl _) _⟩

set_option maxHeartbeats 400000 in
theorem eqAS_same (x : As) (w : World) : Calls Try.prog 45 #[.agg #[.int .i64 x.isd, .bool x.core, .int .i64 x.key], .agg #[.int .i64 x.isd, .bool x.core, .int .i64 x.key]] w fun e w' => e = .returned (.bool true) ∧ Below w.heap.size w w' := by
  have hbb := bne_self_bool x.core
  go_enter Try.func45, Try.ntmps45
  go_wp2
  go_ret
  exact ⟨rfl, ((Below.refl _ _).alloc (Nat.le_refl _) _).alloc (by simp) _⟩

set_option maxHeartbeats 400000 in
theorem eqLink_same (x : Lk) (w : World) : Calls Try.prog 46 #[.agg #[.int .i64 x.a, .int .i64 x.ai, .int .i64 x.b, .int .i64 x.bi, .int .i64 x.kind], .agg #[.int .i64 x.a, .int .i64 x.ai, .int .i64 x.b, .int .i64 x.bi, .int .i64 x.kind]] w fun e w' => e = .returned (.bool true) ∧ Below w.heap.size w w' := by
  go_enter Try.func46, Try.ntmps46
  go_wp2
  go_ret
  exact ⟨rfl, ((Below.refl _ _).alloc (Nat.le_refl _) _).alloc (by simp) _⟩

set_option maxHeartbeats 1000000 in
theorem eqASS_same (A : Option Addr) (n c : Nat) (B : Option Addr) (d : Nat) (xs : List As) (w : World) (ha : Ra w A n xs) (hb : Ra w B n xs) (hn : n ≤ 1048576) :
    Calls Try.prog 32 #[.slice A n c, .slice B n d] w fun e w' => e = .returned (.bool true) ∧ Below w.heap.size w w' := by
  have hz : ((n : Int) != (n : Int)) = false := by simp
  go_enter Try.func32, Try.ntmps32
  go_wp2
  go_loopw [5] (fun i wr => ∃ k : Nat, k ≤ n ∧ i = .int .i64 k ∧ Below w.heap.size w wr) (fun i _ => n - (intOf i).toNat)
  case atStart => exact ⟨0, Nat.zero_le _, rfl, Below.refl _ _⟩
  case round =>
    obtain ⟨k, hk, rfl, hbl⟩ := hrel
    have hs := hbl.size
    by_cases hlt : k < n
    · have ha' := ha.below hbl (Nat.le_refl _)
      have hb' := hb.below hbl (Nat.le_refl _)
      obtain ⟨b1, o1, x, rfl, hx0, a0, a1, a2⟩ := ha'.get hlt
      obtain ⟨b2, o2, y, rfl, hy0, b0, b1, b2⟩ := hb'.get hlt
      have hxy : x = y := by rw [hx0] at hy0; exact Option.some.inj hy0
      subst hxy
      clear hx0 hy0
      have hi1 : (0 : Int) ≤ (k : Int) := by omega
      have hi2 : (k : Int) < (n : Int) := by omega
      go_wp2_with fail
      go_still_tail 8, (by kernel_rfl)
      change wpList _ _ _ _ _ wr.drew
      go_wp2_with (first | (go_at_call 45; refine (eqAS_same x _).mono ?_; rintro e w1 ⟨rfl, hb1⟩))
      go_roundw
      case rel => exact ⟨k + 1, by omega, by go_num, hbl.drew.trans (hb1.mono hs)⟩
      case measure => simp [intOf]; omega
    · go_wp2
      go_ret
      exact ⟨rfl, hbl⟩

set_option maxHeartbeats 1000000 in
theorem eqLinkS_same (A : Option Addr) (n c : Nat) (B : Option Addr) (d : Nat) (xs : List Lk) (w : World) (ha : Rl w A n xs) (hb : Rl w B n xs) (hn : n ≤ 1048576) :
    Calls Try.prog 33 #[.slice A n c, .slice B n d] w fun e w' => e = .returned (.bool true) ∧ Below w.heap.size w w' := by
  have hz : ((n : Int) != (n : Int)) = false := by simp
  go_enter Try.func33, Try.ntmps33
  go_wp2
  go_loopw [5] (fun i wr => ∃ k : Nat, k ≤ n ∧ i = .int .i64 k ∧ Below w.heap.size w wr) (fun i _ => n - (intOf i).toNat)
  case atStart => exact ⟨0, Nat.zero_le _, rfl, Below.refl _ _⟩
  case round =>
    obtain ⟨k, hk, rfl, hbl⟩ := hrel
    have hs := hbl.size
    by_cases hlt : k < n
    · have ha' := ha.below hbl (Nat.le_refl _)
      have hb' := hb.below hbl (Nat.le_refl _)
      obtain ⟨b1, o1, x, rfl, hx0, a0, a1, a2, a3, a4⟩ := ha'.get hlt
      obtain ⟨b2, o2, y, rfl, hy0, b0, b1, b2, b3, b4⟩ := hb'.get hlt
      have hxy : x = y := by rw [hx0] at hy0; exact Option.some.inj hy0
      subst hxy
      clear hx0 hy0
      have hi1 : (0 : Int) ≤ (k : Int) := by omega
      have hi2 : (k : Int) < (n : Int) := by omega
      go_wp2_with fail
      go_still_tail 8, (by kernel_rfl)
      change wpList _ _ _ _ _ wr.drew
      go_wp2_with (first | (go_at_call 46; refine (eqLink_same x _).mono ?_; rintro e w1 ⟨rfl, hb1⟩))
      go_roundw
      case rel => exact ⟨k + 1, by omega, by go_num, hbl.drew.trans (hb1.mono hs)⟩
      case measure => simp [intOf]; omega
    · go_wp2
      go_ret
      exact ⟨rfl, hbl⟩

set_option maxHeartbeats 1000000 in
theorem eqTopology_same (A : Option Addr) (n c : Nat) (L : Option Addr) (m d : Nat) (A2 : Option Addr) (c2 : Nat) (L2 : Option Addr) (d2 : Nat) (T : Tp) (w : World) (h1 : Rt w A n L m T) (h2 : Rt w A2 n L2 m T) (hn : n ≤ 1048576) (hm : m ≤ 1048576) :
    Calls Try.prog 13 #[.agg #[.slice A n c, .slice L m d], .agg #[.slice A2 n c2, .slice L2 m d2]] w fun e w' => e = .returned (.bool true) ∧ Below w.heap.size w w' := by
  go_enter Try.func13, Try.ntmps13
  go_wp2_with fail
  refine (eqASS_same _ _ _ _ _ T.ases _ ((h1.1.alloc _).alloc _) ((h2.1.alloc _).alloc _) hn).mono ?_
  rintro e w1 ⟨rfl, hb1⟩
  obtain ⟨hc1, hf1⟩ := bcell hb1
  have hz1 : w.heap.size + 1 < w1.heap.size := by have := hb1.size; simp at this; omega
  have k1 := ((h1.2.alloc _).alloc _).below hb1 (Nat.le_refl _)
  have k2 := ((h2.2.alloc _).alloc _).below hb1 (Nat.le_refl _)
  go_wp2_with fail
  refine (eqLinkS_same _ _ _ _ _ T.links _ k1 k2 hm).mono ?_
  rintro e w2 ⟨rfl, hb2⟩
  go_wp2
  go_ret
  have hB1 : Below w.heap.size w w1 := (((Below.refl _ _).alloc (Nat.le_refl _) _).alloc (by simp) _).trans (hb1.mono (by simp; omega))
  exact ⟨rfl, below_keep0 hB1 hb2⟩
end Go.Proofs.Ythigpjkdmlkjmaa
