/- The contract of l5Add: a link laid between two ASes, where each has a door left. -/
import Derived.Test.YtehfcejpoigclaaRows
import Derived.Test.YtehfcejpoigclaaMem
import Derived.Test.YtehfcejpoigclaaTopoMem
import Derived.Test.YtehfcejpoigclaaTopoPure
import Derived.Test.YtehfcejpoigclaaDrawPure
import Derived.Test.YtehfcejpoigclaaBox
import Derived.Test.YtehfcejpoigclaaLawInts
import Derived.Test.YtehfcejpoigclaaTopo3
import Derived.Deep.QuietTactic
import Derived.BigQuiet
import Derived.WalkSmall
import Derived.Deep.RegionHeld3
import Derived.Outline
namespace Go.Proofs.Ytehfcejpoigclaa
open Go.RowKit
set_option linter.unusedVariables false

theorem asD_info : (Try.prog.info? 58).map (fun i => (i.zero, i.size, i.bytes)) = some (some (.agg #[.int .i64 0, .bool false, .int .i64 0]), 3, 24) := by kernel_rfl
theorem lkD_info : (Try.prog.info? 42).map (fun i => (i.zero, i.size, i.bytes)) = some (some (.agg #[.int .i64 0, .int .i64 0, .int .i64 0, .int .i64 0, .int .i64 0]), 5, 40) := by kernel_rfl
/-- A link more, or none. -/
def AddPost (p B N : Nat) (A : Option Addr) (n c : Nat) (xs : List As) (m : Nat) (ls : List Lk) (a b kd : Int) (w : World) (e : Ending) (w' : World) : Prop :=
  ∃ (L' : Option Addr) (m' d' : Nat) (ls' : List Lk), e = .returned (.tuple #[]) ∧ St w' p B N A n c xs L' m' d' ls' ∧ Below B w w' ∧ m' ≤ m + 1 ∧ (ls' = ls ∨ ls' = ls ++ [newLk ls a b kd])
theorem ifs_sL (A : Option Addr) (n c : Nat) (L : Option Addr) (m d : Nat) (ls : List Lk) (r : Int) (w : World) (hT : Rl w L m ls) (hm : m ≤ 1048576) : Calls Try.prog 13 #[.agg #[.slice A n c, .slice L m d], .int .i64 r] w (RetIntS w (ifs ls r)) := ifs_s A n c L m d ⟨[], ls⟩ r w hT hm
set_option maxHeartbeats 2000000 in
theorem add_s (p B N : Nat) (A : Option Addr) (n c : Nat) (xs : List As) (L : Option Addr) (m d : Nat) (ls : List Lk) (a b kd : Int) (w : World) (h : St w p B N A n c xs L m d ls) (hm : m ≤ 1000) :
    Calls Try.prog 67 #[.pointer (some ⟨p, 0, none⟩), .int .i64 a, .int .i64 b, .int .i64 kd] w (AddPost p B N A n c xs m ls a b kd w) := by
  obtain ⟨i0, hi, hz0, hz1, hz2⟩ := info_parts lkD_info
  have hlm := h.lenL
  have l1 := ifs_len ls a
  have l2 := ifs_len ls b
  obtain ⟨x, hx0⟩ : ∃ x : Nat, x = (ifs ls a).length := ⟨_, rfl⟩
  obtain ⟨y, hy0⟩ : ∃ y : Nat, y = (ifs ls b).length := ⟨_, rfl⟩
  have bx : x ≤ 2000 := by omega
  have by' : y ≤ 2000 := by omega
  have hx := Lib.hid hx0
  have hy := Lib.hid hy0
  clear hx0 hy0 l1 l2 hlm
  obtain ⟨c0, c1⟩ := h.cells
  go_enter Try.func67, Try.ntmps67
  go_wp2_with fail
  refine (ifs_sL _ _ _ _ _ _ ls _ _ h.rt.2 (by omega)).mono ?_
  rintro e w1 ⟨X, xc, rfl, hX, hb1⟩
  rw [← hx.out]
  replace hX := trivial
  have h1 := h.below hb1
  have B1 : Below B w w1 := hb1.mono (Nat.le_trans h.hB h.hN)
  clear hb1 c0 c1 h
  obtain ⟨c0, c1⟩ := h1.cells
  go_wp2_with fail
  refine (ifs_sL _ _ _ _ _ _ ls _ _ h1.rt.2 (by omega)).mono ?_
  rintro e w2 ⟨Y, yc, rfl, hY, hb2⟩
  rw [← hy.out]
  replace hY := trivial
  have h2 := h1.below hb2
  have B2 : Below B w w2 := B1.trans (hb2.mono (Nat.le_trans h1.hB h1.hN))
  clear hb2 c0 c1 h1 B1
  obtain ⟨c0, c1⟩ := h2.cells
  have f1 := h2.froz 1
  have hplt := h2.lt
  have hN2 := h2.hN
  by_cases q1 : (x : Int) + 1 ≤ 6
  · by_cases q2 : (y : Int) + 1 ≤ 6
    · have h3 := h2.alloc (.cells #[.int .i64 a, .int .i64 ((x : Int) + 1), .int .i64 b, .int .i64 ((y : Int) + 1), .int .i64 kd] 42)
      have cnew := new_cells w2 [.int .i64 a, .int .i64 ((x : Int) + 1), .int .i64 b, .int .i64 ((y : Int) + 1), .int .i64 kd] 42
      have Hnew := Lib.hid cnew
      clear cnew
      go_wp2_with (first
        | (at_builtin; refine wpList_pushW _ rfl _ _ 25 rfl N 42 i0 _ 5 40 Try.underlying25 hi hz0 hz1 hz2 rfl (by omega) (by omega) L m d _ rfl h3.oL w2.heap.size 1 (Lk.cells ⟨a, (x : Int) + 1, b, (y : Int) + 1, kd⟩) rfl rfl Hnew.out (lk_one _) (by omega) (by simp; omega) ?_; intro L' d' w4 ho hg hat; obtain ⟨k0, k1, kf⟩ := h3.keepL hg))
      go_end0
      obtain ⟨s1, s2⟩ := h3.addLk (l := ⟨a, (x : Int) + 1, b, (y : Int) + 1, kd⟩) ho hg hat
      refine ⟨L', m + 1, d', _, rfl, s1, (B2.alloc (Nat.le_trans h2.hB h2.hN) _).trans s2, Nat.le_refl _, Or.inr ?_⟩
      rw [hx.out, hy.out]
      rfl
    · go_wp2
      go_end0
      exact ⟨L, m, d, ls, rfl, h2, B2, by omega, Or.inl rfl⟩
  · go_wp2
    go_end0
    exact ⟨L, m, d, ls, rfl, h2, B2, by omega, Or.inl rfl⟩
end Go.Proofs.Ytehfcejpoigclaa
