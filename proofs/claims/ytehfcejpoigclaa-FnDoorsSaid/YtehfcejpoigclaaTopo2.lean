/- Contracts of RemoteEnd and InterfaceKind. -/
import Derived.Test.YtehfcejpoigclaaRows
import Derived.Test.YtehfcejpoigclaaMem
import Derived.Test.YtehfcejpoigclaaTopoMem
import Derived.Test.YtehfcejpoigclaaTopoPure
import Derived.Test.YtehfcejpoigclaaTopo1
import Derived.Deep.QuietTactic
import Derived.BigQuiet
import Derived.WalkSmall
namespace Go.Proofs.Ytehfcejpoigclaa
open Go.RowKit
set_option linter.unusedVariables false

theorem ret_int2 {a b : Int} (h : a = b) : Ending.returned (.int .i64 a) = .returned (.int .i64 b) := by rw [h]
theorem ret_pair {a b c d : Int} (h : a = c) (k : b = d) : Ending.returned (.tuple #[.int .i64 a, .int .i64 b]) = .returned (.tuple #[.int .i64 c, .int .i64 d]) := by rw [h, k]

set_option maxHeartbeats 1000000 in
theorem remote_i (A : Option Addr) (n c : Nat) (L : Option Addr) (m e0 : Nat) (T : Tp) (r d : Int) (w : World) (hT : Rl w L m T.links) (hm : m ≤ 1048576) :
    Calls Try.prog 19 #[.agg #[.slice A n c, .slice L m e0], .int .i64 r, .int .i64 d] w fun e w' => e = .returned (.tuple #[.int .i64 (remA T.links r d), .int .i64 (remB T.links r d)]) ∧ Below w.heap.size w w' := by
  have hl := Lib.hid hT.len
  go_enter Try.func19, Try.ntmps19
  go_wp2_with fail
  refine (linkIndex_i _ _ _ _ _ _ T _ _ _ (hT.alloc _) hm).mono ?_
  rintro e w1 ⟨rfl, hb1⟩
  have hB := below_keep (Below.refl _ w) hb1
  have hbox : w1.cell? ⟨w.heap.size, 1, none⟩ = some (.slice L m e0) := (hb1.cell (p := ⟨w.heap.size, 1, none⟩) (by simp)).trans (by simp)
  have hT1 := hT.below hB (Nat.le_refl _)
  have hs1 := hB.size
  clear hb1
  rcases lk_cases T.links r d with ⟨h1, h2⟩ | ⟨k, l, h1, h2, h3, h4⟩
  · have H2 := Lib.hid h2
    rw [h1]
    clear h1 h2
    go_wp2
    go_ret2
    exact ⟨ret_pair (remA_none H2.out).symm (remB_none H2.out).symm, hB⟩
  · have H3 := Lib.hid h3
    have hk : k < m := by rw [← hl.out]; exact h4
    rw [h1]
    obtain ⟨b, off, l', rfl, hx0, c0, c1, c2, c3, c4⟩ := hT1.get hk
    have el : l' = l := by rw [h2] at hx0; exact (Option.some.inj hx0).symm
    subst el
    clear h1 h2 h3 h4 hx0
    rcases Bool.eq_false_or_eq_true (l'.a == r) with q0 | q0
    · rcases Bool.eq_false_or_eq_true (l'.ai == d) with q1 | q1
      · have hA := Lib.hid (show isA l' r d = true by simp [isA, q0, q1])
        go_wp2_with fail
        go_quiet (fail)
        go_wp2
        go_ret2
        exact ⟨ret_pair (remA_yes H3.out hA.out).symm (remB_yes H3.out hA.out).symm, below_drewN (hB.alloc hs1 _) _⟩
      · have hA := Lib.hid (show isA l' r d = false by simp [isA, q0, q1])
        go_wp2_with fail
        go_quiet (fail)
        go_wp2
        go_ret2
        exact ⟨ret_pair (remA_no H3.out hA.out).symm (remB_no H3.out hA.out).symm, below_drewN (hB.alloc hs1 _) _⟩
    · have hA := Lib.hid (show isA l' r d = false by simp [isA, q0])
      go_wp2_with fail
      go_quiet (fail)
      go_wp2
      go_ret2
      exact ⟨ret_pair (remA_no H3.out hA.out).symm (remB_no H3.out hA.out).symm, below_drewN (hB.alloc hs1 _) _⟩

set_option maxHeartbeats 1000000 in
theorem remote_s (A : Option Addr) (n c : Nat) (L : Option Addr) (m e0 : Nat) (T : Tp) (r d : Int) (w : World) (hT : Rl w L m T.links) (hm : m ≤ 1048576) :
    Calls Try.prog 20 #[.agg #[.slice A n c, .slice L m e0], .int .i64 r, .int .i64 d] w fun e w' => e = .returned (.tuple #[.int .i64 (remA T.links r d), .int .i64 (remB T.links r d)]) ∧ Below w.heap.size w w' := by
  have hl := Lib.hid hT.len
  go_enter Try.func20, Try.ntmps20
  go_wp2_with fail
  refine (linkIndex_s _ _ _ _ _ _ T _ _ _ (hT.alloc _) hm).mono ?_
  rintro e w1 ⟨rfl, hb1⟩
  have hB := below_keep (Below.refl _ w) hb1
  have hbox : w1.cell? ⟨w.heap.size, 1, none⟩ = some (.slice L m e0) := (hb1.cell (p := ⟨w.heap.size, 1, none⟩) (by simp)).trans (by simp)
  have hT1 := hT.below hB (Nat.le_refl _)
  have hs1 := hB.size
  clear hb1
  rcases lk_cases T.links r d with ⟨h1, h2⟩ | ⟨k, l, h1, h2, h3, h4⟩
  · have H2 := Lib.hid h2
    rw [h1]
    clear h1 h2
    go_wp2
    go_ret2
    exact ⟨ret_pair (remA_none H2.out).symm (remB_none H2.out).symm, hB⟩
  · have H3 := Lib.hid h3
    have hk : k < m := by rw [← hl.out]; exact h4
    rw [h1]
    obtain ⟨b, off, l', rfl, hx0, c0, c1, c2, c3, c4⟩ := hT1.get hk
    have el : l' = l := by rw [h2] at hx0; exact (Option.some.inj hx0).symm
    subst el
    clear h1 h2 h3 h4 hx0
    rcases Bool.eq_false_or_eq_true (l'.a == r) with q0 | q0
    · rcases Bool.eq_false_or_eq_true (l'.ai == d) with q1 | q1
      · have hA := Lib.hid (show isA l' r d = true by simp [isA, q0, q1])
        go_wp2_with fail
        go_quiet (fail)
        go_wp2
        go_ret2
        exact ⟨ret_pair (remA_yes H3.out hA.out).symm (remB_yes H3.out hA.out).symm, below_drewN (hB.alloc hs1 _) _⟩
      · have hA := Lib.hid (show isA l' r d = false by simp [isA, q0, q1])
        go_wp2_with fail
        go_quiet (fail)
        go_wp2
        go_ret2
        exact ⟨ret_pair (remA_no H3.out hA.out).symm (remB_no H3.out hA.out).symm, below_drewN (hB.alloc hs1 _) _⟩
    · have hA := Lib.hid (show isA l' r d = false by simp [isA, q0])
      go_wp2_with fail
      go_quiet (fail)
      go_wp2
      go_ret2
      exact ⟨ret_pair (remA_no H3.out hA.out).symm (remB_no H3.out hA.out).symm, below_drewN (hB.alloc hs1 _) _⟩

set_option maxHeartbeats 1000000 in
theorem ifKind_i (A : Option Addr) (n c : Nat) (L : Option Addr) (m e0 : Nat) (T : Tp) (r d : Int) (w : World) (hT : Rl w L m T.links) (hm : m ≤ 1048576) :
    Calls Try.prog 22 #[.agg #[.slice A n c, .slice L m e0], .int .i64 r, .int .i64 d] w fun e w' => e = .returned (.int .i64 (ifK T.links r d)) ∧ Below w.heap.size w w' := by
  have hl := Lib.hid hT.len
  by_cases hd0 : d = 0
  · subst hd0
    go_enter Try.func22, Try.ntmps22
    go_wp2
    go_ret
    exact ⟨ret_int2 (ifK_zero rfl).symm, (Below.refl _ _).alloc (Nat.le_refl _) _⟩
  have hdz : (d == 0) = false := by simpa using hd0
  have HD := Lib.hid hd0
  go_enter Try.func22, Try.ntmps22
  go_wp2_with fail
  refine (linkIndex_i _ _ _ _ _ _ T _ _ _ (hT.alloc _) hm).mono ?_
  rintro e w1 ⟨rfl, hb1⟩
  have hB := below_keep (Below.refl _ w) hb1
  have hbox : w1.cell? ⟨w.heap.size, 1, none⟩ = some (.slice L m e0) := (hb1.cell (p := ⟨w.heap.size, 1, none⟩) (by simp)).trans (by simp)
  have hT1 := hT.below hB (Nat.le_refl _)
  have hs1 := hB.size
  clear hb1
  rcases lk_cases T.links r d with ⟨h1, h2⟩ | ⟨k, l, h1, h2, h3, h4⟩
  · have H2 := Lib.hid h2
    rw [h1]
    clear h1 h2
    go_wp2
    go_ret
    exact ⟨ret_int2 (ifK_none HD.out H2.out).symm, hB⟩
  · have H3 := Lib.hid h3
    have hk : k < m := by rw [← hl.out]; exact h4
    rw [h1]
    obtain ⟨b, off, l', rfl, hx0, c0, c1, c2, c3, c4⟩ := hT1.get hk
    have el : l' = l := by rw [h2] at hx0; exact (Option.some.inj hx0).symm
    subst el
    clear h1 h2 h3 h4 hx0
    by_cases k1 : l'.kind = 1
    · have b1 : (l'.kind == 1) = true := by simpa using k1
      have K1 := Lib.hid k1
      clear k1
      go_wp2
      go_ret
      exact ⟨ret_int2 (by rw [ifK_some HD.out H3.out]; unfold kindOf; rw [if_pos K1.out]), hB.alloc hs1 _⟩
    have b1 : (l'.kind == 1) = false := by simpa using k1
    by_cases k3 : l'.kind = 3
    · have b3 : (l'.kind == 3) = true := by simpa using k3
      have K3 := Lib.hid k3
      clear k3
      go_wp2
      go_ret
      exact ⟨ret_int2 (by rw [ifK_some HD.out H3.out]; unfold kindOf; rw [if_neg k1, if_pos K3.out]), hB.alloc hs1 _⟩
    have b3 : (l'.kind == 3) = false := by simpa using k3
    by_cases k2 : l'.kind = 2
    · have b2 : (l'.kind == 2) = true := by simpa using k2
      have b2' : (l'.kind != 2) = false := by simpa using k2
      have K2 := Lib.hid k2
      clear k2
      rcases Bool.eq_false_or_eq_true (l'.a == r) with q0 | q0
      · rcases Bool.eq_false_or_eq_true (l'.ai == d) with q1 | q1
        · have hA := Lib.hid (show isA l' r d = true by simp [isA, q0, q1])
          go_wp2
          go_ret
          exact ⟨ret_int2 (by rw [ifK_some HD.out H3.out]; unfold kindOf; rw [if_neg k1, if_neg k3, if_pos K2.out, hA.out]; rfl), hB.alloc hs1 _⟩
        · have hA := Lib.hid (show isA l' r d = false by simp [isA, q0, q1])
          go_wp2
          go_ret
          exact ⟨ret_int2 (by rw [ifK_some HD.out H3.out]; unfold kindOf; rw [if_neg k1, if_neg k3, if_pos K2.out, hA.out]; rfl), hB.alloc hs1 _⟩
      · have hA := Lib.hid (show isA l' r d = false by simp [isA, q0])
        go_wp2
        go_ret
        exact ⟨ret_int2 (by rw [ifK_some HD.out H3.out]; unfold kindOf; rw [if_neg k1, if_neg k3, if_pos K2.out, hA.out]; rfl), hB.alloc hs1 _⟩
    · have b2 : (l'.kind == 2) = false := by simpa using k2
      have b2' : (l'.kind != 2) = true := by simpa using k2
      go_wp2
      go_ret
      exact ⟨ret_int2 (by rw [ifK_some HD.out H3.out]; unfold kindOf; rw [if_neg k1, if_neg k3, if_neg k2]), hB.alloc hs1 _⟩

set_option maxHeartbeats 1000000 in
theorem ifKind_s (A : Option Addr) (n c : Nat) (L : Option Addr) (m e0 : Nat) (T : Tp) (r d : Int) (w : World) (hT : Rl w L m T.links) (hm : m ≤ 1048576) :
    Calls Try.prog 23 #[.agg #[.slice A n c, .slice L m e0], .int .i64 r, .int .i64 d] w fun e w' => e = .returned (.int .i64 (ifK T.links r d)) ∧ Below w.heap.size w w' := by
  have hl := Lib.hid hT.len
  by_cases hd0 : d = 0
  · subst hd0
    go_enter Try.func23, Try.ntmps23
    go_wp2
    go_ret
    exact ⟨ret_int2 (ifK_zero rfl).symm, (Below.refl _ _).alloc (Nat.le_refl _) _⟩
  have hdz : (d == 0) = false := by simpa using hd0
  have HD := Lib.hid hd0
  go_enter Try.func23, Try.ntmps23
  go_wp2_with fail
  refine (linkIndex_s _ _ _ _ _ _ T _ _ _ (hT.alloc _) hm).mono ?_
  rintro e w1 ⟨rfl, hb1⟩
  have hB := below_keep (Below.refl _ w) hb1
  have hbox : w1.cell? ⟨w.heap.size, 1, none⟩ = some (.slice L m e0) := (hb1.cell (p := ⟨w.heap.size, 1, none⟩) (by simp)).trans (by simp)
  have hT1 := hT.below hB (Nat.le_refl _)
  have hs1 := hB.size
  clear hb1
  rcases lk_cases T.links r d with ⟨h1, h2⟩ | ⟨k, l, h1, h2, h3, h4⟩
  · have H2 := Lib.hid h2
    rw [h1]
    clear h1 h2
    go_wp2
    go_ret
    exact ⟨ret_int2 (ifK_none HD.out H2.out).symm, hB⟩
  · have H3 := Lib.hid h3
    have hk : k < m := by rw [← hl.out]; exact h4
    rw [h1]
    obtain ⟨b, off, l', rfl, hx0, c0, c1, c2, c3, c4⟩ := hT1.get hk
    have el : l' = l := by rw [h2] at hx0; exact (Option.some.inj hx0).symm
    subst el
    clear h1 h2 h3 h4 hx0
    by_cases k1 : l'.kind = 1
    · have b1 : (l'.kind == 1) = true := by simpa using k1
      have K1 := Lib.hid k1
      clear k1
      go_wp2
      go_ret
      exact ⟨ret_int2 (by rw [ifK_some HD.out H3.out]; unfold kindOf; rw [if_pos K1.out]), hB.alloc hs1 _⟩
    have b1 : (l'.kind == 1) = false := by simpa using k1
    by_cases k3 : l'.kind = 3
    · have b3 : (l'.kind == 3) = true := by simpa using k3
      have K3 := Lib.hid k3
      clear k3
      go_wp2
      go_ret
      exact ⟨ret_int2 (by rw [ifK_some HD.out H3.out]; unfold kindOf; rw [if_neg k1, if_pos K3.out]), hB.alloc hs1 _⟩
    have b3 : (l'.kind == 3) = false := by simpa using k3
    by_cases k2 : l'.kind = 2
    · have b2 : (l'.kind == 2) = true := by simpa using k2
      have b2' : (l'.kind != 2) = false := by simpa using k2
      have K2 := Lib.hid k2
      clear k2
      rcases Bool.eq_false_or_eq_true (l'.a == r) with q0 | q0
      · rcases Bool.eq_false_or_eq_true (l'.ai == d) with q1 | q1
        · have hA := Lib.hid (show isA l' r d = true by simp [isA, q0, q1])
          go_wp2
          go_ret
          exact ⟨ret_int2 (by rw [ifK_some HD.out H3.out]; unfold kindOf; rw [if_neg k1, if_neg k3, if_pos K2.out, hA.out]; rfl), hB.alloc hs1 _⟩
        · have hA := Lib.hid (show isA l' r d = false by simp [isA, q0, q1])
          go_wp2
          go_ret
          exact ⟨ret_int2 (by rw [ifK_some HD.out H3.out]; unfold kindOf; rw [if_neg k1, if_neg k3, if_pos K2.out, hA.out]; rfl), hB.alloc hs1 _⟩
      · have hA := Lib.hid (show isA l' r d = false by simp [isA, q0])
        go_wp2
        go_ret
        exact ⟨ret_int2 (by rw [ifK_some HD.out H3.out]; unfold kindOf; rw [if_neg k1, if_neg k3, if_pos K2.out, hA.out]; rfl), hB.alloc hs1 _⟩
    · have b2 : (l'.kind == 2) = false := by simpa using k2
      have b2' : (l'.kind != 2) = true := by simpa using k2
      go_wp2
      go_ret
      exact ⟨ret_int2 (by rw [ifK_some HD.out H3.out]; unfold kindOf; rw [if_neg k1, if_neg k3, if_neg k2]), hB.alloc hs1 _⟩
end Go.Proofs.Ytehfcejpoigclaa
