/- Walks of the laws on sets, residues, digests and chains: each law's call returns true. -/
import Derived.Test.YtkoidpagehcegaaRows
import Derived.Test.YtkoidpagehcegaaMem
import Derived.Test.YtkoidpagehcegaaLawInts
import Derived.Test.YtkoidpagehcegaaSets
import Derived.Test.YtkoidpagehcegaaMix
namespace Go.Proofs.Ytkoidpagehcegaa
open Go.RowKit
set_option linter.unusedVariables false

theorem FnExactIntersection_walk (a : Int) (wa : (Lit.int .i64 a).wf = true) (b : Int) (wb : (Lit.int .i64 b).wf = true) (w : World) :
    Calls Try.prog 3 #[.int .i64 a, .int .i64 b] w fun e w' => e = .returned (.bool true) ∧ Below w.heap.size w w' := by
  go_enter Try.func3, Try.ntmps3
  go_wp2_with (first
    | (go_at_call 15; refine (inter_s _ _ _).mono ?_; rintro e w' ⟨rfl, rfl⟩)
    | (go_at_call 16; refine (inter_i _ _ _).mono ?_; rintro e w' ⟨rfl, rfl⟩))
  go_ret
  exact ⟨rfl, Below.refl _ _⟩

theorem FnExactUnion_walk (a : Int) (wa : (Lit.int .i64 a).wf = true) (b : Int) (wb : (Lit.int .i64 b).wf = true) (w : World) :
    Calls Try.prog 4 #[.int .i64 a, .int .i64 b] w fun e w' => e = .returned (.bool true) ∧ Below w.heap.size w w' := by
  go_enter Try.func4, Try.ntmps4
  go_wp2_with (first
    | (go_at_call 17; refine (uni_s _ _ _).mono ?_; rintro e w' ⟨rfl, rfl⟩)
    | (go_at_call 18; refine (uni_i _ _ _).mono ?_; rintro e w' ⟨rfl, rfl⟩))
  go_ret
  exact ⟨rfl, Below.refl _ _⟩

theorem FnExactAddElement_walk (a : Int) (wa : (Lit.int .i64 a).wf = true) (b : Int) (wb : (Lit.int .i64 b).wf = true) (w : World) :
    Calls Try.prog 5 #[.int .i64 a, .int .i64 b] w fun e w' => e = .returned (.bool true) ∧ Below w.heap.size w w' := by
  go_enter Try.func5, Try.ntmps5
  go_wp2_with (first
    | (go_at_call 19; refine (add_s _ _ _).mono ?_; rintro e w' ⟨rfl, rfl⟩)
    | (go_at_call 20; refine (add_i _ _ _).mono ?_; rintro e w' ⟨rfl, rfl⟩))
  go_ret
  exact ⟨rfl, Below.refl _ _⟩

theorem FnExactRemoveElement_walk (a : Int) (wa : (Lit.int .i64 a).wf = true) (b : Int) (wb : (Lit.int .i64 b).wf = true) (w : World) :
    Calls Try.prog 6 #[.int .i64 a, .int .i64 b] w fun e w' => e = .returned (.bool true) ∧ Below w.heap.size w w' := by
  go_enter Try.func6, Try.ntmps6
  go_wp2_with (first
    | (go_at_call 21; refine (del_s _ _ _).mono ?_; rintro e w' ⟨rfl, rfl⟩)
    | (go_at_call 22; refine (del_i _ _ _).mono ?_; rintro e w' ⟨rfl, rfl⟩))
  go_ret
  exact ⟨rfl, Below.refl _ _⟩

theorem FnExactSetSize_walk (a : Int) (wa : (Lit.int .i64 a).wf = true) (w : World) :
    Calls Try.prog 7 #[.int .i64 a] w fun e w' => e = .returned (.bool true) ∧ Below w.heap.size w w' := by
  go_enter Try.func7, Try.ntmps7
  go_wp2_with (first
    | (go_at_call 23; refine (setSize_s _ _).mono ?_; rintro e w1 ⟨rfl, hb1⟩)
    | (go_at_call 24; refine (setSize_i _ _).mono ?_; rintro e w2 ⟨rfl, hb2⟩))
  go_ret
  exact ⟨rfl, hb1.trans (hb2.mono hb1.size)⟩

set_option maxHeartbeats 400000 in
theorem FnExactElements_walk (a : Int) (wa : (Lit.int .i64 a).wf = true) (w : World) :
    Calls Try.prog 8 #[.int .i64 a] w fun e w' => e = .returned (.bool true) ∧ Below w.heap.size w w' := by
  have hle : (elemsE a).length ≤ 16 := elemsTo_len a 16
  generalize hz : elemsE a = zs at hle
  have Hz := Lib.hid hz
  clear hz
  obtain ⟨n, hn0⟩ : ∃ n, n = zs.length := ⟨_, rfl⟩
  have Hn := Lib.hid hn0
  rw [← hn0] at hle
  clear hn0
  go_enter Try.func8, Try.ntmps8
  go_wp2_with fail
  refine (elements_s _ _).mono ?_
  rw [Hz.out]
  rintro e w1 ⟨A1, c1, rfl, ho1, hb1⟩
  rw [← Hn.out] at ho1 ⊢
  go_wp2_with fail
  refine (elements_i _ _).mono ?_
  rw [Hz.out]
  rintro e w2 ⟨A2, c2, rfl, ho2, hb2⟩
  rw [← Hn.out] at ho2 ⊢
  go_wp2_with fail
  refine (eqIntS_any _ _ _ zs _ _ _ zs _ ho2.rd (ho1.rd.below hb2 (Nat.le_refl _)) (by omega) (by omega)).mono ?_
  rintro e w3 ⟨rfl, hb3⟩
  rw [decide_eq_true rfl]
  have ho2' := ho2.below hb3 (Nat.le_refl _)
  have hr1' := (ho1.rd.below hb2 (Nat.le_refl _)).below hb3 (Nat.le_refl _)
  go_wp2_with fail
  refine (markIntS_any _ _ _ _ _ _ _ ho2' (by omega) (by omega) (by omega)).mono ?_
  rintro e w4 ⟨rfl, ho4, hg4⟩
  have hr4 := hr1'.grown hg4 (fun b off e => by
    have h1 := ho1.block e
    intro h
    have h2 := (ho2'.lt b h.symm).1
    omega)
  have hb4 : Below w1.heap.size w3 w4 := (Below.refl _ _).grown hg4 (by have := hb2.size; have := hb3.size; omega) (fun k hk => (ho2'.lt k hk).1)
  go_wp2_with fail
  refine (heldIntS_any _ _ _ _ _ ho4.rd (by omega) (by omega) (by omega)).mono ?_
  rintro e w4' ⟨rfl, rfl⟩
  have hneg : ¬ (1 + (n : Int) < 0) := by omega
  go_wp2_with fail
  refine (elements_i _ _).mono ?_
  rw [Hz.out]
  rintro e w5 ⟨A5, c5, rfl, ho5, hb5⟩
  rw [← Hn.out] at ho5 ⊢
  go_wp2_with fail
  refine (eqIntS_any _ _ _ zs _ _ _ zs _ ho5.rd (hr4.below hb5 (Nat.le_refl _)) (by omega) (by omega)).mono ?_
  rintro e w6 ⟨rfl, hb6⟩
  rw [decide_eq_true rfl]
  go_wp2_with fail
  refine (heldIntS_any _ _ _ _ _ ((ho4.rd.below hb5 (Nat.le_refl _)).below hb6 (Nat.le_refl _)) (by omega) (by omega) (by omega)).mono ?_
  rintro e w6' ⟨rfl, rfl⟩
  go_wp2
  go_ret
  refine ⟨rfl, ?_⟩
  have s1 := hb1.size
  have s2 := hb2.size
  have s3 := hb3.size
  have s4 := hb4.size
  have s5 := hb5.size
  exact ((((hb1.trans (hb2.mono s1)).trans (hb3.mono (by omega))).trans (hb4.mono s1)).trans (hb5.mono (by omega))).trans (hb6.mono (by omega))

set_option maxHeartbeats 400000 in
theorem FnExactMakeSet_walk (A : Option Addr) (n c : Nat) (zs : List Int) (w : World) (hin : InInts .i64 w w.heap.size A n c zs) :
    Calls Try.prog 9 #[.slice A n c] w fun e w' => e = .returned (.bool true) ∧ Below w.heap.size w w' := by
  have hr := hin.1
  have hl := Lib.hid hr.len
  by_cases hbig : (1048576 : Int) < (n : Int)
  · go_enter Try.func9, Try.ntmps9
    go_wp2
    go_ret
    exact ⟨rfl, Below.refl _ _⟩
  have hn : n ≤ 1048576 := by omega
  clear hin
  have hN := Lib.hid hl.out.symm
  go_enter Try.func9, Try.ntmps9
  go_wp2_with fail
  refine (toIntS_any _ _ _ zs _ hr hn).mono ?_
  rintro e w1 ⟨A1, c1, rfl, ho1, hb1⟩
  rw [hl.out] at ho1 ⊢
  go_wp2_with fail
  refine (makeSet_s _ _ _ zs _ (ho1.rd) (by omega)).mono ?_
  rintro e w2 ⟨rfl, rfl⟩
  have hr2 := (hr.below hb1 (Nat.le_refl _))
  go_wp2_with fail
  refine (toIntS_any _ _ _ zs _ hr2 hn).mono ?_
  rintro e w3 ⟨A3, c3, rfl, ho3, hb3⟩
  rw [hl.out] at ho3 ⊢
  go_wp2_with fail
  refine (makeSet_i _ _ _ zs _ (ho3.rd) (by omega)).mono ?_
  rintro e w4 ⟨rfl, rfl⟩
  have hr4 := (hr2.below hb3 (Nat.le_refl _))
  have hx4 := ho3.rd
  go_wp2_with fail
  refine (toIntS_any _ _ _ zs _ hr4 hn).mono ?_
  rintro e w5 ⟨A5, c5, rfl, ho5, hb5⟩
  rw [hl.out] at ho5 ⊢
  go_wp2_with fail
  refine (eqIntS_any _ _ _ zs _ _ _ zs _ (hx4.below hb5 (Nat.le_refl _)) ho5.rd (by omega) (by omega)).mono ?_
  rintro e w6 ⟨rfl, hb6⟩
  rw [decide_eq_true rfl]
  go_wp2
  go_ret
  have s1 := hb1.size
  have s3 := hb3.size
  have s5 := hb5.size
  have s6 := hb6.size
  exact ⟨rfl, (((hb1).trans (hb3.mono (by omega))).trans (hb5.mono (by omega))).trans (hb6.mono (by omega))⟩

set_option maxHeartbeats 400000 in
theorem FnExactDigest_walk (A : Option Addr) (n c : Nat) (zs : List Int) (w : World) (hin : InInts .i64 w w.heap.size A n c zs) :
    Calls Try.prog 11 #[.slice A n c] w fun e w' => e = .returned (.bool true) ∧ Below w.heap.size w w' := by
  have hr := hin.1
  have hl := Lib.hid hr.len
  by_cases hbig : (1048576 : Int) < (n : Int)
  · go_enter Try.func11, Try.ntmps11
    go_wp2
    go_ret
    exact ⟨rfl, Below.refl _ _⟩
  have hn : n ≤ 1048576 := by omega
  clear hin
  have hN := Lib.hid hl.out.symm
  go_enter Try.func11, Try.ntmps11
  go_wp2_with fail
  refine (toIntS_any _ _ _ zs _ hr hn).mono ?_
  rintro e w1 ⟨A1, c1, rfl, ho1, hb1⟩
  rw [hl.out] at ho1 ⊢
  go_wp2_with fail
  refine (digest_s _ _ _ zs _ (ho1.rd) (by omega)).mono ?_
  rintro e w2 ⟨rfl, rfl⟩
  have hr2 := (hr.below hb1 (Nat.le_refl _))
  go_wp2_with fail
  refine (toIntS_any _ _ _ zs _ hr2 hn).mono ?_
  rintro e w3 ⟨A3, c3, rfl, ho3, hb3⟩
  rw [hl.out] at ho3 ⊢
  go_wp2_with fail
  refine (digest_i _ _ _ zs _ (ho3.rd) (by omega)).mono ?_
  rintro e w4 ⟨rfl, rfl⟩
  have hr4 := (hr2.below hb3 (Nat.le_refl _))
  have hx4 := ho3.rd
  go_wp2_with fail
  refine (toIntS_any _ _ _ zs _ hr4 hn).mono ?_
  rintro e w5 ⟨A5, c5, rfl, ho5, hb5⟩
  rw [hl.out] at ho5 ⊢
  go_wp2_with fail
  refine (eqIntS_any _ _ _ zs _ _ _ zs _ (hx4.below hb5 (Nat.le_refl _)) ho5.rd (by omega) (by omega)).mono ?_
  rintro e w6 ⟨rfl, hb6⟩
  rw [decide_eq_true rfl]
  go_wp2
  go_ret
  have s1 := hb1.size
  have s3 := hb3.size
  have s5 := hb5.size
  have s6 := hb6.size
  exact ⟨rfl, (((hb1).trans (hb3.mono (by omega))).trans (hb5.mono (by omega))).trans (hb6.mono (by omega))⟩

set_option maxHeartbeats 400000 in
theorem FnExactChainAdd_walk (key : Int) (wk : (Lit.int .i64 key).wf = true) (A : Option Addr) (n c : Nat) (zs : List Int) (w : World) (hin : InInts .i64 w w.heap.size A n c zs) :
    Calls Try.prog 12 #[.int .i64 key, .slice A n c] w fun e w' => e = .returned (.bool true) ∧ Below w.heap.size w w' := by
  have hr := hin.1
  have hl := Lib.hid hr.len
  by_cases hbig : (1048576 : Int) < (n : Int)
  · go_enter Try.func12, Try.ntmps12
    go_wp2
    go_ret
    exact ⟨rfl, Below.refl _ _⟩
  have hn : n ≤ 1048576 := by omega
  clear hin
  have hN := Lib.hid hl.out.symm
  go_enter Try.func12, Try.ntmps12
  go_wp2_with fail
  refine (toIntS_any _ _ _ zs _ hr hn).mono ?_
  rintro e w1 ⟨A1, c1, rfl, ho1, hb1⟩
  rw [hl.out] at ho1 ⊢
  go_wp2_with fail
  refine (chainAdd_s key _ _ _ zs _ (ho1.rd) (by omega)).mono ?_
  rintro e w2 ⟨rfl, rfl⟩
  have hr2 := (hr.below hb1 (Nat.le_refl _))
  go_wp2_with fail
  refine (toIntS_any _ _ _ zs _ hr2 hn).mono ?_
  rintro e w3 ⟨A3, c3, rfl, ho3, hb3⟩
  rw [hl.out] at ho3 ⊢
  go_wp2_with fail
  refine (chainAdd_i key _ _ _ zs _ (ho3.rd) (by omega)).mono ?_
  rintro e w4 ⟨rfl, rfl⟩
  have hr4 := (hr2.below hb3 (Nat.le_refl _))
  have hx4 := ho3.rd
  go_wp2_with fail
  refine (toIntS_any _ _ _ zs _ hr4 hn).mono ?_
  rintro e w5 ⟨A5, c5, rfl, ho5, hb5⟩
  rw [hl.out] at ho5 ⊢
  go_wp2_with fail
  refine (eqIntS_any _ _ _ zs _ _ _ zs _ (hx4.below hb5 (Nat.le_refl _)) ho5.rd (by omega) (by omega)).mono ?_
  rintro e w6 ⟨rfl, hb6⟩
  rw [decide_eq_true rfl]
  go_wp2
  go_ret
  have s1 := hb1.size
  have s3 := hb3.size
  have s5 := hb5.size
  have s6 := hb6.size
  exact ⟨rfl, (((hb1).trans (hb3.mono (by omega))).trans (hb5.mono (by omega))).trans (hb6.mono (by omega))⟩

set_option maxHeartbeats 400000 in
theorem FnExactChainSub_walk (key : Int) (wk : (Lit.int .i64 key).wf = true) (A : Option Addr) (n c : Nat) (zs : List Int) (w : World) (hin : InInts .i64 w w.heap.size A n c zs) :
    Calls Try.prog 13 #[.int .i64 key, .slice A n c] w fun e w' => e = .returned (.bool true) ∧ Below w.heap.size w w' := by
  have hr := hin.1
  have hl := Lib.hid hr.len
  by_cases hbig : (1048576 : Int) < (n : Int)
  · go_enter Try.func13, Try.ntmps13
    go_wp2
    go_ret
    exact ⟨rfl, Below.refl _ _⟩
  have hn : n ≤ 1048576 := by omega
  clear hin
  have hN := Lib.hid hl.out.symm
  go_enter Try.func13, Try.ntmps13
  go_wp2_with fail
  refine (toIntS_any _ _ _ zs _ hr hn).mono ?_
  rintro e w1 ⟨A1, c1, rfl, ho1, hb1⟩
  rw [hl.out] at ho1 ⊢
  go_wp2_with fail
  refine (chainSub_s key _ _ _ zs _ (ho1.rd) (by omega)).mono ?_
  rintro e w2 ⟨rfl, rfl⟩
  have hr2 := (hr.below hb1 (Nat.le_refl _))
  go_wp2_with fail
  refine (toIntS_any _ _ _ zs _ hr2 hn).mono ?_
  rintro e w3 ⟨A3, c3, rfl, ho3, hb3⟩
  rw [hl.out] at ho3 ⊢
  go_wp2_with fail
  refine (chainSub_i key _ _ _ zs _ (ho3.rd) (by omega)).mono ?_
  rintro e w4 ⟨rfl, rfl⟩
  have hr4 := (hr2.below hb3 (Nat.le_refl _))
  have hx4 := ho3.rd
  go_wp2_with fail
  refine (toIntS_any _ _ _ zs _ hr4 hn).mono ?_
  rintro e w5 ⟨A5, c5, rfl, ho5, hb5⟩
  rw [hl.out] at ho5 ⊢
  go_wp2_with fail
  refine (eqIntS_any _ _ _ zs _ _ _ zs _ (hx4.below hb5 (Nat.le_refl _)) ho5.rd (by omega) (by omega)).mono ?_
  rintro e w6 ⟨rfl, hb6⟩
  rw [decide_eq_true rfl]
  go_wp2
  go_ret
  have s1 := hb1.size
  have s3 := hb3.size
  have s5 := hb5.size
  have s6 := hb6.size
  exact ⟨rfl, (((hb1).trans (hb3.mono (by omega))).trans (hb5.mono (by omega))).trans (hb6.mono (by omega))⟩

set_option maxHeartbeats 400000 in
theorem FnExactComputeMAC_walk (key : Int) (wk : (Lit.int .i64 key).wf = true) (A : Option Addr) (n c : Nat) (zs : List Int) (w : World) (hin : InInts .i64 w w.heap.size A n c zs) :
    Calls Try.prog 14 #[.int .i64 key, .slice A n c] w fun e w' => e = .returned (.bool true) ∧ Below w.heap.size w w' := by
  have hr := hin.1
  have hl := Lib.hid hr.len
  by_cases hbig : (1048576 : Int) < (n : Int)
  · go_enter Try.func14, Try.ntmps14
    go_wp2
    go_ret
    exact ⟨rfl, Below.refl _ _⟩
  have hn : n ≤ 1048576 := by omega
  clear hin
  have hN := Lib.hid hl.out.symm
  go_enter Try.func14, Try.ntmps14
  go_wp2_with fail
  refine (toIntS_any _ _ _ zs _ hr hn).mono ?_
  rintro e w1 ⟨A1, c1, rfl, ho1, hb1⟩
  rw [hl.out] at ho1 ⊢
  go_wp2_with fail
  refine (mac_s key _ _ _ zs _ (ho1.rd) (by omega)).mono ?_
  rintro e w2 ⟨rfl, hb2⟩
  have hr2 := ((hr.below hb1 (Nat.le_refl _)).below hb2 (Nat.le_refl _))
  go_wp2_with fail
  refine (toIntS_any _ _ _ zs _ hr2 hn).mono ?_
  rintro e w3 ⟨A3, c3, rfl, ho3, hb3⟩
  rw [hl.out] at ho3 ⊢
  go_wp2_with fail
  refine (mac_i key _ _ _ zs _ (ho3.rd) (by omega)).mono ?_
  rintro e w4 ⟨rfl, hb4⟩
  have hr4 := ((hr2.below hb3 (Nat.le_refl _)).below hb4 (Nat.le_refl _))
  have hx4 := (ho3.rd.below hb4 (Nat.le_refl _))
  go_wp2_with fail
  refine (toIntS_any _ _ _ zs _ hr4 hn).mono ?_
  rintro e w5 ⟨A5, c5, rfl, ho5, hb5⟩
  rw [hl.out] at ho5 ⊢
  go_wp2_with fail
  refine (eqIntS_any _ _ _ zs _ _ _ zs _ (hx4.below hb5 (Nat.le_refl _)) ho5.rd (by omega) (by omega)).mono ?_
  rintro e w6 ⟨rfl, hb6⟩
  rw [decide_eq_true rfl]
  go_wp2
  go_ret
  have s1 := hb1.size
  have s2 := hb2.size
  have s3 := hb3.size
  have s4 := hb4.size
  have s5 := hb5.size
  have s6 := hb6.size
  exact ⟨rfl, (((((hb1).trans (hb2.mono (by omega))).trans (hb3.mono (by omega))).trans (hb4.mono (by omega))).trans (hb5.mono (by omega))).trans (hb6.mono (by omega))⟩

set_option maxHeartbeats 400000 in
theorem FnExactEqualInts_walk (A : Option Addr) (n c : Nat) (zs : List Int) (w : World) (hin : InInts .i64 w w.heap.size A n c zs) (B : Option Addr) (m d : Nat) (ys : List Int) (hin2 : InInts .i64 w w.heap.size B m d ys) :
    Calls Try.prog 10 #[.slice A n c, .slice B m d] w fun e w' => e = .returned (.bool true) ∧ Below w.heap.size w w' := by
  have hr := hin.1
  have hq := hin2.1
  have hl := Lib.hid hr.len
  have hk := Lib.hid hq.len
  clear hin hin2
  by_cases hbig : (1048576 : Int) < (n : Int)
  · go_enter Try.func10, Try.ntmps10
    go_wp2
    go_ret
    exact ⟨rfl, Below.refl _ _⟩
  by_cases hbig2 : (1048576 : Int) < (m : Int)
  · go_enter Try.func10, Try.ntmps10
    go_wp2
    go_ret
    exact ⟨rfl, Below.refl _ _⟩
  have hn : n ≤ 1048576 := by omega
  have hm : m ≤ 1048576 := by omega
  go_enter Try.func10, Try.ntmps10
  go_wp2_with fail
  refine (toIntS_any _ _ _ zs _ hr hn).mono ?_
  rintro e w1 ⟨A1, c1, rfl, ho1, hb1⟩
  rw [hl.out] at ho1 ⊢
  have hr1 := hr.below hb1 (Nat.le_refl _)
  have hq1 := hq.below hb1 (Nat.le_refl _)
  go_wp2_with fail
  refine (toIntS_any _ _ _ ys _ hq1 hm).mono ?_
  rintro e w2 ⟨A2, c2, rfl, ho2, hb2⟩
  rw [hk.out] at ho2 ⊢
  have hr2 := hr1.below hb2 (Nat.le_refl _)
  have hq2 := hq1.below hb2 (Nat.le_refl _)
  go_wp2_with fail
  refine (equalInts_s _ _ _ zs _ _ _ ys _ (ho1.rd.below hb2 (Nat.le_refl _)) ho2.rd (by omega) (by omega)).mono ?_
  rintro e w3 ⟨rfl, hb3⟩
  have hr3 := hr2.below hb3 (Nat.le_refl _)
  have hq3 := hq2.below hb3 (Nat.le_refl _)
  generalize hdd : decide (zs = ys) = dd
  have HD := Lib.hid hdd
  clear hdd
  go_wp2_with fail
  refine (toIntS_any _ _ _ zs _ hr3 hn).mono ?_
  rintro e w4 ⟨A4, c4, rfl, ho4, hb4⟩
  rw [hl.out] at ho4 ⊢
  have hr4 := hr3.below hb4 (Nat.le_refl _)
  have hq4 := hq3.below hb4 (Nat.le_refl _)
  go_wp2_with fail
  refine (toIntS_any _ _ _ ys _ hq4 hm).mono ?_
  rintro e w5 ⟨A5, c5, rfl, ho5, hb5⟩
  rw [hk.out] at ho5 ⊢
  have hr5 := hr4.below hb5 (Nat.le_refl _)
  have hq5 := hq4.below hb5 (Nat.le_refl _)
  have hx5 := ho4.rd.below hb5 (Nat.le_refl _)
  go_wp2_with fail
  refine (equalInts_i _ _ _ zs _ _ _ ys _ hx5 ho5.rd (by omega) (by omega)).mono ?_
  rintro e w6 ⟨rfl, hb6⟩
  rw [HD.out]
  have hr6 := hr5.below hb6 (Nat.le_refl _)
  have hq6 := hq5.below hb6 (Nat.le_refl _)
  have hx6 := hx5.below hb6 (Nat.le_refl _)
  have hy6 := ho5.rd.below hb6 (Nat.le_refl _)
  have hsame : (dd != dd) = false := by cases dd <;> rfl
  go_wp2_with fail
  refine (toIntS_any _ _ _ zs _ hr6 hn).mono ?_
  rintro e w7 ⟨A7, c7, rfl, ho7, hb7⟩
  rw [hl.out] at ho7 ⊢
  have hq7 := hq6.below hb7 (Nat.le_refl _)
  have hy7 := hy6.below hb7 (Nat.le_refl _)
  go_wp2_with fail
  refine (eqIntS_any _ _ _ zs _ _ _ zs _ (hx6.below hb7 (Nat.le_refl _)) ho7.rd (by omega) (by omega)).mono ?_
  rintro e w8 ⟨rfl, hb8⟩
  rw [decide_eq_true rfl]
  have hq8 := hq7.below hb8 (Nat.le_refl _)
  have hy8 := hy7.below hb8 (Nat.le_refl _)
  go_wp2_with fail
  refine (toIntS_any _ _ _ ys _ hq8 hm).mono ?_
  rintro e w9 ⟨A9, c9, rfl, ho9, hb9⟩
  rw [hk.out] at ho9 ⊢
  go_wp2_with fail
  refine (eqIntS_any _ _ _ ys _ _ _ ys _ (hy8.below hb9 (Nat.le_refl _)) ho9.rd (by omega) (by omega)).mono ?_
  rintro e w10 ⟨rfl, hb10⟩
  rw [decide_eq_true rfl]
  go_wp2
  go_ret
  refine ⟨rfl, ?_⟩
  have s1 := hb1.size
  have s2 := hb2.size
  have s3 := hb3.size
  have s4 := hb4.size
  have s5 := hb5.size
  have s6 := hb6.size
  have s7 := hb7.size
  have s8 := hb8.size
  have s9 := hb9.size
  exact ((((((((hb1.trans (hb2.mono (by omega))).trans (hb3.mono (by omega))).trans (hb4.mono (by omega))).trans (hb5.mono (by omega))).trans (hb6.mono (by omega))).trans (hb7.mono (by omega))).trans (hb8.mono (by omega))).trans (hb9.mono (by omega))).trans (hb10.mono (by omega))
end Go.Proofs.Ytkoidpagehcegaa
