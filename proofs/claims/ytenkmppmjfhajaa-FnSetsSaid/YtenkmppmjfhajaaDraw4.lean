/- The walk of the law FnSets: its call returns true. -/
import Derived.Test.YtenkmppmjfhajaaRows
import Derived.Test.YtenkmppmjfhajaaMem
import Derived.Test.YtenkmppmjfhajaaSetPure
import Derived.Test.YtenkmppmjfhajaaCurMem
import Derived.Test.YtenkmppmjfhajaaDraw1
import Derived.Test.YtenkmppmjfhajaaDraw2
import Derived.Test.YtenkmppmjfhajaaLaw6
import Derived.Test.YtenkmppmjfhajaaDraw3
import Derived.Test.YtenkmppmjfhajaaSetPure2
import Derived.Test.YtenkmppmjfhajaaLawInts
import Derived.Test.YtenkmppmjfhajaaSets
import Derived.Test.YtenkmppmjfhajaaSame
import Derived.Test.YtenkmppmjfhajaaRng
import Derived.Deep.QuietTactic
import Derived.BigQuiet
import Derived.WalkSmall
import Derived.Deep.RegionHeld3
import Derived.Outline
namespace Go.Proofs.Ytenkmppmjfhajaa
open Go.RowKit
set_option linter.unusedVariables false

theorem vset_i (s : Int) (w : World) : Calls Try.prog 55 #[.int .i64 s] w fun e w' => e = .returned (.bool (inR s 0 65535)) ∧ w = w' := by
  go_enter Try.func55, Try.ntmps55
  go_wp2_with (first | (go_at_call 28; refine (inRg_i _ _ _ _).mono ?_; rintro e w' ⟨rfl, rfl⟩))
  go_ret
  exact ⟨rfl, rfl⟩
theorem vset_s (s : Int) (w : World) : Calls Try.prog 56 #[.int .i64 s] w fun e w' => e = .returned (.bool (inR s 0 65535)) ∧ w = w' := by
  go_enter Try.func56, Try.ntmps56
  go_wp2_with (first | (go_at_call 85; refine (inRg_s _ _ _ _).mono ?_; rintro e w' ⟨rfl, rfl⟩))
  go_ret
  exact ⟨rfl, rfl⟩
theorem pow16 {x : Int} (h0 : 0 ≤ x) (h1 : x ≤ 16) : 0 < wrap64 ((2 : Int) ^ x.toNat) ∧ wrap64 ((2 : Int) ^ x.toNat) ≤ 65536 := by
  have hx : x.toNat ≤ 16 := by omega
  generalize x.toNat = k at hx
  have e : ((2 ^ k : Nat) : Int) = (2 : Int) ^ k := by simp
  have h2 : 2 ^ k ≤ 2 ^ 16 := Nat.pow_le_pow_right (by omega) hx
  have h3 : 0 < 2 ^ k := Nat.pow_pos (by omega)
  rw [← e]
  generalize 2 ^ k = m at *
  rw [wrap64_small _ (by omega) (by omega)]
  omega
set_option maxHeartbeats 1000000 in
theorem set4_s (g : Nat) (w : World) (hq : Cu w 74 g) : Calls Try.prog 100 #[.pointer (some ⟨g, 0, none⟩)] w (DrInt g w (-1) 65536) := by
  go_enter Try.func100, Try.ntmps100
  go_wp2_with fail
  refine (once_s _ _ _ hq (by omega)).mono ?_
  rintro e w1 ⟨b, rfl, hd1⟩
  rcases Bool.eq_false_or_eq_true b with rfl | rfl
  · go_wp2_with fail
    refine (int_s _ _ _ _ [-1, 65535, 65536] _ (hd1.2.alloc _) (Ri.litA (zs := [-1, 65535, 65536])) (by decide) (by decide) (fun b off e => by injection e with e; injection e with e; have := hd1.2.lt; omega)).mono ?_
    rintro e w2 ⟨x, hm, rfl, hd⟩
    have hx : Hid (x ∈ [-1, 65535, 65536]) := Lib.hid hm
    clear hm
    go_wp2
    go_ret
    exact ⟨x, by have := hx.out; simp at this; omega, by have := hx.out; simp at this; omega, rfl, (hd1.alloc _).trans hd⟩
  · go_wp2_with fail
    refine (below_s _ _ _ hd1.2 (by omega)).mono ?_
    rintro e w2 ⟨x, hx0, hx1, rfl, hd2⟩
    have hpw := Lib.hid (pow16 hx0 (show x ≤ 16 by omega))
    go_wp2_with fail
    refine (below_s _ _ _ hd2.2 (by first | exact hpw.out.1 | (have := hpw.out.1; omega))).mono ?_
    rintro e w3 ⟨y, hy0, hy1, rfl, hd3⟩
    go_wp2
    go_ret
    exact ⟨y, by omega, by have := hpw.out.2; omega, rfl, (hd1.trans hd2).trans hd3⟩
set_option maxHeartbeats 1000000 in
theorem pair4_s (A : Option Addr) (n c : Nat) (bs : List Int) (w : World) (h8 : Code8 w A n bs) : Calls Try.prog 89 #[.slice A n c] w (Two w fun x y => I64 x ∧ I64 y) := by
  go_enter Try.func89, Try.ntmps89
  go_wp2_with fail
  refine (new_s _ _ _ bs _ h8).mono ?_
  rintro e w1 ⟨g, hg, rfl, hq, hb⟩
  go_wp2_with fail
  refine (set4_s _ _ hq).mono ?_
  rintro e w2 ⟨x, hx0, hx1, rfl, hd1⟩
  go_wp2_with fail
  refine (below_s _ _ _ hd1.2 (by omega)).mono ?_
  rintro e w3 ⟨y, hy0, hy1, rfl, hd2⟩
  go_wp2_with fail
  refine (int_s _ _ _ _ [0, 1, 2, 5, 15, 16, -1, y] _ ((hd1.trans hd2).2.alloc _) (Ri.litA (zs := [0, 1, 2, 5, 15, 16, -1, y])) (by simp) (by simp) (fun b off e => by injection e with e; injection e with e; have := hd2.2.lt; omega)).mono ?_
  rintro e w4 ⟨z, hm, rfl, hd⟩
  have hz : Hid (z ∈ [0, 1, 2, 5, 15, 16, -1, y]) := Lib.hid hm
  clear hm
  go_wp2
  go_ret2
  exact ⟨x, z, ⟨⟨by omega, by omega⟩, by have := hz.out; simp at this; omega, by have := hz.out; simp at this; omega⟩, rfl, hb.trans ((((hd1.trans hd2).alloc _).trans hd).below hg hb.size)⟩
set_option maxHeartbeats 1000000 in
theorem two4_s (A : Option Addr) (n c : Nat) (bs : List Int) (w : World) (h8 : Code8 w A n bs) : Calls Try.prog 90 #[.slice A n c] w (Two w fun x y => I64 x ∧ I64 y) := by
  go_enter Try.func90, Try.ntmps90
  go_wp2_with fail
  refine (new_s _ _ _ bs _ h8).mono ?_
  rintro e w1 ⟨g, hg, rfl, hq, hb⟩
  go_wp2_with fail
  refine (set4_s _ _ hq).mono ?_
  rintro e w2 ⟨x, hx0, hx1, rfl, hd1⟩
  go_wp2_with fail
  refine (set4_s _ _ hd1.2).mono ?_
  rintro e w3 ⟨y, hy0, hy1, rfl, hd2⟩
  go_wp2
  go_ret2
  exact ⟨x, y, ⟨⟨by omega, by omega⟩, by omega, by omega⟩, rfl, hb.trans ((hd1.trans hd2).below hg hb.size)⟩
theorem drCont_s (A : Option Addr) (n c : Nat) (bs : List Int) (w : World) (h8 : Code8 w A n bs) : Calls Try.prog 36 #[.slice A n c] w (Two w fun x y => I64 x ∧ I64 y) := by
  go_enter Try.func36, Try.ntmps36
  go_wp2_with fail
  refine (pair4_s _ _ _ bs _ h8).mono ?_
  rintro e w1 ⟨x, y, hP, rfl, hb⟩
  go_wp2
  go_ret2
  exact ⟨x, y, hP, rfl, hb⟩
theorem drUnion_s (A : Option Addr) (n c : Nat) (bs : List Int) (w : World) (h8 : Code8 w A n bs) : Calls Try.prog 37 #[.slice A n c] w (Two w fun x y => I64 x ∧ I64 y) := by
  go_enter Try.func37, Try.ntmps37
  go_wp2_with fail
  refine (two4_s _ _ _ bs _ h8).mono ?_
  rintro e w1 ⟨x, y, hP, rfl, hb⟩
  go_wp2
  go_ret2
  exact ⟨x, y, hP, rfl, hb⟩
def MkRel (g : Nat) (w1 : World) (v i : Value) (wr : World) : Prop :=
  ∃ (k n : Nat) (A : Option Addr) (c : Nat) (zs : List Int), i = .int .i64 k ∧ v = .slice A n c ∧ k + n ≤ 4 ∧ Oi wr w1.heap.size 3 .i64 A n c zs ∧ Dr 74 g w1 wr
/-- A new slice of integers that can be read. -/
def NewI (w : World) (N : Nat) (e : Ending) (w' : World) : Prop := ∃ (A : Option Addr) (n c : Nat) (zs : List Int), e = .returned (.slice A n c) ∧ n ≤ N ∧ n ≤ c ∧ Ri w' .i64 A n zs ∧ Below w.heap.size w w'
set_option maxHeartbeats 1000000 in
theorem drMake_s (A : Option Addr) (n c : Nat) (bs : List Int) (w : World) (h8 : Code8 w A n bs) : Calls Try.prog 38 #[.slice A n c] w (NewI w 4) := by
  obtain ⟨i0, hi, hz0, hz1, hz2⟩ := info_parts ints_info
  go_enter Try.func38, Try.ntmps38
  go_wp2_with fail
  refine (new_s _ _ _ bs _ h8).mono ?_
  rintro e w1 ⟨g, hg, rfl, hq, hb⟩
  go_wp2_with fail
  refine (below_s _ _ _ (hq.alloc _) (by omega)).mono ?_
  rintro e w2 ⟨x, hx0, hx1, rfl, hd1⟩
  obtain ⟨k0, rfl⟩ := Int.eq_ofNat_of_zero_le hx0
  have hgl := hq.lt
  have ho : Oi w2 w1.heap.size 3 .i64 (some ⟨w1.heap.size, 0, none⟩) 0 0 [] := (lit_noneO (Nat.le_refl _)).dr hd1 hgl
  have hdr : Dr 74 g w1 w2 := ((Dr.refl hq).alloc _).trans hd1
  clear hd1
  go_wp2
  go_loopw [4, 5] (MkRel g w1) (fun _ i _ => (intOf i).toNat)
  case atStart => exact ⟨k0, 0, _, 0, [], rfl, rfl, by omega, ho, hdr⟩
  case round =>
    clear ho hdr
    obtain ⟨k, m, B, d, zs, rfl, rfl, hkm, ho, hdr⟩ := hrel
    by_cases hk : 0 < k
    · have hk1 : (0 : Int) < (k : Int) := by omega
      go_wp2_with fail
      refine (below_s _ _ _ hdr.2 (by omega)).mono ?_
      rintro e w3 ⟨y, hy0, hy1, rfl, hd2⟩
      have ho2 := ho.dr hd2 hgl
      have hdr2 := hdr.trans hd2
      have hsz := hdr2.size
      clear ho hdr hd2
      go_wp2_with (first
        | (at_builtin; refine wpList_push _ rfl _ _ 35 rfl w1.heap.size 3 i0 (.int .i64 0) 8 .i64 Try.underlying35 hi hz0 hz1 hz2 rfl (by omega) B m d _ rfl (ho2.alloc _) w3.heap.size (y - 1) rfl (by simp) (by omega) (by simp; omega) ?_; intro A' c' w4 hown' hb'))
      go_roundw
      case rel => exact ⟨k - 1, m + 1, A', c', _, by go_num, rfl, by omega, hown', (hdr2.alloc _).push hgl hb'⟩
      case measure => simp [intOf]; omega
    · obtain rfl : k = 0 := by omega
      go_wp2
      go_ret
      exact ⟨B, m, d, zs, rfl, by omega, ho.le, ho.rd, hb.trans (hdr.below hg hb.size)⟩
end Go.Proofs.Ytenkmppmjfhajaa
