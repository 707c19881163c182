/- The arguments drawn for encoding and decoding. -/
import Derived.Test.YtenkmppmjfhajaaRows
import Derived.Test.YtenkmppmjfhajaaMem
import Derived.Test.YtenkmppmjfhajaaSetPure
import Derived.Test.YtenkmppmjfhajaaCurMem
import Derived.Test.YtenkmppmjfhajaaDraw1
import Derived.Test.YtenkmppmjfhajaaDraw2
import Derived.Test.YtenkmppmjfhajaaLaw6
import Derived.Test.YtenkmppmjfhajaaDraw3
import Derived.Test.YtenkmppmjfhajaaLawInts
import Derived.Test.YtenkmppmjfhajaaLawBytes
import Derived.Test.YtenkmppmjfhajaaVarPure
import Derived.Test.YtenkmppmjfhajaaVarPure2
import Derived.Test.YtenkmppmjfhajaaVar
import Derived.Test.YtenkmppmjfhajaaRead
import Derived.Test.YtenkmppmjfhajaaReadS
import Derived.Test.YtenkmppmjfhajaaBytes2
import Derived.Test.YtenkmppmjfhajaaEnc
import Derived.Test.YtenkmppmjfhajaaSame
import Derived.Test.YtenkmppmjfhajaaDraw5
import Derived.Deep.QuietTactic
import Derived.BigQuiet
import Derived.WalkSmall
import Derived.Deep.RegionHeld3
import Derived.Outline
namespace Go.Proofs.Ytenkmppmjfhajaa
open Go.RowKit
set_option linter.unusedVariables false

def TwoBI (w : World) (N : Nat) (lo hi : Int) (e : Ending) (w' : World) : Prop := ∃ A n c zs x, n ≤ N ∧ RowB w w' A n c zs ∧ lo ≤ x ∧ x ≤ hi ∧ e = .returned (.tuple #[.slice A n c, .int .i64 x]) ∧ Below w.heap.size w w'
def TwoBB (w : World) (N : Nat) (e : Ending) (w' : World) : Prop := ∃ A n c zs B m d ys, n ≤ N ∧ m ≤ N ∧ RowB w w' A n c zs ∧ RowB w w' B m d ys ∧ e = .returned (.tuple #[.slice A n c, .slice B m d]) ∧ Below w.heap.size w w'
def ThreeBII (w : World) (N : Nat) (e : Ending) (w' : World) : Prop := ∃ A n c zs x y, n ≤ N ∧ RowB w w' A n c zs ∧ (-1 ≤ x ∧ x ≤ 101) ∧ (-1 ≤ y ∧ y ≤ 101) ∧ e = .returned (.tuple #[.slice A n c, .int .i64 x, .int .i64 y]) ∧ Below w.heap.size w w'
def NewIs (w : World) (N : Nat) (e : Ending) (w' : World) : Prop := ∃ A n c zs, n ≤ N ∧ Ri w' .i64 A n zs ∧ e = .returned (.slice A n c) ∧ Below w.heap.size w w'
set_option maxHeartbeats 1000000 in
theorem drAppV_s (A : Option Addr) (n c : Nat) (bs : List Int) (w : World) (h8 : Code8 w A n bs) : Calls Try.prog 57 #[.slice A n c] w (TwoBI w 2 (-9223372036854775808) 9223372036854775807) := by
  go_enter Try.func57, Try.ntmps57
  go_wp2_with fail
  refine (new_s _ _ _ bs _ h8).mono ?_
  rintro e w1 ⟨g, hg, rfl, hq, hb⟩
  have hgl := hq.lt
  go_wp2_with fail
  refine (below_s _ _ _ hq (by omega)).mono ?_
  rintro e w2 ⟨x, hx0, hx1, rfl, hd1⟩
  obtain ⟨k, rfl⟩ := Int.eq_ofNat_of_zero_le hx0
  go_wp2_with fail
  refine (bytes_s _ k _ hd1.2 (by omega)).mono ?_
  rintro e w3 ⟨B, d, zs, rfl, hr, hd2⟩
  go_wp2_with fail
  refine (one_s _ _ hd2.2).mono ?_
  rintro e w4 ⟨y, hy0, hy1, rfl, hd3⟩
  go_wp2
  go_ret2
  have hgl2 := hd1.2.lt
  have hs2 := hd1.size
  have hs1 := hb.size
  exact ⟨B, k, d, zs, y, by omega, (hr.dr hd3 hgl2).mono (by omega), hy0, hy1, rfl, hb.trans (((hd1.trans hd2).trans hd3).below hg hb.size)⟩
set_option maxHeartbeats 1000000 in
theorem drAppB_s (A : Option Addr) (n c : Nat) (bs : List Int) (w : World) (h8 : Code8 w A n bs) : Calls Try.prog 62 #[.slice A n c] w (TwoBB w 5) := by
  go_enter Try.func62, Try.ntmps62
  go_wp2_with fail
  refine (new_s _ _ _ bs _ h8).mono ?_
  rintro e w1 ⟨g, hg, rfl, hq, hb⟩
  have hgl := hq.lt
  go_wp2_with fail
  refine (below_s _ _ _ hq (by omega)).mono ?_
  rintro e w2 ⟨x, hx0, hx1, rfl, hd1⟩
  obtain ⟨k, rfl⟩ := Int.eq_ofNat_of_zero_le hx0
  go_wp2_with fail
  refine (bytes_s _ k _ hd1.2 (by omega)).mono ?_
  rintro e w3 ⟨B, d, zs, rfl, hr, hd2⟩
  go_wp2_with fail
  refine (below_s _ _ _ hd2.2 (by omega)).mono ?_
  rintro e w4 ⟨y, hy0, hy1, rfl, hd3⟩
  obtain ⟨j, rfl⟩ := Int.eq_ofNat_of_zero_le hy0
  go_wp2_with fail
  refine (bytes_s _ j _ hd3.2 (by omega)).mono ?_
  rintro e w5 ⟨C, f, ys, rfl, hr2, hd4⟩
  go_wp2
  go_ret2
  have hgl2 := hd1.2.lt
  have hs1 := hb.size
  have hs2 := hd1.size
  have hs3 := hd2.size
  have hs4 := hd3.size
  exact ⟨B, k, d, zs, C, j, f, ys, by omega, by omega, ((hr.dr hd3 hgl2).dr hd4 hgl2).mono (by omega), hr2.mono (by omega), rfl, hb.trans ((((hd1.trans hd2).trans hd3).trans hd4).below hg hb.size)⟩
set_option maxHeartbeats 1000000 in
theorem drRdB_s (A : Option Addr) (n c : Nat) (bs : List Int) (w : World) (h8 : Code8 w A n bs) : Calls Try.prog 64 #[.slice A n c] w (ThreeBII w 20) := by
  go_enter Try.func64, Try.ntmps64
  go_wp2_with fail
  refine (new_s _ _ _ bs _ h8).mono ?_
  rintro e w1 ⟨g, hg, rfl, hq, hb⟩
  have hgl := hq.lt
  go_wp2_with fail
  refine (bytes_s g 1 _ hq (by omega)).mono ?_
  rintro e w2 ⟨B, d, zs, rfl, hr, hd1⟩
  go_wp2_with fail
  refine (below_s _ _ _ hd1.2 (by omega)).mono ?_
  rintro e w3 ⟨x, hx0, hx1, rfl, hd2⟩
  obtain ⟨k, rfl⟩ := Int.eq_ofNat_of_zero_le hx0
  go_wp2_with fail
  refine (bytes_s _ k _ hd2.2 (by omega)).mono ?_
  rintro e w4 ⟨C, f, ys, rfl, hr2, hd3⟩
  have hr4 := (hr.dr hd2 hgl).dr hd3 hgl
  go_wp2_with fail
  refine (appendBytes_s _ _ _ zs _ _ _ ys _ hr4.1 hr2.1 (by omega) (by omega)).mono ?_
  rintro e w5 ⟨D, dc, rfl, hDo, hb5⟩
  have hzl := hr4.1.len
  have hyl := hr2.1.len
  have hal : (appB zs ys).length ≤ 13 := by have := appV_len zs (ys.length : Int); unfold appB; rw [List.length_append]; omega
  have hd5 : Dr 74 g w1 w5 := ((hd1.trans hd2).trans hd3).trans (Dr.of_below hd3.2 hb5)
  go_wp2_with fail
  refine (bent_s _ _ _ _ (appB zs ys) _ hd5.2 hDo.rd (appB_bys hr4.2.2.1 hr2.2.2.1) (by omega)).mono ?_
  rintro e w6 ⟨E, en, ec, es, rfl, hen, her, hd6⟩
  go_wp2_with fail
  refine (int_s _ _ _ _ [1, 1, 1, 0, 9, -1] _ (hd6.2.alloc _) (Ri.litA (zs := [1, 1, 1, 0, 9, -1])) (by decide) (by decide) (fun b off e => by injection e with e; injection e with e; have := hd6.2.lt; omega)).mono ?_
  rintro e w7 ⟨p, hmp, rfl, hd7⟩
  have hp0 : -1 ≤ p := by simp at hmp; omega
  have hp1 : p ≤ 9 := by simp at hmp; omega
  clear hmp
  go_wp2_with fail
  refine (int_s _ _ _ _ [9, 9, 3, 0, -1] _ (hd7.2.alloc _) (Ri.litA (zs := [9, 9, 3, 0, -1])) (by decide) (by decide) (fun b off e => by injection e with e; injection e with e; have := hd7.2.lt; omega)).mono ?_
  rintro e w8 ⟨q, hmq, rfl, hd8⟩
  have hq0 : -1 ≤ q := by simp at hmq; omega
  have hq1 : q ≤ 9 := by simp at hmq; omega
  clear hmq
  go_wp2
  go_ret3
  have hg5 := hd5.2.lt
  have hs5 := hd5.size
  have hs1 := hb.size
  exact ⟨E, en, ec, es, p, q, by omega, ((((her.alloc _).dr hd7 hg5).alloc _).dr hd8 hg5).mono (by omega), ⟨by omega, by omega⟩, ⟨by omega, by omega⟩, rfl, hb.trans ((((((hd5.trans hd6).alloc _).trans hd7).alloc _).trans hd8).below hg hb.size)⟩
def RvRel (g : Nat) (w : World) (v i : Value) (wr : World) : Prop :=
  ∃ (k n : Nat) (A : Option Addr) (c : Nat) (zs : List Int), i = .int .i64 k ∧ v = .slice A n c ∧ k + n ≤ 7 ∧ Bys zs ∧ Oi wr w.heap.size 5 .u8 A n c zs ∧ Dr 74 g w wr
set_option maxHeartbeats 1000000 in
theorem drRdV_s (A : Option Addr) (n c : Nat) (bs : List Int) (w : World) (h8 : Code8 w A n bs) : Calls Try.prog 59 #[.slice A n c] w (TwoBI w 8 (-1) 2) := by
  obtain ⟨i0, hi, hz0, hz1, hz2⟩ := info_parts bytes_info
  go_enter Try.func59, Try.ntmps59
  go_wp2_with fail
  refine (new_s _ _ _ bs _ h8).mono ?_
  rintro e w1 ⟨g, hg, rfl, hq, hb⟩
  have hgl := hq.lt
  go_wp2_with fail
  refine (once_s _ _ _ hq (by omega)).mono ?_
  rintro e w2 ⟨b, rfl, hd1⟩
  rcases Bool.eq_false_or_eq_true b with rfl | rfl
  · go_wp2_with fail
    refine (bytes_s g 1 _ hd1.2 (by omega)).mono ?_
    rintro e w3 ⟨B, d, zs, rfl, hr, hd2⟩
    go_wp2_with fail
    refine (num_s _ _ hd2.2).mono ?_
    rintro e w4 ⟨x, hx0, hx1, rfl, hd3⟩
    have hgl2 := hd1.2.lt
    have hr4 := hr.dr hd3 hgl2
    go_wp2_with fail
    refine (appendVarint_s _ _ _ zs _ _ hr4.1 (by omega)).mono ?_
    rintro e w5 ⟨D, dc, rfl, hDo, hb5⟩
    have hzl := hr4.1.len
    have hal := appV_len zs x
    have hd4 := (hd1.trans hd2).trans hd3
    have hd5 := hd4.trans (Dr.of_below hd3.2 hb5)
    have hs4 := hd4.size
    have hs1 := hb.size
    have hBy := appV_bys (n := x) hr4.2.2.1
    go_wp2
    go_ret2
    exact ⟨D, _, dc, _, 1, by omega, RowB.of_oi hDo (by omega) hBy, by omega, by omega, rfl, hb.trans (hd5.below hg hb.size)⟩
  · go_wp2_with fail
    refine (below_s _ _ _ (hd1.2.alloc _) (by omega)).mono ?_
    rintro e w3 ⟨x, hx0, hx1, rfl, hd2⟩
    obtain ⟨k0, rfl⟩ := Int.eq_ofNat_of_zero_le hx0
    have hgl2 := hd1.2.lt
    have ho : Oi w3 w2.heap.size 5 .u8 (some ⟨w2.heap.size, 0, none⟩) 0 0 [] := (lit_noneO (Nat.le_refl _)).dr hd2 hgl2
    have hdr : Dr 74 g w2 w3 := ((Dr.refl hd1.2).alloc _).trans hd2
    clear hd2
    go_wp2
    go_loopw [5, 6] (RvRel g w2) (fun _ i _ => (intOf i).toNat)
    case atStart => exact ⟨k0, 0, _, 0, [], rfl, rfl, by omega, Bys.nil, ho, hdr⟩
    case round =>
      clear ho hdr
      obtain ⟨k, m, B, d, zs, rfl, rfl, hkm, hby, ho, hdr⟩ := hrel
      by_cases hk : 0 < k
      · have hk1 : (0 : Int) < (k : Int) := by omega
        go_wp2_with fail
        refine (int_s _ _ _ _ [128, 255, 0, 1, 127] _ (hdr.2.alloc _) (Ri.litA (zs := [128, 255, 0, 1, 127])) (by decide) (by decide) (fun b off e => by injection e with e; injection e with e; have := hdr.2.lt; omega)).mono ?_
        rintro e w4 ⟨y, hmy, rfl, hd3⟩
        have hy0 : 0 ≤ y := by simp at hmy; omega
        have hy1 : y ≤ 255 := by simp at hmy; omega
        clear hmy
        have ho3 := (ho.alloc _).dr hd3 hgl2
        have hdr3 := (hdr.alloc _).trans hd3
        have hsz := hdr3.size
        have hby2 := Lib.hid (hby.snoc hy0 hy1)
        clear ho hdr hd3 hby
        go_wp2_with (first
          | (at_builtin; refine wpList_push _ rfl _ _ 22 rfl w2.heap.size 5 i0 (.int .u8 0) 1 .u8 Try.underlying22 hi hz0 hz1 hz2 rfl (by omega) B m d _ rfl (ho3.alloc _) w4.heap.size y rfl (by simp) (by omega) (by simp; omega) ?_; intro A' c' w5 hown' hb'))
        go_roundw
        case rel => exact ⟨k - 1, m + 1, A', c', _, by go_num, rfl, by omega, hby2.out, hown', (hdr3.alloc _).push hgl2 hb'⟩
        case measure => simp [intOf]; omega
      · obtain rfl : k = 0 := by omega
        go_wp2_with fail
        refine (below_s _ _ _ hdr.2 (by omega)).mono ?_
        rintro e w4 ⟨y, hy0, hy1, rfl, hd3⟩
        have ho3 := ho.dr hd3 hgl2
        have hdr3 := hd1.trans (hdr.trans hd3)
        have hs1 := hb.size
        have hs2 := hd1.size
        clear ho hdr hd3
        go_wp2
        go_ret2
        exact ⟨B, m, d, zs, y - 1, by omega, RowB.of_oi ho3 (by omega) hby, by omega, by omega, rfl, hb.trans (hdr3.below hg hb.size)⟩
set_option maxHeartbeats 1000000 in
theorem drEnc_s (A : Option Addr) (n c : Nat) (bs : List Int) (w : World) (h8 : Code8 w A n bs) : Calls Try.prog 70 #[.slice A n c] w (NewIs w 6) := by
  obtain ⟨i0, hi, hz0, hz1, hz2⟩ := info_parts ints_info
  go_enter Try.func70, Try.ntmps70
  go_wp2_with fail
  refine (new_s _ _ _ bs _ h8).mono ?_
  rintro e w1 ⟨g, hg, rfl, hq, hb⟩
  have hgl := hq.lt
  go_wp2_with fail
  refine (ints2_s _ _ hq).mono ?_
  rintro e w2 ⟨B, m, d, zs, rfl, hm, hnu, ho, hd1⟩
  go_wp2_with fail
  refine (once_s _ _ _ hd1.2 (by omega)).mono ?_
  rintro e w3 ⟨b, rfl, hd2⟩
  have ho3 := ho.dr hd2 hgl
  have hd3 := hd1.trans hd2
  rcases Bool.eq_false_or_eq_true b with rfl | rfl
  · go_wp2_with fail
    refine (raw_s _ _ hd3.2).mono ?_
    rintro e w4 ⟨y, hy0, hy1, rfl, hd4⟩
    have ho4 := ho3.dr hd4 hgl
    have hd5 := hd3.trans hd4
    have hs5 := hd5.size
    go_wp2_with (first
      | (at_builtin; refine wpList_push _ rfl _ _ 35 rfl w1.heap.size 3 i0 (.int .i64 0) 8 .i64 Try.underlying35 hi hz0 hz1 hz2 rfl (by omega) B m d _ rfl (ho4.alloc _) w4.heap.size y rfl (by simp) (by omega) (by simp; omega) ?_; intro A' c' w5 hown' hb'))
    go_ret
    exact ⟨A', m + 1, c', _, by omega, hown'.rd, rfl, hb.trans (((hd5.alloc _).push hgl hb').below hg hb.size)⟩
  · go_wp2
    go_ret
    exact ⟨B, m, d, zs, by omega, ho3.rd, rfl, hb.trans (hd3.below hg hb.size)⟩
set_option maxHeartbeats 1000000 in
theorem drDec_s (A : Option Addr) (n c : Nat) (bs : List Int) (w : World) (h8 : Code8 w A n bs) : Calls Try.prog 71 #[.slice A n c] w (ThreeBII w 50) := by
  go_enter Try.func71, Try.ntmps71
  go_wp2_with fail
  refine (new_s _ _ _ bs _ h8).mono ?_
  rintro e w1 ⟨g, hg, rfl, hq, hb⟩
  have hgl := hq.lt
  go_wp2_with fail
  refine (ints2_s _ _ hq).mono ?_
  rintro e w2 ⟨B, m, d, zs, rfl, hm, hnu, ho, hd1⟩
  have hzl := ho.rd.len
  go_wp2_with fail
  refine (encodeInts_s _ _ _ zs _ ho.rd (by omega)).mono ?_
  rintro e w3 ⟨D, dc, rfl, hDo, hb3⟩
  have hd3 := hd1.trans (Dr.of_below hd1.2 hb3)
  have hal := appL_len [] zs
  simp only [List.length_nil] at hal
  go_wp2_with fail
  refine (bent_s _ _ _ _ (appL [] zs) _ hd3.2 hDo.rd (appL_bys Bys.nil) (by omega)).mono ?_
  rintro e w4 ⟨E, en, ec, es, rfl, hen, her, hd4⟩
  go_wp2_with fail
  refine (once_s _ _ _ hd4.2 (by omega)).mono ?_
  rintro e w5 ⟨b, rfl, hd5⟩
  have hg3 := hd3.2.lt
  have hs3 := hd3.size
  have hs1 := hb.size
  have her5 := her.dr hd5 hg3
  have hd6 := (hd3.trans hd4).trans hd5
  clear her hd1 hd4 hd5 ho hDo hnu hb3
  rcases Bool.eq_false_or_eq_true b with rfl | rfl
  · go_wp2_with fail
    refine (int_s _ _ _ _ [0, 1, 6, -1, 101] _ (hd6.2.alloc _) (Ri.litA (zs := [0, 1, 6, -1, 101])) (by decide) (by decide) (fun b off e => by injection e with e; injection e with e; have := hd6.2.lt; omega)).mono ?_
    rintro e w6 ⟨p, hmp, rfl, hd7⟩
    have hp0 : -1 ≤ p := by simp at hmp; omega
    have hp1 : p ≤ 101 := by simp at hmp; omega
    clear hmp
    go_wp2_with fail
    refine (int_s _ _ _ _ [0, 0, 0, 1, -1, 99] _ (hd7.2.alloc _) (Ri.litA (zs := [0, 0, 0, 1, -1, 99])) (by decide) (by decide) (fun b off e => by injection e with e; injection e with e; have := hd7.2.lt; omega)).mono ?_
    rintro e w7 ⟨q, hmq, rfl, hd8⟩
    have hq0 : -1 ≤ q := by simp at hmq; omega
    have hq1 : q ≤ 99 := by simp at hmq; omega
    clear hmq
    go_wp2
    go_ret3
    exact ⟨E, en, ec, es, q, p, by omega, ((((her5.alloc _).dr hd7 hg3).alloc _).dr hd8 hg3).mono (by omega), ⟨by omega, by omega⟩, ⟨by omega, by omega⟩, rfl, hb.trans (((((hd6.alloc _).trans hd7).alloc _).trans hd8).below hg hb.size)⟩
  · go_wp2_with fail
    refine (int_s _ _ _ _ [0, 0, 0, 1, -1, 99] _ (hd6.2.alloc _) (Ri.litA (zs := [0, 0, 0, 1, -1, 99])) (by decide) (by decide) (fun b off e => by injection e with e; injection e with e; have := hd6.2.lt; omega)).mono ?_
    rintro e w7 ⟨q, hmq, rfl, hd8⟩
    have hq0 : -1 ≤ q := by simp at hmq; omega
    have hq1 : q ≤ 99 := by simp at hmq; omega
    clear hmq
    go_wp2
    go_ret3
    exact ⟨E, en, ec, es, q, m, by omega, ((her5.alloc _).dr hd8 hg3).mono (by omega), ⟨by omega, by omega⟩, ⟨by omega, by omega⟩, rfl, hb.trans (((hd6.alloc _).trans hd8).below hg hb.size)⟩
set_option maxHeartbeats 1000000 in
theorem drEqB_s (A : Option Addr) (n c : Nat) (bs : List Int) (w : World) (h8 : Code8 w A n bs) : Calls Try.prog 74 #[.slice A n c] w (TwoBB w 5) := by
  obtain ⟨i0, hi, hz0, hz1, hz2⟩ := info_parts bytes_info
  go_enter Try.func74, Try.ntmps74
  go_wp2_with fail
  refine (new_s _ _ _ bs _ h8).mono ?_
  rintro e w1 ⟨g, hg, rfl, hq, hb⟩
  have hgl := hq.lt
  go_wp2_with fail
  refine (below_s _ _ _ hq (by omega)).mono ?_
  rintro e w2 ⟨x, hx0, hx1, rfl, hd1⟩
  obtain ⟨k, rfl⟩ := Int.eq_ofNat_of_zero_le hx0
  go_wp2_with fail
  refine (bytes_s _ k _ hd1.2 (by omega)).mono ?_
  rintro e w3 ⟨B, d, zs, rfl, hr, hd2⟩
  go_wp2_with fail
  refine (once_s _ _ _ hd2.2 (by omega)).mono ?_
  rintro e w4 ⟨b, rfl, hd3⟩
  have hgl2 := hd1.2.lt
  have hr4 := hr.dr hd3 hgl2
  have hd4 := (hd1.trans hd2).trans hd3
  have hs1 := hb.size
  have hs2 := hd1.size
  have hs4 := hd4.size
  clear hr
  rcases Bool.eq_false_or_eq_true b with rfl | rfl
  · go_wp2_with (first
      | (at_builtin; refine wpList_pushAll _ rfl _ _ 22 rfl w4.heap.size 5 i0 (.int .u8 0) 1 .u8 Try.underlying22 hi hz0 hz1 hz2 rfl (by omega) _ 0 0 _ rfl (lit_noneO (Nat.le_refl _)) B k d zs rfl (hr4.1.alloc _) (by omega) (by simp) ?_; intro A' c' w5 ho hb'; simp only [Nat.zero_add, List.nil_append] at ho))
    go_ret2
    have hb5 : Below w4.heap.size w4 w5 := ((Below.refl _ _).alloc (Nat.le_refl _) _).trans hb'
    exact ⟨B, k, d, zs, A', k, c', zs, by omega, by omega, (hr4.below hb5).mono (by omega), RowB.of_oi ho (by omega) hr4.2.2.1, rfl, hb.trans ((hd4.trans (Dr.of_below hd4.2 hb5)).below hg hb.size)⟩
  · go_wp2_with fail
    refine (bent_s _ _ _ _ zs _ hd4.2 hr4.1 hr4.2.2.1 (by omega)).mono ?_
    rintro e w5 ⟨E, en, ec, es, rfl, hen, her, hd5⟩
    go_wp2
    go_ret2
    exact ⟨B, k, d, zs, E, en, ec, es, by omega, by omega, (hr4.dr hd5 hgl2).mono (by omega), her.mono (by omega), rfl, hb.trans ((hd4.trans hd5).below hg hb.size)⟩
end Go.Proofs.Ytenkmppmjfhajaa
