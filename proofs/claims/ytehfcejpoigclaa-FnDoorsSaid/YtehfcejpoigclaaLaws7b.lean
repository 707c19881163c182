/- The walk of the law FnDoors: its call returns true. -/
import Derived.Test.YtehfcejpoigclaaRows
import Derived.Test.YtehfcejpoigclaaMem
import Derived.Test.YtehfcejpoigclaaTopoMem
import Derived.Test.YtehfcejpoigclaaTopoPure
import Derived.Test.YtehfcejpoigclaaDrawPure
import Derived.Test.YtehfcejpoigclaaBox
import Derived.Test.YtehfcejpoigclaaDrawT
import Derived.Test.YtehfcejpoigclaaAnyT
import Derived.Test.YtehfcejpoigclaaDraws
import Derived.Test.YtehfcejpoigclaaLaw6
import Derived.Test.YtehfcejpoigclaaLaw7
import Derived.Test.YtehfcejpoigclaaDraws2
import Derived.Test.YtehfcejpoigclaaTopo1
import Derived.Test.YtehfcejpoigclaaTopo2
import Derived.Test.YtehfcejpoigclaaTopo3
import Derived.Test.YtehfcejpoigclaaTopo4
import Derived.Test.YtehfcejpoigclaaTopo5
import Derived.Test.YtehfcejpoigclaaLawInts
import Derived.Test.YtehfcejpoigclaaSame
import Derived.Deep.QuietTactic
import Derived.BigQuiet
import Derived.WalkSmall
import Derived.Deep.RegionHeld3
import Derived.StillTailTactics
import Derived.Outline
namespace Go.Proofs.Ytehfcejpoigclaa
open Go.RowKit
set_option linter.unusedVariables false

def kindsTo (ls : List Lk) (r : Int) : Nat → Nat
  | 0 => 0
  | q + 1 => if q = 0 then 0 else kindsTo ls r q + (ifsOf ls r (q : Int)).length
theorem kindsTo_succ {ls : List Lk} {r : Int} {q : Nat} (h : 1 ≤ q) : kindsTo ls r (q + 1) = kindsTo ls r q + (ifsOf ls r (q : Int)).length := by
  rw [kindsTo, if_neg (by omega)]
theorem kindsTo_all {xs : List As} {ls : List Lk} (h : validT xs ls = true) (r : Int) : kindsTo ls r 5 = (ifs ls r).length := by
  rw [kindsTo_succ (by omega), kindsTo_succ (by omega), kindsTo_succ (by omega), kindsTo_succ (by omega)]
  have h1 := kinds_ok h r
  show 0 + (ifsOf ls r 1).length + (ifsOf ls r 2).length + (ifsOf ls r 3).length + (ifsOf ls r 4).length = _
  omega
theorem ifsOf_len (ls : List Lk) (r k : Int) : (ifsOf ls r k).length ≤ 2 * ls.length := Nat.le_trans (List.length_filter_le _ _) (ifs_len ls r)
def DoorRel (w : World) (p : Nat) (A : Option Addr) (n c : Nat) (L : Option Addr) (m d : Nat) (T : Tp) (all i : Value) (wr : World) : Prop :=
  ∃ k s : Nat, k ≤ n ∧ i = .int .i64 k ∧ all = .int .i64 s ∧ Hid (s = sumN (doorN T.links) k) ∧ s ≤ 60 * k ∧ wr.cell? ⟨p, 0, none⟩ = some (.slice A n c) ∧ wr.cell? ⟨p, 1, none⟩ = some (.slice L m d) ∧ TopR 0 wr A n c L m d T ∧ Below w.heap.size w wr
def KindRel (w : World) (p : Nat) (A : Option Addr) (n c : Nat) (L : Option Addr) (m d : Nat) (T : Tp) (r : Int) (nn i : Value) (wr : World) : Prop :=
  ∃ q s : Nat, 1 ≤ q ∧ q ≤ 5 ∧ i = .int .i64 q ∧ nn = .int .i64 s ∧ Hid (s = kindsTo T.links r q) ∧ s ≤ 60 * q ∧ wr.cell? ⟨p, 0, none⟩ = some (.slice A n c) ∧ wr.cell? ⟨p, 1, none⟩ = some (.slice L m d) ∧ TopR 0 wr A n c L m d T ∧ Below w.heap.size w wr
set_option maxHeartbeats 4000000 in
set_option maxRecDepth 100000 in
theorem FnDoors_walk {w : World} (A0 : Option Addr) (n0 c0 : Nat) (bs : List Int) (hin : InInts .u8 w w.heap.size A0 n0 c0 bs) :
    Calls Try.prog 3 #[.slice A0 n0 c0] w fun e w' => e = .returned (.bool true) ∧ Below w.heap.size w w' := by
  by_cases big : 1048576 < n0
  · go_enter Try.func3, Try.ntmps3
    go_wp2_with fail
    refine (big_yes _ _ _ _ big).mono ?_
    rintro e w1 ⟨rfl, rfl⟩
    go_wp2
    go_ret
    exact ⟨rfl, Below.refl _ _⟩
  have hn0 : n0 ≤ 1048576 := by omega
  have h8 := code8_of hin hn0
  have hB := Below.refl w.heap.size w
  clear big hin
  go_enter Try.func3, Try.ntmps3
  go_wp2_with fail
  refine (big_no _ _ _ _ hn0).mono ?_
  rintro e w' ⟨rfl, rfl⟩
  go_wp2_with fail
  refine (drTop_s _ _ _ bs _ h8).mono ?_
  rintro e w1 ⟨At, nt, ct, Lt, mt, dt, Tt, rfl, hTt, hV, hb⟩
  replace h8 := h8.below hb
  replace hB := below_keep0 hB hb
  clear hb
  replace hTt := hTt.zero
  have bmt := hTt.2.2.2.2.1
  have bnt := hTt.2.2.2.1
  have HV := Lib.hid hV
  clear hV
  go_wp2_with fail
  obtain ⟨xt0, xt1⟩ := newBox w1 At nt ct Lt mt dt
  have hb := newBelow w1 (.cells #[.slice At nt ct, .slice Lt mt dt] 27)
  replace h8 := h8.below hb
  replace hTt := hTt.below hb
  replace hB := below_keep0 hB hb
  clear hb
  generalize w1.alloc _ = w2 at h8 hTt xt0 xt1 hB ⊢
  generalize w1.heap.size = pt at xt0 xt1 ⊢
  refine (drIfs_s _ _ _ bs _ h8).mono ?_
  rintro e w3 ⟨Au, nu, cu, Lu, mu, du, Tu, r, rfl, hTu, hr64, hb⟩
  replace h8 := h8.below hb
  replace hTt := hTt.below hb
  replace xt0 := cell_keep0 xt0 hb
  replace xt1 := cell_keep0 xt1 hb
  replace hB := below_keep0 hB hb
  clear hb
  replace hTu := hTu.zero
  have bmu := hTu.2.2.2.2.1
  have bnu := hTu.2.2.2.1
  clear hr64
  go_wp2_with fail
  obtain ⟨xu0, xu1⟩ := newBox w3 Au nu cu Lu mu du
  have hb := newBelow w3 (.cells #[.slice Au nu cu, .slice Lu mu du] 27)
  replace h8 := h8.below hb
  replace hTt := hTt.below hb
  replace hTu := hTu.below hb
  replace xt0 := cell_keep0 xt0 hb
  replace xt1 := cell_keep0 xt1 hb
  replace hB := below_keep0 hB hb
  clear hb
  generalize w3.alloc _ = w4 at h8 hTt hTu xt0 xt1 xu0 xu1 hB ⊢
  generalize w3.heap.size = pu at xu0 xu1 ⊢
  refine (drOfK_s _ _ _ bs _ h8).mono ?_
  rintro e w5 ⟨Av, nv, cv, Lv, mv, dv, Tv, p, kk, rfl, hTv, hk64, hb⟩
  replace h8 := h8.below hb
  replace hTt := hTt.below hb
  replace hTu := hTu.below hb
  replace xt0 := cell_keep0 xt0 hb
  replace xt1 := cell_keep0 xt1 hb
  replace xu0 := cell_keep0 xu0 hb
  replace xu1 := cell_keep0 xu1 hb
  replace hB := below_keep0 hB hb
  clear hb
  replace hTv := hTv.zero
  have bmv := hTv.2.2.2.2.1
  have bnv := hTv.2.2.2.1
  clear hk64
  go_wp2_with fail
  obtain ⟨xv0, xv1⟩ := newBox w5 Av nv cv Lv mv dv
  have hb := newBelow w5 (.cells #[.slice Av nv cv, .slice Lv mv dv] 27)
  replace h8 := h8.below hb
  replace hTt := hTt.below hb
  replace hTu := hTu.below hb
  replace hTv := hTv.below hb
  replace xt0 := cell_keep0 xt0 hb
  replace xt1 := cell_keep0 xt1 hb
  replace xu0 := cell_keep0 xu0 hb
  replace xu1 := cell_keep0 xu1 hb
  replace hB := below_keep0 hB hb
  clear hb
  generalize w5.alloc _ = w6 at h8 hTt hTu hTv xt0 xt1 xu0 xu1 xv0 xv1 hB ⊢
  generalize w5.heap.size = pv at xv0 xv1 ⊢
  refine (drCor_s _ _ _ bs _ h8).mono ?_
  rintro e w7 ⟨Ax, nx, cx, Lx, mx, dx, Tx, gg, rfl, hTx, hg64, hb⟩
  replace h8 := h8.below hb
  replace hTt := hTt.below hb
  replace hTu := hTu.below hb
  replace hTv := hTv.below hb
  replace xt0 := cell_keep0 xt0 hb
  replace xt1 := cell_keep0 xt1 hb
  replace xu0 := cell_keep0 xu0 hb
  replace xu1 := cell_keep0 xu1 hb
  replace xv0 := cell_keep0 xv0 hb
  replace xv1 := cell_keep0 xv1 hb
  replace hB := below_keep0 hB hb
  clear hb
  replace hTx := hTx.zero
  have bmx := hTx.2.2.2.2.1
  have bnx := hTx.2.2.2.1
  clear hg64
  go_wp2_with fail
  obtain ⟨xx0, xx1⟩ := newBox w7 Ax nx cx Lx mx dx
  have hb := newBelow w7 (.cells #[.slice Ax nx cx, .slice Lx mx dx] 27)
  replace h8 := h8.below hb
  replace hTt := hTt.below hb
  replace hTu := hTu.below hb
  replace hTv := hTv.below hb
  replace hTx := hTx.below hb
  replace xt0 := cell_keep0 xt0 hb
  replace xt1 := cell_keep0 xt1 hb
  replace xu0 := cell_keep0 xu0 hb
  replace xu1 := cell_keep0 xu1 hb
  replace xv0 := cell_keep0 xv0 hb
  replace xv1 := cell_keep0 xv1 hb
  replace hB := below_keep0 hB hb
  clear hb
  generalize w7.alloc _ = w8 at h8 hTt hTu hTv hTx xt0 xt1 xu0 xu1 xv0 xv1 xx0 xx1 hB ⊢
  generalize w7.heap.size = px at xx0 xx1 ⊢
  clear h8
  have lu := ifs_len Tu.links r
  have lu2 : Tu.links.length = mu := Rl.len hTu.1.2
  have zu : (ifs Tu.links r).length ≤ 60 := by omega
  have lv := ifsOf_len Tv.links p kk
  have lv2 : Tv.links.length = mv := Rl.len hTv.1.2
  have zv : (ifsOf Tv.links p kk).length ≤ 60 := by omega
  have lx : (cores Tx.ases gg).length ≤ Tx.ases.length := coreTo_len _ _ _
  have lx2 : Tx.ases.length = nx := Ra.len hTx.1.1
  have zx : (cores Tx.ases gg).length ≤ 8 := by omega
  clear lu lu2 lv lv2 lx lx2
  have e3 : decide (ifs Tu.links r = ifs Tu.links r) = true := by simp
  have e6 : decide (ifsOf Tv.links p kk = ifsOf Tv.links p kk) = true := by simp
  have e9 : decide (cores Tx.ases gg = cores Tx.ases gg) = true := by simp
  go_region_held3 (fun w' => w'.cell? ⟨pt, 0, none⟩ = some (.slice At nt ct) ∧ w'.cell? ⟨pt, 1, none⟩ = some (.slice Lt mt dt) ∧ w'.cell? ⟨pu, 0, none⟩ = some (.slice Au nu cu) ∧ w'.cell? ⟨pu, 1, none⟩ = some (.slice Lu mu du) ∧ w'.cell? ⟨pv, 0, none⟩ = some (.slice Av nv cv) ∧ w'.cell? ⟨pv, 1, none⟩ = some (.slice Lv mv dv) ∧ w'.cell? ⟨px, 0, none⟩ = some (.slice Ax nx cx) ∧ w'.cell? ⟨px, 1, none⟩ = some (.slice Lx mx dx)) (first | exact ⟨xt0_9, xt1_9, xu0_9, xu1_9, xv0_9, xv1_9, xx0_9, xx1_9⟩ | exact ⟨xt0_8, xt1_8, xu0_8, xu1_8, xv0_8, xv1_8, xx0_8, xx1_8⟩ | exact ⟨xt0_7, xt1_7, xu0_7, xu1_7, xv0_7, xv1_7, xx0_7, xx1_7⟩ | exact ⟨xt0_6, xt1_6, xu0_6, xu1_6, xv0_6, xv1_6, xx0_6, xx1_6⟩ | exact ⟨xt0_5, xt1_5, xu0_5, xu1_5, xv0_5, xv1_5, xx0_5, xx1_5⟩ | exact ⟨xt0_4, xt1_4, xu0_4, xu1_4, xv0_4, xv1_4, xx0_4, xx1_4⟩ | exact ⟨xt0_3, xt1_3, xu0_3, xu1_3, xv0_3, xv1_3, xx0_3, xx1_3⟩ | exact ⟨xt0_2, xt1_2, xu0_2, xu1_2, xv0_2, xv1_2, xx0_2, xx1_2⟩ | exact ⟨xt0_1, xt1_1, xu0_1, xu1_1, xv0_1, xv1_1, xx0_1, xx1_1⟩ | exact ⟨xt0, xt1, xu0, xu1, xv0, xv1, xx0, xx1⟩) (first
      | (have _hX := g8; go_at_call 11; refine (sameI_any _ _ _ _ _ _ _ _ _ s7 o8.rd (by omega) (by omega)).mono ?_; rintro e v9 ⟨rfl, g9⟩; have hTt_9 := hTt_8.below g9; have hTu_9 := hTu_8.below g9; have hTv_9 := hTv_8.below g9; have hTx_9 := hTx_8.below g9; have xt0_9 := cell_keep0 xt0_8 g9; have xt1_9 := cell_keep0 xt1_8 g9; have xu0_9 := cell_keep0 xu0_8 g9; have xu1_9 := cell_keep0 xu1_8 g9; have xv0_9 := cell_keep0 xv0_8 g9; have xv1_9 := cell_keep0 xv1_8 g9; have xx0_9 := cell_keep0 xx0_8 g9; have xx1_9 := cell_keep0 xx1_8 g9; have hB_9 := below_keep0 hB_8 g9)
      | (have _hX := g7; go_at_call 17; refine (cores_s _ _ _ _ _ _ Tx gg _ hTx_7.1.1 (by omega)).mono ?_; rintro e v8 ⟨X8, y8, rfl, o8, g8⟩; have hTt_8 := hTt_7.below g8; have hTu_8 := hTu_7.below g8; have hTv_8 := hTv_7.below g8; have hTx_8 := hTx_7.below g8; have xt0_8 := cell_keep0 xt0_7 g8; have xt1_8 := cell_keep0 xt1_7 g8; have xu0_8 := cell_keep0 xu0_7 g8; have xu1_8 := cell_keep0 xu1_7 g8; have xv0_8 := cell_keep0 xv0_7 g8; have xv1_8 := cell_keep0 xv1_7 g8; have xx0_8 := cell_keep0 xx0_7 g8; have xx1_8 := cell_keep0 xx1_7 g8; have hB_8 := below_keep0 hB_7 g8; have s7 := o7.rd.below g8 (Nat.le_refl _))
      | (have _hX := g6; go_at_call 16; refine (cores_i _ _ _ _ _ _ Tx gg _ hTx_6.1.1 (by omega)).mono ?_; rintro e v7 ⟨X7, y7, rfl, o7, g7⟩; have hTt_7 := hTt_6.below g7; have hTu_7 := hTu_6.below g7; have hTv_7 := hTv_6.below g7; have hTx_7 := hTx_6.below g7; have xt0_7 := cell_keep0 xt0_6 g7; have xt1_7 := cell_keep0 xt1_6 g7; have xu0_7 := cell_keep0 xu0_6 g7; have xu1_7 := cell_keep0 xu1_6 g7; have xv0_7 := cell_keep0 xv0_6 g7; have xv1_7 := cell_keep0 xv1_6 g7; have xx0_7 := cell_keep0 xx0_6 g7; have xx1_7 := cell_keep0 xx1_6 g7; have hB_7 := below_keep0 hB_6 g7)
      | (have _hX := g5; go_at_call 11; refine (sameI_any _ _ _ _ _ _ _ _ _ s4 o5.rd (by omega) (by omega)).mono ?_; rintro e v6 ⟨rfl, g6⟩; have hTt_6 := hTt_5.below g6; have hTu_6 := hTu_5.below g6; have hTv_6 := hTv_5.below g6; have hTx_6 := hTx_5.below g6; have xt0_6 := cell_keep0 xt0_5 g6; have xt1_6 := cell_keep0 xt1_5 g6; have xu0_6 := cell_keep0 xu0_5 g6; have xu1_6 := cell_keep0 xu1_5 g6; have xv0_6 := cell_keep0 xv0_5 g6; have xv1_6 := cell_keep0 xv1_5 g6; have xx0_6 := cell_keep0 xx0_5 g6; have xx1_6 := cell_keep0 xx1_5 g6; have hB_6 := below_keep0 hB_5 g6)
      | (have _hX := g4; go_at_call 15; refine (ofKind_s _ _ _ _ _ _ Tv p kk _ hTv_4.1.2 (by omega)).mono ?_; rintro e v5 ⟨X5, y5, rfl, o5, g5⟩; have hTt_5 := hTt_4.below g5; have hTu_5 := hTu_4.below g5; have hTv_5 := hTv_4.below g5; have hTx_5 := hTx_4.below g5; have xt0_5 := cell_keep0 xt0_4 g5; have xt1_5 := cell_keep0 xt1_4 g5; have xu0_5 := cell_keep0 xu0_4 g5; have xu1_5 := cell_keep0 xu1_4 g5; have xv0_5 := cell_keep0 xv0_4 g5; have xv1_5 := cell_keep0 xv1_4 g5; have xx0_5 := cell_keep0 xx0_4 g5; have xx1_5 := cell_keep0 xx1_4 g5; have hB_5 := below_keep0 hB_4 g5; have s4 := o4.rd.below g5 (Nat.le_refl _))
      | (have _hX := g3; go_at_call 14; refine (ofKind_i _ _ _ _ _ _ Tv p kk _ hTv_3.1.2 (by omega)).mono ?_; rintro e v4 ⟨X4, y4, rfl, o4, g4⟩; have hTt_4 := hTt_3.below g4; have hTu_4 := hTu_3.below g4; have hTv_4 := hTv_3.below g4; have hTx_4 := hTx_3.below g4; have xt0_4 := cell_keep0 xt0_3 g4; have xt1_4 := cell_keep0 xt1_3 g4; have xu0_4 := cell_keep0 xu0_3 g4; have xu1_4 := cell_keep0 xu1_3 g4; have xv0_4 := cell_keep0 xv0_3 g4; have xv1_4 := cell_keep0 xv1_3 g4; have xx0_4 := cell_keep0 xx0_3 g4; have xx1_4 := cell_keep0 xx1_3 g4; have hB_4 := below_keep0 hB_3 g4)
      | (have _hX := g2; go_at_call 11; refine (sameI_any _ _ _ _ _ _ _ _ _ s1 o2.rd (by omega) (by omega)).mono ?_; rintro e v3 ⟨rfl, g3⟩; have hTt_3 := hTt_2.below g3; have hTu_3 := hTu_2.below g3; have hTv_3 := hTv_2.below g3; have hTx_3 := hTx_2.below g3; have xt0_3 := cell_keep0 xt0_2 g3; have xt1_3 := cell_keep0 xt1_2 g3; have xu0_3 := cell_keep0 xu0_2 g3; have xu1_3 := cell_keep0 xu1_2 g3; have xv0_3 := cell_keep0 xv0_2 g3; have xv1_3 := cell_keep0 xv1_2 g3; have xx0_3 := cell_keep0 xx0_2 g3; have xx1_3 := cell_keep0 xx1_2 g3; have hB_3 := below_keep0 hB_2 g3)
      | (have _hX := g1; go_at_call 13; refine (ifs_s _ _ _ _ _ _ Tu r _ hTu_1.1.2 (by omega)).mono ?_; rintro e v2 ⟨X2, y2, rfl, o2, g2⟩; have hTt_2 := hTt_1.below g2; have hTu_2 := hTu_1.below g2; have hTv_2 := hTv_1.below g2; have hTx_2 := hTx_1.below g2; have xt0_2 := cell_keep0 xt0_1 g2; have xt1_2 := cell_keep0 xt1_1 g2; have xu0_2 := cell_keep0 xu0_1 g2; have xu1_2 := cell_keep0 xu1_1 g2; have xv0_2 := cell_keep0 xv0_1 g2; have xv1_2 := cell_keep0 xv1_1 g2; have xx0_2 := cell_keep0 xx0_1 g2; have xx1_2 := cell_keep0 xx1_1 g2; have hB_2 := below_keep0 hB_1 g2; have s1 := o1.rd.below g2 (Nat.le_refl _))
      | (go_at_call 12; refine (ifs_i _ _ _ _ _ _ Tu r _ hTu.drew.1.2 (by omega)).mono ?_; rintro e v1 ⟨X1, y1, rfl, o1, g1⟩; have hTt_1 := hTt.drew.below g1; have hTu_1 := hTu.drew.below g1; have hTv_1 := hTv.drew.below g1; have hTx_1 := hTx.drew.below g1; have xt0_1 := cell_keepD xt0 g1; have xt1_1 := cell_keepD xt1 g1; have xu0_1 := cell_keepD xu0 g1; have xu1_1 := cell_keepD xu1 g1; have xv0_1 := cell_keepD xv0 g1; have xv1_1 := cell_keepD xv1 g1; have xx0_1 := cell_keepD xx0 g1; have xx1_1 := cell_keepD xx1 g1; have hB_1 := below_keepD hB g1))
  clear hTt hTu hTv hTx xt0 xt1 xu0 xu1 xv0 xv1 xx0 xx1 hB hTt_1 hTu_1 hTv_1 hTx_1 xt0_1 xt1_1 xu0_1 xu1_1 xv0_1 xv1_1 xx0_1 xx1_1 hB_1 hTt_2 hTu_2 hTv_2 hTx_2 xt0_2 xt1_2 xu0_2 xu1_2 xv0_2 xv1_2 xx0_2 xx1_2 hB_2 hTt_3 hTu_3 hTv_3 hTx_3 xt0_3 xt1_3 xu0_3 xu1_3 xv0_3 xv1_3 xx0_3 xx1_3 hB_3 hTt_4 hTu_4 hTv_4 hTx_4 xt0_4 xt1_4 xu0_4 xu1_4 xv0_4 xv1_4 xx0_4 xx1_4 hB_4 hTt_5 hTu_5 hTv_5 hTx_5 xt0_5 xt1_5 xu0_5 xu1_5 xv0_5 xv1_5 xx0_5 xx1_5 hB_5 hTt_6 hTu_6 hTv_6 hTx_6 xt0_6 xt1_6 xu0_6 xu1_6 xv0_6 xv1_6 xx0_6 xx1_6 hB_6 hTt_7 hTu_7 hTv_7 hTx_7 xt0_7 xt1_7 xu0_7 xu1_7 xv0_7 xv1_7 xx0_7 xx1_7 hB_7 hTt_8 hTu_8 hTv_8 hTx_8 xt0_8 xt1_8 xu0_8 xu1_8 xv0_8 xv1_8 xx0_8 xx1_8 hB_8 hTu_9 hTv_9 hTx_9 xu0_9 xu1_9 xv0_9 xv1_9 xx0_9 xx1_9 g1 g2 g3 g4 g5 g6 g7 g8 g9 s1 s4 s7 o1 o2 o4 o5 o7 o8 e3 e6 e9
  have lA : Tt.ases.length = nt := Ra.len hTt_9.1.1
  have lL : Tt.links.length = mt := Rl.len hTt_9.1.2
  have HlA := Lib.hid lA
  have HlL := Lib.hid lL
  clear lA lL
  go_wp2
  go_loopw [11, 12] (DoorRel w pt At nt ct Lt mt dt Tt) (fun _ i _ => nt - (intOf i).toNat)
  case atStart => exact ⟨0, 0, Nat.zero_le _, rfl, rfl, Lib.hid rfl, Nat.le_refl _, xt0_9, xt1_9, hTt_9, hB_9⟩
  case round =>
    clear xt0_9 xt1_9 hTt_9 hB_9
    obtain ⟨k, sa, hk, rfl, rfl, HS, hsa, xt0, xt1, hT, hB⟩ := hrel
    by_cases hlt : k < nt
    · have hlt' : (k : Int) < (nt : Int) := by omega
      go_wp2
      go_loopw [13, 14] (KindRel w pt At nt ct Lt mt dt Tt (k : Int)) (fun _ i _ => 5 - (intOf i).toNat)
      case atStart => exact ⟨1, 0, Nat.le_refl _, by omega, rfl, rfl, Lib.hid rfl, by omega, xt0, xt1, hT, hB⟩
      case round =>
        clear xt0 xt1 hT hB
        obtain ⟨q, sk, hq1, hq5, rfl, rfl, HK, hsk, xt0, xt1, hT, hB⟩ := hrel
        by_cases hq : q < 5
        · have hq' : (q : Int) ≤ 4 := by omega
          have lz := ifsOf_len Tt.links (k : Int) (q : Int)
          have lz2 := HlL.out
          have hz : (ifsOf Tt.links (k : Int) (q : Int)).length ≤ 60 := by omega
          clear lz lz2
          obtain ⟨z, hz0⟩ : ∃ z : Nat, z = (ifsOf Tt.links (k : Int) (q : Int)).length := ⟨_, rfl⟩
          rw [← hz0] at hz
          have Hz := Lib.hid hz0
          clear hz0
          go_wp2_with fail
          refine (ofKind_i _ _ _ _ _ _ Tt (k : Int) (q : Int) _ hT.1.2 (by omega)).mono ?_
          rintro e v1 ⟨X, y, rfl, o, hb⟩
          rw [← Hz.out]
          clear o
          replace hT := hT.below hb
          replace xt0 := cell_keep0 xt0 hb
          replace xt1 := cell_keep0 xt1 hb
          replace hB := below_keep0 hB hb
          clear hb
          go_wp2
          go_roundw
          case rel => exact ⟨q + 1, sk + z, by omega, by omega, by go_num, by go_num, Lib.hid (by rw [kindsTo_succ hq1, ← HK.out, ← Hz.out]), by omega, xt0, xt1, hT, hB⟩
          case measure => simp [intOf]; omega
        · obtain rfl : q = 5 := by omega
          have Hs : Hid (sk = (ifs Tt.links (k : Int)).length) := Lib.hid (by rw [HK.out]; exact kindsTo_all HV.out _)
          clear HK
          go_wp2_with fail
          refine (ifs_i _ _ _ _ _ _ Tt (k : Int) _ hT.1.2 (by omega)).mono ?_
          rintro e v1 ⟨X, y, rfl, o, hb⟩
          rw [← Hs.out]
          clear o
          replace hT := hT.below hb
          replace xt0 := cell_keep0 xt0 hb
          replace xt1 := cell_keep0 xt1 hb
          replace hB := below_keep0 hB hb
          clear hb
          have hsk2 : sk ≤ 60 := by
            have h1 := ifs_len Tt.links (k : Int)
            have h2 := HlL.out
            have h3 := Hs.out
            omega
          go_wp2
          go_roundw
          case rel => exact ⟨k + 1, sa + sk, by omega, by go_num, by go_num, Lib.hid (by rw [sumN, ← HS.out, Hs.out]; rfl), by omega, xt0, xt1, hT, hB⟩
          case measure => simp [intOf]; omega
    · have hlt' : ¬ (k : Int) < (nt : Int) := by omega
      have hfin : ((sa : Int) == 2 * (mt : Int)) = true := by
        have h1 := doors_all HV.out
        have h2 := HlA.out
        have h3 := HlL.out
        have h4 := HS.out
        have h5 : k = nt := by omega
        rw [h2, h3, ← h5, ← h4] at h1
        simp
        omega
      go_wp2
      go_ret
      exact ⟨by first | rfl | simp_all, hB⟩
end Go.Proofs.Ytehfcejpoigclaa
