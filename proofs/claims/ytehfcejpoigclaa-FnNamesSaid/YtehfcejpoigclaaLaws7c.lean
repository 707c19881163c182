/- The walk of the law FnNames: its call returns true. -/
import Derived.Test.YtehfcejpoigclaaRows
import Derived.Test.YtehfcejpoigclaaMem
import Derived.Test.YtehfcejpoigclaaTopoMem
import Derived.Test.YtehfcejpoigclaaTopoPure
import Derived.Test.YtehfcejpoigclaaDrawPure
import Derived.Test.YtehfcejpoigclaaBox
import Derived.Test.YtehfcejpoigclaaDrawT
import Derived.Test.YtehfcejpoigclaaAnyT
import Derived.Test.YtehfcejpoigclaaDraws
import Derived.Test.YtehfcejpoigclaaLaw6
import Derived.Test.YtehfcejpoigclaaLaw7
import Derived.Test.YtehfcejpoigclaaDraws2
import Derived.Test.YtehfcejpoigclaaName1
import Derived.Test.YtehfcejpoigclaaName2
import Derived.Test.YtehfcejpoigclaaName3
import Derived.Test.YtehfcejpoigclaaName4
import Derived.Test.YtehfcejpoigclaaNamePure
import Derived.Deep.QuietTactic
import Derived.BigQuiet
import Derived.WalkSmall
import Derived.Deep.RegionHeld3
import Derived.StillTailTactics
import Derived.Outline
namespace Go.Proofs.Ytehfcejpoigclaa
open Go.RowKit
set_option linter.unusedVariables false

def NameRel (w : World) (p : Nat) (A : Option Addr) (n c : Nat) (L : Option Addr) (m d : Nat) (T : Tp) (i : Value) (wr : World) : Prop :=
  ∃ k : Nat, k ≤ n ∧ i = .int .i64 k ∧ wr.cell? ⟨p, 0, none⟩ = some (.slice A n c) ∧ wr.cell? ⟨p, 1, none⟩ = some (.slice L m d) ∧ TopR 0 wr A n c L m d T ∧ Below w.heap.size w wr
theorem TopR.wa {B : Nat} {w : World} {A L : Option Addr} {n c m d : Nat} {T : Tp} (h : TopR B w A n c L m d T) : WfA T.ases := fun x hx => h.2.2.2.2.2.1.1 x hx
theorem TopR.wk {B : Nat} {w : World} {A L : Option Addr} {n c m d : Nat} {T : Tp} (h : TopR B w A n c L m d T) : WfK T.links := fun l hl => h.2.2.2.2.2.1.2 l hl
set_option maxHeartbeats 4000000 in
set_option maxRecDepth 100000 in
theorem FnNames_walk {w : World} (A0 : Option Addr) (n0 c0 : Nat) (bs : List Int) (hin : InInts .u8 w w.heap.size A0 n0 c0 bs) :
    Calls Try.prog 5 #[.slice A0 n0 c0] w fun e w' => e = .returned (.bool true) ∧ Below w.heap.size w w' := by
  by_cases big : 1048576 < n0
  · go_enter Try.func5, Try.ntmps5
    go_wp2_with fail
    refine (big_yes _ _ _ _ big).mono ?_
    rintro e w1 ⟨rfl, rfl⟩
    go_wp2
    go_ret
    exact ⟨rfl, Below.refl _ _⟩
  have hn0 : n0 ≤ 1048576 := by omega
  have h8 := code8_of hin hn0
  have hB := Below.refl w.heap.size w
  clear big hin
  go_enter Try.func5, Try.ntmps5
  go_wp2_with fail
  refine (big_no _ _ _ _ hn0).mono ?_
  rintro e w' ⟨rfl, rfl⟩
  go_wp2_with fail
  refine (drTop_s _ _ _ bs _ h8).mono ?_
  rintro e w1 ⟨At, nt, ct, Lt, mt, dt, Tt, rfl, hTt, _, hb⟩
  replace h8 := h8.below hb
  replace hB := below_keep0 hB hb
  clear hb
  replace hTt := hTt.zero
  have bmt := hTt.2.2.2.2.1
  have bnt := hTt.2.2.2.1
  go_wp2_with fail
  obtain ⟨xt0, xt1⟩ := newBox w1 At nt ct Lt mt dt
  have hb := newBelow w1 (.cells #[.slice At nt ct, .slice Lt mt dt] 27)
  replace h8 := h8.below hb
  replace hTt := hTt.below hb
  replace hB := below_keep0 hB hb
  clear hb
  generalize w1.alloc _ = w2 at h8 hTt xt0 xt1 hB ⊢
  generalize w1.heap.size = pt at xt0 xt1 ⊢
  refine (drPar_s _ _ _ bs _ h8).mono ?_
  rintro e w3 ⟨Au, nu, cu, Lu, mu, du, Tu, s, rfl, hTu, hb⟩
  replace h8 := h8.below hb
  replace hTt := hTt.below hb
  replace xt0 := cell_keep0 xt0 hb
  replace xt1 := cell_keep0 xt1 hb
  replace hB := below_keep0 hB hb
  clear hb
  replace hTu := hTu.zero
  have bmu := hTu.2.2.2.2.1
  have bnu := hTu.2.2.2.1
  go_wp2_with fail
  obtain ⟨xu0, xu1⟩ := newBox w3 Au nu cu Lu mu du
  have hb := newBelow w3 (.cells #[.slice Au nu cu, .slice Lu mu du] 27)
  replace h8 := h8.below hb
  replace hTt := hTt.below hb
  replace hTu := hTu.below hb
  replace xt0 := cell_keep0 xt0 hb
  replace xt1 := cell_keep0 xt1 hb
  replace hB := below_keep0 hB hb
  clear hb
  generalize w3.alloc _ = w4 at h8 hTt hTu xt0 xt1 xu0 xu1 hB ⊢
  generalize w3.heap.size = pu at xu0 xu1 ⊢
  refine (parse_i _ _ _ _ _ _ Tu.ases s _ hTu.1.1 (by omega) hTu.wa).mono ?_
  rintro e w5 ⟨rfl, hb⟩
  replace h8 := h8.below hb
  replace hTt := hTt.below hb
  replace hTu := hTu.below hb
  replace xt0 := cell_keep0 xt0 hb
  replace xt1 := cell_keep0 xt1 hb
  replace xu0 := cell_keep0 xu0 hb
  replace xu1 := cell_keep0 xu1 hb
  replace hB := below_keep0 hB hb
  clear hb
  go_wp2_with fail
  refine (parse_s _ _ _ _ _ _ Tu.ases s _ hTu.1.1 (by omega) hTu.wa).mono ?_
  rintro e w6 ⟨rfl, hb⟩
  replace h8 := h8.below hb
  replace hTt := hTt.below hb
  replace hTu := hTu.below hb
  replace xt0 := cell_keep0 xt0 hb
  replace xt1 := cell_keep0 xt1 hb
  replace xu0 := cell_keep0 xu0 hb
  replace xu1 := cell_keep0 xu1 hb
  replace hB := below_keep0 hB hb
  clear hb
  have hok := par_ok Tu.ases s
  generalize parA Tu.ases s = pa at hok ⊢
  generalize parB Tu.ases s = pb at hok ⊢
  have Hok := Lib.hid hok
  clear hok
  have hvb : (!(pb == pb)) = false := by cases pb <;> rfl
  have hvb2 : (pb != pb) = false := by cases pb <;> rfl
  go_wp2_with fail
  refine (drFIf_s _ _ _ bs _ h8).mono ?_
  rintro e w7 ⟨Av, nv, cv, Lv, mv, dv, Tv, kv, dv', rfl, hTv, hd64, hb⟩
  replace h8 := h8.below hb
  replace hTt := hTt.below hb
  replace hTu := hTu.below hb
  replace xt0 := cell_keep0 xt0 hb
  replace xt1 := cell_keep0 xt1 hb
  replace xu0 := cell_keep0 xu0 hb
  replace xu1 := cell_keep0 xu1 hb
  replace hB := below_keep0 hB hb
  clear hb
  replace hTv := hTv.zero
  have bmv := hTv.2.2.2.2.1
  have bnv := hTv.2.2.2.1
  have hd1 := hd64.1
  have hd2 := hd64.2
  clear hd64
  go_wp2_with fail
  obtain ⟨xv0, xv1⟩ := newBox w7 Av nv cv Lv mv dv
  have hb := newBelow w7 (.cells #[.slice Av nv cv, .slice Lv mv dv] 27)
  replace h8 := h8.below hb
  replace hTt := hTt.below hb
  replace hTu := hTu.below hb
  replace hTv := hTv.below hb
  replace xt0 := cell_keep0 xt0 hb
  replace xt1 := cell_keep0 xt1 hb
  replace xu0 := cell_keep0 xu0 hb
  replace xu1 := cell_keep0 xu1 hb
  replace hB := below_keep0 hB hb
  clear hb
  generalize w7.alloc _ = w8 at h8 hTt hTu hTv xt0 xt1 xu0 xu1 xv0 xv1 hB ⊢
  generalize w7.heap.size = pv at xv0 xv1 ⊢
  refine (drFLk_s _ _ _ bs _ h8).mono ?_
  rintro e w9 ⟨Ax, nx, cx, Lx, mx, dx, Tx, ix, rfl, hTx, hi64, hb⟩
  replace h8 := h8.below hb
  replace hTt := hTt.below hb
  replace hTu := hTu.below hb
  replace hTv := hTv.below hb
  replace xt0 := cell_keep0 xt0 hb
  replace xt1 := cell_keep0 xt1 hb
  replace xu0 := cell_keep0 xu0 hb
  replace xu1 := cell_keep0 xu1 hb
  replace xv0 := cell_keep0 xv0 hb
  replace xv1 := cell_keep0 xv1 hb
  replace hB := below_keep0 hB hb
  clear hb
  replace hTx := hTx.zero
  have bmx := hTx.2.2.2.2.1
  have bnx := hTx.2.2.2.1
  clear hi64
  go_wp2_with fail
  obtain ⟨xx0, xx1⟩ := newBox w9 Ax nx cx Lx mx dx
  have hb := newBelow w9 (.cells #[.slice Ax nx cx, .slice Lx mx dx] 27)
  replace h8 := h8.below hb
  replace hTt := hTt.below hb
  replace hTu := hTu.below hb
  replace hTv := hTv.below hb
  replace hTx := hTx.below hb
  replace xt0 := cell_keep0 xt0 hb
  replace xt1 := cell_keep0 xt1 hb
  replace xu0 := cell_keep0 xu0 hb
  replace xu1 := cell_keep0 xu1 hb
  replace xv0 := cell_keep0 xv0 hb
  replace xv1 := cell_keep0 xv1 hb
  replace hB := below_keep0 hB hb
  clear hb
  generalize w9.alloc _ = w10 at h8 hTt hTu hTv hTx xt0 xt1 xu0 xu1 xv0 xv1 xx0 xx1 hB ⊢
  generalize w9.heap.size = px at xx0 xx1 ⊢
  refine (drKnd_s _ _ _ bs _ h8).mono ?_
  rintro e w11 ⟨kn, hk1, hk2, rfl, hb⟩
  replace h8 := h8.below hb
  replace hTt := hTt.below hb
  replace hTu := hTu.below hb
  replace hTv := hTv.below hb
  replace hTx := hTx.below hb
  replace xt0 := cell_keep0 xt0 hb
  replace xt1 := cell_keep0 xt1 hb
  replace xu0 := cell_keep0 xu0 hb
  replace xu1 := cell_keep0 xu1 hb
  replace xv0 := cell_keep0 xv0 hb
  replace xv1 := cell_keep0 xv1 hb
  replace xx0 := cell_keep0 xx0 hb
  replace xx1 := cell_keep0 xx1 hb
  replace hB := below_keep0 hB hb
  clear hb hk1 hk2
  clear h8 hTu xu0 xu1
  go_wp2_with fail
  go_region_held3 (fun w' => w'.cell? ⟨pt, 0, none⟩ = some (.slice At nt ct) ∧ w'.cell? ⟨pt, 1, none⟩ = some (.slice Lt mt dt) ∧ w'.cell? ⟨pv, 0, none⟩ = some (.slice Av nv cv) ∧ w'.cell? ⟨pv, 1, none⟩ = some (.slice Lv mv dv) ∧ w'.cell? ⟨px, 0, none⟩ = some (.slice Ax nx cx) ∧ w'.cell? ⟨px, 1, none⟩ = some (.slice Lx mx dx)) (first | exact ⟨xt0_10, xt1_10, xv0_10, xv1_10, xx0_10, xx1_10⟩ | exact ⟨xt0_9, xt1_9, xv0_9, xv1_9, xx0_9, xx1_9⟩ | exact ⟨xt0_8, xt1_8, xv0_8, xv1_8, xx0_8, xx1_8⟩ | exact ⟨xt0_7, xt1_7, xv0_7, xv1_7, xx0_7, xx1_7⟩ | exact ⟨xt0_6, xt1_6, xv0_6, xv1_6, xx0_6, xx1_6⟩ | exact ⟨xt0_5, xt1_5, xv0_5, xv1_5, xx0_5, xx1_5⟩ | exact ⟨xt0_4, xt1_4, xv0_4, xv1_4, xx0_4, xx1_4⟩ | exact ⟨xt0_3, xt1_3, xv0_3, xv1_3, xx0_3, xx1_3⟩ | exact ⟨xt0_2, xt1_2, xv0_2, xv1_2, xx0_2, xx1_2⟩ | exact ⟨xt0_1, xt1_1, xv0_1, xv1_1, xx0_1, xx1_1⟩ | exact ⟨xt0, xt1, xv0, xv1, xx0, xx1⟩) (first
      | (have _hX := g9; go_at_call 43; refine (kindName_s kn _).mono ?_; rintro e v10 ⟨rfl, g10⟩; have hTt_10 := hTt_9.below g10; have hTv_10 := hTv_9.below g10; have hTx_10 := hTx_9.below g10; have xt0_10 := cell_keep0 xt0_9 g10; have xt1_10 := cell_keep0 xt1_9 g10; have xv0_10 := cell_keep0 xv0_9 g10; have xv1_10 := cell_keep0 xv1_9 g10; have xx0_10 := cell_keep0 xx0_9 g10; have xx1_10 := cell_keep0 xx1_9 g10; have hB_10 := below_keep0 hB_9 g10)
      | (have _hX := g8; go_at_call 42; refine (kindName_i kn _).mono ?_; rintro e v9 ⟨rfl, g9⟩; have hTt_9 := hTt_8.below g9; have hTv_9 := hTv_8.below g9; have hTx_9 := hTx_8.below g9; have xt0_9 := cell_keep0 xt0_8 g9; have xt1_9 := cell_keep0 xt1_8 g9; have xv0_9 := cell_keep0 xv0_8 g9; have xv1_9 := cell_keep0 xv1_8 g9; have xx0_9 := cell_keep0 xx0_8 g9; have xx1_9 := cell_keep0 xx1_8 g9; have hB_9 := below_keep0 hB_8 g9)
      | (have _hX := g7; go_at_call 41; refine (fmtTop_s _ _ _ _ _ _ Tx.ases Tx.links _ hTx_7.1.1 hTx_7.1.2 (by omega) (by omega) hTx_7.wa hTx_7.wk).mono ?_; rintro e v8 ⟨rfl, g8⟩; have hTt_8 := hTt_7.below g8; have hTv_8 := hTv_7.below g8; have hTx_8 := hTx_7.below g8; have xt0_8 := cell_keep0 xt0_7 g8; have xt1_8 := cell_keep0 xt1_7 g8; have xv0_8 := cell_keep0 xv0_7 g8; have xv1_8 := cell_keep0 xv1_7 g8; have xx0_8 := cell_keep0 xx0_7 g8; have xx1_8 := cell_keep0 xx1_7 g8; have hB_8 := below_keep0 hB_7 g8)
      | (have _hX := g6; go_at_call 40; refine (fmtTop_i _ _ _ _ _ _ Tx.ases Tx.links _ hTx_6.1.1 hTx_6.1.2 (by omega) (by omega) hTx_6.wa hTx_6.wk).mono ?_; rintro e v7 ⟨rfl, g7⟩; have hTt_7 := hTt_6.below g7; have hTv_7 := hTv_6.below g7; have hTx_7 := hTx_6.below g7; have xt0_7 := cell_keep0 xt0_6 g7; have xt1_7 := cell_keep0 xt1_6 g7; have xv0_7 := cell_keep0 xv0_6 g7; have xv1_7 := cell_keep0 xv1_6 g7; have xx0_7 := cell_keep0 xx0_6 g7; have xx1_7 := cell_keep0 xx1_6 g7; have hB_7 := below_keep0 hB_6 g7)
      | (have _hX := g5; go_at_call 39; refine (fmtLk_s _ _ _ _ _ _ Tx.ases Tx.links ix _ hTx_5.1.1 hTx_5.1.2 (by omega) (by omega) hTx_5.wa hTx_5.wk).mono ?_; rintro e v6 ⟨rfl, g6⟩; have hTt_6 := hTt_5.below g6; have hTv_6 := hTv_5.below g6; have hTx_6 := hTx_5.below g6; have xt0_6 := cell_keep0 xt0_5 g6; have xt1_6 := cell_keep0 xt1_5 g6; have xv0_6 := cell_keep0 xv0_5 g6; have xv1_6 := cell_keep0 xv1_5 g6; have xx0_6 := cell_keep0 xx0_5 g6; have xx1_6 := cell_keep0 xx1_5 g6; have hB_6 := below_keep0 hB_5 g6)
      | (have _hX := g4; go_at_call 38; refine (fmtLk_i _ _ _ _ _ _ Tx.ases Tx.links ix _ hTx_4.1.1 hTx_4.1.2 (by omega) (by omega) hTx_4.wa hTx_4.wk).mono ?_; rintro e v5 ⟨rfl, g5⟩; have hTt_5 := hTt_4.below g5; have hTv_5 := hTv_4.below g5; have hTx_5 := hTx_4.below g5; have xt0_5 := cell_keep0 xt0_4 g5; have xt1_5 := cell_keep0 xt1_4 g5; have xv0_5 := cell_keep0 xv0_4 g5; have xv1_5 := cell_keep0 xv1_4 g5; have xx0_5 := cell_keep0 xx0_4 g5; have xx1_5 := cell_keep0 xx1_4 g5; have hB_5 := below_keep0 hB_4 g5)
      | (have _hX := g3; go_at_call 37; refine (fmtIf_s _ _ _ _ _ _ Tv.ases kv dv' _ hTv_3.1.1 (by omega) hTv_3.wa hd1 hd2).mono ?_; rintro e v4 ⟨rfl, g4⟩; have hTt_4 := hTt_3.below g4; have hTv_4 := hTv_3.below g4; have hTx_4 := hTx_3.below g4; have xt0_4 := cell_keep0 xt0_3 g4; have xt1_4 := cell_keep0 xt1_3 g4; have xv0_4 := cell_keep0 xv0_3 g4; have xv1_4 := cell_keep0 xv1_3 g4; have xx0_4 := cell_keep0 xx0_3 g4; have xx1_4 := cell_keep0 xx1_3 g4; have hB_4 := below_keep0 hB_3 g4)
      | (have _hX := g2; go_at_call 36; refine (fmtIf_i _ _ _ _ _ _ Tv.ases kv dv' _ hTv_2.1.1 (by omega) hTv_2.wa hd1 hd2).mono ?_; rintro e v3 ⟨rfl, g3⟩; have hTt_3 := hTt_2.below g3; have hTv_3 := hTv_2.below g3; have hTx_3 := hTx_2.below g3; have xt0_3 := cell_keep0 xt0_2 g3; have xt1_3 := cell_keep0 xt1_2 g3; have xv0_3 := cell_keep0 xv0_2 g3; have xv1_3 := cell_keep0 xv1_2 g3; have xx0_3 := cell_keep0 xx0_2 g3; have xx1_3 := cell_keep0 xx1_2 g3; have hB_3 := below_keep0 hB_2 g3)
      | (have _hX := g1; go_at_call 35; refine (fmtAS_s _ _ _ _ _ _ Tv.ases kv _ hTv_1.1.1 (by omega) hTv_1.wa).mono ?_; rintro e v2 ⟨rfl, g2⟩; have hTt_2 := hTt_1.below g2; have hTv_2 := hTv_1.below g2; have hTx_2 := hTx_1.below g2; have xt0_2 := cell_keep0 xt0_1 g2; have xt1_2 := cell_keep0 xt1_1 g2; have xv0_2 := cell_keep0 xv0_1 g2; have xv1_2 := cell_keep0 xv1_1 g2; have xx0_2 := cell_keep0 xx0_1 g2; have xx1_2 := cell_keep0 xx1_1 g2; have hB_2 := below_keep0 hB_1 g2)
      | (go_at_call 34; refine (fmtAS_i _ _ _ _ _ _ Tv.ases kv _ hTv.drew.1.1 (by omega) hTv.drew.wa).mono ?_; rintro e v1 ⟨rfl, g1⟩; have hTt_1 := hTt.drew.below g1; have hTv_1 := hTv.drew.below g1; have hTx_1 := hTx.drew.below g1; have xt0_1 := cell_keepD xt0 g1; have xt1_1 := cell_keepD xt1 g1; have xv0_1 := cell_keepD xv0 g1; have xv1_1 := cell_keepD xv1 g1; have xx0_1 := cell_keepD xx0 g1; have xx1_1 := cell_keepD xx1 g1; have hB_1 := below_keepD hB g1))
  clear hTt hTv hTx xt0 xt1 xv0 xv1 xx0 xx1 hB hTt_1 hTv_1 hTx_1 xt0_1 xt1_1 xv0_1 xv1_1 xx0_1 xx1_1 hB_1 hTt_2 hTv_2 hTx_2 xt0_2 xt1_2 xv0_2 xv1_2 xx0_2 xx1_2 hB_2 hTt_3 hTv_3 hTx_3 xt0_3 xt1_3 xv0_3 xv1_3 xx0_3 xx1_3 hB_3 hTt_4 hTv_4 hTx_4 xt0_4 xt1_4 xv0_4 xv1_4 xx0_4 xx1_4 hB_4 hTt_5 hTv_5 hTx_5 xt0_5 xt1_5 xv0_5 xv1_5 xx0_5 xx1_5 hB_5 hTt_6 hTv_6 hTx_6 xt0_6 xt1_6 xv0_6 xv1_6 xx0_6 xx1_6 hB_6 hTt_7 hTv_7 hTx_7 xt0_7 xt1_7 xv0_7 xv1_7 xx0_7 xx1_7 hB_7 hTt_8 hTv_8 hTx_8 xt0_8 xt1_8 xv0_8 xv1_8 xx0_8 xx1_8 hB_8 hTt_9 hTv_9 hTx_9 xt0_9 xt1_9 xv0_9 xv1_9 xx0_9 xx1_9 hB_9 hTv_10 hTx_10 xv0_10 xv1_10 xx0_10 xx1_10 g1 g2 g3 g4 g5 g6 g7 g8 g9 g10 hvb hvb2
  have lA : Tt.ases.length = nt := Ra.len hTt_10.1.1
  have HlA := Lib.hid lA
  clear lA
  go_wp2
  go_loopw [16] (NameRel w pt At nt ct Lt mt dt Tt) (fun i _ => nt - (intOf i).toNat)
  case atStart => exact ⟨0, Nat.zero_le _, rfl, xt0_10, xt1_10, hTt_10, hB_10⟩
  case round =>
    clear xt0_10 xt1_10 hTt_10 hB_10
    obtain ⟨k, hk, rfl, xt0, xt1, hT, hB⟩ := hrel
    by_cases hlt : k < nt
    · have hlt' : (k : Int) < (nt : Int) := by omega
      have Hpa := Lib.hid (parA_back (xs := Tt.ases) (k := k) (by have := HlA.out; omega) (by have := HlA.out; omega))
      have Hpb := Lib.hid (parB_back (xs := Tt.ases) (k := k) (by have := HlA.out; omega) (by have := HlA.out; omega))
      go_wp2_with fail
      go_region_held3 (fun w' => w'.cell? ⟨pt, 0, none⟩ = some (.slice At nt ct) ∧ w'.cell? ⟨pt, 1, none⟩ = some (.slice Lt mt dt)) (first | exact ⟨xt0_2, xt1_2⟩ | exact ⟨xt0_1, xt1_1⟩ | exact ⟨xt0, xt1⟩) (first
          | (have _hX := g1; go_at_call 29; refine (parse_i _ _ _ _ _ _ Tt.ases (strOfNums (asT Tt.ases (k : Int))) _ hT_1.1.1 (by omega) hT_1.wa).mono ?_; rintro e v2 ⟨rfl, g2⟩; have hT_2 := hT_1.below g2; have xt0_2 := cell_keep0 xt0_1 g2; have xt1_2 := cell_keep0 xt1_1 g2; have hB_2 := below_keep0 hB_1 g2; rw [Hpa.out, Hpb.out])
          | (go_at_call 34; refine (fmtAS_i _ _ _ _ _ _ Tt.ases (k : Int) _ hT.drew.1.1 (by omega) hT.drew.wa).mono ?_; rintro e v1 ⟨rfl, g1⟩; have hT_1 := hT.drew.below g1; have xt0_1 := cell_keepD xt0 g1; have xt1_1 := cell_keepD xt1 g1; have hB_1 := below_keepD hB g1))
      clear xt0 xt1 hT hB xt0_1 xt1_1 hT_1 hB_1 g1 g2
      go_wp2
      go_roundw
      case rel => exact ⟨k + 1, by omega, by go_num, xt0_2, xt1_2, hT_2, hB_2⟩
      case measure => simp [intOf]; omega
    · have hlt' : ¬ (k : Int) < (nt : Int) := by omega
      go_wp2
      go_ret
      exact ⟨by rw [Hok.out]; rfl, hB⟩
end Go.Proofs.Ytehfcejpoigclaa
