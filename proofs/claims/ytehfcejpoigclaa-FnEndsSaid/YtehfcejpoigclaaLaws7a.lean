/- The walk of the law FnEnds: its call returns true. -/
import Derived.Test.YtehfcejpoigclaaRows
import Derived.Test.YtehfcejpoigclaaMem
import Derived.Test.YtehfcejpoigclaaTopoMem
import Derived.Test.YtehfcejpoigclaaTopoPure
import Derived.Test.YtehfcejpoigclaaDrawPure
import Derived.Test.YtehfcejpoigclaaBox
import Derived.Test.YtehfcejpoigclaaDrawT
import Derived.Test.YtehfcejpoigclaaAnyT
import Derived.Test.YtehfcejpoigclaaDraws
import Derived.Test.YtehfcejpoigclaaLaw6
import Derived.Test.YtehfcejpoigclaaLaw7
import Derived.Test.YtehfcejpoigclaaDraws2
import Derived.Test.YtehfcejpoigclaaTopo1
import Derived.Test.YtehfcejpoigclaaTopo2
import Derived.Test.YtehfcejpoigclaaValid3
import Derived.Test.YtehfcejpoigclaaValid4
import Derived.Deep.QuietTactic
import Derived.BigQuiet
import Derived.WalkSmall
import Derived.Deep.RegionHeld3
import Derived.StillTailTactics
import Derived.Outline
namespace Go.Proofs.Ytehfcejpoigclaa
open Go.RowKit
set_option linter.unusedVariables false

def EndRel (w : World) (p : Nat) (A : Option Addr) (n c : Nat) (L : Option Addr) (m d : Nat) (T : Tp) (i : Value) (wr : World) : Prop :=
  ∃ k : Nat, k ≤ m ∧ i = .int .i64 k ∧ wr.cell? ⟨p, 0, none⟩ = some (.slice A n c) ∧ wr.cell? ⟨p, 1, none⟩ = some (.slice L m d) ∧ TopR 0 wr A n c L m d T ∧ Below w.heap.size w wr
set_option maxHeartbeats 4000000 in
set_option maxRecDepth 100000 in
theorem FnEnds_walk {w : World} (A0 : Option Addr) (n0 c0 : Nat) (bs : List Int) (hin : InInts .u8 w w.heap.size A0 n0 c0 bs) :
    Calls Try.prog 4 #[.slice A0 n0 c0] w fun e w' => e = .returned (.bool true) ∧ Below w.heap.size w w' := by
  by_cases big : 1048576 < n0
  · go_enter Try.func4, Try.ntmps4
    go_wp2_with fail
    refine (big_yes _ _ _ _ big).mono ?_
    rintro e w1 ⟨rfl, rfl⟩
    go_wp2
    go_ret
    exact ⟨rfl, Below.refl _ _⟩
  have hn0 : n0 ≤ 1048576 := by omega
  have h8 := code8_of hin hn0
  have hB := Below.refl w.heap.size w
  clear big hin
  go_enter Try.func4, Try.ntmps4
  go_wp2_with fail
  refine (big_no _ _ _ _ hn0).mono ?_
  rintro e w' ⟨rfl, rfl⟩
  go_wp2_with fail
  refine (drTop_s _ _ _ bs _ h8).mono ?_
  rintro e w1 ⟨At, nt, ct, Lt, mt, dt, Tt, rfl, hTt, hV, hb⟩
  replace h8 := h8.below hb
  replace hB := below_keep0 hB hb
  clear hb
  replace hTt := hTt.zero
  have HV := Lib.hid hV
  clear hV
  have bmt := hTt.2.2.2.2.1
  have bnt := hTt.2.2.2.1
  go_wp2_with fail
  obtain ⟨xt0, xt1⟩ := newBox w1 At nt ct Lt mt dt
  have hb := newBelow w1 (.cells #[.slice At nt ct, .slice Lt mt dt] 27)
  replace h8 := h8.below hb
  replace hTt := hTt.below hb
  replace hB := below_keep0 hB hb
  clear hb
  generalize w1.alloc _ = w2 at h8 hTt xt0 xt1 hB ⊢
  generalize w1.heap.size = pt at xt0 xt1 ⊢
  refine (drRem_s _ _ _ bs _ h8).mono ?_
  rintro e w3 ⟨Au, nu, cu, Lu, mu, du, Tu, r, q, rfl, hTu, hq64, hb⟩
  clear hq64
  replace h8 := h8.below hb
  replace hTt := hTt.below hb
  replace xt0 := cell_keep0 xt0 hb
  replace xt1 := cell_keep0 xt1 hb
  replace hB := below_keep0 hB hb
  clear hb
  replace hTu := hTu.zero
  have bmu := hTu.2.2.2.2.1
  go_wp2_with fail
  obtain ⟨xu0, xu1⟩ := newBox w3 Au nu cu Lu mu du
  have hb := newBelow w3 (.cells #[.slice Au nu cu, .slice Lu mu du] 27)
  replace h8 := h8.below hb
  replace hTt := hTt.below hb
  replace hTu := hTu.below hb
  replace xt0 := cell_keep0 xt0 hb
  replace xt1 := cell_keep0 xt1 hb
  replace hB := below_keep0 hB hb
  clear hb
  generalize w3.alloc _ = w4 at h8 hTt hTu xt0 xt1 xu0 xu1 hB ⊢
  generalize w3.heap.size = pu at xu0 xu1 ⊢
  refine (remote_i _ _ _ _ _ _ Tu _ _ _ hTu.1.2 (by omega)).mono ?_
  rintro e w5 ⟨rfl, hb⟩
  replace h8 := h8.below hb
  replace hTt := hTt.below hb
  replace hTu := hTu.below hb
  replace xt0 := cell_keep0 xt0 hb
  replace xt1 := cell_keep0 xt1 hb
  replace xu0 := cell_keep0 xu0 hb
  replace xu1 := cell_keep0 xu1 hb
  replace hB := below_keep0 hB hb
  clear hb
  go_wp2_with fail
  refine (remote_s _ _ _ _ _ _ Tu _ _ _ hTu.1.2 (by omega)).mono ?_
  rintro e w6 ⟨rfl, hb⟩
  replace h8 := h8.below hb
  replace hTt := hTt.below hb
  replace hTu := hTu.below hb
  replace xt0 := cell_keep0 xt0 hb
  replace xt1 := cell_keep0 xt1 hb
  replace xu0 := cell_keep0 xu0 hb
  replace xu1 := cell_keep0 xu1 hb
  replace hB := below_keep0 hB hb
  clear hb
  generalize remA Tu.links r q = far
  generalize remB Tu.links r q = door
  go_wp2_with fail
  refine (drVal_s _ _ _ bs _ h8).mono ?_
  rintro e w7 ⟨Av, nv, cv, Lv, mv, dv, Tv, rfl, hTv, _, hb⟩
  replace h8 := h8.below hb
  replace hTt := hTt.below hb
  replace hTu := hTu.below hb
  replace xt0 := cell_keep0 xt0 hb
  replace xt1 := cell_keep0 xt1 hb
  replace xu0 := cell_keep0 xu0 hb
  replace xu1 := cell_keep0 xu1 hb
  replace hB := below_keep0 hB hb
  clear hb
  replace hTv := hTv.zero
  have bmo := hTv.2.2.2.2.1
  have bno := hTv.2.2.2.1
  clear h8
  go_wp2_with fail
  obtain ⟨xv0, xv1⟩ := newBox w7 Av nv cv Lv mv dv
  have hb := newBelow w7 (.cells #[.slice Av nv cv, .slice Lv mv dv] 27)
  replace hTt := hTt.below hb
  replace hTu := hTu.below hb
  replace hTv := hTv.below hb
  replace xt0 := cell_keep0 xt0 hb
  replace xt1 := cell_keep0 xt1 hb
  replace xu0 := cell_keep0 xu0 hb
  replace xu1 := cell_keep0 xu1 hb
  replace hB := below_keep0 hB hb
  clear hb
  generalize w7.alloc _ = w8 at hTt hTu hTv xt0 xt1 xu0 xu1 xv0 xv1 hB ⊢
  generalize w7.heap.size = pv at xv0 xv1 ⊢
  obtain ⟨vo, hvo⟩ : ∃ v : Bool, v = validT Tv.ases Tv.links := ⟨_, rfl⟩
  have Hvo := Lib.hid hvo
  clear hvo
  have hvb : (!(vo == vo)) = false := by cases vo <;> rfl
  have hvb2 : (vo != vo) = false := by cases vo <;> rfl
  go_region_held3 (fun w' => w'.cell? ⟨pt, 0, none⟩ = some (.slice At nt ct) ∧ w'.cell? ⟨pt, 1, none⟩ = some (.slice Lt mt dt) ∧ w'.cell? ⟨pu, 0, none⟩ = some (.slice Au nu cu) ∧ w'.cell? ⟨pu, 1, none⟩ = some (.slice Lu mu du) ∧ w'.cell? ⟨pv, 0, none⟩ = some (.slice Av nv cv) ∧ w'.cell? ⟨pv, 1, none⟩ = some (.slice Lv mv dv)) (first | exact ⟨xt0_7, xt1_7, xu0_7, xu1_7, xv0_7, xv1_7⟩ | exact ⟨xt0_6, xt1_6, xu0_6, xu1_6, xv0_6, xv1_6⟩ | exact ⟨xt0_5, xt1_5, xu0_5, xu1_5, xv0_5, xv1_5⟩ | exact ⟨xt0_4, xt1_4, xu0_4, xu1_4, xv0_4, xv1_4⟩ | exact ⟨xt0_3, xt1_3, xu0_3, xu1_3, xv0_3, xv1_3⟩ | exact ⟨xt0_2, xt1_2, xu0_2, xu1_2, xv0_2, xv1_2⟩ | exact ⟨xt0_1, xt1_1, xu0_1, xu1_1, xv0_1, xv1_1⟩ | exact ⟨xt0, xt1, xu0, xu1, xv0, xv1⟩) (first
      | (have _hX := g6; go_at_call 26; refine (valid_i _ _ _ _ _ _ Tt.ases Tt.links _ hTt_6.1.1 hTt_6.1.2 hTt_6.2.1 hTt_6.2.2.1 (by omega) (by omega)).mono ?_; rintro e v7 ⟨rfl, g7⟩; have hTt_7 := hTt_6.below g7; have hTu_7 := hTu_6.below g7; have hTv_7 := hTv_6.below g7; have xt0_7 := cell_keep0 xt0_6 g7; have xt1_7 := cell_keep0 xt1_6 g7; have xu0_7 := cell_keep0 xu0_6 g7; have xu1_7 := cell_keep0 xu1_6 g7; have xv0_7 := cell_keep0 xv0_6 g7; have xv1_7 := cell_keep0 xv1_6 g7; have hB_7 := below_keep0 hB_6 g7; rw [show validT Tt.ases Tt.links = true from HV.out])
      | (have _hX := g5; go_at_call 27; refine (valid_s _ _ _ _ _ _ Tv.ases Tv.links _ hTv_5.1.1 hTv_5.1.2 hTv_5.2.1 hTv_5.2.2.1 (by omega) (by omega)).mono ?_; rintro e v6 ⟨rfl, g6⟩; have hTt_6 := hTt_5.below g6; have hTu_6 := hTu_5.below g6; have hTv_6 := hTv_5.below g6; have xt0_6 := cell_keep0 xt0_5 g6; have xt1_6 := cell_keep0 xt1_5 g6; have xu0_6 := cell_keep0 xu0_5 g6; have xu1_6 := cell_keep0 xu1_5 g6; have xv0_6 := cell_keep0 xv0_5 g6; have xv1_6 := cell_keep0 xv1_5 g6; have hB_6 := below_keep0 hB_5 g6; rw [← Hvo.out])
      | (have _hX := g4; go_at_call 26; refine (valid_i _ _ _ _ _ _ Tv.ases Tv.links _ hTv_4.1.1 hTv_4.1.2 hTv_4.2.1 hTv_4.2.2.1 (by omega) (by omega)).mono ?_; rintro e v5 ⟨rfl, g5⟩; have hTt_5 := hTt_4.below g5; have hTu_5 := hTu_4.below g5; have hTv_5 := hTv_4.below g5; have xt0_5 := cell_keep0 xt0_4 g5; have xt1_5 := cell_keep0 xt1_4 g5; have xu0_5 := cell_keep0 xu0_4 g5; have xu1_5 := cell_keep0 xu1_4 g5; have xv0_5 := cell_keep0 xv0_4 g5; have xv1_5 := cell_keep0 xv1_4 g5; have hB_5 := below_keep0 hB_4 g5; rw [← Hvo.out])
      | (have _hX := g3; go_at_call 25; refine (linkIndex_s _ _ _ _ _ _ Tu r q _ hTu_3.1.2 (by omega)).mono ?_; rintro e v4 ⟨rfl, g4⟩; have hTt_4 := hTt_3.below g4; have hTu_4 := hTu_3.below g4; have hTv_4 := hTv_3.below g4; have xt0_4 := cell_keep0 xt0_3 g4; have xt1_4 := cell_keep0 xt1_3 g4; have xu0_4 := cell_keep0 xu0_3 g4; have xu1_4 := cell_keep0 xu1_3 g4; have xv0_4 := cell_keep0 xv0_3 g4; have xv1_4 := cell_keep0 xv1_3 g4; have hB_4 := below_keep0 hB_3 g4)
      | (have _hX := g2; go_at_call 24; refine (linkIndex_i _ _ _ _ _ _ Tu r q _ hTu_2.1.2 (by omega)).mono ?_; rintro e v3 ⟨rfl, g3⟩; have hTt_3 := hTt_2.below g3; have hTu_3 := hTu_2.below g3; have hTv_3 := hTv_2.below g3; have xt0_3 := cell_keep0 xt0_2 g3; have xt1_3 := cell_keep0 xt1_2 g3; have xu0_3 := cell_keep0 xu0_2 g3; have xu1_3 := cell_keep0 xu1_2 g3; have xv0_3 := cell_keep0 xv0_2 g3; have xv1_3 := cell_keep0 xv1_2 g3; have hB_3 := below_keep0 hB_2 g3)
      | (have _hX := g1; go_at_call 23; refine (ifKind_s _ _ _ _ _ _ Tu r q _ hTu_1.1.2 (by omega)).mono ?_; rintro e v2 ⟨rfl, g2⟩; have hTt_2 := hTt_1.below g2; have hTu_2 := hTu_1.below g2; have hTv_2 := hTv_1.below g2; have xt0_2 := cell_keep0 xt0_1 g2; have xt1_2 := cell_keep0 xt1_1 g2; have xu0_2 := cell_keep0 xu0_1 g2; have xu1_2 := cell_keep0 xu1_1 g2; have xv0_2 := cell_keep0 xv0_1 g2; have xv1_2 := cell_keep0 xv1_1 g2; have hB_2 := below_keep0 hB_1 g2)
      | (go_at_call 22; refine (ifKind_i _ _ _ _ _ _ Tu r q _ hTu.drew.1.2 (by omega)).mono ?_; rintro e v1 ⟨rfl, g1⟩; have hTt_1 := hTt.drew.below g1; have hTu_1 := hTu.drew.below g1; have hTv_1 := hTv.drew.below g1; have xt0_1 := cell_keepD xt0 g1; have xt1_1 := cell_keepD xt1 g1; have xu0_1 := cell_keepD xu0 g1; have xu1_1 := cell_keepD xu1 g1; have xv0_1 := cell_keepD xv0 g1; have xv1_1 := cell_keepD xv1 g1; have hB_1 := below_keepD hB g1))
  clear hTt hTu hTv xt0 xt1 xu0 xu1 xv0 xv1 hB hTt_1 hTu_1 hTv_1 xt0_1 xt1_1 xu0_1 xu1_1 xv0_1 xv1_1 hB_1 hTt_2 hTu_2 hTv_2 xt0_2 xt1_2 xu0_2 xu1_2 xv0_2 xv1_2 hB_2 hTt_3 hTu_3 hTv_3 xt0_3 xt1_3 xu0_3 xu1_3 xv0_3 xv1_3 hB_3 hTt_4 hTu_4 hTv_4 xt0_4 xt1_4 xu0_4 xu1_4 xv0_4 xv1_4 hB_4 hTt_5 hTu_5 hTv_5 xt0_5 xt1_5 xu0_5 xu1_5 xv0_5 xv1_5 hB_5 hTt_6 hTu_6 hTv_6 xt0_6 xt1_6 xu0_6 xu1_6 xv0_6 xv1_6 hB_6 hTu_7 hTv_7 xu0_7 xu1_7 xv0_7 xv1_7 g1 g2 g3 g4 g5 g6 g7 hvb hvb2 Hvo
  go_wp2
  go_loopw [12] (EndRel w pt At nt ct Lt mt dt Tt) (fun i _ => mt - (intOf i).toNat)
  case atStart => exact ⟨0, Nat.zero_le _, rfl, xt0_7, xt1_7, hTt_7, hB_7⟩
  case round =>
    clear xt0_7 xt1_7 hTt_7 hB_7
    obtain ⟨k, hk, rfl, xt0, xt1, hT, hB⟩ := hrel
    by_cases hlt : k < mt
    · have hlt' : (k : Int) < (mt : Int) := by omega
      have hk0 : (0 : Int) ≤ (k : Int) := by omega
      obtain ⟨b, off, l, rfl, hl0, c0, c1, c2, c3, c4⟩ := Rl.get hT.1.2 hlt
      have hE := valid_ends HV.out hl0
      have Hax := Lib.hid hE.ax
      have Hay := Lib.hid hE.ay
      have Hbx := Lib.hid hE.bx
      have Hbz := Lib.hid hE.bz
      have Hix := Lib.hid hE.ix
      have Hkd := Lib.hid hE.kd
      clear hl0 hE
      have ptl : pt < wr.heap.size := World.block_lt_of_cell? wr _ xt0
      go_wp2_with fail
      have l0 : (wr.alloc (.cells #[.int .i64 l.a, .int .i64 l.ai, .int .i64 l.b, .int .i64 l.bi, .int .i64 l.kind] 42)).cell? ⟨wr.heap.size, 0, none⟩ = some (.int .i64 l.a) := by simp
      have l1 : (wr.alloc (.cells #[.int .i64 l.a, .int .i64 l.ai, .int .i64 l.b, .int .i64 l.bi, .int .i64 l.kind] 42)).cell? ⟨wr.heap.size, 1, none⟩ = some (.int .i64 l.ai) := by simp
      have l2 : (wr.alloc (.cells #[.int .i64 l.a, .int .i64 l.ai, .int .i64 l.b, .int .i64 l.bi, .int .i64 l.kind] 42)).cell? ⟨wr.heap.size, 2, none⟩ = some (.int .i64 l.b) := by simp
      have l3 : (wr.alloc (.cells #[.int .i64 l.a, .int .i64 l.ai, .int .i64 l.b, .int .i64 l.bi, .int .i64 l.kind] 42)).cell? ⟨wr.heap.size, 3, none⟩ = some (.int .i64 l.bi) := by simp
      have hb := newBelow wr (.cells #[.int .i64 l.a, .int .i64 l.ai, .int .i64 l.b, .int .i64 l.bi, .int .i64 l.kind] 42)
      replace hT := hT.below hb
      replace xt0 := cell_keep0 xt0 hb
      replace xt1 := cell_keep0 xt1 hb
      replace hB := below_keep0 hB hb
      clear hb c0 c1 c2 c3 c4 ptl
      generalize wr.alloc _ = z0 at hT xt0 xt1 hB l0 l1 l2 l3 ⊢
      generalize wr.heap.size = pl at l0 l1 l2 l3 ⊢
      refine (remote_i _ _ _ _ _ _ Tt l.a l.ai _ hT.1.2 (by omega)).mono ?_
      rintro e z1 ⟨rfl, hb⟩
      rw [Hax.out, Hay.out]
      replace hT := hT.below hb
      replace xt0 := cell_keep0 xt0 hb
      replace xt1 := cell_keep0 xt1 hb
      replace hB := below_keep0 hB hb
      replace l0 := cell_keep0 l0 hb
      replace l1 := cell_keep0 l1 hb
      replace l2 := cell_keep0 l2 hb
      replace l3 := cell_keep0 l3 hb
      clear hb
      go_wp2_with fail
      refine (remote_i _ _ _ _ _ _ Tt l.b l.bi _ hT.1.2 (by omega)).mono ?_
      rintro e z2 ⟨rfl, hb⟩
      rw [Hbx.out, Hbz.out]
      replace hT := hT.below hb
      replace xt0 := cell_keep0 xt0 hb
      replace xt1 := cell_keep0 xt1 hb
      replace hB := below_keep0 hB hb
      replace l0 := cell_keep0 l0 hb
      replace l1 := cell_keep0 l1 hb
      replace l2 := cell_keep0 l2 hb
      replace l3 := cell_keep0 l3 hb
      clear hb
      go_wp2_with fail
      rcases Hkd.out with ⟨ka0, kb0⟩ | ⟨ka0, kb0⟩ | ⟨ka0, kb0⟩
      all_goals
        have ka := Lib.hid ka0
        have kb := Lib.hid kb0
        clear ka0 kb0
        refine (ifKind_i _ _ _ _ _ _ Tt l.a l.ai _ hT.1.2 (by omega)).mono ?_
        rintro e z3 ⟨rfl, hb⟩
        rw [ka.out]
        replace hT := hT.below hb
        replace xt0 := cell_keep0 xt0 hb
        replace xt1 := cell_keep0 xt1 hb
        replace hB := below_keep0 hB hb
        replace l0 := cell_keep0 l0 hb
        replace l1 := cell_keep0 l1 hb
        replace l2 := cell_keep0 l2 hb
        replace l3 := cell_keep0 l3 hb
        clear hb
        go_wp2_with fail
        refine (ifKind_i _ _ _ _ _ _ Tt l.b l.bi _ hT.1.2 (by omega)).mono ?_
        rintro e z4 ⟨rfl, hb⟩
        rw [kb.out]
        replace hT := hT.below hb
        replace xt0 := cell_keep0 xt0 hb
        replace xt1 := cell_keep0 xt1 hb
        replace hB := below_keep0 hB hb
        replace l0 := cell_keep0 l0 hb
        replace l1 := cell_keep0 l1 hb
        replace l2 := cell_keep0 l2 hb
        replace l3 := cell_keep0 l3 hb
        clear hb
        go_wp2_with fail
        refine (linkIndex_i _ _ _ _ _ _ Tt l.a l.ai _ hT.1.2 (by omega)).mono ?_
        rintro e z5 ⟨rfl, hb⟩
        rw [Hix.out]
        replace hT := hT.below hb
        replace xt0 := cell_keep0 xt0 hb
        replace xt1 := cell_keep0 xt1 hb
        replace hB := below_keep0 hB hb
        replace l0 := cell_keep0 l0 hb
        replace l1 := cell_keep0 l1 hb
        replace l2 := cell_keep0 l2 hb
        replace l3 := cell_keep0 l3 hb
        clear hb
        go_wp2
        go_roundw
        case rel => exact ⟨k + 1, by omega, by go_num, xt0, xt1, hT, hB⟩
        case measure => simp [intOf]; omega
    · have hlt' : ¬ (k : Int) < (mt : Int) := by omega
      go_wp2
      go_ret
      exact ⟨rfl, hB⟩
end Go.Proofs.Ytehfcejpoigclaa
