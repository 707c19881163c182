/- Walks of the laws on topologies: each law's call returns true. -/
import Derived.Test.YtkfdenokbhlfeaaRows
import Derived.Test.YtkfdenokbhlfeaaMem
import Derived.Test.YtkfdenokbhlfeaaLawTopo
import Derived.Test.YtkfdenokbhlfeaaLawTopo2
import Derived.Test.YtkfdenokbhlfeaaLawTopo3
import Derived.Test.YtkfdenokbhlfeaaTopoOpen
import Derived.Deep.RegionHeld3
import Derived.Outline
import Derived.Test.YtkfdenokbhlfeaaShape1
import Derived.Test.YtkfdenokbhlfeaaLawInts
namespace Go.Proofs.Ytkfdenokbhlfeaa
open Go.RowKit
set_option linter.unusedVariables false

set_option maxHeartbeats 2000000 in
theorem FnExactParents_walk {w : World} (A : Option Addr) (n c : Nat) (L : Option Addr) (m d : Nat) (T : Tp) (hin : InTopo w A n c L m d T) (r : Int) (w_r : (Lit.int .i64 r).wf = true) :
    Calls Try.prog 10 #[.agg #[.slice A n c, .slice L m d], .int .i64 r] w fun e w' => e = .returned (.bool true) ∧ Below w.heap.size w w' := by
  have rt := hin.1
  have hl1 := Lib.hid rt.1.len
  have hl2 := Lib.hid rt.2.len
  have hwf := Lib.hid hin.2.2.2.2.2
  have hbn : n ≤ 9223372036854775807 := by have h1 := hin.2.1; have h2 := hin.2.2.1; simp only [maxLen] at h2; omega
  have hbm : m ≤ 9223372036854775807 := by have h1 := hin.2.2.2.1; have h2 := hin.2.2.2.2.1; simp only [maxLen] at h2; omega
  clear hin
  by_cases big : 1048576 < n + m
  · go_enter Try.func10, Try.ntmps10
    go_wp2_with fail
    refine (szTopology_no _ _ _ _ _ _ _ big hbn hbm).mono ?_
    rintro e w1 ⟨rfl, hb1⟩
    go_wp2
    go_ret
    exact ⟨rfl, below_keep (Below.refl _ _) hb1⟩
  have hsz : n + m ≤ 1048576 := by omega
  have hn : n ≤ 1048576 := by omega
  have hm : m ≤ 1048576 := by omega
  clear big hbn hbm
  obtain ⟨LL, h_LL⟩ : ∃ y_, y_ = nbr T.links r 3 := ⟨_, rfl⟩
  have HL := Lib.hid h_LL.symm
  clear h_LL
  obtain ⟨nL, h_nL⟩ : ∃ y_, y_ = LL.length := ⟨_, rfl⟩
  have HN := Lib.hid h_nL.symm
  have hnL : nL ≤ 90000000 := by have h1 := nbr_len T.links r 3; have h2 := congrArg List.length HL.out; omega
  clear h_nL
  go_enter Try.func10, Try.ntmps10
  have kA0 := Rd.inB rt.1
  have kL0 := Rd.inB rt.2
  go_wp2_with fail
  refine (szTopology_yes _ _ _ _ _ _ _ hsz).mono ?_
  rintro e w1 ⟨rfl, hbx⟩
  have hb1 := below_keep (Below.refl _ _) hbx
  have bxa1 : w1.cell? ⟨w.heap.size, 0, none⟩ = some (.slice A n c) := (hbx.cell (p := ⟨w.heap.size, 0, none⟩) (by simp)).trans (by simp)
  have bxb1 : w1.cell? ⟨w.heap.size, 1, none⟩ = some (.slice L m d) := (hbx.cell (p := ⟨w.heap.size, 1, none⟩) (by simp)).trans (by simp)
  have z1 : w.heap.size < w1.heap.size := by have := hbx.size; simp at this; omega
  clear hbx
  have s1 := hb1.size
  have B1 := hb1
  have S1 := B1.size
  have rt0_1 := rt.below hb1 (Nat.le_refl _)
  have hz0 : ¬ ((1048576 : Int) - (n : Int) - (m : Int) < 0) := by omega
  go_wp2_with fail
  refine (toTopology_any _ _ _ _ _ _ T _ rt0_1 hn hm).mono ?_
  rintro e w2 ⟨Aa, ca, La, da, rfl, oAa, oLa, hb2⟩
  have s2 := hb2.size
  have B2 := B1.trans (hb2.mono S1)
  have S2 := B2.size
  have rt0_2 := rt0_1.below hb2 (Nat.le_refl _)
  have bxa2 := cell_keep0 bxa1 hb2
  have bxb2 := cell_keep0 bxb1 hb2
  clear bxa1 bxb1
  have kAa := fun g (e : Aa = some ⟨g, 0, none⟩) => (oAa.block e).2
  have kLa := fun g (e : La = some ⟨g, 0, none⟩) => (oLa.block e).2
  go_wp2_with fail
  refine (par_s _ _ _ _ _ _ T r _ (⟨oAa.rd, oLa.rd⟩ : Rt _ _ _ _ _ T).2 hm).mono ?_
  rw [HL.out]
  rintro e w3 ⟨AW, cW, rfl, oW, hb3⟩
  rw [HN.out] at oW ⊢
  have s3 := hb3.size
  have B3 := B2.trans (hb3.mono S2)
  have S3 := B3.size
  have rt0_3 := rt0_2.below hb3 (Nat.le_refl _)
  have bxa3 := cell_keep0 bxa2 hb3
  have bxb3 := cell_keep0 bxb2 hb3
  clear bxa2 bxb2
  have oAa_3 := oAa.below hb3 (Nat.le_refl _)
  have oLa_3 := oLa.below hb3 (Nat.le_refl _)
  clear oAa oLa
  have kW := oW.lt
  clear oAa_3 oLa_3 kAa kLa
  go_wp2_with fail
  refine (toTopology_any _ _ _ _ _ _ T _ rt0_3 hn hm).mono ?_
  rintro e w4 ⟨Ab, cb, Lb, db, rfl, oAb, oLb, hb4⟩
  have s4 := hb4.size
  have B4 := B3.trans (hb4.mono S3)
  have S4 := B4.size
  have rt0_4 := rt0_3.below hb4 (Nat.le_refl _)
  have bxa4 := cell_keep0 bxa3 hb4
  have bxb4 := cell_keep0 bxb3 hb4
  clear bxa3 bxb3
  have oW_4 := oW.below hb4 (Nat.le_refl _)
  clear oW
  have kAb := fun g (e : Ab = some ⟨g, 0, none⟩) => (oAb.block e).2
  have kLb := fun g (e : Lb = some ⟨g, 0, none⟩) => (oLb.block e).2
  go_wp2_with fail
  obtain ⟨w5, hw5⟩ : ∃ y_, y_ = w4.alloc (.cells #[.slice Ab n cb, .slice Lb m db] 31) := ⟨_, rfl⟩
  rw [← hw5]
  have hb5 : Below w4.heap.size w4 w5 := by rw [hw5]; exact (Below.refl _ _).alloc (Nat.le_refl _) _
  have vba : w5.cell? ⟨w4.heap.size, 0, none⟩ = some (.slice Ab n cb) := by rw [hw5]; simp
  have vbb : w5.cell? ⟨w4.heap.size, 1, none⟩ = some (.slice Lb m db) := by rw [hw5]; simp
  have z5 : w4.heap.size < w5.heap.size := by rw [hw5]; simp
  clear hw5
  have s5 := hb5.size
  have B5 := B4.trans (hb5.mono S4)
  have S5 := B5.size
  have rt0_5 := rt0_4.below hb5 (Nat.le_refl _)
  have bxa5 := cell_keep0 bxa4 hb5
  have bxb5 := cell_keep0 bxb4 hb5
  clear bxa4 bxb4
  have oW_5 := oW_4.below hb5 (Nat.le_refl _)
  clear oW_4
  have oAb_5 := oAb.below hb5 (Nat.le_refl _)
  have oLb_5 := oLb.below hb5 (Nat.le_refl _)
  clear oAb oLb
  go_wp2_with fail
  refine (par_i _ _ _ _ _ _ T r _ (⟨oAb_5.rd, oLb_5.rd⟩ : Rt _ _ _ _ _ T).2 hm).mono ?_
  rw [HL.out]
  rintro e w6 ⟨AG, cG, rfl, oG, hb6⟩
  rw [HN.out] at oG ⊢
  have s6 := hb6.size
  have B6 := B5.trans (hb6.mono S5)
  have S6 := B6.size
  have rt0_6 := rt0_5.below hb6 (Nat.le_refl _)
  have bxa6 := cell_keep0 bxa5 hb6
  have bxb6 := cell_keep0 bxb5 hb6
  clear bxa5 bxb5
  have oW_6 := oW_5.below hb6 (Nat.le_refl _)
  clear oW_5
  have oAb_6 := oAb_5.below hb6 (Nat.le_refl _)
  have oLb_6 := oLb_5.below hb6 (Nat.le_refl _)
  clear oAb_5 oLb_5
  have bba6 := cell_keep0 vba hb6
  have bbb6 := cell_keep0 vbb hb6
  clear vba vbb
  have kG := oG.lt
  go_wp2_with fail
  refine (eqIntS_any _ _ _ LL _ _ _ LL _ oG.rd oW_6.rd (by omega) (by omega)).mono ?_
  rintro e w7 ⟨rfl, hb7⟩
  rw [decide_eq_true rfl]
  have s7 := hb7.size
  have B7 := B6.trans (hb7.mono S6)
  have S7 := B7.size
  have rt0_7 := rt0_6.below hb7 (Nat.le_refl _)
  have bxa7 := cell_keep0 bxa6 hb7
  have bxb7 := cell_keep0 bxb6 hb7
  clear bxa6 bxb6
  have oW_7 := oW_6.below hb7 (Nat.le_refl _)
  clear oW_6
  have oAb_7 := oAb_6.below hb7 (Nat.le_refl _)
  have oLb_7 := oLb_6.below hb7 (Nat.le_refl _)
  clear oAb_6 oLb_6
  have bba7 := cell_keep0 bba6 hb7
  have bbb7 := cell_keep0 bbb6 hb7
  clear bba6 bbb6
  have oG_7 := oG.below hb7 (Nat.le_refl _)
  clear oG
  go_wp2_with fail
  go_region_held3 (fun w' => w'.cell? ⟨w.heap.size, 0, none⟩ = some (.slice A n c) ∧ w'.cell? ⟨w.heap.size, 1, none⟩ = some (.slice L m d) ∧ w'.cell? ⟨w4.heap.size, 0, none⟩ = some (.slice Ab n cb) ∧ w'.cell? ⟨w4.heap.size, 1, none⟩ = some (.slice Lb m db)) (first | exact ⟨bxa7, bxb7, bba7, bbb7⟩ | exact ⟨cell_keepD bxa7 hb8, cell_keepD bxb7 hb8, cell_keepD bba7 hb8, cell_keepD bbb7 hb8⟩ | exact ⟨cell_keep0 (cell_keepD bxa7 hb8) hb9, cell_keep0 (cell_keepD bxb7 hb8) hb9, cell_keep0 (cell_keepD bba7 hb8) hb9, cell_keep0 (cell_keepD bbb7 hb8) hb9⟩) (first | (go_at_call 17; refine (toTopology_any _ _ _ _ _ _ T _ ?_ hn hm).mono ?_; (first | exact rt0_7 | exact Rt.drew rt0_7 | exact Rt.drewN rt0_7 _); rintro e w8 ⟨Ae, ce, Le, de, rfl, oAe, oLe, hb8⟩) | (go_at_call 19; refine (eqTopology_same _ _ _ _ _ _ _ _ _ _ T _ (Rt.below (Rt.drew (⟨oAb_7.rd, oLb_7.rd⟩ : Rt _ _ _ _ _ T)) hb8 (Nat.le_refl _)) ⟨oAe.rd, oLe.rd⟩ hn hm).mono ?_; rintro e w9 ⟨rfl, hb9⟩))
  have hc9 : Below w7.heap.size w7 w9 := below_keep0 (below_keepD (Below.refl _ _) hb8) hb9
  clear oAe oLe hb8 hb9
  have s9 := hc9.size
  have B9 := B7.trans (hc9.mono S7)
  have S9 := B9.size
  have rt0_9 := rt0_7.below hc9 (Nat.le_refl _)
  have bxa9 := cell_keep0 bxa7 hc9
  have bxb9 := cell_keep0 bxb7 hc9
  clear bxa7 bxb7
  have oW_9 := oW_7.below hc9 (Nat.le_refl _)
  clear oW_7
  have oAb_9 := oAb_7.below hc9 (Nat.le_refl _)
  have oLb_9 := oLb_7.below hc9 (Nat.le_refl _)
  clear oAb_7 oLb_7
  have bba9 := cell_keep0 bba7 hc9
  have bbb9 := cell_keep0 bbb7 hc9
  clear bba7 bbb7
  have oG_9 := oG_7.below hc9 (Nat.le_refl _)
  clear oG_7
  go_wp2_with fail
  refine (markTopology_any _ _ _ _ _ _ _ _ _ w3.heap.size w4.heap.size oAb_9 oLb_9 (by omega) (by omega) kAb kLb (by omega)).mono ?_
  rintro e w10 ⟨q10, hq10, hq10', rfl, ht10⟩
  have s10 := ht10.size
  have B10 := B9.trans ((ht10.belowLo (by omega)).mono (by omega))
  have S10 := B10.size
  have rt0_10 : Rt _ _ _ _ _ T := ⟨Rd.btw rt0_9.1 ht10 (fun hn b off e => Or.inl (by have := kA0 hn b off e; omega)), Rd.btw rt0_9.2 ht10 (fun hn b off e => Or.inl (by have := kL0 hn b off e; omega))⟩
  have bxa10 := (World.cell?_of_block (ht10.block w.heap.size (by omega) (Or.inl (by omega)))).trans bxa9
  have bxb10 := (World.cell?_of_block (ht10.block w.heap.size (by omega) (Or.inl (by omega)))).trans bxb9
  clear bxa9 bxb9
  have oW_10 := oW_9.btw ht10 (fun g hg => Or.inl (by have := (kW g hg).2; omega))
  clear oW_9
  have bba10 := (World.cell?_of_block (ht10.block w4.heap.size (by omega) (Or.inr (by omega)))).trans bba9
  have bbb10 := (World.cell?_of_block (ht10.block w4.heap.size (by omega) (Or.inr (by omega)))).trans bbb9
  clear bba9 bbb9
  have oG_10 := oG_9.btw ht10 (fun g hg => Or.inr (by have := (kG g hg).1; omega))
  clear oG_9
  clear oAb_9 oLb_9 kAb kLb
  go_wp2_with fail
  refine (eqIntS_any _ _ _ LL _ _ _ LL _ oG_10.rd oW_10.rd (by omega) (by omega)).mono ?_
  rintro e w11 ⟨rfl, hb11⟩
  rw [decide_eq_true rfl]
  have s11 := hb11.size
  have B11 := B10.trans (hb11.mono S10)
  have S11 := B11.size
  have rt0_11 := rt0_10.below hb11 (Nat.le_refl _)
  have bxa11 := cell_keep0 bxa10 hb11
  have bxb11 := cell_keep0 bxb10 hb11
  clear bxa10 bxb10
  have oW_11 := oW_10.below hb11 (Nat.le_refl _)
  clear oW_10
  have bba11 := cell_keep0 bba10 hb11
  have bbb11 := cell_keep0 bbb10 hb11
  clear bba10 bbb10
  have oG_11 := oG_10.below hb11 (Nat.le_refl _)
  clear oG_10
  go_wp2_with fail
  refine (markIntS_any _ _ _ _ _ _ _ oG_11 (by omega) (by omega) (by omega)).mono ?_
  rintro e w12 ⟨rfl, o12m, hg12⟩
  have s12 := hg12.size
  have B12 := B11.trans ((Below.refl w.heap.size _).grown hg12 S11 (fun r hr => by have := (oG_11.lt r hr).1; omega))
  have S12 := B12.size
  have rt0_12 : Rt _ _ _ _ _ T := ⟨Rd.grown2 rt0_11.1 hg12 (fun hn b off e r hr => by have := kA0 hn b off e; have := (oG_11.lt r hr).1; omega), Rd.grown2 rt0_11.2 hg12 (fun hn b off e r hr => by have := kL0 hn b off e; have := (oG_11.lt r hr).1; omega)⟩
  have bxa12 := hg12.cell bxa11 (fun e => by have := (oG_11.lt _ e.symm).1; simp at this; omega)
  have bxb12 := hg12.cell bxb11 (fun e => by have := (oG_11.lt _ e.symm).1; simp at this; omega)
  clear bxa11 bxb11
  have oW_12 := oW_11.farUp hg12 w5.heap.size (fun g hg => by have := (kW g hg).2; omega) (fun r hr => (oG_11.lt r hr).1)
  have bba12 := hg12.cell bba11 (fun e => by have := (oG_11.lt _ e.symm).1; simp at this; omega)
  have bbb12 := hg12.cell bbb11 (fun e => by have := (oG_11.lt _ e.symm).1; simp at this; omega)
  clear bba11 bbb11
  go_wp2_with fail
  refine (heldIntS_any _ _ _ _ _ o12m.rd (by omega) (by omega) (by omega)).mono ?_
  rintro e x1 ⟨rfl, rfl⟩
  go_wp2_with fail
  refine (toTopology_any _ _ _ _ _ _ T _ rt0_12 hn hm).mono ?_
  rintro e w13 ⟨Ah, ch, Lh, dh, rfl, oAh, oLh, hb13⟩
  have s13 := hb13.size
  have B13 := B12.trans (hb13.mono S12)
  have S13 := B13.size
  have rt0_13 := rt0_12.below hb13 (Nat.le_refl _)
  have bxa13 := cell_keep0 bxa12 hb13
  have bxb13 := cell_keep0 bxb12 hb13
  clear bxa12 bxb12
  have oW_13 := oW_12.below hb13 (Nat.le_refl _)
  clear oW_12
  have bba13 := cell_keep0 bba12 hb13
  have bbb13 := cell_keep0 bbb12 hb13
  clear bba12 bbb12
  have oG_13 := o12m.below hb13 (Nat.le_refl _)
  clear o12m
  have kAh := fun g (e : Ah = some ⟨g, 0, none⟩) => (oAh.block e).2
  have kLh := fun g (e : Lh = some ⟨g, 0, none⟩) => (oLh.block e).2
  go_wp2_with fail
  refine (par_i _ _ _ _ _ _ T r _ (⟨oAh.rd, oLh.rd⟩ : Rt _ _ _ _ _ T).2 hm).mono ?_
  rw [HL.out]
  rintro e w14 ⟨AH, cH, rfl, oH, hb14⟩
  rw [HN.out] at oH ⊢
  have s14 := hb14.size
  have B14 := B13.trans (hb14.mono S13)
  have S14 := B14.size
  have rt0_14 := rt0_13.below hb14 (Nat.le_refl _)
  have bxa14 := cell_keep0 bxa13 hb14
  have bxb14 := cell_keep0 bxb13 hb14
  clear bxa13 bxb13
  have oW_14 := oW_13.below hb14 (Nat.le_refl _)
  clear oW_13
  have bba14 := cell_keep0 bba13 hb14
  have bbb14 := cell_keep0 bbb13 hb14
  clear bba13 bbb13
  have oG_14 := oG_13.below hb14 (Nat.le_refl _)
  clear oG_13
  have oAh_14 := oAh.below hb14 (Nat.le_refl _)
  have oLh_14 := oLh.below hb14 (Nat.le_refl _)
  clear oAh oLh
  have kH := oH.lt
  clear oAh_14 oLh_14 kAh kLh
  go_wp2_with fail
  refine (eqIntS_any _ _ _ LL _ _ _ LL _ oH.rd oW_14.rd (by omega) (by omega)).mono ?_
  rintro e w15 ⟨rfl, hb15⟩
  rw [decide_eq_true rfl]
  have s15 := hb15.size
  have B15 := B14.trans (hb15.mono S14)
  have S15 := B15.size
  have rt0_15 := rt0_14.below hb15 (Nat.le_refl _)
  have bxa15 := cell_keep0 bxa14 hb15
  have bxb15 := cell_keep0 bxb14 hb15
  clear bxa14 bxb14
  have oW_15 := oW_14.below hb15 (Nat.le_refl _)
  clear oW_14
  have bba15 := cell_keep0 bba14 hb15
  have bbb15 := cell_keep0 bbb14 hb15
  clear bba14 bbb14
  have oG_15 := oG_14.below hb15 (Nat.le_refl _)
  clear oG_14
  have oH_15 := oH.below hb15 (Nat.le_refl _)
  clear oH
  go_wp2_with fail
  refine (heldIntS_any _ _ _ _ _ oG_15.rd (by omega) (by omega) (by omega)).mono ?_
  rintro e x2 ⟨rfl, rfl⟩
  go_wp2
  go_ret
  exact ⟨rfl, B15⟩
end Go.Proofs.Ytkfdenokbhlfeaa
