/- Walks of the laws on topologies: each law's call returns true. -/
import Derived.Test.YthigpjkdmlkjmaaRows
import Derived.Test.YthigpjkdmlkjmaaMem
import Derived.Test.YthigpjkdmlkjmaaLawTopo
import Derived.Test.YthigpjkdmlkjmaaLawTopo2
import Derived.Test.YthigpjkdmlkjmaaTopoOpen
import Derived.Deep.RegionHeld3
import Derived.Outline
import Derived.Test.YthigpjkdmlkjmaaValid3
import Derived.Test.YthigpjkdmlkjmaaValid4
import Derived.Test.YthigpjkdmlkjmaaLawInts
namespace Go.Proofs.Ythigpjkdmlkjmaa
open Go.RowKit
set_option linter.unusedVariables false
theorem Ow.le {w : World} {base : Nat} {E : TypeId} {size : Nat} {A : Option Addr} {n c : Nat} {cs : List Value} (h : Ow w base E size A n c cs) : n ≤ c := by
  rcases h.2 with ⟨hv, hn⟩ | ⟨g, cap, cur, hv, _, _, hnc, _⟩
  · omega
  · have : c = cap := by injection hv
    omega

set_option maxHeartbeats 2000000 in
theorem FnExactValidTopology_walk {w : World} (A : Option Addr) (n c : Nat) (L : Option Addr) (m d : Nat) (T : Tp) (hin : InTopo w A n c L m d T) :
    Calls Try.prog 8 #[.agg #[.slice A n c, .slice L m d]] w fun e w' => e = .returned (.bool true) ∧ Below w.heap.size w w' := by
  have rt := hin.1
  have hl1 := Lib.hid rt.1.len
  have hl2 := Lib.hid rt.2.len
  have hwf := Lib.hid hin.2.2.2.2.2
  have hbn : n ≤ 9223372036854775807 := by have h1 := hin.2.1; have h2 := hin.2.2.1; simp only [maxLen] at h2; omega
  have hbm : m ≤ 9223372036854775807 := by have h1 := hin.2.2.2.1; have h2 := hin.2.2.2.2.1; simp only [maxLen] at h2; omega
  clear hin
  by_cases big : 1048576 < n + m
  · go_enter Try.func8, Try.ntmps8
    go_wp2_with fail
    refine (szTopology_no _ _ _ _ _ _ _ big hbn hbm).mono ?_
    rintro e w1 ⟨rfl, hb1⟩
    go_wp2
    go_ret
    exact ⟨rfl, below_keep (Below.refl _ _) hb1⟩
  have hsz : n + m ≤ 1048576 := by omega
  have hn : n ≤ 1048576 := by omega
  have hm : m ≤ 1048576 := by omega
  clear big hbn hbm
  go_enter Try.func8, Try.ntmps8
  have kA0 := Rd.inB rt.1
  have kL0 := Rd.inB rt.2
  go_wp2_with fail
  refine (szTopology_yes _ _ _ _ _ _ _ hsz).mono ?_
  rintro e w1 ⟨rfl, hbx⟩
  have hb1 := below_keep (Below.refl _ _) hbx
  have bxa1 : w1.cell? ⟨w.heap.size, 0, none⟩ = some (.slice A n c) := (hbx.cell (p := ⟨w.heap.size, 0, none⟩) (by simp)).trans (by simp)
  have bxb1 : w1.cell? ⟨w.heap.size, 1, none⟩ = some (.slice L m d) := (hbx.cell (p := ⟨w.heap.size, 1, none⟩) (by simp)).trans (by simp)
  have z1 : w.heap.size < w1.heap.size := by have := hbx.size; simp at this; omega
  clear hbx
  have s1 := hb1.size
  have B1 := hb1
  have S1 := B1.size
  have rt0_1 := rt.below hb1 (Nat.le_refl _)
  have hz0 : ¬ ((1048576 : Int) - (n : Int) - (m : Int) < 0) := by omega
  go_wp2_with fail
  refine (toTopology_any _ _ _ _ _ _ T _ rt0_1 hn hm).mono ?_
  rintro e w2 ⟨Aa, ca, La, da, rfl, oAa, oLa, hb2⟩
  have s2 := hb2.size
  have B2 := B1.trans (hb2.mono S1)
  have S2 := B2.size
  have rt0_2 := rt0_1.below hb2 (Nat.le_refl _)
  have bxa2 := cell_keep0 bxa1 hb2
  have bxb2 := cell_keep0 bxb1 hb2
  clear bxa1 bxb1
  have kAa := fun g (e : Aa = some ⟨g, 0, none⟩) => (oAa.block e).2
  have kLa := fun g (e : La = some ⟨g, 0, none⟩) => (oLa.block e).2
  go_wp2_with fail
  refine (valid_s _ _ _ _ _ _ T.ases T.links _ (⟨oAa.rd, oLa.rd⟩ : Rt _ _ _ _ _ T).1 (⟨oAa.rd, oLa.rd⟩ : Rt _ _ _ _ _ T).2 oAa.le oLa.le hm hn).mono ?_
  rintro e w3 ⟨rfl, hb3⟩
  have s3 := hb3.size
  have B3 := B2.trans (hb3.mono S2)
  have S3 := B3.size
  have rt0_3 := rt0_2.below hb3 (Nat.le_refl _)
  have bxa3 := cell_keep0 bxa2 hb3
  have bxb3 := cell_keep0 bxb2 hb3
  clear bxa2 bxb2
  have oAa_3 := oAa.below hb3 (Nat.le_refl _)
  have oLa_3 := oLa.below hb3 (Nat.le_refl _)
  clear oAa oLa
  clear oAa_3 oLa_3 kAa kLa
  go_wp2_with fail
  refine (toTopology_any _ _ _ _ _ _ T _ rt0_3 hn hm).mono ?_
  rintro e w4 ⟨Ab, cb, Lb, db, rfl, oAb, oLb, hb4⟩
  have s4 := hb4.size
  have B4 := B3.trans (hb4.mono S3)
  have S4 := B4.size
  have rt0_4 := rt0_3.below hb4 (Nat.le_refl _)
  have bxa4 := cell_keep0 bxa3 hb4
  have bxb4 := cell_keep0 bxb3 hb4
  clear bxa3 bxb3
  have kAb := fun g (e : Ab = some ⟨g, 0, none⟩) => (oAb.block e).2
  have kLb := fun g (e : Lb = some ⟨g, 0, none⟩) => (oLb.block e).2
  go_wp2_with fail
  obtain ⟨w5, hw5⟩ : ∃ y_, y_ = w4.alloc (.cells #[.slice Ab n cb, .slice Lb m db] 31) := ⟨_, rfl⟩
  rw [← hw5]
  have hb5 : Below w4.heap.size w4 w5 := by rw [hw5]; exact (Below.refl _ _).alloc (Nat.le_refl _) _
  have vba : w5.cell? ⟨w4.heap.size, 0, none⟩ = some (.slice Ab n cb) := by rw [hw5]; simp
  have vbb : w5.cell? ⟨w4.heap.size, 1, none⟩ = some (.slice Lb m db) := by rw [hw5]; simp
  have z5 : w4.heap.size < w5.heap.size := by rw [hw5]; simp
  clear hw5
  have s5 := hb5.size
  have B5 := B4.trans (hb5.mono S4)
  have S5 := B5.size
  have rt0_5 := rt0_4.below hb5 (Nat.le_refl _)
  have bxa5 := cell_keep0 bxa4 hb5
  have bxb5 := cell_keep0 bxb4 hb5
  clear bxa4 bxb4
  have oAb_5 := oAb.below hb5 (Nat.le_refl _)
  have oLb_5 := oLb.below hb5 (Nat.le_refl _)
  clear oAb oLb
  go_wp2_with fail
  refine (valid_i _ _ _ _ _ _ T.ases T.links _ (⟨oAb_5.rd, oLb_5.rd⟩ : Rt _ _ _ _ _ T).1 (⟨oAb_5.rd, oLb_5.rd⟩ : Rt _ _ _ _ _ T).2 oAb_5.le oLb_5.le hm hn).mono ?_
  rintro e w6 ⟨rfl, hb6⟩
  generalize validT T.ases T.links = vb
  have hvb : (!vb == vb) = false := by cases vb <;> rfl
  have s6 := hb6.size
  have B6 := B5.trans (hb6.mono S5)
  have S6 := B6.size
  have rt0_6 := rt0_5.below hb6 (Nat.le_refl _)
  have bxa6 := cell_keep0 bxa5 hb6
  have bxb6 := cell_keep0 bxb5 hb6
  clear bxa5 bxb5
  have oAb_6 := oAb_5.below hb6 (Nat.le_refl _)
  have oLb_6 := oLb_5.below hb6 (Nat.le_refl _)
  clear oAb_5 oLb_5
  have bba6 := cell_keep0 vba hb6
  have bbb6 := cell_keep0 vbb hb6
  clear vba vbb
  go_wp2_with fail
  go_region_held3 (fun w' => w'.cell? ⟨w.heap.size, 0, none⟩ = some (.slice A n c) ∧ w'.cell? ⟨w.heap.size, 1, none⟩ = some (.slice L m d) ∧ w'.cell? ⟨w4.heap.size, 0, none⟩ = some (.slice Ab n cb) ∧ w'.cell? ⟨w4.heap.size, 1, none⟩ = some (.slice Lb m db)) (first | exact ⟨bxa6, bxb6, bba6, bbb6⟩ | exact ⟨cell_keepD bxa6 hb7, cell_keepD bxb6 hb7, cell_keepD bba6 hb7, cell_keepD bbb6 hb7⟩ | exact ⟨cell_keep0 (cell_keepD bxa6 hb7) hb8, cell_keep0 (cell_keepD bxb6 hb7) hb8, cell_keep0 (cell_keepD bba6 hb7) hb8, cell_keep0 (cell_keepD bbb6 hb7) hb8⟩) (first | (go_at_call 11; refine (toTopology_any _ _ _ _ _ _ T _ ?_ hn hm).mono ?_; (first | exact rt0_6 | exact Rt.drew rt0_6 | exact Rt.drewN rt0_6 _); rintro e w7 ⟨Ac, cc, Lc, dc, rfl, oAc, oLc, hb7⟩) | (go_at_call 13; refine (eqTopology_same _ _ _ _ _ _ _ _ _ _ T _ (Rt.below (Rt.drew (⟨oAb_6.rd, oLb_6.rd⟩ : Rt _ _ _ _ _ T)) hb7 (Nat.le_refl _)) ⟨oAc.rd, oLc.rd⟩ hn hm).mono ?_; rintro e w8 ⟨rfl, hb8⟩))
  have hc8 : Below w6.heap.size w6 w8 := below_keep0 (below_keepD (Below.refl _ _) hb7) hb8
  clear oAc oLc hb7 hb8
  have s8 := hc8.size
  have B8 := B6.trans (hc8.mono S6)
  have S8 := B8.size
  have rt0_8 := rt0_6.below hc8 (Nat.le_refl _)
  have bxa8 := cell_keep0 bxa6 hc8
  have bxb8 := cell_keep0 bxb6 hc8
  clear bxa6 bxb6
  have oAb_8 := oAb_6.below hc8 (Nat.le_refl _)
  have oLb_8 := oLb_6.below hc8 (Nat.le_refl _)
  clear oAb_6 oLb_6
  have bba8 := cell_keep0 bba6 hc8
  have bbb8 := cell_keep0 bbb6 hc8
  clear bba6 bbb6
  go_wp2
  go_ret
  exact ⟨rfl, B8⟩
end Go.Proofs.Ythigpjkdmlkjmaa
