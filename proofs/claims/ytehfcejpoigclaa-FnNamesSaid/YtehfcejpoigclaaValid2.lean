/- Contracts of linkOk and l5LinkOk. -/
import Derived.Test.YtehfcejpoigclaaRows
import Derived.Test.YtehfcejpoigclaaMem
import Derived.Test.YtehfcejpoigclaaTopoMem
import Derived.Test.YtehfcejpoigclaaTopoPure
import Derived.Test.YtehfcejpoigclaaSetPure
import Derived.Test.YtehfcejpoigclaaRng
import Derived.Test.YtehfcejpoigclaaValidPure
import Derived.Test.YtehfcejpoigclaaValid1
import Derived.Deep.QuietTactic
import Derived.BigQuiet
import Derived.WalkSmall
import Derived.Deep.RegionHeld3
import Derived.StillTailTactics
import Derived.Outline
namespace Go.Proofs.Ytehfcejpoigclaa
open Go.RowKit
set_option linter.unusedVariables false

set_option maxHeartbeats 2000000 in
theorem linkOk_i (A : Option Addr) (n c : Nat) (L : Option Addr) (m d : Nat) (xs : List As) (l : Lk) (w : World) (hA : Ra w A n xs) (hn : n ≤ 1048576) :
    Calls Try.prog 56 #[.agg #[.slice A n c, .slice L m d], .agg #[.int .i64 l.a, .int .i64 l.ai, .int .i64 l.b, .int .i64 l.bi, .int .i64 l.kind]] w fun e w' => e = .returned (.bool (lkOk xs l)) ∧ Below w.heap.size w w' := by
  have hl := hA.len
  by_cases h1 : 0 ≤ l.a ∧ l.a ≤ (n : Int) - 1
  · have v1 : inR l.a 0 ((n : Int) - 1) = true := inR_true h1.1 h1.2
    by_cases h2 : 0 ≤ l.b ∧ l.b ≤ (n : Int) - 1
    · have v2 : inR l.b 0 ((n : Int) - 1) = true := inR_true h2.1 h2.2
      by_cases h3 : l.a < l.b
      · have v3 : decide (l.b ≤ l.a) = false := decide_eq_false (by omega)
        by_cases h4 : 1 ≤ l.ai ∧ l.ai ≤ 6
        · have v4 : inR l.ai 1 6 = true := inR_true h4.1 h4.2
          by_cases h5 : 1 ≤ l.bi ∧ l.bi ≤ 6
          · have v5 : inR l.bi 1 6 = true := inR_true h5.1 h5.2
            go_enter Try.func56, Try.ntmps56
            go_wp2_with fail
            generalize hw1 : w.alloc _ = w1
            have hs1 : w1.heap.size = w.heap.size + 1 := by rw [← hw1]; simp
            have z5 : w1.cell? ⟨w.heap.size, 0, none⟩ = some (.slice A n c) := by rw [← hw1]; simp
            have z6 : w1.cell? ⟨w.heap.size, 1, none⟩ = some (.slice L m d) := by rw [← hw1]; simp
            have hb1 : Below w.heap.size w w1 := by rw [← hw1]; exact (Below.refl _ _).alloc (Nat.le_refl _) _
            generalize hw2 : w1.alloc _ = w2
            have y0 : w2.cell? ⟨w.heap.size + 1, 0, none⟩ = some (.int .i64 l.a) := by rw [← hw2, ← hs1]; simp
            have y1 : w2.cell? ⟨w.heap.size + 1, 1, none⟩ = some (.int .i64 l.ai) := by rw [← hw2, ← hs1]; simp
            have y2 : w2.cell? ⟨w.heap.size + 1, 2, none⟩ = some (.int .i64 l.b) := by rw [← hw2, ← hs1]; simp
            have y3 : w2.cell? ⟨w.heap.size + 1, 3, none⟩ = some (.int .i64 l.bi) := by rw [← hw2, ← hs1]; simp
            have y4 : w2.cell? ⟨w.heap.size + 1, 4, none⟩ = some (.int .i64 l.kind) := by rw [← hw2, ← hs1]; simp
            have y5 : w2.cell? ⟨w.heap.size, 0, none⟩ = some (.slice A n c) := by rw [← hw2]; exact (World.cell?_alloc_lt w1 _ _ (by simp; omega)).trans z5
            have y6 : w2.cell? ⟨w.heap.size, 1, none⟩ = some (.slice L m d) := by rw [← hw2]; exact (World.cell?_alloc_lt w1 _ _ (by simp; omega)).trans z6
            have hb2 : Below w.heap.size w w2 := by rw [← hw2]; exact hb1.alloc (by omega) _
            clear hw1 hw2 hb1 z5 z6
            refine (isasV_i _ _ _ _ _ _ _ _ hn).mono ?_
            rintro e w3 ⟨rfl, hb3⟩
            rw [v1]
            have x0 := cell_keep0 y0 hb3
            have x1 := cell_keep0 y1 hb3
            have x2 := cell_keep0 y2 hb3
            have x3 := cell_keep0 y3 hb3
            have x4 := cell_keep0 y4 hb3
            have x5 := cell_keep0 y5 hb3
            have x6 := cell_keep0 y6 hb3
            have hB3 := below_keep0 hb2 hb3
            clear y0 y1 y2 y3 y4 y5 y6 hb2 hb3
            go_wp2_with fail
            refine (isasV_i _ _ _ _ _ _ _ _ hn).mono ?_
            rintro e w4 ⟨rfl, hb4⟩
            rw [v2]
            have u0 := cell_keep0 x0 hb4
            have u1 := cell_keep0 x1 hb4
            have u2 := cell_keep0 x2 hb4
            have u3 := cell_keep0 x3 hb4
            have u4 := cell_keep0 x4 hb4
            have u5 := cell_keep0 x5 hb4
            have u6 := cell_keep0 x6 hb4
            have hB4 := below_keep0 hB3 hb4
            clear x0 x1 x2 x3 x4 x5 x6 hb4 hB3
            obtain ⟨ia, eia⟩ := Int.eq_ofNat_of_zero_le h1.1
            obtain ⟨ib, eib⟩ := Int.eq_ofNat_of_zero_le h2.1
            have hA4 := hA.below hB4 (Nat.le_refl _)
            obtain ⟨b, off, x, rfl, hx0, a0, a1, a2⟩ := hA4.get (i := ia) (by omega)
            obtain ⟨b', off', y, e', hy0, b0, b1, b2⟩ := hA4.get (i := ib) (by omega)
            injection e' with e'
            injection e' with e1 e2
            subst e1
            subst e2
            have hblt : b < w4.heap.size := World.block_lt_of_cell? w4 _ a0
            have hs4 := hB4.size
            have hw1lt : w.heap.size + 1 < w4.heap.size := World.block_lt_of_cell? w4 _ u0
            have f1 : w.heap.size < w4.heap.size := by omega
            have f3 : w.heap.size < w4.heap.size + 1 := by omega
            have f4 : w.heap.size + 1 < w4.heap.size + 1 := by omega
            have f5 : b < w4.heap.size + 1 := by omega
            have HOK := Lib.hid (lkOk_in (xs := xs) (l := l) (a := x) (b := y) (by omega) (by rw [eia]; exact hx0) (by rw [eib]; exact hy0))
            have i1 : (0 : Int) ≤ (ia : Int) := by omega
            have i2 : (ia : Int) < (n : Int) := by omega
            have i3 : (0 : Int) ≤ (ib : Int) := by omega
            have i4 : (ib : Int) < (n : Int) := by omega
            clear hx0 hy0 hA hA4
            rw [eia] at u0 v3
            rw [eib] at u2 v3
            by_cases k1 : l.kind = 1
            · have HK : Hid (kdOk l.kind x y = (x.core && y.core)) := Lib.hid (by simp [kdOk, k1])
              rw [k1] at u4
              go_wp2_with (first | (go_at_call 54; refine (inRg_i _ _ _ _).mono ?_; rintro e w' ⟨rfl, rfl⟩))
              have n0 := World.new_ne w4 ⟨w.heap.size + 1, 0, none⟩ u0
              have n2 := World.new_ne w4 ⟨w.heap.size + 1, 2, none⟩ u2
              have n4 := World.new_ne w4 ⟨w.heap.size + 1, 4, none⟩ u4
              have n5 := World.new_ne w4 ⟨w.heap.size, 0, none⟩ u5
              have na := World.new_ne w4 _ a0
              go_region_held3 (fun w' => w'.cell? ⟨w.heap.size, 0, none⟩ = some (.slice (some ⟨b, off, none⟩) n c) ∧ w'.cell? ⟨w.heap.size + 1, 0, none⟩ = some (.int .i64 (ia : Int)) ∧ w'.cell? ⟨w.heap.size + 1, 2, none⟩ = some (.int .i64 (ib : Int)) ∧ w'.cell? ⟨b, off + ia * 3, none⟩ = some (.int .i64 x.isd) ∧ w'.cell? ⟨b, off + ia * 3 + 1, none⟩ = some (.bool x.core) ∧ w'.cell? ⟨b, off + ia * 3 + 2, none⟩ = some (.int .i64 x.key) ∧ w'.cell? ⟨b, off + ib * 3, none⟩ = some (.int .i64 y.isd) ∧ w'.cell? ⟨b, off + ib * 3 + 1, none⟩ = some (.bool y.core) ∧ w'.cell? ⟨b, off + ib * 3 + 2, none⟩ = some (.int .i64 y.key)) (first | exact ⟨u5, u0, u2, a0, a1, a2, b0, b1, b2⟩ | go_keep) (fail)
              all_goals go_wp2
              all_goals go_ret
              all_goals exact ⟨ret_boolV (by rw [← HOK.out, HK.out] <;> first | rfl | simp_all), ((hB4.alloc hs4 _).alloc (Nat.le_trans hs4 (by simp)) _).drew⟩
            have qk1 : (l.kind == 1) = false := by simpa using k1
            by_cases k2 : l.kind = 2
            · have HK : Hid (kdOk l.kind x y = ((x.isd == y.isd) && !y.core)) := Lib.hid (by simp [kdOk, k2])
              rw [k2] at u4
              go_wp2_with (first | (go_at_call 54; refine (inRg_i _ _ _ _).mono ?_; rintro e w' ⟨rfl, rfl⟩))
              have n0 := World.new_ne w4 ⟨w.heap.size + 1, 0, none⟩ u0
              have n2 := World.new_ne w4 ⟨w.heap.size + 1, 2, none⟩ u2
              have n4 := World.new_ne w4 ⟨w.heap.size + 1, 4, none⟩ u4
              have n5 := World.new_ne w4 ⟨w.heap.size, 0, none⟩ u5
              have na := World.new_ne w4 _ a0
              go_region_held3 (fun w' => w'.cell? ⟨w.heap.size, 0, none⟩ = some (.slice (some ⟨b, off, none⟩) n c) ∧ w'.cell? ⟨w.heap.size + 1, 0, none⟩ = some (.int .i64 (ia : Int)) ∧ w'.cell? ⟨w.heap.size + 1, 2, none⟩ = some (.int .i64 (ib : Int)) ∧ w'.cell? ⟨b, off + ia * 3, none⟩ = some (.int .i64 x.isd) ∧ w'.cell? ⟨b, off + ia * 3 + 1, none⟩ = some (.bool x.core) ∧ w'.cell? ⟨b, off + ia * 3 + 2, none⟩ = some (.int .i64 x.key) ∧ w'.cell? ⟨b, off + ib * 3, none⟩ = some (.int .i64 y.isd) ∧ w'.cell? ⟨b, off + ib * 3 + 1, none⟩ = some (.bool y.core) ∧ w'.cell? ⟨b, off + ib * 3 + 2, none⟩ = some (.int .i64 y.key)) (first | exact ⟨u5, u0, u2, a0, a1, a2, b0, b1, b2⟩ | go_keep) (fail)
              all_goals go_wp2
              all_goals go_ret
              all_goals exact ⟨ret_boolV (by rw [← HOK.out, HK.out] <;> first | rfl | simp_all), ((hB4.alloc hs4 _).alloc (Nat.le_trans hs4 (by simp)) _).drew⟩
            have qk2 : (l.kind == 2) = false := by simpa using k2
            by_cases k3 : l.kind = 3
            · have HK : Hid (kdOk l.kind x y = (!x.core && !y.core)) := Lib.hid (by simp [kdOk, k3])
              rw [k3] at u4
              go_wp2_with (first | (go_at_call 54; refine (inRg_i _ _ _ _).mono ?_; rintro e w' ⟨rfl, rfl⟩))
              have n0 := World.new_ne w4 ⟨w.heap.size + 1, 0, none⟩ u0
              have n2 := World.new_ne w4 ⟨w.heap.size + 1, 2, none⟩ u2
              have n4 := World.new_ne w4 ⟨w.heap.size + 1, 4, none⟩ u4
              have n5 := World.new_ne w4 ⟨w.heap.size, 0, none⟩ u5
              have na := World.new_ne w4 _ a0
              go_region_held3 (fun w' => w'.cell? ⟨w.heap.size, 0, none⟩ = some (.slice (some ⟨b, off, none⟩) n c) ∧ w'.cell? ⟨w.heap.size + 1, 0, none⟩ = some (.int .i64 (ia : Int)) ∧ w'.cell? ⟨w.heap.size + 1, 2, none⟩ = some (.int .i64 (ib : Int)) ∧ w'.cell? ⟨b, off + ia * 3, none⟩ = some (.int .i64 x.isd) ∧ w'.cell? ⟨b, off + ia * 3 + 1, none⟩ = some (.bool x.core) ∧ w'.cell? ⟨b, off + ia * 3 + 2, none⟩ = some (.int .i64 x.key) ∧ w'.cell? ⟨b, off + ib * 3, none⟩ = some (.int .i64 y.isd) ∧ w'.cell? ⟨b, off + ib * 3 + 1, none⟩ = some (.bool y.core) ∧ w'.cell? ⟨b, off + ib * 3 + 2, none⟩ = some (.int .i64 y.key)) (first | exact ⟨u5, u0, u2, a0, a1, a2, b0, b1, b2⟩ | go_keep) (fail)
              all_goals go_wp2
              all_goals go_ret
              all_goals exact ⟨ret_boolV (by rw [← HOK.out, HK.out] <;> first | rfl | simp_all), ((hB4.alloc hs4 _).alloc (Nat.le_trans hs4 (by simp)) _).drew⟩
            have qk3 : (l.kind == 3) = false := by simpa using k3
            have HK : Hid (kdOk l.kind x y = false) := Lib.hid (by simp [kdOk, k1, k2, k3])
            go_wp2_with (first | (go_at_call 54; refine (inRg_i _ _ _ _).mono ?_; rintro e w' ⟨rfl, rfl⟩))
            have n0 := World.new_ne w4 ⟨w.heap.size + 1, 0, none⟩ u0
            have n2 := World.new_ne w4 ⟨w.heap.size + 1, 2, none⟩ u2
            have n4 := World.new_ne w4 ⟨w.heap.size + 1, 4, none⟩ u4
            have n5 := World.new_ne w4 ⟨w.heap.size, 0, none⟩ u5
            have na := World.new_ne w4 _ a0
            go_region_held3 (fun w' => w'.cell? ⟨w.heap.size, 0, none⟩ = some (.slice (some ⟨b, off, none⟩) n c) ∧ w'.cell? ⟨w.heap.size + 1, 0, none⟩ = some (.int .i64 (ia : Int)) ∧ w'.cell? ⟨w.heap.size + 1, 2, none⟩ = some (.int .i64 (ib : Int)) ∧ w'.cell? ⟨b, off + ia * 3, none⟩ = some (.int .i64 x.isd) ∧ w'.cell? ⟨b, off + ia * 3 + 1, none⟩ = some (.bool x.core) ∧ w'.cell? ⟨b, off + ia * 3 + 2, none⟩ = some (.int .i64 x.key) ∧ w'.cell? ⟨b, off + ib * 3, none⟩ = some (.int .i64 y.isd) ∧ w'.cell? ⟨b, off + ib * 3 + 1, none⟩ = some (.bool y.core) ∧ w'.cell? ⟨b, off + ib * 3 + 2, none⟩ = some (.int .i64 y.key)) (first | exact ⟨u5, u0, u2, a0, a1, a2, b0, b1, b2⟩ | go_keep) (fail)
            all_goals go_wp2
            all_goals go_ret
            all_goals exact ⟨ret_boolV (by rw [← HOK.out, HK.out] <;> first | rfl | simp_all), ((hB4.alloc hs4 _).alloc (Nat.le_trans hs4 (by simp)) _).drew⟩
          · have v5 : inR l.bi 1 6 = false := by rw [Bool.eq_false_iff]; intro hh; exact h5 (inR_iff.1 hh)
            go_enter Try.func56, Try.ntmps56
            go_wp2_with fail
            generalize hw1 : w.alloc _ = w1
            have hs1 : w1.heap.size = w.heap.size + 1 := by rw [← hw1]; simp
            have z5 : w1.cell? ⟨w.heap.size, 0, none⟩ = some (.slice A n c) := by rw [← hw1]; simp
            have z6 : w1.cell? ⟨w.heap.size, 1, none⟩ = some (.slice L m d) := by rw [← hw1]; simp
            have hb1 : Below w.heap.size w w1 := by rw [← hw1]; exact (Below.refl _ _).alloc (Nat.le_refl _) _
            generalize hw2 : w1.alloc _ = w2
            have y0 : w2.cell? ⟨w.heap.size + 1, 0, none⟩ = some (.int .i64 l.a) := by rw [← hw2, ← hs1]; simp
            have y1 : w2.cell? ⟨w.heap.size + 1, 1, none⟩ = some (.int .i64 l.ai) := by rw [← hw2, ← hs1]; simp
            have y2 : w2.cell? ⟨w.heap.size + 1, 2, none⟩ = some (.int .i64 l.b) := by rw [← hw2, ← hs1]; simp
            have y3 : w2.cell? ⟨w.heap.size + 1, 3, none⟩ = some (.int .i64 l.bi) := by rw [← hw2, ← hs1]; simp
            have y4 : w2.cell? ⟨w.heap.size + 1, 4, none⟩ = some (.int .i64 l.kind) := by rw [← hw2, ← hs1]; simp
            have y5 : w2.cell? ⟨w.heap.size, 0, none⟩ = some (.slice A n c) := by rw [← hw2]; exact (World.cell?_alloc_lt w1 _ _ (by simp; omega)).trans z5
            have y6 : w2.cell? ⟨w.heap.size, 1, none⟩ = some (.slice L m d) := by rw [← hw2]; exact (World.cell?_alloc_lt w1 _ _ (by simp; omega)).trans z6
            have hb2 : Below w.heap.size w w2 := by rw [← hw2]; exact hb1.alloc (by omega) _
            clear hw1 hw2 hb1 z5 z6
            refine (isasV_i _ _ _ _ _ _ _ _ hn).mono ?_
            rintro e w3 ⟨rfl, hb3⟩
            rw [v1]
            have x0 := cell_keep0 y0 hb3
            have x1 := cell_keep0 y1 hb3
            have x2 := cell_keep0 y2 hb3
            have x3 := cell_keep0 y3 hb3
            have x4 := cell_keep0 y4 hb3
            have x5 := cell_keep0 y5 hb3
            have x6 := cell_keep0 y6 hb3
            have hB3 := below_keep0 hb2 hb3
            clear y0 y1 y2 y3 y4 y5 y6 hb2 hb3
            go_wp2_with fail
            refine (isasV_i _ _ _ _ _ _ _ _ hn).mono ?_
            rintro e w4 ⟨rfl, hb4⟩
            rw [v2]
            have u0 := cell_keep0 x0 hb4
            have u1 := cell_keep0 x1 hb4
            have u2 := cell_keep0 x2 hb4
            have u3 := cell_keep0 x3 hb4
            have u4 := cell_keep0 x4 hb4
            have u5 := cell_keep0 x5 hb4
            have u6 := cell_keep0 x6 hb4
            have hB4 := below_keep0 hB3 hb4
            clear x0 x1 x2 x3 x4 x5 x6 hb4 hB3
            go_wp2_with (first | (go_at_call 54; refine (inRg_i _ _ _ _).mono ?_; rintro e w' ⟨rfl, rfl⟩))
            go_ret
            exact ⟨ret_boolV (lkOk_out (by omega)), hB4⟩
        · have v4 : inR l.ai 1 6 = false := by rw [Bool.eq_false_iff]; intro hh; exact h4 (inR_iff.1 hh)
          go_enter Try.func56, Try.ntmps56
          go_wp2_with fail
          generalize hw1 : w.alloc _ = w1
          have hs1 : w1.heap.size = w.heap.size + 1 := by rw [← hw1]; simp
          have z5 : w1.cell? ⟨w.heap.size, 0, none⟩ = some (.slice A n c) := by rw [← hw1]; simp
          have z6 : w1.cell? ⟨w.heap.size, 1, none⟩ = some (.slice L m d) := by rw [← hw1]; simp
          have hb1 : Below w.heap.size w w1 := by rw [← hw1]; exact (Below.refl _ _).alloc (Nat.le_refl _) _
          generalize hw2 : w1.alloc _ = w2
          have y0 : w2.cell? ⟨w.heap.size + 1, 0, none⟩ = some (.int .i64 l.a) := by rw [← hw2, ← hs1]; simp
          have y1 : w2.cell? ⟨w.heap.size + 1, 1, none⟩ = some (.int .i64 l.ai) := by rw [← hw2, ← hs1]; simp
          have y2 : w2.cell? ⟨w.heap.size + 1, 2, none⟩ = some (.int .i64 l.b) := by rw [← hw2, ← hs1]; simp
          have y3 : w2.cell? ⟨w.heap.size + 1, 3, none⟩ = some (.int .i64 l.bi) := by rw [← hw2, ← hs1]; simp
          have y4 : w2.cell? ⟨w.heap.size + 1, 4, none⟩ = some (.int .i64 l.kind) := by rw [← hw2, ← hs1]; simp
          have y5 : w2.cell? ⟨w.heap.size, 0, none⟩ = some (.slice A n c) := by rw [← hw2]; exact (World.cell?_alloc_lt w1 _ _ (by simp; omega)).trans z5
          have y6 : w2.cell? ⟨w.heap.size, 1, none⟩ = some (.slice L m d) := by rw [← hw2]; exact (World.cell?_alloc_lt w1 _ _ (by simp; omega)).trans z6
          have hb2 : Below w.heap.size w w2 := by rw [← hw2]; exact hb1.alloc (by omega) _
          clear hw1 hw2 hb1 z5 z6
          refine (isasV_i _ _ _ _ _ _ _ _ hn).mono ?_
          rintro e w3 ⟨rfl, hb3⟩
          rw [v1]
          have x0 := cell_keep0 y0 hb3
          have x1 := cell_keep0 y1 hb3
          have x2 := cell_keep0 y2 hb3
          have x3 := cell_keep0 y3 hb3
          have x4 := cell_keep0 y4 hb3
          have x5 := cell_keep0 y5 hb3
          have x6 := cell_keep0 y6 hb3
          have hB3 := below_keep0 hb2 hb3
          clear y0 y1 y2 y3 y4 y5 y6 hb2 hb3
          go_wp2_with fail
          refine (isasV_i _ _ _ _ _ _ _ _ hn).mono ?_
          rintro e w4 ⟨rfl, hb4⟩
          rw [v2]
          have u0 := cell_keep0 x0 hb4
          have u1 := cell_keep0 x1 hb4
          have u2 := cell_keep0 x2 hb4
          have u3 := cell_keep0 x3 hb4
          have u4 := cell_keep0 x4 hb4
          have u5 := cell_keep0 x5 hb4
          have u6 := cell_keep0 x6 hb4
          have hB4 := below_keep0 hB3 hb4
          clear x0 x1 x2 x3 x4 x5 x6 hb4 hB3
          go_wp2_with (first | (go_at_call 54; refine (inRg_i _ _ _ _).mono ?_; rintro e w' ⟨rfl, rfl⟩))
          go_ret
          exact ⟨ret_boolV (lkOk_out (by omega)), hB4⟩
      · have v3 : decide (l.b ≤ l.a) = true := decide_eq_true (by omega)
        go_enter Try.func56, Try.ntmps56
        go_wp2_with fail
        generalize hw1 : w.alloc _ = w1
        have hs1 : w1.heap.size = w.heap.size + 1 := by rw [← hw1]; simp
        have z5 : w1.cell? ⟨w.heap.size, 0, none⟩ = some (.slice A n c) := by rw [← hw1]; simp
        have z6 : w1.cell? ⟨w.heap.size, 1, none⟩ = some (.slice L m d) := by rw [← hw1]; simp
        have hb1 : Below w.heap.size w w1 := by rw [← hw1]; exact (Below.refl _ _).alloc (Nat.le_refl _) _
        generalize hw2 : w1.alloc _ = w2
        have y0 : w2.cell? ⟨w.heap.size + 1, 0, none⟩ = some (.int .i64 l.a) := by rw [← hw2, ← hs1]; simp
        have y1 : w2.cell? ⟨w.heap.size + 1, 1, none⟩ = some (.int .i64 l.ai) := by rw [← hw2, ← hs1]; simp
        have y2 : w2.cell? ⟨w.heap.size + 1, 2, none⟩ = some (.int .i64 l.b) := by rw [← hw2, ← hs1]; simp
        have y3 : w2.cell? ⟨w.heap.size + 1, 3, none⟩ = some (.int .i64 l.bi) := by rw [← hw2, ← hs1]; simp
        have y4 : w2.cell? ⟨w.heap.size + 1, 4, none⟩ = some (.int .i64 l.kind) := by rw [← hw2, ← hs1]; simp
        have y5 : w2.cell? ⟨w.heap.size, 0, none⟩ = some (.slice A n c) := by rw [← hw2]; exact (World.cell?_alloc_lt w1 _ _ (by simp; omega)).trans z5
        have y6 : w2.cell? ⟨w.heap.size, 1, none⟩ = some (.slice L m d) := by rw [← hw2]; exact (World.cell?_alloc_lt w1 _ _ (by simp; omega)).trans z6
        have hb2 : Below w.heap.size w w2 := by rw [← hw2]; exact hb1.alloc (by omega) _
        clear hw1 hw2 hb1 z5 z6
        refine (isasV_i _ _ _ _ _ _ _ _ hn).mono ?_
        rintro e w3 ⟨rfl, hb3⟩
        rw [v1]
        have x0 := cell_keep0 y0 hb3
        have x1 := cell_keep0 y1 hb3
        have x2 := cell_keep0 y2 hb3
        have x3 := cell_keep0 y3 hb3
        have x4 := cell_keep0 y4 hb3
        have x5 := cell_keep0 y5 hb3
        have x6 := cell_keep0 y6 hb3
        have hB3 := below_keep0 hb2 hb3
        clear y0 y1 y2 y3 y4 y5 y6 hb2 hb3
        go_wp2_with fail
        refine (isasV_i _ _ _ _ _ _ _ _ hn).mono ?_
        rintro e w4 ⟨rfl, hb4⟩
        rw [v2]
        have u0 := cell_keep0 x0 hb4
        have u1 := cell_keep0 x1 hb4
        have u2 := cell_keep0 x2 hb4
        have u3 := cell_keep0 x3 hb4
        have u4 := cell_keep0 x4 hb4
        have u5 := cell_keep0 x5 hb4
        have u6 := cell_keep0 x6 hb4
        have hB4 := below_keep0 hB3 hb4
        clear x0 x1 x2 x3 x4 x5 x6 hb4 hB3
        go_wp2_with (first | (go_at_call 54; refine (inRg_i _ _ _ _).mono ?_; rintro e w' ⟨rfl, rfl⟩))
        go_ret
        exact ⟨ret_boolV (lkOk_out (by omega)), hB4⟩
    · have v2 : inR l.b 0 ((n : Int) - 1) = false := by rw [Bool.eq_false_iff]; intro hh; exact h2 (inR_iff.1 hh)
      go_enter Try.func56, Try.ntmps56
      go_wp2_with fail
      generalize hw1 : w.alloc _ = w1
      have hs1 : w1.heap.size = w.heap.size + 1 := by rw [← hw1]; simp
      have z5 : w1.cell? ⟨w.heap.size, 0, none⟩ = some (.slice A n c) := by rw [← hw1]; simp
      have z6 : w1.cell? ⟨w.heap.size, 1, none⟩ = some (.slice L m d) := by rw [← hw1]; simp
      have hb1 : Below w.heap.size w w1 := by rw [← hw1]; exact (Below.refl _ _).alloc (Nat.le_refl _) _
      generalize hw2 : w1.alloc _ = w2
      have y0 : w2.cell? ⟨w.heap.size + 1, 0, none⟩ = some (.int .i64 l.a) := by rw [← hw2, ← hs1]; simp
      have y1 : w2.cell? ⟨w.heap.size + 1, 1, none⟩ = some (.int .i64 l.ai) := by rw [← hw2, ← hs1]; simp
      have y2 : w2.cell? ⟨w.heap.size + 1, 2, none⟩ = some (.int .i64 l.b) := by rw [← hw2, ← hs1]; simp
      have y3 : w2.cell? ⟨w.heap.size + 1, 3, none⟩ = some (.int .i64 l.bi) := by rw [← hw2, ← hs1]; simp
      have y4 : w2.cell? ⟨w.heap.size + 1, 4, none⟩ = some (.int .i64 l.kind) := by rw [← hw2, ← hs1]; simp
      have y5 : w2.cell? ⟨w.heap.size, 0, none⟩ = some (.slice A n c) := by rw [← hw2]; exact (World.cell?_alloc_lt w1 _ _ (by simp; omega)).trans z5
      have y6 : w2.cell? ⟨w.heap.size, 1, none⟩ = some (.slice L m d) := by rw [← hw2]; exact (World.cell?_alloc_lt w1 _ _ (by simp; omega)).trans z6
      have hb2 : Below w.heap.size w w2 := by rw [← hw2]; exact hb1.alloc (by omega) _
      clear hw1 hw2 hb1 z5 z6
      refine (isasV_i _ _ _ _ _ _ _ _ hn).mono ?_
      rintro e w3 ⟨rfl, hb3⟩
      rw [v1]
      have x0 := cell_keep0 y0 hb3
      have x1 := cell_keep0 y1 hb3
      have x2 := cell_keep0 y2 hb3
      have x3 := cell_keep0 y3 hb3
      have x4 := cell_keep0 y4 hb3
      have x5 := cell_keep0 y5 hb3
      have x6 := cell_keep0 y6 hb3
      have hB3 := below_keep0 hb2 hb3
      clear y0 y1 y2 y3 y4 y5 y6 hb2 hb3
      go_wp2_with fail
      refine (isasV_i _ _ _ _ _ _ _ _ hn).mono ?_
      rintro e w4 ⟨rfl, hb4⟩
      rw [v2]
      have u0 := cell_keep0 x0 hb4
      have u1 := cell_keep0 x1 hb4
      have u2 := cell_keep0 x2 hb4
      have u3 := cell_keep0 x3 hb4
      have u4 := cell_keep0 x4 hb4
      have u5 := cell_keep0 x5 hb4
      have u6 := cell_keep0 x6 hb4
      have hB4 := below_keep0 hB3 hb4
      clear x0 x1 x2 x3 x4 x5 x6 hb4 hB3
      go_wp2_with (first | (go_at_call 54; refine (inRg_i _ _ _ _).mono ?_; rintro e w' ⟨rfl, rfl⟩))
      go_ret
      exact ⟨ret_boolV (lkOk_out (by omega)), hB4⟩
  · have v1 : inR l.a 0 ((n : Int) - 1) = false := by rw [Bool.eq_false_iff]; intro hh; exact h1 (inR_iff.1 hh)
    go_enter Try.func56, Try.ntmps56
    go_wp2_with fail
    generalize hw1 : w.alloc _ = w1
    have hs1 : w1.heap.size = w.heap.size + 1 := by rw [← hw1]; simp
    have z5 : w1.cell? ⟨w.heap.size, 0, none⟩ = some (.slice A n c) := by rw [← hw1]; simp
    have z6 : w1.cell? ⟨w.heap.size, 1, none⟩ = some (.slice L m d) := by rw [← hw1]; simp
    have hb1 : Below w.heap.size w w1 := by rw [← hw1]; exact (Below.refl _ _).alloc (Nat.le_refl _) _
    generalize hw2 : w1.alloc _ = w2
    have y0 : w2.cell? ⟨w.heap.size + 1, 0, none⟩ = some (.int .i64 l.a) := by rw [← hw2, ← hs1]; simp
    have y1 : w2.cell? ⟨w.heap.size + 1, 1, none⟩ = some (.int .i64 l.ai) := by rw [← hw2, ← hs1]; simp
    have y2 : w2.cell? ⟨w.heap.size + 1, 2, none⟩ = some (.int .i64 l.b) := by rw [← hw2, ← hs1]; simp
    have y3 : w2.cell? ⟨w.heap.size + 1, 3, none⟩ = some (.int .i64 l.bi) := by rw [← hw2, ← hs1]; simp
    have y4 : w2.cell? ⟨w.heap.size + 1, 4, none⟩ = some (.int .i64 l.kind) := by rw [← hw2, ← hs1]; simp
    have y5 : w2.cell? ⟨w.heap.size, 0, none⟩ = some (.slice A n c) := by rw [← hw2]; exact (World.cell?_alloc_lt w1 _ _ (by simp; omega)).trans z5
    have y6 : w2.cell? ⟨w.heap.size, 1, none⟩ = some (.slice L m d) := by rw [← hw2]; exact (World.cell?_alloc_lt w1 _ _ (by simp; omega)).trans z6
    have hb2 : Below w.heap.size w w2 := by rw [← hw2]; exact hb1.alloc (by omega) _
    clear hw1 hw2 hb1 z5 z6
    refine (isasV_i _ _ _ _ _ _ _ _ hn).mono ?_
    rintro e w3 ⟨rfl, hb3⟩
    rw [v1]
    have x0 := cell_keep0 y0 hb3
    have x1 := cell_keep0 y1 hb3
    have x2 := cell_keep0 y2 hb3
    have x3 := cell_keep0 y3 hb3
    have x4 := cell_keep0 y4 hb3
    have x5 := cell_keep0 y5 hb3
    have x6 := cell_keep0 y6 hb3
    have hB3 := below_keep0 hb2 hb3
    clear y0 y1 y2 y3 y4 y5 y6 hb2 hb3
    go_wp2_with (first | (go_at_call 54; refine (inRg_i _ _ _ _).mono ?_; rintro e w' ⟨rfl, rfl⟩))
    go_ret
    exact ⟨ret_boolV (lkOk_out (by omega)), hB3⟩
set_option maxHeartbeats 2000000 in
theorem linkOk_s (A : Option Addr) (n c : Nat) (L : Option Addr) (m d : Nat) (xs : List As) (l : Lk) (w : World) (hA : Ra w A n xs) (hn : n ≤ 1048576) :
    Calls Try.prog 59 #[.agg #[.slice A n c, .slice L m d], .agg #[.int .i64 l.a, .int .i64 l.ai, .int .i64 l.b, .int .i64 l.bi, .int .i64 l.kind]] w fun e w' => e = .returned (.bool (lkOk xs l)) ∧ Below w.heap.size w w' := by
  have hl := hA.len
  by_cases h1 : 0 ≤ l.a ∧ l.a ≤ (n : Int) - 1
  · have v1 : inR l.a 0 ((n : Int) - 1) = true := inR_true h1.1 h1.2
    by_cases h2 : 0 ≤ l.b ∧ l.b ≤ (n : Int) - 1
    · have v2 : inR l.b 0 ((n : Int) - 1) = true := inR_true h2.1 h2.2
      by_cases h3 : l.a < l.b
      · have v3 : decide (l.b ≤ l.a) = false := decide_eq_false (by omega)
        by_cases h4 : 1 ≤ l.ai ∧ l.ai ≤ 6
        · have v4 : inR l.ai 1 6 = true := inR_true h4.1 h4.2
          by_cases h5 : 1 ≤ l.bi ∧ l.bi ≤ 6
          · have v5 : inR l.bi 1 6 = true := inR_true h5.1 h5.2
            go_enter Try.func59, Try.ntmps59
            go_wp2_with fail
            generalize hw1 : w.alloc _ = w1
            have hs1 : w1.heap.size = w.heap.size + 1 := by rw [← hw1]; simp
            have z5 : w1.cell? ⟨w.heap.size, 0, none⟩ = some (.slice A n c) := by rw [← hw1]; simp
            have z6 : w1.cell? ⟨w.heap.size, 1, none⟩ = some (.slice L m d) := by rw [← hw1]; simp
            have hb1 : Below w.heap.size w w1 := by rw [← hw1]; exact (Below.refl _ _).alloc (Nat.le_refl _) _
            generalize hw2 : w1.alloc _ = w2
            have y0 : w2.cell? ⟨w.heap.size + 1, 0, none⟩ = some (.int .i64 l.a) := by rw [← hw2, ← hs1]; simp
            have y1 : w2.cell? ⟨w.heap.size + 1, 1, none⟩ = some (.int .i64 l.ai) := by rw [← hw2, ← hs1]; simp
            have y2 : w2.cell? ⟨w.heap.size + 1, 2, none⟩ = some (.int .i64 l.b) := by rw [← hw2, ← hs1]; simp
            have y3 : w2.cell? ⟨w.heap.size + 1, 3, none⟩ = some (.int .i64 l.bi) := by rw [← hw2, ← hs1]; simp
            have y4 : w2.cell? ⟨w.heap.size + 1, 4, none⟩ = some (.int .i64 l.kind) := by rw [← hw2, ← hs1]; simp
            have y5 : w2.cell? ⟨w.heap.size, 0, none⟩ = some (.slice A n c) := by rw [← hw2]; exact (World.cell?_alloc_lt w1 _ _ (by simp; omega)).trans z5
            have y6 : w2.cell? ⟨w.heap.size, 1, none⟩ = some (.slice L m d) := by rw [← hw2]; exact (World.cell?_alloc_lt w1 _ _ (by simp; omega)).trans z6
            have hb2 : Below w.heap.size w w2 := by rw [← hw2]; exact hb1.alloc (by omega) _
            clear hw1 hw2 hb1 z5 z6
            refine (isasV_s _ _ _ _ _ _ _ _ hn).mono ?_
            rintro e w3 ⟨rfl, hb3⟩
            rw [v1]
            have x0 := cell_keep0 y0 hb3
            have x1 := cell_keep0 y1 hb3
            have x2 := cell_keep0 y2 hb3
            have x3 := cell_keep0 y3 hb3
            have x4 := cell_keep0 y4 hb3
            have x5 := cell_keep0 y5 hb3
            have x6 := cell_keep0 y6 hb3
            have hB3 := below_keep0 hb2 hb3
            clear y0 y1 y2 y3 y4 y5 y6 hb2 hb3
            go_wp2_with fail
            refine (isasV_s _ _ _ _ _ _ _ _ hn).mono ?_
            rintro e w4 ⟨rfl, hb4⟩
            rw [v2]
            have u0 := cell_keep0 x0 hb4
            have u1 := cell_keep0 x1 hb4
            have u2 := cell_keep0 x2 hb4
            have u3 := cell_keep0 x3 hb4
            have u4 := cell_keep0 x4 hb4
            have u5 := cell_keep0 x5 hb4
            have u6 := cell_keep0 x6 hb4
            have hB4 := below_keep0 hB3 hb4
            clear x0 x1 x2 x3 x4 x5 x6 hb4 hB3
            obtain ⟨ia, eia⟩ := Int.eq_ofNat_of_zero_le h1.1
            obtain ⟨ib, eib⟩ := Int.eq_ofNat_of_zero_le h2.1
            have hA4 := hA.below hB4 (Nat.le_refl _)
            obtain ⟨b, off, x, rfl, hx0, a0, a1, a2⟩ := hA4.get (i := ia) (by omega)
            obtain ⟨b', off', y, e', hy0, b0, b1, b2⟩ := hA4.get (i := ib) (by omega)
            injection e' with e'
            injection e' with e1 e2
            subst e1
            subst e2
            have hblt : b < w4.heap.size := World.block_lt_of_cell? w4 _ a0
            have hs4 := hB4.size
            have hw1lt : w.heap.size + 1 < w4.heap.size := World.block_lt_of_cell? w4 _ u0
            have f1 : w.heap.size < w4.heap.size := by omega
            have f3 : w.heap.size < w4.heap.size + 1 := by omega
            have f4 : w.heap.size + 1 < w4.heap.size + 1 := by omega
            have f5 : b < w4.heap.size + 1 := by omega
            have HOK := Lib.hid (lkOk_in (xs := xs) (l := l) (a := x) (b := y) (by omega) (by rw [eia]; exact hx0) (by rw [eib]; exact hy0))
            have i1 : (0 : Int) ≤ (ia : Int) := by omega
            have i2 : (ia : Int) < (n : Int) := by omega
            have i3 : (0 : Int) ≤ (ib : Int) := by omega
            have i4 : (ib : Int) < (n : Int) := by omega
            clear hx0 hy0 hA hA4
            rw [eia] at u0 v3
            rw [eib] at u2 v3
            by_cases k1 : l.kind = 1
            · have HK : Hid (kdOk l.kind x y = (x.core && y.core)) := Lib.hid (by simp [kdOk, k1])
              rw [k1] at u4
              go_wp2_with (first | (go_at_call 57; refine (inRg_s _ _ _ _).mono ?_; rintro e w' ⟨rfl, rfl⟩))
              all_goals go_ret
              all_goals exact ⟨ret_boolV (by rw [← HOK.out, HK.out] <;> first | rfl | simp_all), (hB4.alloc hs4 _).alloc (Nat.le_trans hs4 (by simp)) _⟩
            have qk1 : (l.kind == 1) = false := by simpa using k1
            by_cases k2 : l.kind = 2
            · have HK : Hid (kdOk l.kind x y = ((x.isd == y.isd) && !y.core)) := Lib.hid (by simp [kdOk, k2])
              rw [k2] at u4
              go_wp2_with (first | (go_at_call 57; refine (inRg_s _ _ _ _).mono ?_; rintro e w' ⟨rfl, rfl⟩))
              all_goals go_ret
              all_goals exact ⟨ret_boolV (by rw [← HOK.out, HK.out] <;> first | rfl | simp_all), (hB4.alloc hs4 _).alloc (Nat.le_trans hs4 (by simp)) _⟩
            have qk2 : (l.kind == 2) = false := by simpa using k2
            by_cases k3 : l.kind = 3
            · have HK : Hid (kdOk l.kind x y = (!x.core && !y.core)) := Lib.hid (by simp [kdOk, k3])
              rw [k3] at u4
              go_wp2_with (first | (go_at_call 57; refine (inRg_s _ _ _ _).mono ?_; rintro e w' ⟨rfl, rfl⟩))
              all_goals go_ret
              all_goals exact ⟨ret_boolV (by rw [← HOK.out, HK.out] <;> first | rfl | simp_all), (hB4.alloc hs4 _).alloc (Nat.le_trans hs4 (by simp)) _⟩
            have qk3 : (l.kind == 3) = false := by simpa using k3
            have HK : Hid (kdOk l.kind x y = false) := Lib.hid (by simp [kdOk, k1, k2, k3])
            go_wp2_with (first | (go_at_call 57; refine (inRg_s _ _ _ _).mono ?_; rintro e w' ⟨rfl, rfl⟩))
            all_goals go_ret
            all_goals exact ⟨ret_boolV (by rw [← HOK.out, HK.out] <;> first | rfl | simp_all), (hB4.alloc hs4 _).alloc (Nat.le_trans hs4 (by simp)) _⟩
          · have v5 : inR l.bi 1 6 = false := by rw [Bool.eq_false_iff]; intro hh; exact h5 (inR_iff.1 hh)
            go_enter Try.func59, Try.ntmps59
            go_wp2_with fail
            generalize hw1 : w.alloc _ = w1
            have hs1 : w1.heap.size = w.heap.size + 1 := by rw [← hw1]; simp
            have z5 : w1.cell? ⟨w.heap.size, 0, none⟩ = some (.slice A n c) := by rw [← hw1]; simp
            have z6 : w1.cell? ⟨w.heap.size, 1, none⟩ = some (.slice L m d) := by rw [← hw1]; simp
            have hb1 : Below w.heap.size w w1 := by rw [← hw1]; exact (Below.refl _ _).alloc (Nat.le_refl _) _
            generalize hw2 : w1.alloc _ = w2
            have y0 : w2.cell? ⟨w.heap.size + 1, 0, none⟩ = some (.int .i64 l.a) := by rw [← hw2, ← hs1]; simp
            have y1 : w2.cell? ⟨w.heap.size + 1, 1, none⟩ = some (.int .i64 l.ai) := by rw [← hw2, ← hs1]; simp
            have y2 : w2.cell? ⟨w.heap.size + 1, 2, none⟩ = some (.int .i64 l.b) := by rw [← hw2, ← hs1]; simp
            have y3 : w2.cell? ⟨w.heap.size + 1, 3, none⟩ = some (.int .i64 l.bi) := by rw [← hw2, ← hs1]; simp
            have y4 : w2.cell? ⟨w.heap.size + 1, 4, none⟩ = some (.int .i64 l.kind) := by rw [← hw2, ← hs1]; simp
            have y5 : w2.cell? ⟨w.heap.size, 0, none⟩ = some (.slice A n c) := by rw [← hw2]; exact (World.cell?_alloc_lt w1 _ _ (by simp; omega)).trans z5
            have y6 : w2.cell? ⟨w.heap.size, 1, none⟩ = some (.slice L m d) := by rw [← hw2]; exact (World.cell?_alloc_lt w1 _ _ (by simp; omega)).trans z6
            have hb2 : Below w.heap.size w w2 := by rw [← hw2]; exact hb1.alloc (by omega) _
            clear hw1 hw2 hb1 z5 z6
            refine (isasV_s _ _ _ _ _ _ _ _ hn).mono ?_
            rintro e w3 ⟨rfl, hb3⟩
            rw [v1]
            have x0 := cell_keep0 y0 hb3
            have x1 := cell_keep0 y1 hb3
            have x2 := cell_keep0 y2 hb3
            have x3 := cell_keep0 y3 hb3
            have x4 := cell_keep0 y4 hb3
            have x5 := cell_keep0 y5 hb3
            have x6 := cell_keep0 y6 hb3
            have hB3 := below_keep0 hb2 hb3
            clear y0 y1 y2 y3 y4 y5 y6 hb2 hb3
            go_wp2_with fail
            refine (isasV_s _ _ _ _ _ _ _ _ hn).mono ?_
            rintro e w4 ⟨rfl, hb4⟩
            rw [v2]
            have u0 := cell_keep0 x0 hb4
            have u1 := cell_keep0 x1 hb4
            have u2 := cell_keep0 x2 hb4
            have u3 := cell_keep0 x3 hb4
            have u4 := cell_keep0 x4 hb4
            have u5 := cell_keep0 x5 hb4
            have u6 := cell_keep0 x6 hb4
            have hB4 := below_keep0 hB3 hb4
            clear x0 x1 x2 x3 x4 x5 x6 hb4 hB3
            go_wp2_with (first | (go_at_call 57; refine (inRg_s _ _ _ _).mono ?_; rintro e w' ⟨rfl, rfl⟩))
            go_ret
            exact ⟨ret_boolV (lkOk_out (by omega)), hB4⟩
        · have v4 : inR l.ai 1 6 = false := by rw [Bool.eq_false_iff]; intro hh; exact h4 (inR_iff.1 hh)
          go_enter Try.func59, Try.ntmps59
          go_wp2_with fail
          generalize hw1 : w.alloc _ = w1
          have hs1 : w1.heap.size = w.heap.size + 1 := by rw [← hw1]; simp
          have z5 : w1.cell? ⟨w.heap.size, 0, none⟩ = some (.slice A n c) := by rw [← hw1]; simp
          have z6 : w1.cell? ⟨w.heap.size, 1, none⟩ = some (.slice L m d) := by rw [← hw1]; simp
          have hb1 : Below w.heap.size w w1 := by rw [← hw1]; exact (Below.refl _ _).alloc (Nat.le_refl _) _
          generalize hw2 : w1.alloc _ = w2
          have y0 : w2.cell? ⟨w.heap.size + 1, 0, none⟩ = some (.int .i64 l.a) := by rw [← hw2, ← hs1]; simp
          have y1 : w2.cell? ⟨w.heap.size + 1, 1, none⟩ = some (.int .i64 l.ai) := by rw [← hw2, ← hs1]; simp
          have y2 : w2.cell? ⟨w.heap.size + 1, 2, none⟩ = some (.int .i64 l.b) := by rw [← hw2, ← hs1]; simp
          have y3 : w2.cell? ⟨w.heap.size + 1, 3, none⟩ = some (.int .i64 l.bi) := by rw [← hw2, ← hs1]; simp
          have y4 : w2.cell? ⟨w.heap.size + 1, 4, none⟩ = some (.int .i64 l.kind) := by rw [← hw2, ← hs1]; simp
          have y5 : w2.cell? ⟨w.heap.size, 0, none⟩ = some (.slice A n c) := by rw [← hw2]; exact (World.cell?_alloc_lt w1 _ _ (by simp; omega)).trans z5
          have y6 : w2.cell? ⟨w.heap.size, 1, none⟩ = some (.slice L m d) := by rw [← hw2]; exact (World.cell?_alloc_lt w1 _ _ (by simp; omega)).trans z6
          have hb2 : Below w.heap.size w w2 := by rw [← hw2]; exact hb1.alloc (by omega) _
          clear hw1 hw2 hb1 z5 z6
          refine (isasV_s _ _ _ _ _ _ _ _ hn).mono ?_
          rintro e w3 ⟨rfl, hb3⟩
          rw [v1]
          have x0 := cell_keep0 y0 hb3
          have x1 := cell_keep0 y1 hb3
          have x2 := cell_keep0 y2 hb3
          have x3 := cell_keep0 y3 hb3
          have x4 := cell_keep0 y4 hb3
          have x5 := cell_keep0 y5 hb3
          have x6 := cell_keep0 y6 hb3
          have hB3 := below_keep0 hb2 hb3
          clear y0 y1 y2 y3 y4 y5 y6 hb2 hb3
          go_wp2_with fail
          refine (isasV_s _ _ _ _ _ _ _ _ hn).mono ?_
          rintro e w4 ⟨rfl, hb4⟩
          rw [v2]
          have u0 := cell_keep0 x0 hb4
          have u1 := cell_keep0 x1 hb4
          have u2 := cell_keep0 x2 hb4
          have u3 := cell_keep0 x3 hb4
          have u4 := cell_keep0 x4 hb4
          have u5 := cell_keep0 x5 hb4
          have u6 := cell_keep0 x6 hb4
          have hB4 := below_keep0 hB3 hb4
          clear x0 x1 x2 x3 x4 x5 x6 hb4 hB3
          go_wp2_with (first | (go_at_call 57; refine (inRg_s _ _ _ _).mono ?_; rintro e w' ⟨rfl, rfl⟩))
          go_ret
          exact ⟨ret_boolV (lkOk_out (by omega)), hB4⟩
      · have v3 : decide (l.b ≤ l.a) = true := decide_eq_true (by omega)
        go_enter Try.func59, Try.ntmps59
        go_wp2_with fail
        generalize hw1 : w.alloc _ = w1
        have hs1 : w1.heap.size = w.heap.size + 1 := by rw [← hw1]; simp
        have z5 : w1.cell? ⟨w.heap.size, 0, none⟩ = some (.slice A n c) := by rw [← hw1]; simp
        have z6 : w1.cell? ⟨w.heap.size, 1, none⟩ = some (.slice L m d) := by rw [← hw1]; simp
        have hb1 : Below w.heap.size w w1 := by rw [← hw1]; exact (Below.refl _ _).alloc (Nat.le_refl _) _
        generalize hw2 : w1.alloc _ = w2
        have y0 : w2.cell? ⟨w.heap.size + 1, 0, none⟩ = some (.int .i64 l.a) := by rw [← hw2, ← hs1]; simp
        have y1 : w2.cell? ⟨w.heap.size + 1, 1, none⟩ = some (.int .i64 l.ai) := by rw [← hw2, ← hs1]; simp
        have y2 : w2.cell? ⟨w.heap.size + 1, 2, none⟩ = some (.int .i64 l.b) := by rw [← hw2, ← hs1]; simp
        have y3 : w2.cell? ⟨w.heap.size + 1, 3, none⟩ = some (.int .i64 l.bi) := by rw [← hw2, ← hs1]; simp
        have y4 : w2.cell? ⟨w.heap.size + 1, 4, none⟩ = some (.int .i64 l.kind) := by rw [← hw2, ← hs1]; simp
        have y5 : w2.cell? ⟨w.heap.size, 0, none⟩ = some (.slice A n c) := by rw [← hw2]; exact (World.cell?_alloc_lt w1 _ _ (by simp; omega)).trans z5
        have y6 : w2.cell? ⟨w.heap.size, 1, none⟩ = some (.slice L m d) := by rw [← hw2]; exact (World.cell?_alloc_lt w1 _ _ (by simp; omega)).trans z6
        have hb2 : Below w.heap.size w w2 := by rw [← hw2]; exact hb1.alloc (by omega) _
        clear hw1 hw2 hb1 z5 z6
        refine (isasV_s _ _ _ _ _ _ _ _ hn).mono ?_
        rintro e w3 ⟨rfl, hb3⟩
        rw [v1]
        have x0 := cell_keep0 y0 hb3
        have x1 := cell_keep0 y1 hb3
        have x2 := cell_keep0 y2 hb3
        have x3 := cell_keep0 y3 hb3
        have x4 := cell_keep0 y4 hb3
        have x5 := cell_keep0 y5 hb3
        have x6 := cell_keep0 y6 hb3
        have hB3 := below_keep0 hb2 hb3
        clear y0 y1 y2 y3 y4 y5 y6 hb2 hb3
        go_wp2_with fail
        refine (isasV_s _ _ _ _ _ _ _ _ hn).mono ?_
        rintro e w4 ⟨rfl, hb4⟩
        rw [v2]
        have u0 := cell_keep0 x0 hb4
        have u1 := cell_keep0 x1 hb4
        have u2 := cell_keep0 x2 hb4
        have u3 := cell_keep0 x3 hb4
        have u4 := cell_keep0 x4 hb4
        have u5 := cell_keep0 x5 hb4
        have u6 := cell_keep0 x6 hb4
        have hB4 := below_keep0 hB3 hb4
        clear x0 x1 x2 x3 x4 x5 x6 hb4 hB3
        go_wp2_with (first | (go_at_call 57; refine (inRg_s _ _ _ _).mono ?_; rintro e w' ⟨rfl, rfl⟩))
        go_ret
        exact ⟨ret_boolV (lkOk_out (by omega)), hB4⟩
    · have v2 : inR l.b 0 ((n : Int) - 1) = false := by rw [Bool.eq_false_iff]; intro hh; exact h2 (inR_iff.1 hh)
      go_enter Try.func59, Try.ntmps59
      go_wp2_with fail
      generalize hw1 : w.alloc _ = w1
      have hs1 : w1.heap.size = w.heap.size + 1 := by rw [← hw1]; simp
      have z5 : w1.cell? ⟨w.heap.size, 0, none⟩ = some (.slice A n c) := by rw [← hw1]; simp
      have z6 : w1.cell? ⟨w.heap.size, 1, none⟩ = some (.slice L m d) := by rw [← hw1]; simp
      have hb1 : Below w.heap.size w w1 := by rw [← hw1]; exact (Below.refl _ _).alloc (Nat.le_refl _) _
      generalize hw2 : w1.alloc _ = w2
      have y0 : w2.cell? ⟨w.heap.size + 1, 0, none⟩ = some (.int .i64 l.a) := by rw [← hw2, ← hs1]; simp
      have y1 : w2.cell? ⟨w.heap.size + 1, 1, none⟩ = some (.int .i64 l.ai) := by rw [← hw2, ← hs1]; simp
      have y2 : w2.cell? ⟨w.heap.size + 1, 2, none⟩ = some (.int .i64 l.b) := by rw [← hw2, ← hs1]; simp
      have y3 : w2.cell? ⟨w.heap.size + 1, 3, none⟩ = some (.int .i64 l.bi) := by rw [← hw2, ← hs1]; simp
      have y4 : w2.cell? ⟨w.heap.size + 1, 4, none⟩ = some (.int .i64 l.kind) := by rw [← hw2, ← hs1]; simp
      have y5 : w2.cell? ⟨w.heap.size, 0, none⟩ = some (.slice A n c) := by rw [← hw2]; exact (World.cell?_alloc_lt w1 _ _ (by simp; omega)).trans z5
      have y6 : w2.cell? ⟨w.heap.size, 1, none⟩ = some (.slice L m d) := by rw [← hw2]; exact (World.cell?_alloc_lt w1 _ _ (by simp; omega)).trans z6
      have hb2 : Below w.heap.size w w2 := by rw [← hw2]; exact hb1.alloc (by omega) _
      clear hw1 hw2 hb1 z5 z6
      refine (isasV_s _ _ _ _ _ _ _ _ hn).mono ?_
      rintro e w3 ⟨rfl, hb3⟩
      rw [v1]
      have x0 := cell_keep0 y0 hb3
      have x1 := cell_keep0 y1 hb3
      have x2 := cell_keep0 y2 hb3
      have x3 := cell_keep0 y3 hb3
      have x4 := cell_keep0 y4 hb3
      have x5 := cell_keep0 y5 hb3
      have x6 := cell_keep0 y6 hb3
      have hB3 := below_keep0 hb2 hb3
      clear y0 y1 y2 y3 y4 y5 y6 hb2 hb3
      go_wp2_with fail
      refine (isasV_s _ _ _ _ _ _ _ _ hn).mono ?_
      rintro e w4 ⟨rfl, hb4⟩
      rw [v2]
      have u0 := cell_keep0 x0 hb4
      have u1 := cell_keep0 x1 hb4
      have u2 := cell_keep0 x2 hb4
      have u3 := cell_keep0 x3 hb4
      have u4 := cell_keep0 x4 hb4
      have u5 := cell_keep0 x5 hb4
      have u6 := cell_keep0 x6 hb4
      have hB4 := below_keep0 hB3 hb4
      clear x0 x1 x2 x3 x4 x5 x6 hb4 hB3
      go_wp2_with (first | (go_at_call 57; refine (inRg_s _ _ _ _).mono ?_; rintro e w' ⟨rfl, rfl⟩))
      go_ret
      exact ⟨ret_boolV (lkOk_out (by omega)), hB4⟩
  · have v1 : inR l.a 0 ((n : Int) - 1) = false := by rw [Bool.eq_false_iff]; intro hh; exact h1 (inR_iff.1 hh)
    go_enter Try.func59, Try.ntmps59
    go_wp2_with fail
    generalize hw1 : w.alloc _ = w1
    have hs1 : w1.heap.size = w.heap.size + 1 := by rw [← hw1]; simp
    have z5 : w1.cell? ⟨w.heap.size, 0, none⟩ = some (.slice A n c) := by rw [← hw1]; simp
    have z6 : w1.cell? ⟨w.heap.size, 1, none⟩ = some (.slice L m d) := by rw [← hw1]; simp
    have hb1 : Below w.heap.size w w1 := by rw [← hw1]; exact (Below.refl _ _).alloc (Nat.le_refl _) _
    generalize hw2 : w1.alloc _ = w2
    have y0 : w2.cell? ⟨w.heap.size + 1, 0, none⟩ = some (.int .i64 l.a) := by rw [← hw2, ← hs1]; simp
    have y1 : w2.cell? ⟨w.heap.size + 1, 1, none⟩ = some (.int .i64 l.ai) := by rw [← hw2, ← hs1]; simp
    have y2 : w2.cell? ⟨w.heap.size + 1, 2, none⟩ = some (.int .i64 l.b) := by rw [← hw2, ← hs1]; simp
    have y3 : w2.cell? ⟨w.heap.size + 1, 3, none⟩ = some (.int .i64 l.bi) := by rw [← hw2, ← hs1]; simp
    have y4 : w2.cell? ⟨w.heap.size + 1, 4, none⟩ = some (.int .i64 l.kind) := by rw [← hw2, ← hs1]; simp
    have y5 : w2.cell? ⟨w.heap.size, 0, none⟩ = some (.slice A n c) := by rw [← hw2]; exact (World.cell?_alloc_lt w1 _ _ (by simp; omega)).trans z5
    have y6 : w2.cell? ⟨w.heap.size, 1, none⟩ = some (.slice L m d) := by rw [← hw2]; exact (World.cell?_alloc_lt w1 _ _ (by simp; omega)).trans z6
    have hb2 : Below w.heap.size w w2 := by rw [← hw2]; exact hb1.alloc (by omega) _
    clear hw1 hw2 hb1 z5 z6
    refine (isasV_s _ _ _ _ _ _ _ _ hn).mono ?_
    rintro e w3 ⟨rfl, hb3⟩
    rw [v1]
    have x0 := cell_keep0 y0 hb3
    have x1 := cell_keep0 y1 hb3
    have x2 := cell_keep0 y2 hb3
    have x3 := cell_keep0 y3 hb3
    have x4 := cell_keep0 y4 hb3
    have x5 := cell_keep0 y5 hb3
    have x6 := cell_keep0 y6 hb3
    have hB3 := below_keep0 hb2 hb3
    clear y0 y1 y2 y3 y4 y5 y6 hb2 hb3
    go_wp2_with (first | (go_at_call 57; refine (inRg_s _ _ _ _).mono ?_; rintro e w' ⟨rfl, rfl⟩))
    go_ret
    exact ⟨ret_boolV (lkOk_out (by omega)), hB3⟩
end Go.Proofs.Ytehfcejpoigclaa
