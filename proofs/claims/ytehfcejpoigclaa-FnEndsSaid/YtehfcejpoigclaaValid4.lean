/- The contract of the reference's ValidTopology. -/
import Derived.Test.YtehfcejpoigclaaRows
import Derived.Test.YtehfcejpoigclaaMem
import Derived.Test.YtehfcejpoigclaaTopoMem
import Derived.Test.YtehfcejpoigclaaTopoPure
import Derived.Test.YtehfcejpoigclaaSetPure
import Derived.Test.YtehfcejpoigclaaRng
import Derived.Test.YtehfcejpoigclaaValidPure
import Derived.Test.YtehfcejpoigclaaValid1
import Derived.Test.YtehfcejpoigclaaValid2
import Derived.Test.YtehfcejpoigclaaValid3
import Derived.Test.YtehfcejpoigclaaTopo1
import Derived.Deep.QuietTactic
import Derived.BigQuiet
import Derived.WalkSmall
import Derived.Deep.RegionHeld3
import Derived.StillTailTactics
import Derived.Outline
namespace Go.Proofs.Ytehfcejpoigclaa
open Go.RowKit
set_option linter.unusedVariables false

set_option maxHeartbeats 4000000 in
set_option maxRecDepth 100000 in
theorem valid_s (A : Option Addr) (n c : Nat) (L : Option Addr) (m d : Nat) (xs : List As) (ls : List Lk) (w : World) (hA : Ra w A n xs) (hL : Rl w L m ls) (hnc : n ≤ c) (hmd : m ≤ d) (hm : m ≤ 1048576) (hn : n ≤ 1048576) :
    Calls Try.prog 27 #[.agg #[.slice A n c, .slice L m d]] w fun e w' => e = .returned (.bool (validT xs ls)) ∧ Below w.heap.size w w' := by
  have hal := Lib.hid hA.len
  have hll := Lib.hid hL.len
  by_cases h0 : 1 ≤ (n : Int) ∧ (n : Int) ≤ 8
  · have v0 : inR (n : Int) 1 8 = true := inR_true h0.1 h0.2
    go_enter Try.func27, Try.ntmps27
    go_wp2_with (first | (go_at_call 57; refine (inRg_s _ _ _ _).mono ?_; rintro e w' ⟨rfl, rfl⟩) | (go_at_call 58; refine (vkey_s _ _).mono ?_; rintro e w' ⟨rfl, rfl⟩))
    go_loopw [3] (VRel w n (asOk xs) A n c L m d) (fun i _ => n - (intOf i).toNat)
    case atStart => exact ⟨0, Nat.zero_le _, rfl, rfl, (Below.refl _ _).alloc (Nat.le_refl _) _, by simp, by simp⟩
    case round =>
      obtain ⟨k, hk, rfl, hall0, hb, bx0, bx1⟩ := hrel
      have hall := Lib.hid hall0
      clear hall0
      have hs := hb.size
      have hbl : w.heap.size < wr.heap.size := World.block_lt_of_cell? wr _ bx0
      by_cases hlt : k < n
      · have hA' := hA.below hb (Nat.le_refl _)
        obtain ⟨b, off, x, rfl, hx0, a0, a1, a2⟩ := hA'.get hlt
        have hx := Lib.hid hx0
        clear hx0
        have hkx : Hid (k < xs.length) := Lib.hid (by have := hal.out; omega)
        have kc1 : (0 : Int) ≤ (k : Int) := by omega
        have kc2 : (k : Int) < (n : Int) := by omega
        by_cases h1 : 0 ≤ x.isd ∧ x.isd ≤ 2
        · have v1 : inR x.isd 0 2 = true := inR_true h1.1 h1.2
          by_cases h2 : 1 ≤ x.key ∧ x.key ≤ 2147483646
          · have v2 : inR x.key 1 2147483646 = true := inR_true h2.1 h2.2
            go_wp2_with (first | (go_at_call 57; refine (inRg_s _ _ _ _).mono ?_; rintro e w' ⟨rfl, rfl⟩) | (go_at_call 58; refine (vkey_s _ _).mono ?_; rintro e w' ⟨rfl, rfl⟩))
            clear a0 a1 a2 hA'
            go_loopw [4] (URel wr k xs (fun y => !(y.key == x.key))) (fun i _ => k - (intOf i).toNat)
            case atStart => exact ⟨0, Nat.zero_le _, rfl, rfl, Below.refl _ _⟩
            case round =>
              obtain ⟨j, hj, rfl, hin0, hc⟩ := hrel
              have hin := Lib.hid hin0
              clear hin0
              have hs2 := hc.size
              have hB2 := below_keep0 hb hc
              have hs3 := hB2.size
              have by0 := cell_keep0 bx0 hc
              have by1 := cell_keep0 bx1 hc
              by_cases hjk : j < k
              · obtain ⟨b2, off2, y, e', hy0, b0, b1, b2'⟩ := (hA.below hB2 (Nat.le_refl _)).get (i := j) (by omega)
                injection e' with e'
                injection e' with e1 e2
                subst e1
                subst e2
                obtain ⟨b2, off2, x2, e', hx2, a0, a1, a2⟩ := (hA.below hB2 (Nat.le_refl _)).get (i := k) (by omega)
                injection e' with e'
                injection e' with e1 e2
                subst e1
                subst e2
                have ex : x2 = x := by have := hx.out; rw [this] at hx2; exact (Option.some.inj hx2).symm
                subst ex
                have hy := Lib.hid hy0
                clear hy0 hx2
                have jc1 : (0 : Int) ≤ (j : Int) := by omega
                have jc2 : (j : Int) < (k : Int) := by omega
                have jc3 : (j : Int) < (n : Int) := by omega
                by_cases hxy : y.key = x2.key
                · have HXY := Lib.hid hxy
                  have qx : (y.key == x2.key) = true := by rw [hxy]; simp
                  clear hxy
                  go_wp2_with fail
                  go_quiet (fail)
                  go_wp2
                  go_ret
                  exact ⟨ret_boolV (validT_as hkx.out (asOk_same hx.out hy.out hjk HXY.out)), below_drewN hB2 _⟩
                · have qx : (y.key == x2.key) = false := by simp; omega
                  have QY : Hid ((!(y.key == x2.key)) = true) := Lib.hid (by simp [hxy])
                  clear hxy
                  go_wp2_with fail
                  go_quiet (fail)
                  go_wp2
                  go_roundw
                  case rel => exact ⟨j + 1, by omega, by go_num, all_take_succ hin.out hy.out QY.out, below_drewN hc _⟩
                  case measure => simp [intOf]; omega
              · replace hin : Hid (((xs.take k).all fun y => !(y.key == x.key)) = true) := by
                  obtain rfl : j = k := by omega
                  exact hin
                have jc3 : ¬ ((j : Int) < (k : Int)) := by omega
                go_wp2
                go_roundw
                case rel => exact ⟨k + 1, by omega, by go_num, all_range_succ hall.out (asOk_good hx.out ⟨h1.1, h1.2, h2.1, h2.2⟩ hin.out), hB2, by0, by1⟩
                case measure => simp [intOf]; omega
          · have v2 : inR x.key 1 2147483646 = false := by rw [Bool.eq_false_iff]; intro hh; exact h2 (inR_iff.1 hh)
            go_wp2_with (first | (go_at_call 57; refine (inRg_s _ _ _ _).mono ?_; rintro e w' ⟨rfl, rfl⟩) | (go_at_call 58; refine (vkey_s _ _).mono ?_; rintro e w' ⟨rfl, rfl⟩))
            go_ret
            exact ⟨ret_boolV (validT_as hkx.out (asOk_bad hx.out (by omega))), hb⟩
        · have v1 : inR x.isd 0 2 = false := by rw [Bool.eq_false_iff]; intro hh; exact h1 (inR_iff.1 hh)
          go_wp2_with (first | (go_at_call 57; refine (inRg_s _ _ _ _).mono ?_; rintro e w' ⟨rfl, rfl⟩) | (go_at_call 58; refine (vkey_s _ _).mono ?_; rintro e w' ⟨rfl, rfl⟩))
          go_ret
          exact ⟨ret_boolV (validT_as hkx.out (asOk_bad hx.out (by omega))), hb⟩
      · replace hall : Hid ((List.range n).all (asOk xs) = true) := by
          obtain rfl : k = n := by omega
          exact hall
        go_wp2
        go_loopw [5] (VRel w m (liOk xs ls) A n c L m d) (fun i _ => m - (intOf i).toNat)
        case atStart => exact ⟨0, Nat.zero_le _, rfl, rfl, hb, bx0, bx1⟩
        case round =>
          clear hb hs bx0 bx1 hbl
          obtain ⟨k, hk, rfl, hall20, hb, bx0, bx1⟩ := hrel
          have hall2 := Lib.hid hall20
          clear hall20
          have hs := hb.size
          have hbl : w.heap.size < wr.heap.size := World.block_lt_of_cell? wr _ bx0
          by_cases hlt : k < m
          · have hL' := hL.below hb (Nat.le_refl _)
            have hA' := hA.below hb (Nat.le_refl _)
            obtain ⟨b, off, l, rfl, hx0, c0, c1, c2, c3, c4⟩ := hL'.get hlt
            have hx := Lib.hid hx0
            clear hx0 hL'
            have hkx : Hid (k < ls.length) := Lib.hid (by have := hll.out; omega)
            have kc1 : (0 : Int) ≤ (k : Int) := by omega
            have kc2 : (k : Int) < (m : Int) := by omega
            rcases Bool.eq_false_or_eq_true (lkOk xs l) with hok | hok
            · go_wp2_with fail
              go_region_held3 (fun w' => w'.cell? ⟨w.heap.size, 0, none⟩ = some (.slice A n c) ∧ w'.cell? ⟨w.heap.size, 1, none⟩ = some (.slice (some ⟨b, off, none⟩) m d) ∧ w'.cell? ⟨b, off + k * 5, none⟩ = some (.int .i64 l.a) ∧ w'.cell? ⟨b, off + k * 5 + 1, none⟩ = some (.int .i64 l.ai) ∧ w'.cell? ⟨b, off + k * 5 + 2, none⟩ = some (.int .i64 l.b) ∧ w'.cell? ⟨b, off + k * 5 + 3, none⟩ = some (.int .i64 l.bi) ∧ w'.cell? ⟨b, off + k * 5 + 4, none⟩ = some (.int .i64 l.kind)) (first | exact ⟨cell_keepD bx0 hbP, cell_keepD bx1 hbP, cell_keepD c0 hbP, cell_keepD c1 hbP, cell_keepD c2 hbP, cell_keepD c3 hbP, cell_keepD c4 hbP⟩ | exact ⟨bx0, bx1, c0, c1, c2, c3, c4⟩) (first | (go_at_call 59; refine (linkOk_s _ _ _ _ _ _ xs l _ ?_ hn).mono ?_; (exact Rd.drew hA'); rintro e w2 ⟨rfl, hbP⟩))
              go_wp2
              have by0 := cell_keepD bx0 hbP
              have by1 := cell_keepD bx1 hbP
              have hb1 := below_keepD hb hbP
              clear bx0 bx1 hb hbP c0 c1 c2 c3 c4 hs hbl hA'
              go_loopw [6] (URel w2 k ls (fun q => !clash l q)) (fun i _ => k - (intOf i).toNat)
              case atStart => exact ⟨0, Nat.zero_le _, rfl, rfl, Below.refl _ _⟩
              case round =>
                obtain ⟨j, hj, rfl, hin0, hc⟩ := hrel
                have hin := Lib.hid hin0
                clear hin0
                have hs2 := hc.size
                have hB2 := below_keep0 hb1 hc
                have hs3 := hB2.size
                replace by0 := cell_keep0 by0 hc
                replace by1 := cell_keep0 by1 hc
                by_cases hjk : j < k
                · obtain ⟨b2, off2, q, e', hq0, d0, d1, d2, d3, d4⟩ := (hL.below hB2 (Nat.le_refl _)).get (i := j) (by omega)
                  injection e' with e'
                  injection e' with e1 e2
                  subst e1
                  subst e2
                  obtain ⟨b2, off2, l2, e', hl0, c0, c1, c2, c3, c4⟩ := (hL.below hB2 (Nat.le_refl _)).get (i := k) (by omega)
                  injection e' with e'
                  injection e' with e1 e2
                  subst e1
                  subst e2
                  have el : l2 = l := by have := hx.out; rw [this] at hl0; exact (Option.some.inj hl0).symm
                  subst el
                  have hq := Lib.hid hq0
                  clear hq0 hl0
                  have jc1 : (0 : Int) ≤ (j : Int) := by omega
                  have jc2 : (j : Int) < (m : Int) := by omega
                  have jc3 : (j : Int) < (k : Int) := by omega
                  rcases Bool.eq_false_or_eq_true (uses q l2.a l2.ai) with u1 | u1
                  · go_wp2_with fail
                    refine wp_region_held_drew (S := fun w' => w'.cell? ⟨w.heap.size, 1, none⟩ = some (.slice (some ⟨b, off, none⟩) m d) ∧ w'.cell? ⟨b, off + j * 5, none⟩ = some (.int .i64 q.a) ∧ w'.cell? ⟨b, off + j * 5 + 1, none⟩ = some (.int .i64 q.ai) ∧ w'.cell? ⟨b, off + j * 5 + 2, none⟩ = some (.int .i64 q.b) ∧ w'.cell? ⟨b, off + j * 5 + 3, none⟩ = some (.int .i64 q.bi) ∧ w'.cell? ⟨b, off + j * 5 + 4, none⟩ = some (.int .i64 q.kind) ∧ w'.cell? ⟨b, off + k * 5, none⟩ = some (.int .i64 l2.a) ∧ w'.cell? ⟨b, off + k * 5 + 1, none⟩ = some (.int .i64 l2.ai) ∧ w'.cell? ⟨b, off + k * 5 + 2, none⟩ = some (.int .i64 l2.b) ∧ w'.cell? ⟨b, off + k * 5 + 3, none⟩ = some (.int .i64 l2.bi)) (by kernel_rfl) ⟨by1, d0, d1, d2, d3, d4, c0, c1, c2, c3⟩ (fun hHeld => ?_)
                    refine wpAnyH_take (i := 0) (v := ?v0) (by first | (simp only [List.getElem?_toArray, List.getElem?_cons_zero]; done) | (simp only [List.getElem?_toArray, List.getElem?_cons_zero]; rfl)) (by kernel_rfl) (by kernel_rfl) (by kernel_rfl) (by intro _ _ _ h; exact h) (Or.inl ⟨by kernel_rfl, ?h0⟩) hHeld ?r0
                    case h0 => (intro w_ hSw; (try dsimp only at hSw); go_simp; (try with_reducible rfl))
                    simp only [Act.put, List.setIfInBounds_toArray, List.set_cons_zero, List.set_cons_succ]
                    refine wpAnyH_take (i := 1) (v := ?v1) (by first | (simp only [List.getElem?_toArray, List.getElem?_cons_succ, List.getElem?_cons_zero]; done) | (simp only [List.getElem?_toArray, List.getElem?_cons_succ, List.getElem?_cons_zero]; rfl)) (by kernel_rfl) (by kernel_rfl) (by kernel_rfl) (by intro _ _ _ h; exact h) (Or.inl ⟨by kernel_rfl, ?h1⟩) hHeld ?r1
                    case h1 => (intro w_ hSw; (try dsimp only at hSw); go_simp; (try with_reducible rfl))
                    simp only [Act.put, List.setIfInBounds_toArray, List.set_cons_zero, List.set_cons_succ]
                    refine wpAnyH_take (i := 2) (v := ?v2) (by first | (simp only [List.getElem?_toArray, List.getElem?_cons_succ, List.getElem?_cons_zero]; done) | (simp only [List.getElem?_toArray, List.getElem?_cons_succ, List.getElem?_cons_zero]; rfl)) (by kernel_rfl) (by kernel_rfl) (by kernel_rfl) (by intro _ _ _ h; exact h) (Or.inl ⟨by kernel_rfl, ?h2⟩) hHeld ?r2
                    case h2 => (intro w_ hSw; (try dsimp only at hSw); go_simp; (try with_reducible rfl))
                    simp only [Act.put, List.setIfInBounds_toArray, List.set_cons_zero, List.set_cons_succ]
                    refine wpAnyH_take (i := 3) (v := ?v3) (by first | (simp only [List.getElem?_toArray, List.getElem?_cons_succ, List.getElem?_cons_zero]; done) | (simp only [List.getElem?_toArray, List.getElem?_cons_succ, List.getElem?_cons_zero]; rfl)) (by kernel_rfl) (by kernel_rfl) (by kernel_rfl) (by intro _ _ _ h; exact h) (Or.inl ⟨by kernel_rfl, ?h3⟩) hHeld ?r3
                    case h3 => (intro w_ hSw; (try dsimp only at hSw); go_simp; (try with_reducible rfl))
                    simp only [Act.put, List.setIfInBounds_toArray, List.set_cons_zero, List.set_cons_succ]
                    refine wpAnyH_take (i := 4) (v := ?v4) (by first | (simp only [List.getElem?_toArray, List.getElem?_cons_succ, List.getElem?_cons_zero]; done) | (simp only [List.getElem?_toArray, List.getElem?_cons_succ, List.getElem?_cons_zero]; rfl)) (by kernel_rfl) (by kernel_rfl) (by kernel_rfl) (by intro _ _ _ h; exact h) (Or.inl ⟨by kernel_rfl, ?h4⟩) hHeld ?r4
                    case h4 => (intro w_ hSw; (try dsimp only at hSw); go_simp; (try with_reducible rfl))
                    simp only [Act.put, List.setIfInBounds_toArray, List.set_cons_zero, List.set_cons_succ]
                    refine wpAnyH_take (i := 5) (v := ?v5) (by first | (simp only [List.getElem?_toArray, List.getElem?_cons_succ, List.getElem?_cons_zero]; done) | (simp only [List.getElem?_toArray, List.getElem?_cons_succ, List.getElem?_cons_zero]; rfl)) (by kernel_rfl) (by kernel_rfl) (by kernel_rfl) (by intro _ _ _ h; exact h) (Or.inl ⟨by kernel_rfl, ?h5⟩) hHeld ?r5
                    case h5 => (intro w_ hSw; (try dsimp only at hSw); go_simp; (try with_reducible rfl))
                    simp only [Act.put, List.setIfInBounds_toArray, List.set_cons_zero, List.set_cons_succ]
                    refine wpAnyH_take (i := 6) (v := ?v6) (by first | (simp only [List.getElem?_toArray, List.getElem?_cons_succ, List.getElem?_cons_zero]; done) | (simp only [List.getElem?_toArray, List.getElem?_cons_succ, List.getElem?_cons_zero]; rfl)) (by kernel_rfl) (by kernel_rfl) (by kernel_rfl) (by intro _ _ _ h; exact h) (Or.inl ⟨by kernel_rfl, ?h6⟩) hHeld ?r6
                    case h6 => (intro w_ hSw; (try dsimp only at hSw); go_simp; (try with_reducible rfl))
                    simp only [Act.put, List.setIfInBounds_toArray, List.set_cons_zero, List.set_cons_succ]
                    refine wpAnyH_take (i := 7) (v := ?v7) (by first | (simp only [List.getElem?_toArray, List.getElem?_cons_succ, List.getElem?_cons_zero]; done) | (simp only [List.getElem?_toArray, List.getElem?_cons_succ, List.getElem?_cons_zero]; rfl)) (by kernel_rfl) (by kernel_rfl) (by kernel_rfl) (by intro _ _ _ h; exact h) (Or.inl ⟨by kernel_rfl, ?h7⟩) hHeld ?r7
                    case h7 => (intro w_ hSw; (try dsimp only at hSw); go_simp; (try with_reducible rfl))
                    simp only [Act.put, List.setIfInBounds_toArray, List.set_cons_zero, List.set_cons_succ]
                    refine wpAnyH_take (i := 8) (v := ?v8) (by first | (simp only [List.getElem?_toArray, List.getElem?_cons_succ, List.getElem?_cons_zero]; done) | (simp only [List.getElem?_toArray, List.getElem?_cons_succ, List.getElem?_cons_zero]; rfl)) (by kernel_rfl) (by kernel_rfl) (by kernel_rfl) (by intro _ _ _ h; exact h) (Or.inl ⟨by kernel_rfl, ?h8⟩) hHeld ?r8
                    case h8 => (intro w_ hSw; (try dsimp only at hSw); go_simp; (try with_reducible rfl))
                    simp only [Act.put, List.setIfInBounds_toArray, List.set_cons_zero, List.set_cons_succ]
                    refine wpAnyH_take (i := 9) (v := ?v9) (by first | (simp only [List.getElem?_toArray, List.getElem?_cons_succ, List.getElem?_cons_zero]; done) | (simp only [List.getElem?_toArray, List.getElem?_cons_succ, List.getElem?_cons_zero]; rfl)) (by kernel_rfl) (by kernel_rfl) (by kernel_rfl) (by intro _ _ _ h; exact h) (Or.inl ⟨by kernel_rfl, ?h9⟩) hHeld ?r9
                    case h9 => (intro w_ hSw; (try dsimp only at hSw); go_simp; (try with_reducible rfl))
                    simp only [Act.put, List.setIfInBounds_toArray, List.set_cons_zero, List.set_cons_succ]
                    refine wpAnyH_take (i := 10) (v := ?v10) (by first | (simp only [List.getElem?_toArray, List.getElem?_cons_succ, List.getElem?_cons_zero]; done) | (simp only [List.getElem?_toArray, List.getElem?_cons_succ, List.getElem?_cons_zero]; rfl)) (by kernel_rfl) (by kernel_rfl) (by kernel_rfl) (by intro _ _ _ h; exact h) (Or.inl ⟨by kernel_rfl, ?h10⟩) hHeld ?r10
                    case h10 => (intro w_ hSw; (try dsimp only at hSw); go_simp; (try with_reducible rfl))
                    simp only [Act.put, List.setIfInBounds_toArray, List.set_cons_zero, List.set_cons_succ]
                    refine wpAnyH_take (i := 11) (v := ?v11) (by first | (simp only [List.getElem?_toArray, List.getElem?_cons_succ, List.getElem?_cons_zero]; done) | (simp only [List.getElem?_toArray, List.getElem?_cons_succ, List.getElem?_cons_zero]; rfl)) (by kernel_rfl) (by kernel_rfl) (by kernel_rfl) (by intro _ _ _ h; exact h) (Or.inl ⟨by kernel_rfl, ?h11⟩) hHeld ?r11
                    case h11 => (intro w_ hSw; (try dsimp only at hSw); go_simp; (try with_reducible rfl))
                    simp only [Act.put, List.setIfInBounds_toArray, List.set_cons_zero, List.set_cons_succ]
                    refine wpAnyH_take (i := 12) (v := ?v12) (by first | (simp only [List.getElem?_toArray, List.getElem?_cons_succ, List.getElem?_cons_zero]; done) | (simp only [List.getElem?_toArray, List.getElem?_cons_succ, List.getElem?_cons_zero]; rfl)) (by kernel_rfl) (by kernel_rfl) (by kernel_rfl) (by intro _ _ _ h; exact h) (Or.inl ⟨by kernel_rfl, ?h12⟩) hHeld ?r12
                    case h12 => (intro w_ hSw; (try dsimp only at hSw); go_simp; (try with_reducible rfl))
                    simp only [Act.put, List.setIfInBounds_toArray, List.set_cons_zero, List.set_cons_succ]
                    refine wpAnyH_take (i := 13) (v := ?v13) (by first | (simp only [List.getElem?_toArray, List.getElem?_cons_succ, List.getElem?_cons_zero]; done) | (simp only [List.getElem?_toArray, List.getElem?_cons_succ, List.getElem?_cons_zero]; rfl)) (by kernel_rfl) (by kernel_rfl) (by kernel_rfl) (by intro _ _ _ h; exact h) (Or.inl ⟨by kernel_rfl, ?h13⟩) hHeld ?r13
                    case h13 => (intro w_ hSw; (try dsimp only at hSw); go_simp; (try with_reducible rfl))
                    simp only [Act.put, List.setIfInBounds_toArray, List.set_cons_zero, List.set_cons_succ]
                    refine wpAnyH_take (i := 14) (v := ?v14) (by first | (simp only [List.getElem?_toArray, List.getElem?_cons_succ, List.getElem?_cons_zero]; done) | (simp only [List.getElem?_toArray, List.getElem?_cons_succ, List.getElem?_cons_zero]; rfl)) (by kernel_rfl) (by kernel_rfl) (by kernel_rfl) (by intro _ _ _ h; exact h) (Or.inl ⟨by kernel_rfl, ?h14⟩) hHeld ?r14
                    case h14 => (intro w_ hSw; (try dsimp only at hSw); go_simp; (try with_reducible rfl))
                    simp only [Act.put, List.setIfInBounds_toArray, List.set_cons_zero, List.set_cons_succ]
                    refine wpAnyH_take (i := 15) (v := ?v15) (by first | (simp only [List.getElem?_toArray, List.getElem?_cons_succ, List.getElem?_cons_zero]; done) | (simp only [List.getElem?_toArray, List.getElem?_cons_succ, List.getElem?_cons_zero]; rfl)) (by kernel_rfl) (by kernel_rfl) (by kernel_rfl) (by intro _ _ _ h; exact h) (Or.inl ⟨by kernel_rfl, ?h15⟩) hHeld ?r15
                    case h15 => (intro w_ hSw; (try dsimp only at hSw); go_simp; (try with_reducible rfl))
                    simp only [Act.put, List.setIfInBounds_toArray, List.set_cons_zero, List.set_cons_succ]
                    refine wpAnyH_take (i := 16) (v := ?v16) (by first | (simp only [List.getElem?_toArray, List.getElem?_cons_succ, List.getElem?_cons_zero]; done) | (simp only [List.getElem?_toArray, List.getElem?_cons_succ, List.getElem?_cons_zero]; rfl)) (by kernel_rfl) (by kernel_rfl) (by kernel_rfl) (by intro _ _ _ h; exact h) (Or.inl ⟨by kernel_rfl, ?h16⟩) hHeld ?r16
                    case h16 => (intro w_ hSw; (try dsimp only at hSw); go_simp; (try with_reducible rfl))
                    simp only [Act.put, List.setIfInBounds_toArray, List.set_cons_zero, List.set_cons_succ]
                    refine wpAnyH_ready (rs := [17]) (by kernel_rfl) (by simp) ?_
                    refine AllReadyH.cons rfl (fun K hK => ?_) AllReadyH.nil
                    go_simp
                    go_at_call 53
                    refine (uses_s q l2.a l2.ai _).mono ?_
                    rintro e w3 ⟨rfl, hbP⟩
                    rw [u1]
                    go_wp2_with fail
                    refine hK.out _ _ ⟨cell_keepD by1 hbP, cell_keepD d0 hbP, cell_keepD d1 hbP, cell_keepD d2 hbP, cell_keepD d3 hbP, cell_keepD d4 hbP, cell_keepD c0 hbP, cell_keepD c1 hbP, cell_keepD c2 hbP, cell_keepD c3 hbP⟩ (fun hHeld => ?_)
                    clear hK K
                    refine wpAnyH_take (i := 18) (v := ?v18) (by first | (simp only [List.getElem?_toArray, List.getElem?_cons_succ, List.getElem?_cons_zero]; done) | (simp only [List.getElem?_toArray, List.getElem?_cons_succ, List.getElem?_cons_zero]; rfl)) (by kernel_rfl) (by kernel_rfl) (by kernel_rfl) (by intro _ _ _ h; exact h) (Or.inl ⟨by kernel_rfl, ?h18⟩) hHeld ?r18
                    case h18 => (intro w_ hSw; (try dsimp only at hSw); go_simp; (try with_reducible rfl))
                    simp only [Act.put, List.setIfInBounds_toArray, List.set_cons_zero, List.set_cons_succ]
                    refine wpAnyH_take (i := 19) (v := undef) (by first | (simp only [List.getElem?_toArray, List.getElem?_cons_succ, List.getElem?_cons_zero]; done) | (simp only [List.getElem?_toArray, List.getElem?_cons_succ, List.getElem?_cons_zero]; rfl)) (by kernel_rfl) (by kernel_rfl) (by kernel_rfl) (by intro _ _ _ h; exact h) (Or.inr ⟨by kernel_rfl, rfl⟩) hHeld ?_
                    simp only [Act.put, List.setIfInBounds_toArray, List.set_cons_zero, List.set_cons_succ]
                    refine wpAnyH_take (i := 20) (v := undef) (by first | (simp only [List.getElem?_toArray, List.getElem?_cons_succ, List.getElem?_cons_zero]; done) | (simp only [List.getElem?_toArray, List.getElem?_cons_succ, List.getElem?_cons_zero]; rfl)) (by kernel_rfl) (by kernel_rfl) (by kernel_rfl) (by intro _ _ _ h; exact h) (Or.inr ⟨by kernel_rfl, rfl⟩) hHeld ?_
                    simp only [Act.put, List.setIfInBounds_toArray, List.set_cons_zero, List.set_cons_succ]
                    refine wpAnyH_take (i := 21) (v := undef) (by first | (simp only [List.getElem?_toArray, List.getElem?_cons_succ, List.getElem?_cons_zero]; done) | (simp only [List.getElem?_toArray, List.getElem?_cons_succ, List.getElem?_cons_zero]; rfl)) (by kernel_rfl) (by kernel_rfl) (by kernel_rfl) (by intro _ _ _ h; exact h) (Or.inr ⟨by kernel_rfl, rfl⟩) hHeld ?_
                    simp only [Act.put, List.setIfInBounds_toArray, List.set_cons_zero, List.set_cons_succ]
                    refine wpAnyH_take (i := 22) (v := undef) (by first | (simp only [List.getElem?_toArray, List.getElem?_cons_succ, List.getElem?_cons_zero]; done) | (simp only [List.getElem?_toArray, List.getElem?_cons_succ, List.getElem?_cons_zero]; rfl)) (by kernel_rfl) (by kernel_rfl) (by kernel_rfl) (by intro _ _ _ h; exact h) (Or.inr ⟨by kernel_rfl, rfl⟩) hHeld ?_
                    simp only [Act.put, List.setIfInBounds_toArray, List.set_cons_zero, List.set_cons_succ]
                    refine wpAnyH_take (i := 23) (v := undef) (by first | (simp only [List.getElem?_toArray, List.getElem?_cons_succ, List.getElem?_cons_zero]; done) | (simp only [List.getElem?_toArray, List.getElem?_cons_succ, List.getElem?_cons_zero]; rfl)) (by kernel_rfl) (by kernel_rfl) (by kernel_rfl) (by intro _ _ _ h; exact h) (Or.inr ⟨by kernel_rfl, rfl⟩) hHeld ?_
                    simp only [Act.put, List.setIfInBounds_toArray, List.set_cons_zero, List.set_cons_succ]
                    refine wpAnyH_take (i := 24) (v := undef) (by first | (simp only [List.getElem?_toArray, List.getElem?_cons_succ, List.getElem?_cons_zero]; done) | (simp only [List.getElem?_toArray, List.getElem?_cons_succ, List.getElem?_cons_zero]; rfl)) (by kernel_rfl) (by kernel_rfl) (by kernel_rfl) (by intro _ _ _ h; exact h) (Or.inr ⟨by kernel_rfl, rfl⟩) hHeld ?_
                    simp only [Act.put, List.setIfInBounds_toArray, List.set_cons_zero, List.set_cons_succ]
                    refine wpAnyH_take (i := 25) (v := undef) (by first | (simp only [List.getElem?_toArray, List.getElem?_cons_succ, List.getElem?_cons_zero]; done) | (simp only [List.getElem?_toArray, List.getElem?_cons_succ, List.getElem?_cons_zero]; rfl)) (by kernel_rfl) (by kernel_rfl) (by kernel_rfl) (by intro _ _ _ h; exact h) (Or.inr ⟨by kernel_rfl, rfl⟩) hHeld ?_
                    simp only [Act.put, List.setIfInBounds_toArray, List.set_cons_zero, List.set_cons_succ]
                    refine wpAnyH_take (i := 26) (v := undef) (by first | (simp only [List.getElem?_toArray, List.getElem?_cons_succ, List.getElem?_cons_zero]; done) | (simp only [List.getElem?_toArray, List.getElem?_cons_succ, List.getElem?_cons_zero]; rfl)) (by kernel_rfl) (by kernel_rfl) (by kernel_rfl) (by intro _ _ _ h; exact h) (Or.inr ⟨by kernel_rfl, rfl⟩) hHeld ?_
                    simp only [Act.put, List.setIfInBounds_toArray, List.set_cons_zero, List.set_cons_succ]
                    refine wpAnyH_take (i := 27) (v := undef) (by first | (simp only [List.getElem?_toArray, List.getElem?_cons_succ, List.getElem?_cons_zero]; done) | (simp only [List.getElem?_toArray, List.getElem?_cons_succ, List.getElem?_cons_zero]; rfl)) (by kernel_rfl) (by kernel_rfl) (by kernel_rfl) (by intro _ _ _ h; exact h) (Or.inr ⟨by kernel_rfl, rfl⟩) hHeld ?_
                    simp only [Act.put, List.setIfInBounds_toArray, List.set_cons_zero, List.set_cons_succ]
                    refine wpAnyH_take (i := 28) (v := undef) (by first | (simp only [List.getElem?_toArray, List.getElem?_cons_succ, List.getElem?_cons_zero]; done) | (simp only [List.getElem?_toArray, List.getElem?_cons_succ, List.getElem?_cons_zero]; rfl)) (by kernel_rfl) (by kernel_rfl) (by kernel_rfl) (by intro _ _ _ h; exact h) (Or.inr ⟨by kernel_rfl, rfl⟩) hHeld ?_
                    simp only [Act.put, List.setIfInBounds_toArray, List.set_cons_zero, List.set_cons_succ]
                    refine wpAnyH_take (i := 29) (v := undef) (by first | (simp only [List.getElem?_toArray, List.getElem?_cons_succ, List.getElem?_cons_zero]; done) | (simp only [List.getElem?_toArray, List.getElem?_cons_succ, List.getElem?_cons_zero]; rfl)) (by kernel_rfl) (by kernel_rfl) (by kernel_rfl) (by intro _ _ _ h; exact h) (Or.inr ⟨by kernel_rfl, rfl⟩) hHeld ?_
                    simp only [Act.put, List.setIfInBounds_toArray, List.set_cons_zero, List.set_cons_succ]
                    refine wpAnyH_take (i := 30) (v := undef) (by first | (simp only [List.getElem?_toArray, List.getElem?_cons_succ, List.getElem?_cons_zero]; done) | (simp only [List.getElem?_toArray, List.getElem?_cons_succ, List.getElem?_cons_zero]; rfl)) (by kernel_rfl) (by kernel_rfl) (by kernel_rfl) (by intro _ _ _ h; exact h) (Or.inr ⟨by kernel_rfl, rfl⟩) hHeld ?_
                    simp only [Act.put, List.setIfInBounds_toArray, List.set_cons_zero, List.set_cons_succ]
                    refine wpAnyH_take (i := 31) (v := undef) (by first | (simp only [List.getElem?_toArray, List.getElem?_cons_succ, List.getElem?_cons_zero]; done) | (simp only [List.getElem?_toArray, List.getElem?_cons_succ, List.getElem?_cons_zero]; rfl)) (by kernel_rfl) (by kernel_rfl) (by kernel_rfl) (by intro _ _ _ h; exact h) (Or.inr ⟨by kernel_rfl, rfl⟩) hHeld ?_
                    simp only [Act.put, List.setIfInBounds_toArray, List.set_cons_zero, List.set_cons_succ]
                    refine wpAnyH_take (i := 32) (v := undef) (by first | (simp only [List.getElem?_toArray, List.getElem?_cons_succ, List.getElem?_cons_zero]; done) | (simp only [List.getElem?_toArray, List.getElem?_cons_succ, List.getElem?_cons_zero]; rfl)) (by kernel_rfl) (by kernel_rfl) (by kernel_rfl) (by intro _ _ _ h; exact h) (Or.inr ⟨by kernel_rfl, rfl⟩) hHeld ?_
                    simp only [Act.put, List.setIfInBounds_toArray, List.set_cons_zero, List.set_cons_succ]
                    refine wpAnyH_take (i := 33) (v := undef) (by first | (simp only [List.getElem?_toArray, List.getElem?_cons_succ, List.getElem?_cons_zero]; done) | (simp only [List.getElem?_toArray, List.getElem?_cons_succ, List.getElem?_cons_zero]; rfl)) (by kernel_rfl) (by kernel_rfl) (by kernel_rfl) (by intro _ _ _ h; exact h) (Or.inr ⟨by kernel_rfl, rfl⟩) hHeld ?_
                    simp only [Act.put, List.setIfInBounds_toArray, List.set_cons_zero, List.set_cons_succ]
                    refine wpAnyH_take (i := 34) (v := undef) (by first | (simp only [List.getElem?_toArray, List.getElem?_cons_succ, List.getElem?_cons_zero]; done) | (simp only [List.getElem?_toArray, List.getElem?_cons_succ, List.getElem?_cons_zero]; rfl)) (by kernel_rfl) (by kernel_rfl) (by kernel_rfl) (by intro _ _ _ h; exact h) (Or.inr ⟨by kernel_rfl, rfl⟩) hHeld ?_
                    simp only [Act.put, List.setIfInBounds_toArray, List.set_cons_zero, List.set_cons_succ]
                    refine wpAnyH_take (i := 35) (v := undef) (by first | (simp only [List.getElem?_toArray, List.getElem?_cons_succ, List.getElem?_cons_zero]; done) | (simp only [List.getElem?_toArray, List.getElem?_cons_succ, List.getElem?_cons_zero]; rfl)) (by kernel_rfl) (by kernel_rfl) (by kernel_rfl) (by intro _ _ _ h; exact h) (Or.inr ⟨by kernel_rfl, rfl⟩) hHeld ?_
                    simp only [Act.put, List.setIfInBounds_toArray, List.set_cons_zero, List.set_cons_succ]
                    refine wpAnyH_take (i := 36) (v := undef) (by first | (simp only [List.getElem?_toArray, List.getElem?_cons_succ, List.getElem?_cons_zero]; done) | (simp only [List.getElem?_toArray, List.getElem?_cons_succ, List.getElem?_cons_zero]; rfl)) (by kernel_rfl) (by kernel_rfl) (by kernel_rfl) (by intro _ _ _ h; exact h) (Or.inr ⟨by kernel_rfl, rfl⟩) hHeld ?_
                    simp only [Act.put, List.setIfInBounds_toArray, List.set_cons_zero, List.set_cons_succ]
                    refine wpAnyH_take (i := 37) (v := ?v37) (by first | (simp only [List.getElem?_toArray, List.getElem?_cons_succ, List.getElem?_cons_zero]; done) | (simp only [List.getElem?_toArray, List.getElem?_cons_succ, List.getElem?_cons_zero]; rfl)) (by kernel_rfl) (by kernel_rfl) (by kernel_rfl) (by intro _ _ _ h; exact h) (Or.inl ⟨by kernel_rfl, ?h37⟩) hHeld ?r37
                    case h37 => (intro w_ hSw; (try dsimp only at hSw); go_simp; (try with_reducible rfl))
                    simp only [Act.put, List.setIfInBounds_toArray, List.set_cons_zero, List.set_cons_succ]
                    refine wpAnyH_done (by kernel_rfl) ?_ _
                    go_wp2
                    go_ret
                    exact ⟨ret_boolV (validT_lk hkx.out (liOk_clash hx.out hq.out hjk (by simp [clash, u1]))), below_keepD hB2 hbP⟩
                  · rcases Bool.eq_false_or_eq_true (uses q l2.b l2.bi) with u2 | u2
                    · go_wp2_with fail
                      go_region_held3 (fun w' => w'.cell? ⟨w.heap.size, 1, none⟩ = some (.slice (some ⟨b, off, none⟩) m d) ∧ w'.cell? ⟨b, off + j * 5, none⟩ = some (.int .i64 q.a) ∧ w'.cell? ⟨b, off + j * 5 + 1, none⟩ = some (.int .i64 q.ai) ∧ w'.cell? ⟨b, off + j * 5 + 2, none⟩ = some (.int .i64 q.b) ∧ w'.cell? ⟨b, off + j * 5 + 3, none⟩ = some (.int .i64 q.bi) ∧ w'.cell? ⟨b, off + j * 5 + 4, none⟩ = some (.int .i64 q.kind) ∧ w'.cell? ⟨b, off + k * 5, none⟩ = some (.int .i64 l2.a) ∧ w'.cell? ⟨b, off + k * 5 + 1, none⟩ = some (.int .i64 l2.ai) ∧ w'.cell? ⟨b, off + k * 5 + 2, none⟩ = some (.int .i64 l2.b) ∧ w'.cell? ⟨b, off + k * 5 + 3, none⟩ = some (.int .i64 l2.bi)) (first | exact ⟨cell_keep0 (cell_keepD by1 hbP) hbQ, cell_keep0 (cell_keepD d0 hbP) hbQ, cell_keep0 (cell_keepD d1 hbP) hbQ, cell_keep0 (cell_keepD d2 hbP) hbQ, cell_keep0 (cell_keepD d3 hbP) hbQ, cell_keep0 (cell_keepD d4 hbP) hbQ, cell_keep0 (cell_keepD c0 hbP) hbQ, cell_keep0 (cell_keepD c1 hbP) hbQ, cell_keep0 (cell_keepD c2 hbP) hbQ, cell_keep0 (cell_keepD c3 hbP) hbQ⟩ | exact ⟨cell_keepD by1 hbP, cell_keepD d0 hbP, cell_keepD d1 hbP, cell_keepD d2 hbP, cell_keepD d3 hbP, cell_keepD d4 hbP, cell_keepD c0 hbP, cell_keepD c1 hbP, cell_keepD c2 hbP, cell_keepD c3 hbP⟩ | exact ⟨by1, d0, d1, d2, d3, d4, c0, c1, c2, c3⟩) (first | (have _hX := hbP; go_at_call 53; refine (uses_s q l2.b l2.bi _).mono ?_; rintro e w4 ⟨rfl, hbQ⟩) | (go_at_call 53; refine (uses_s q l2.a l2.ai _).mono ?_; rintro e w3 ⟨rfl, hbP⟩; rw [u1]))
                      go_wp2
                      go_ret
                      exact ⟨ret_boolV (validT_lk hkx.out (liOk_clash hx.out hq.out hjk (by simp [clash, u2]))), below_keep0 (below_keepD hB2 hbP) hbQ⟩
                    · go_wp2_with fail
                      go_region_held3 (fun w' => w'.cell? ⟨w.heap.size, 1, none⟩ = some (.slice (some ⟨b, off, none⟩) m d) ∧ w'.cell? ⟨b, off + j * 5, none⟩ = some (.int .i64 q.a) ∧ w'.cell? ⟨b, off + j * 5 + 1, none⟩ = some (.int .i64 q.ai) ∧ w'.cell? ⟨b, off + j * 5 + 2, none⟩ = some (.int .i64 q.b) ∧ w'.cell? ⟨b, off + j * 5 + 3, none⟩ = some (.int .i64 q.bi) ∧ w'.cell? ⟨b, off + j * 5 + 4, none⟩ = some (.int .i64 q.kind) ∧ w'.cell? ⟨b, off + k * 5, none⟩ = some (.int .i64 l2.a) ∧ w'.cell? ⟨b, off + k * 5 + 1, none⟩ = some (.int .i64 l2.ai) ∧ w'.cell? ⟨b, off + k * 5 + 2, none⟩ = some (.int .i64 l2.b) ∧ w'.cell? ⟨b, off + k * 5 + 3, none⟩ = some (.int .i64 l2.bi)) (first | exact ⟨cell_keep0 (cell_keepD by1 hbP) hbQ, cell_keep0 (cell_keepD d0 hbP) hbQ, cell_keep0 (cell_keepD d1 hbP) hbQ, cell_keep0 (cell_keepD d2 hbP) hbQ, cell_keep0 (cell_keepD d3 hbP) hbQ, cell_keep0 (cell_keepD d4 hbP) hbQ, cell_keep0 (cell_keepD c0 hbP) hbQ, cell_keep0 (cell_keepD c1 hbP) hbQ, cell_keep0 (cell_keepD c2 hbP) hbQ, cell_keep0 (cell_keepD c3 hbP) hbQ⟩ | exact ⟨cell_keepD by1 hbP, cell_keepD d0 hbP, cell_keepD d1 hbP, cell_keepD d2 hbP, cell_keepD d3 hbP, cell_keepD d4 hbP, cell_keepD c0 hbP, cell_keepD c1 hbP, cell_keepD c2 hbP, cell_keepD c3 hbP⟩ | exact ⟨by1, d0, d1, d2, d3, d4, c0, c1, c2, c3⟩) (first | (have _hX := hbP; go_at_call 53; refine (uses_s q l2.b l2.bi _).mono ?_; rintro e w4 ⟨rfl, hbQ⟩) | (go_at_call 53; refine (uses_s q l2.a l2.ai _).mono ?_; rintro e w3 ⟨rfl, hbP⟩; rw [u1]))
                      go_wp2
                      go_roundw
                      case rel => exact ⟨j + 1, by omega, by go_num, all_take_succ hin.out hq.out (by simp [clash, u1, u2]), below_keep0 (below_keepD hc hbP) hbQ⟩
                      case measure => simp [intOf]; omega
                · replace hin : Hid (((ls.take k).all fun q => !clash l q) = true) := by
                    obtain rfl : j = k := by omega
                    exact hin
                  have jc3 : ¬ ((j : Int) < (k : Int)) := by omega
                  go_wp2
                  go_roundw
                  case rel => exact ⟨k + 1, by omega, by go_num, all_range_succ hall2.out (liOk_good hx.out hok hin.out), hB2, by0, by1⟩
                  case measure => simp [intOf]; omega
            · go_wp2_with fail
              go_region_held3 (fun w' => w'.cell? ⟨w.heap.size, 0, none⟩ = some (.slice A n c) ∧ w'.cell? ⟨w.heap.size, 1, none⟩ = some (.slice (some ⟨b, off, none⟩) m d) ∧ w'.cell? ⟨b, off + k * 5, none⟩ = some (.int .i64 l.a) ∧ w'.cell? ⟨b, off + k * 5 + 1, none⟩ = some (.int .i64 l.ai) ∧ w'.cell? ⟨b, off + k * 5 + 2, none⟩ = some (.int .i64 l.b) ∧ w'.cell? ⟨b, off + k * 5 + 3, none⟩ = some (.int .i64 l.bi) ∧ w'.cell? ⟨b, off + k * 5 + 4, none⟩ = some (.int .i64 l.kind)) (first | exact ⟨cell_keepD bx0 hbP, cell_keepD bx1 hbP, cell_keepD c0 hbP, cell_keepD c1 hbP, cell_keepD c2 hbP, cell_keepD c3 hbP, cell_keepD c4 hbP⟩ | exact ⟨bx0, bx1, c0, c1, c2, c3, c4⟩) (first | (go_at_call 59; refine (linkOk_s _ _ _ _ _ _ xs l _ ?_ hn).mono ?_; (exact Rd.drew hA'); rintro e w2 ⟨rfl, hbP⟩))
              go_wp2
              go_ret
              exact ⟨ret_boolV (validT_lk hkx.out (liOk_bad hx.out hok)), below_keepD hb hbP⟩
          · replace hall2 : Hid ((List.range m).all (liOk xs ls) = true) := by
              obtain rfl : k = m := by omega
              exact hall2
            go_wp2
            go_ret
            exact ⟨ret_boolV (validT_good (by rw [hal.out]; exact h0.1) (by rw [hal.out]; exact h0.2) (by rw [hal.out]; exact hall.out) (by rw [hll.out]; exact hall2.out)), hb⟩
  · have v0 : inR (n : Int) 1 8 = false := by rw [Bool.eq_false_iff]; intro hh; exact h0 (inR_iff.1 hh)
    go_enter Try.func27, Try.ntmps27
    go_wp2_with (first | (go_at_call 57; refine (inRg_s _ _ _ _).mono ?_; rintro e w' ⟨rfl, rfl⟩) | (go_at_call 58; refine (vkey_s _ _).mono ?_; rintro e w' ⟨rfl, rfl⟩))
    go_ret
    exact ⟨ret_boolV (validT_len (by rw [hal.out]; exact h0)), (Below.refl _ _).alloc (Nat.le_refl _) _⟩
end Go.Proofs.Ytehfcejpoigclaa
