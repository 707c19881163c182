/- Contracts of ValidTopology. -/
import Derived.Test.YtehfcejpoigclaaRows
import Derived.Test.YtehfcejpoigclaaMem
import Derived.Test.YtehfcejpoigclaaTopoMem
import Derived.Test.YtehfcejpoigclaaTopoPure
import Derived.Test.YtehfcejpoigclaaSetPure
import Derived.Test.YtehfcejpoigclaaRng
import Derived.Test.YtehfcejpoigclaaValidPure
import Derived.Test.YtehfcejpoigclaaValid1
import Derived.Test.YtehfcejpoigclaaValid2
import Derived.Test.YtehfcejpoigclaaTopo1
import Derived.Deep.QuietTactic
import Derived.BigQuiet
import Derived.WalkSmall
import Derived.Deep.RegionHeld3
import Derived.StillTailTactics
import Derived.Outline
namespace Go.Proofs.Ytehfcejpoigclaa
open Go.RowKit
set_option linter.unusedVariables false

def VRel (w : World) (n : Nat) (p : Nat → Bool) (A : Option Addr) (na c : Nat) (L : Option Addr) (m d : Nat) (i : Value) (wr : World) : Prop :=
  ∃ k : Nat, k ≤ n ∧ i = .int .i64 k ∧ (List.range k).all p = true ∧ Below w.heap.size w wr ∧ wr.cell? ⟨w.heap.size, 0, none⟩ = some (.slice A na c) ∧ wr.cell? ⟨w.heap.size, 1, none⟩ = some (.slice L m d)
def URel {α : Type} (w : World) (n : Nat) (xs : List α) (p : α → Bool) (i : Value) (wr : World) : Prop :=
  ∃ j : Nat, j ≤ n ∧ i = .int .i64 j ∧ (xs.take j).all p = true ∧ Below w.heap.size w wr
set_option maxHeartbeats 4000000 in
set_option maxRecDepth 100000 in
theorem valid_i (A : Option Addr) (n c : Nat) (L : Option Addr) (m d : Nat) (xs : List As) (ls : List Lk) (w : World) (hA : Ra w A n xs) (hL : Rl w L m ls) (hnc : n ≤ c) (hmd : m ≤ d) (hm : m ≤ 1048576) (hn : n ≤ 1048576) :
    Calls Try.prog 26 #[.agg #[.slice A n c, .slice L m d]] w fun e w' => e = .returned (.bool (validT xs ls)) ∧ Below w.heap.size w w' := by
  have hal := Lib.hid hA.len
  have hll := Lib.hid hL.len
  by_cases h0 : 1 ≤ (n : Int) ∧ (n : Int) ≤ 8
  · have v0 : inR (n : Int) 1 8 = true := inR_true h0.1 h0.2
    go_enter Try.func26, Try.ntmps26
    go_wp2_with (first | (go_at_call 54; refine (inRg_i _ _ _ _).mono ?_; rintro e w' ⟨rfl, rfl⟩) | (go_at_call 55; refine (vkey_i _ _).mono ?_; rintro e w' ⟨rfl, rfl⟩))
    go_loopw [19] (VRel w n (asOk xs) A n c L m d) (fun i _ => n - (intOf i).toNat)
    case atStart => exact ⟨0, Nat.zero_le _, rfl, rfl, (Below.refl _ _).alloc (Nat.le_refl _) _, by simp, by simp⟩
    case round =>
      obtain ⟨k, hk, rfl, hall0, hb, bx0, bx1⟩ := hrel
      have hall := Lib.hid hall0
      clear hall0
      have hs := hb.size
      have hbl : w.heap.size < wr.heap.size := World.block_lt_of_cell? wr _ bx0
      by_cases hlt : k < n
      · have hA' := hA.below hb (Nat.le_refl _)
        obtain ⟨b, off, x, rfl, hx0, a0, a1, a2⟩ := hA'.get hlt
        have hx := Lib.hid hx0
        clear hx0
        have hkx : Hid (k < xs.length) := Lib.hid (by have := hal.out; omega)
        by_cases h1 : 0 ≤ x.isd ∧ x.isd ≤ 2
        · have v1 : inR x.isd 0 2 = true := inR_true h1.1 h1.2
          by_cases h2 : 1 ≤ x.key ∧ x.key ≤ 2147483646
          · have v2 : inR x.key 1 2147483646 = true := inR_true h2.1 h2.2
            have kc1 : (0 : Int) ≤ (k : Int) := by omega
            have kc2 : (k : Int) ≤ (c : Int) := by omega
            go_wp2_with (first | (go_at_call 54; refine (inRg_i _ _ _ _).mono ?_; rintro e w' ⟨rfl, rfl⟩) | (go_at_call 55; refine (vkey_i _ _).mono ?_; rintro e w' ⟨rfl, rfl⟩))
            generalize hw1 : wr.alloc _ = w1
            have key1 : w1.cell? ⟨wr.heap.size, 2, none⟩ = some (.int .i64 x.key) := by rw [← hw1]; simp
            have hb1 : Below w.heap.size w w1 := by rw [← hw1]; exact hb.alloc hs _
            have by0 : w1.cell? ⟨w.heap.size, 0, none⟩ = some (.slice (some ⟨b, off, none⟩) n c) := by rw [← hw1]; exact (World.cell?_alloc_lt wr _ _ (by simpa using hbl)).trans bx0
            have by1 : w1.cell? ⟨w.heap.size, 1, none⟩ = some (.slice L m d) := by rw [← hw1]; exact (World.cell?_alloc_lt wr _ _ (by simpa using hbl)).trans bx1
            obtain ⟨G, hG⟩ : ∃ G, G = wr.heap.size := ⟨_, rfl⟩
            rw [← hG] at key1 ⊢
            clear hw1 bx0 bx1 a0 a1 a2 hA' hb hs hbl hG
            go_loopw [39] (URel w1 k xs (fun y => !(y.key == x.key))) (fun i _ => k - (intOf i).toNat)
            case atStart => exact ⟨0, Nat.zero_le _, rfl, rfl, Below.refl _ _⟩
            case round =>
              obtain ⟨j, hj, rfl, hin0, hc⟩ := hrel
              have hin := Lib.hid hin0
              clear hin0
              have hs1 := hb1.size
              have hs2 := hc.size
              have hB2 := below_keep0 hb1 hc
              have hs3 := hB2.size
              have key2 := cell_keep0 key1 hc
              have hkl : G < wr.heap.size := World.block_lt_of_cell? wr _ key2
              by_cases hjk : j < k
              · obtain ⟨b2, off2, y, e', hy0, b0, b1, b2'⟩ := (hA.below hB2 (Nat.le_refl _)).get (i := j) (by omega)
                injection e' with e'
                injection e' with e1 e2
                subst e1
                subst e2
                have hy := Lib.hid hy0
                clear hy0
                have jc1 : (0 : Int) ≤ (j : Int) := by omega
                have jc2 : (j : Int) < (k : Int) := by omega
                by_cases hxy : y.key = x.key
                · have HXY := Lib.hid hxy
                  have qx : (x.key == y.key) = true := by rw [hxy]; simp
                  clear hxy
                  go_wp2
                  go_ret
                  exact ⟨ret_boolV (validT_as hkx.out (asOk_same hx.out hy.out hjk HXY.out)), hB2.alloc hs3 _⟩
                · have qx : (x.key == y.key) = false := by simp; omega
                  have qy : (!(y.key == x.key)) = true := by simp [hxy]
                  have QY := Lib.hid qy
                  clear qy
                  go_wp2
                  go_roundw
                  case rel => exact ⟨j + 1, by omega, by go_num, all_take_succ hin.out hy.out QY.out, hc.alloc hs2 _⟩
                  case measure => simp [intOf]; omega
              · replace hin : Hid (((xs.take k).all fun y => !(y.key == x.key)) = true) := by
                  obtain rfl : j = k := by omega
                  exact hin
                go_wp2
                go_roundw
                case rel => exact ⟨k + 1, by omega, by go_num, all_range_succ hall.out (asOk_good hx.out ⟨h1.1, h1.2, h2.1, h2.2⟩ hin.out), hB2, cell_keep0 by0 hc, cell_keep0 by1 hc⟩
                case measure => simp [intOf]; omega
          · have v2 : inR x.key 1 2147483646 = false := by rw [Bool.eq_false_iff]; intro hh; exact h2 (inR_iff.1 hh)
            go_wp2_with (first | (go_at_call 54; refine (inRg_i _ _ _ _).mono ?_; rintro e w' ⟨rfl, rfl⟩) | (go_at_call 55; refine (vkey_i _ _).mono ?_; rintro e w' ⟨rfl, rfl⟩))
            go_ret
            exact ⟨ret_boolV (validT_as hkx.out (asOk_bad hx.out (by omega))), hb.alloc hs _⟩
        · have v1 : inR x.isd 0 2 = false := by rw [Bool.eq_false_iff]; intro hh; exact h1 (inR_iff.1 hh)
          go_wp2_with (first | (go_at_call 54; refine (inRg_i _ _ _ _).mono ?_; rintro e w' ⟨rfl, rfl⟩) | (go_at_call 55; refine (vkey_i _ _).mono ?_; rintro e w' ⟨rfl, rfl⟩))
          go_ret
          exact ⟨ret_boolV (validT_as hkx.out (asOk_bad hx.out (by omega))), hb.alloc hs _⟩
      · replace hall : Hid ((List.range n).all (asOk xs) = true) := by
          obtain rfl : k = n := by omega
          exact hall
        go_wp2
        go_loopw [53] (VRel w m (liOk xs ls) A n c L m d) (fun i _ => m - (intOf i).toNat)
        case atStart => exact ⟨0, Nat.zero_le _, rfl, rfl, hb, bx0, bx1⟩
        case round =>
          clear hb hs bx0 bx1 hbl
          obtain ⟨k, hk, rfl, hall20, hb, bx0, bx1⟩ := hrel
          have hall2 := Lib.hid hall20
          clear hall20
          have hs := hb.size
          have hbl : w.heap.size < wr.heap.size := World.block_lt_of_cell? wr _ bx0
          by_cases hlt : k < m
          · have hL' := hL.below hb (Nat.le_refl _)
            obtain ⟨b, off, l, rfl, hx0, c0, c1, c2, c3, c4⟩ := hL'.get hlt
            have hx := Lib.hid hx0
            clear hx0 hL'
            have hkx : Hid (k < ls.length) := Lib.hid (by have := hll.out; omega)
            have kc1 : (0 : Int) ≤ (k : Int) := by omega
            have kc2 : (k : Int) ≤ (d : Int) := by omega
            go_wp2_with fail
            generalize hw1 : wr.alloc _ = w1
            have g0 : w1.cell? ⟨wr.heap.size, 0, none⟩ = some (.int .i64 l.a) := by rw [← hw1]; simp
            have g1 : w1.cell? ⟨wr.heap.size, 1, none⟩ = some (.int .i64 l.ai) := by rw [← hw1]; simp
            have g2 : w1.cell? ⟨wr.heap.size, 2, none⟩ = some (.int .i64 l.b) := by rw [← hw1]; simp
            have g3 : w1.cell? ⟨wr.heap.size, 3, none⟩ = some (.int .i64 l.bi) := by rw [← hw1]; simp
            have hb1 : Below w.heap.size w w1 := by rw [← hw1]; exact hb.alloc hs _
            have by0 : w1.cell? ⟨w.heap.size, 0, none⟩ = some (.slice A n c) := by rw [← hw1]; exact (World.cell?_alloc_lt wr _ _ (by simpa using hbl)).trans bx0
            have by1 : w1.cell? ⟨w.heap.size, 1, none⟩ = some (.slice (some ⟨b, off, none⟩) m d) := by rw [← hw1]; exact (World.cell?_alloc_lt wr _ _ (by simpa using hbl)).trans bx1
            obtain ⟨G, hG⟩ : ∃ G, G = wr.heap.size := ⟨_, rfl⟩
            rw [← hG] at g0 g1 g2 g3 ⊢
            clear hw1 bx0 bx1 c0 c1 c2 c3 c4 hb hs hbl hG
            refine (linkOk_i _ _ _ _ _ _ xs l _ (hA.below hb1 (Nat.le_refl _)) hn).mono ?_
            rintro e w2 ⟨rfl, hb2⟩
            replace g0 := cell_keep0 g0 hb2
            replace g1 := cell_keep0 g1 hb2
            replace g2 := cell_keep0 g2 hb2
            replace g3 := cell_keep0 g3 hb2
            replace by0 := cell_keep0 by0 hb2
            replace by1 := cell_keep0 by1 hb2
            replace hb1 := below_keep0 hb1 hb2
            clear hb2
            rcases Bool.eq_false_or_eq_true (lkOk xs l) with hok | hok
            · rw [hok]
              go_wp2
              go_loopw [67] (URel w2 k ls (fun q => !clash l q)) (fun i _ => k - (intOf i).toNat)
              case atStart => exact ⟨0, Nat.zero_le _, rfl, rfl, Below.refl _ _⟩
              case round =>
                obtain ⟨j, hj, rfl, hin0, hc⟩ := hrel
                have hin := Lib.hid hin0
                clear hin0
                have hs2 := hc.size
                have hB2 := below_keep0 hb1 hc
                have hs3 := hB2.size
                have k0 := cell_keep0 g0 hc
                have k1 := cell_keep0 g1 hc
                have k2 := cell_keep0 g2 hc
                have k3 := cell_keep0 g3 hc
                have hkl : G < wr.heap.size := World.block_lt_of_cell? wr _ k0
                by_cases hjk : j < k
                · obtain ⟨b2, off2, q, e', hq0, d0, d1, d2, d3, d4⟩ := (hL.below hB2 (Nat.le_refl _)).get (i := j) (by omega)
                  injection e' with e'
                  injection e' with e1 e2
                  subst e1
                  subst e2
                  have hq := Lib.hid hq0
                  clear hq0
                  have jc1 : (0 : Int) ≤ (j : Int) := by omega
                  have jc2 : (j : Int) < (k : Int) := by omega
                  go_wp2_with fail
                  generalize hw3 : wr.alloc _ = w3
                  have r0 : w3.cell? ⟨wr.heap.size, 0, none⟩ = some (.int .i64 q.a) := by rw [← hw3]; simp
                  have r1 : w3.cell? ⟨wr.heap.size, 1, none⟩ = some (.int .i64 q.ai) := by rw [← hw3]; simp
                  have r2 : w3.cell? ⟨wr.heap.size, 2, none⟩ = some (.int .i64 q.b) := by rw [← hw3]; simp
                  have r3 : w3.cell? ⟨wr.heap.size, 3, none⟩ = some (.int .i64 q.bi) := by rw [← hw3]; simp
                  have r4 : w3.cell? ⟨wr.heap.size, 4, none⟩ = some (.int .i64 q.kind) := by rw [← hw3]; simp
                  have f2 : w3.cell? ⟨G, 2, none⟩ = some (.int .i64 l.b) := by rw [← hw3]; exact (World.cell?_alloc_lt wr _ _ (by simpa using hkl)).trans k2
                  have f3 : w3.cell? ⟨G, 3, none⟩ = some (.int .i64 l.bi) := by rw [← hw3]; exact (World.cell?_alloc_lt wr _ _ (by simpa using hkl)).trans k3
                  have hB3 : Below w.heap.size w w3 := by rw [← hw3]; exact hB2.alloc hs3 _
                  have hC3 : Below w2.heap.size w2 w3 := by rw [← hw3]; exact hc.alloc hs2 _
                  clear hw3 d0 d1 d2 d3 d4 k0 k1 k2 k3
                  refine (uses_i q _ _ _).mono ?_
                  rintro e w4 ⟨rfl, hb4⟩
                  rcases Bool.eq_false_or_eq_true (uses q l.a l.ai) with u1 | u1
                  · rw [u1]
                    go_wp2
                    go_ret
                    exact ⟨ret_boolV (validT_lk hkx.out (liOk_clash hx.out hq.out hjk (by simp [clash, u1]))), below_keep0 hB3 hb4⟩
                  · rw [u1]
                    replace r0 := cell_keep0 r0 hb4
                    replace r1 := cell_keep0 r1 hb4
                    replace r2 := cell_keep0 r2 hb4
                    replace r3 := cell_keep0 r3 hb4
                    replace r4 := cell_keep0 r4 hb4
                    replace f2 := cell_keep0 f2 hb4
                    replace f3 := cell_keep0 f3 hb4
                    replace hB3 := below_keep0 hB3 hb4
                    replace hC3 := below_keep0 hC3 hb4
                    clear hb4
                    go_wp2_with fail
                    refine (uses_i q _ _ _).mono ?_
                    rintro e w5 ⟨rfl, hb5⟩
                    rcases Bool.eq_false_or_eq_true (uses q l.b l.bi) with u2 | u2
                    · rw [u2]
                      go_wp2
                      go_ret
                      exact ⟨ret_boolV (validT_lk hkx.out (liOk_clash hx.out hq.out hjk (by simp [clash, u2]))), below_keep0 hB3 hb5⟩
                    · rw [u2]
                      go_wp2
                      go_roundw
                      case rel => exact ⟨j + 1, by omega, by go_num, all_take_succ hin.out hq.out (by simp [clash, u1, u2]), below_keep0 hC3 hb5⟩
                      case measure => simp [intOf]; omega
                · replace hin : Hid (((ls.take k).all fun q => !clash l q) = true) := by
                    obtain rfl : j = k := by omega
                    exact hin
                  go_wp2
                  go_roundw
                  case rel => exact ⟨k + 1, by omega, by go_num, all_range_succ hall2.out (liOk_good hx.out hok hin.out), hB2, cell_keep0 by0 hc, cell_keep0 by1 hc⟩
                  case measure => simp [intOf]; omega
            · rw [hok]
              go_wp2
              go_ret
              exact ⟨ret_boolV (validT_lk hkx.out (liOk_bad hx.out hok)), hb1⟩
          · replace hall2 : Hid ((List.range m).all (liOk xs ls) = true) := by
              obtain rfl : k = m := by omega
              exact hall2
            go_wp2
            go_ret
            exact ⟨ret_boolV (validT_good (by rw [hal.out]; exact h0.1) (by rw [hal.out]; exact h0.2) (by rw [hal.out]; exact hall.out) (by rw [hll.out]; exact hall2.out)), hb⟩
  · have v0 : inR (n : Int) 1 8 = false := by rw [Bool.eq_false_iff]; intro hh; exact h0 (inR_iff.1 hh)
    go_enter Try.func26, Try.ntmps26
    go_wp2_with (first | (go_at_call 54; refine (inRg_i _ _ _ _).mono ?_; rintro e w' ⟨rfl, rfl⟩) | (go_at_call 55; refine (vkey_i _ _).mono ?_; rintro e w' ⟨rfl, rfl⟩))
    go_ret
    exact ⟨ret_boolV (validT_len (by rw [hal.out]; exact h0)), (Below.refl _ _).alloc (Nat.le_refl _) _⟩
end Go.Proofs.Ytehfcejpoigclaa
