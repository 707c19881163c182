/- Contracts of ReadVarint. -/
import Derived.Test.YtenkmppmjfhajaaRows
import Derived.Test.YtenkmppmjfhajaaMem
import Derived.Test.YtenkmppmjfhajaaVarPure
import Derived.Test.YtenkmppmjfhajaaRead
import Derived.Outline
namespace Go.Proofs.Ytenkmppmjfhajaa
open Go.RowKit
set_option linter.unusedVariables false

set_option maxHeartbeats 4000000 in
theorem readVarint_s (A : Option Addr) (m c : Nat) (zs : List Int) (a : Int) (w : World) (hr : Ri w .u8 A m zs) (hby : Bys zs) (hm : m ≤ 1073741824) (ha : a ≤ 9223372036854775807) :
    Calls Try.prog 61 #[.slice A m c, .int .i64 a] w fun e w' => RdIs (rdV zs a) a e ∧ w = w' := by
  have HB := Lib.hid hby
  clear hby
  have hl := Lib.hid hr.len
  rcases Int.lt_or_le a 0 with hneg | hpos
  · have hno := Lib.hid (show rdV zs a = none by rw [rdV, if_pos hneg])
    have hdc : decide (a < 0) = true := decide_eq_true hneg
    go_enter Try.func61, Try.ntmps61
    go_wp2
    refine wp_loop_rounds 1 ?_
    rw [rounds_succ]
    go_wp2
    go_ret3
    exact ⟨rd_no hno.out, rfl⟩
  · obtain ⟨a0, rfl⟩ := Int.eq_ofNat_of_zero_le hpos
    have hnl : ¬ ((a0 : Int) < 0) := by omega
    have hdc : decide ((a0 : Int) < 0) = false := decide_eq_false hnl
    go_enter Try.func61, Try.ntmps61
    go_wp2
    go_loop [7, 8] (RelS a0 zs) (fun _ kk => 6 - (intOf kk).toNat)
    case atStart => exact ⟨0, 0, rfl, rfl, by omega, by omega, by decide, Lib.hid (rd_start a0 zs)⟩
    case round =>
    obtain ⟨k, n, rfl, rfl, hk, hn1, hn2, hd⟩ := hrel
    rcases (show k = 0 ∨ k = 1 ∨ k = 2 ∨ k = 3 ∨ k = 4 ∨ k = 5 ∨ k = 6 from by omega) with rfl | rfl | rfl | rfl | rfl | rfl | rfl
    · -- round 0
      have hp : Hid ((2 : Int) ^ (7 * 0) = 1) := Lib.hid (by decide)
      have hnn : n < 1 := by rw [hp.out] at hn2; exact hn2
      clear hn2
      by_cases hlt : a0 < m
      · have hltI : ¬ ((m : Int) ≤ (a0 : Int)) := by omega
        have hltJ : (a0 : Int) < (m : Int) := by omega
        have hltK : decide ((m : Int) ≤ (a0 : Int)) = false := decide_eq_false hltI
        obtain ⟨b1, o1, x, rfl, hx0, hc1⟩ := hr.get hlt
        have hxb := HB.out x (List.mem_of_getElem? hx0)
        have hx1 := hxb.1
        have hx2 := hxb.2
        have hx := Lib.hid hx0
        clear hx0 hxb
        have hand := and127 x hx1 (by omega)
        obtain rfl : n = 0 := by omega
        have hor := or_lit 0 (x % 128) 0 (by omega) (by omega) (by omega) (by omega) (by omega)
        simp only [Int.pow_zero, Int.mul_one, Int.zero_add] at hor
        by_cases h128 : x < 128
        · have hS := Lib.hid (fun h2 => rd_stop (P := 1) hd.out hx.out h128 hp.out h2)
          have hG := Lib.hid (fun h2 => rd_good (P := 1) hd.out hx.out h128 hp.out h2)
          have hk0 : ¬ ((1000000000000 : Int) < x % 128) := by omega
          by_cases hz : x = 0
          · subst hz
            go_wp2
            go_ret3
            exact ⟨rd_yes (hG.out (by omega)) (by first | omega | kernel_rfl) (by omega), rfl⟩
          · have hzb : (x == 0) = false := by simpa using hz
            go_wp2
            go_ret3
            exact ⟨rd_yes (hG.out (by omega)) (by omega) (by omega), rfl⟩
        · have hM := Lib.hid (rd_more (P := 1) hd.out hx.out h128 hp.out)
          go_wp2
          go_round
          case rel =>
            have hnx : (2 : Int) ^ (7 * 1) = 128 := by decide
            exact ⟨1, 0 + x % 128 * 1, by go_num, by go_num, by omega, by omega, by rw [hnx]; omega, Lib.hid (by first | exact hM.out | simpa using hM.out)⟩
          case measure => simp [intOf]
      · have hltI : (m : Int) ≤ (a0 : Int) := by omega
        have hltK : decide ((m : Int) ≤ (a0 : Int)) = true := decide_eq_true hltI
        have hE := Lib.hid (rd_end hd.out (by rw [hl.out]; omega))
        go_wp2
        go_ret3
        exact ⟨rd_no hE.out, rfl⟩
    · -- round 1
      have hp : Hid ((2 : Int) ^ (7 * 1) = 128) := Lib.hid (by decide)
      have hnn : n < 128 := by rw [hp.out] at hn2; exact hn2
      clear hn2
      by_cases hlt : a0 + 1 < m
      · have hltI : ¬ ((m : Int) - 1 ≤ (a0 : Int)) := by omega
        have hltJ : (a0 : Int) + 1 < (m : Int) := by omega
        have hltK : decide ((m : Int) - 1 ≤ (a0 : Int)) = false := decide_eq_false hltI
        obtain ⟨b1, o1, x, rfl, hx0, hc1⟩ := hr.get hlt
        have hxb := HB.out x (List.mem_of_getElem? hx0)
        have hx1 := hxb.1
        have hx2 := hxb.2
        have hx := Lib.hid hx0
        clear hx0 hxb
        have hand := and127 x hx1 (by omega)
        have hor := or_lit n (x % 128) (7 * 1) hn1 (by rw [hp.out]; exact hnn) (by omega) (by omega) (by omega)
        rw [hp.out] at hor
        by_cases h128 : x < 128
        · have hS := Lib.hid (fun h2 => rd_stop (P := 128) hd.out hx.out h128 hp.out h2)
          have hG := Lib.hid (fun h2 => rd_good (P := 128) hd.out hx.out h128 hp.out h2)
          by_cases hz : x = 0
          · subst hz
            go_wp2
            go_ret3
            exact ⟨rd_no (hS.out (Or.inl (by simp))), rfl⟩
          · have hzb : (x == 0) = false := by simpa using hz
            by_cases hmx : (1000000000000 : Int) < n + x % 128 * 128
            · go_wp2
              go_ret3
              exact ⟨rd_no (hS.out (Or.inr (by omega))), rfl⟩
            · go_wp2
              go_ret3
              exact ⟨rd_yes (hG.out (by omega)) (by omega) (by omega), rfl⟩
        · have hM := Lib.hid (rd_more (P := 128) hd.out hx.out h128 hp.out)
          go_wp2
          go_round
          case rel =>
            have hnx : (2 : Int) ^ (7 * 2) = 16384 := by decide
            exact ⟨2, n + x % 128 * 128, by go_num, by go_num, by omega, by omega, by rw [hnx]; omega, Lib.hid (by first | exact hM.out | simpa using hM.out)⟩
          case measure => simp [intOf]
      · have hltI : (m : Int) - 1 ≤ (a0 : Int) := by omega
        have hltK : decide ((m : Int) - 1 ≤ (a0 : Int)) = true := decide_eq_true hltI
        have hE := Lib.hid (rd_end hd.out (by rw [hl.out]; omega))
        go_wp2
        go_ret3
        exact ⟨rd_no hE.out, rfl⟩
    · -- round 2
      have hp : Hid ((2 : Int) ^ (7 * 2) = 16384) := Lib.hid (by decide)
      have hnn : n < 16384 := by rw [hp.out] at hn2; exact hn2
      clear hn2
      by_cases hlt : a0 + 2 < m
      · have hltI : ¬ ((m : Int) - 2 ≤ (a0 : Int)) := by omega
        have hltJ : (a0 : Int) + 2 < (m : Int) := by omega
        have hltK : decide ((m : Int) - 2 ≤ (a0 : Int)) = false := decide_eq_false hltI
        obtain ⟨b1, o1, x, rfl, hx0, hc1⟩ := hr.get hlt
        have hxb := HB.out x (List.mem_of_getElem? hx0)
        have hx1 := hxb.1
        have hx2 := hxb.2
        have hx := Lib.hid hx0
        clear hx0 hxb
        have hand := and127 x hx1 (by omega)
        have hor := or_lit n (x % 128) (7 * 2) hn1 (by rw [hp.out]; exact hnn) (by omega) (by omega) (by omega)
        rw [hp.out] at hor
        by_cases h128 : x < 128
        · have hS := Lib.hid (fun h2 => rd_stop (P := 16384) hd.out hx.out h128 hp.out h2)
          have hG := Lib.hid (fun h2 => rd_good (P := 16384) hd.out hx.out h128 hp.out h2)
          by_cases hz : x = 0
          · subst hz
            go_wp2
            go_ret3
            exact ⟨rd_no (hS.out (Or.inl (by simp))), rfl⟩
          · have hzb : (x == 0) = false := by simpa using hz
            by_cases hmx : (1000000000000 : Int) < n + x % 128 * 16384
            · go_wp2
              go_ret3
              exact ⟨rd_no (hS.out (Or.inr (by omega))), rfl⟩
            · go_wp2
              go_ret3
              exact ⟨rd_yes (hG.out (by omega)) (by omega) (by omega), rfl⟩
        · have hM := Lib.hid (rd_more (P := 16384) hd.out hx.out h128 hp.out)
          go_wp2
          go_round
          case rel =>
            have hnx : (2 : Int) ^ (7 * 3) = 2097152 := by decide
            exact ⟨3, n + x % 128 * 16384, by go_num, by go_num, by omega, by omega, by rw [hnx]; omega, Lib.hid (by first | exact hM.out | simpa using hM.out)⟩
          case measure => simp [intOf]
      · have hltI : (m : Int) - 2 ≤ (a0 : Int) := by omega
        have hltK : decide ((m : Int) - 2 ≤ (a0 : Int)) = true := decide_eq_true hltI
        have hE := Lib.hid (rd_end hd.out (by rw [hl.out]; omega))
        go_wp2
        go_ret3
        exact ⟨rd_no hE.out, rfl⟩
    · -- round 3
      have hp : Hid ((2 : Int) ^ (7 * 3) = 2097152) := Lib.hid (by decide)
      have hnn : n < 2097152 := by rw [hp.out] at hn2; exact hn2
      clear hn2
      by_cases hlt : a0 + 3 < m
      · have hltI : ¬ ((m : Int) - 3 ≤ (a0 : Int)) := by omega
        have hltJ : (a0 : Int) + 3 < (m : Int) := by omega
        have hltK : decide ((m : Int) - 3 ≤ (a0 : Int)) = false := decide_eq_false hltI
        obtain ⟨b1, o1, x, rfl, hx0, hc1⟩ := hr.get hlt
        have hxb := HB.out x (List.mem_of_getElem? hx0)
        have hx1 := hxb.1
        have hx2 := hxb.2
        have hx := Lib.hid hx0
        clear hx0 hxb
        have hand := and127 x hx1 (by omega)
        have hor := or_lit n (x % 128) (7 * 3) hn1 (by rw [hp.out]; exact hnn) (by omega) (by omega) (by omega)
        rw [hp.out] at hor
        by_cases h128 : x < 128
        · have hS := Lib.hid (fun h2 => rd_stop (P := 2097152) hd.out hx.out h128 hp.out h2)
          have hG := Lib.hid (fun h2 => rd_good (P := 2097152) hd.out hx.out h128 hp.out h2)
          by_cases hz : x = 0
          · subst hz
            go_wp2
            go_ret3
            exact ⟨rd_no (hS.out (Or.inl (by simp))), rfl⟩
          · have hzb : (x == 0) = false := by simpa using hz
            by_cases hmx : (1000000000000 : Int) < n + x % 128 * 2097152
            · go_wp2
              go_ret3
              exact ⟨rd_no (hS.out (Or.inr (by omega))), rfl⟩
            · go_wp2
              go_ret3
              exact ⟨rd_yes (hG.out (by omega)) (by omega) (by omega), rfl⟩
        · have hM := Lib.hid (rd_more (P := 2097152) hd.out hx.out h128 hp.out)
          go_wp2
          go_round
          case rel =>
            have hnx : (2 : Int) ^ (7 * 4) = 268435456 := by decide
            exact ⟨4, n + x % 128 * 2097152, by go_num, by go_num, by omega, by omega, by rw [hnx]; omega, Lib.hid (by first | exact hM.out | simpa using hM.out)⟩
          case measure => simp [intOf]
      · have hltI : (m : Int) - 3 ≤ (a0 : Int) := by omega
        have hltK : decide ((m : Int) - 3 ≤ (a0 : Int)) = true := decide_eq_true hltI
        have hE := Lib.hid (rd_end hd.out (by rw [hl.out]; omega))
        go_wp2
        go_ret3
        exact ⟨rd_no hE.out, rfl⟩
    · -- round 4
      have hp : Hid ((2 : Int) ^ (7 * 4) = 268435456) := Lib.hid (by decide)
      have hnn : n < 268435456 := by rw [hp.out] at hn2; exact hn2
      clear hn2
      by_cases hlt : a0 + 4 < m
      · have hltI : ¬ ((m : Int) - 4 ≤ (a0 : Int)) := by omega
        have hltJ : (a0 : Int) + 4 < (m : Int) := by omega
        have hltK : decide ((m : Int) - 4 ≤ (a0 : Int)) = false := decide_eq_false hltI
        obtain ⟨b1, o1, x, rfl, hx0, hc1⟩ := hr.get hlt
        have hxb := HB.out x (List.mem_of_getElem? hx0)
        have hx1 := hxb.1
        have hx2 := hxb.2
        have hx := Lib.hid hx0
        clear hx0 hxb
        have hand := and127 x hx1 (by omega)
        have hor := or_lit n (x % 128) (7 * 4) hn1 (by rw [hp.out]; exact hnn) (by omega) (by omega) (by omega)
        rw [hp.out] at hor
        by_cases h128 : x < 128
        · have hS := Lib.hid (fun h2 => rd_stop (P := 268435456) hd.out hx.out h128 hp.out h2)
          have hG := Lib.hid (fun h2 => rd_good (P := 268435456) hd.out hx.out h128 hp.out h2)
          by_cases hz : x = 0
          · subst hz
            go_wp2
            go_ret3
            exact ⟨rd_no (hS.out (Or.inl (by simp))), rfl⟩
          · have hzb : (x == 0) = false := by simpa using hz
            by_cases hmx : (1000000000000 : Int) < n + x % 128 * 268435456
            · go_wp2
              go_ret3
              exact ⟨rd_no (hS.out (Or.inr (by omega))), rfl⟩
            · go_wp2
              go_ret3
              exact ⟨rd_yes (hG.out (by omega)) (by omega) (by omega), rfl⟩
        · have hM := Lib.hid (rd_more (P := 268435456) hd.out hx.out h128 hp.out)
          go_wp2
          go_round
          case rel =>
            have hnx : (2 : Int) ^ (7 * 5) = 34359738368 := by decide
            exact ⟨5, n + x % 128 * 268435456, by go_num, by go_num, by omega, by omega, by rw [hnx]; omega, Lib.hid (by first | exact hM.out | simpa using hM.out)⟩
          case measure => simp [intOf]
      · have hltI : (m : Int) - 4 ≤ (a0 : Int) := by omega
        have hltK : decide ((m : Int) - 4 ≤ (a0 : Int)) = true := decide_eq_true hltI
        have hE := Lib.hid (rd_end hd.out (by rw [hl.out]; omega))
        go_wp2
        go_ret3
        exact ⟨rd_no hE.out, rfl⟩
    · -- round 5
      have hp : Hid ((2 : Int) ^ (7 * 5) = 34359738368) := Lib.hid (by decide)
      have hnn : n < 34359738368 := by rw [hp.out] at hn2; exact hn2
      clear hn2
      by_cases hlt : a0 + 5 < m
      · have hltI : ¬ ((m : Int) - 5 ≤ (a0 : Int)) := by omega
        have hltJ : (a0 : Int) + 5 < (m : Int) := by omega
        have hltK : decide ((m : Int) - 5 ≤ (a0 : Int)) = false := decide_eq_false hltI
        obtain ⟨b1, o1, x, rfl, hx0, hc1⟩ := hr.get hlt
        have hxb := HB.out x (List.mem_of_getElem? hx0)
        have hx1 := hxb.1
        have hx2 := hxb.2
        have hx := Lib.hid hx0
        clear hx0 hxb
        have hand := and127 x hx1 (by omega)
        have hor := or_lit n (x % 128) (7 * 5) hn1 (by rw [hp.out]; exact hnn) (by omega) (by omega) (by omega)
        rw [hp.out] at hor
        by_cases h128 : x < 128
        · have hS := Lib.hid (fun h2 => rd_stop (P := 34359738368) hd.out hx.out h128 hp.out h2)
          have hG := Lib.hid (fun h2 => rd_good (P := 34359738368) hd.out hx.out h128 hp.out h2)
          by_cases hz : x = 0
          · subst hz
            go_wp2
            go_ret3
            exact ⟨rd_no (hS.out (Or.inl (by simp))), rfl⟩
          · have hzb : (x == 0) = false := by simpa using hz
            by_cases hmx : (1000000000000 : Int) < n + x % 128 * 34359738368
            · go_wp2
              go_ret3
              exact ⟨rd_no (hS.out (Or.inr (by omega))), rfl⟩
            · go_wp2
              go_ret3
              exact ⟨rd_yes (hG.out (by omega)) (by omega) (by omega), rfl⟩
        · have hM := Lib.hid (rd_more (P := 34359738368) hd.out hx.out h128 hp.out)
          go_wp2
          go_round
          case rel =>
            have hnx : (2 : Int) ^ (7 * 6) = 4398046511104 := by decide
            exact ⟨6, n + x % 128 * 34359738368, by go_num, by go_num, by omega, by omega, by rw [hnx]; omega, Lib.hid (by first | exact hM.out | simpa using hM.out)⟩
          case measure => simp [intOf]
      · have hltI : (m : Int) - 5 ≤ (a0 : Int) := by omega
        have hltK : decide ((m : Int) - 5 ≤ (a0 : Int)) = true := decide_eq_true hltI
        have hE := Lib.hid (rd_end hd.out (by rw [hl.out]; omega))
        go_wp2
        go_ret3
        exact ⟨rd_no hE.out, rfl⟩
    · have hE : Hid (rdV zs a0 = none) := Lib.hid hd.out
      go_wp2
      go_ret3
      exact ⟨rd_no hE.out, rfl⟩
end Go.Proofs.Ytenkmppmjfhajaa
