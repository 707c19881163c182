/- The walk of the law FnAlls: its call returns true. -/
import Derived.Test.YtenkmppmjfhajaaRows
import Derived.Test.YtenkmppmjfhajaaMem
import Derived.Test.YtenkmppmjfhajaaSetPure
import Derived.Test.YtenkmppmjfhajaaCurMem
import Derived.Test.YtenkmppmjfhajaaDraw1
import Derived.Test.YtenkmppmjfhajaaDraw2
import Derived.Test.YtenkmppmjfhajaaLaw6
import Derived.Test.YtenkmppmjfhajaaDraw3
import Derived.Test.YtenkmppmjfhajaaLawInts
import Derived.Test.YtenkmppmjfhajaaLawBytes
import Derived.Test.YtenkmppmjfhajaaVarPure
import Derived.Test.YtenkmppmjfhajaaVarPure2
import Derived.Test.YtenkmppmjfhajaaVar
import Derived.Test.YtenkmppmjfhajaaRead
import Derived.Test.YtenkmppmjfhajaaReadS
import Derived.Test.YtenkmppmjfhajaaBytes2
import Derived.Test.YtenkmppmjfhajaaEnc
import Derived.Test.YtenkmppmjfhajaaSame
import Derived.Test.YtenkmppmjfhajaaDraw5
import Derived.Test.YtenkmppmjfhajaaDraw6
import Derived.Test.YtenkmppmjfhajaaStrPure
import Derived.Test.YtenkmppmjfhajaaFmt
import Derived.Test.YtenkmppmjfhajaaParse
import Derived.Deep.QuietTactic
import Derived.BigQuiet
import Derived.WalkSmall
import Derived.Deep.RegionHeld3
import Derived.Outline
namespace Go.Proofs.Ytenkmppmjfhajaa
open Go.RowKit
set_option linter.unusedVariables false

theorem equalB_i (A : Option Addr) (n c : Nat) (zs : List Int) (B : Option Addr) (m d : Nat) (ys : List Int) (w : World) (ha : Ri w .u8 A n zs) (hb : Ri w .u8 B m ys) (hz : Bys zs) (hy : Bys ys) :
    Calls Try.prog 77 #[.slice A n c, .slice B m d] w fun e w' => e = .returned (.bool (decide (zs = ys))) ∧ w = w' := by
  have h1 := conv_str ha c
  have h2 := conv_str hb d
  go_enter Try.func77, Try.ntmps77
  go_wp2
  go_ret
  refine ⟨congrArg (fun b => Ending.returned (.bool b)) ((str_eq_iff _ _).trans ?_), rfl⟩
  rw [decide_eq_decide]
  constructor
  · intro h
    have h' := congrArg bl h
    rwa [bl_strOf zs hz, bl_strOf ys hy] at h'
  · intro h
    rw [h]
theorem decBack_i (A : Option Addr) (m c : Nat) (lz : List Int) (ln : Nat) (w : World) (hr : Ri w .u8 A m (appL [] lz)) (hln : lz.length = ln) (hl : ln ≤ 100) (hnu : Nums lz) :
    Calls Try.prog 72 #[.slice A m c, .int .i64 0, .int .i64 (ln : Int)] w fun e w' => ∃ H hc, e = .returned (.tuple #[.slice H ln hc, .int .i64 (m : Int), .bool true]) ∧ Ri w' .i64 H ln lz ∧ Below w.heap.size w w' := by
  have hal := appL_len [] lz
  simp only [List.length_nil] at hal
  have hml := hr.len
  have hrd : decI (appL [] lz) 0 (ln : Int) = some (lz, (m : Int)) := by rw [← hln, decI_enc hnu (by omega), hml]
  have hc := decodeInts_i A m c _ 0 (ln : Int) w hr (appL_bys Bys.nil) (by omega)
  rw [hrd] at hc
  refine hc.mono ?_
  rintro e w' ⟨H, hc', rfl, ho, hb⟩
  have ho' : Oi w' w.heap.size 3 .i64 H lz.length hc' lz := ho
  refine ⟨H, hc', ?_, ?_, hb⟩
  · rw [← hln]
    rfl
  · rw [← hln]
    exact ho'.rd
set_option maxHeartbeats 4000000 in
set_option maxRecDepth 100000 in
theorem FnAlls_walk {w : World} (A : Option Addr) (n c : Nat) (bs : List Int) (hin : InInts .u8 w w.heap.size A n c bs) :
    Calls Try.prog 8 #[.slice A n c] w fun e w' => e = .returned (.bool true) ∧ Below w.heap.size w w' := by
  by_cases big : 1048576 < n
  · go_enter Try.func8, Try.ntmps8
    go_wp2_with fail
    refine (big_yes _ _ _ _ big).mono ?_
    rintro e w1 ⟨rfl, rfl⟩
    go_wp2
    go_ret
    exact ⟨rfl, Below.refl _ _⟩
  have hn : n ≤ 1048576 := by omega
  have h8 := code8_of hin hn
  clear big hin
  go_enter Try.func8, Try.ntmps8
  go_wp2_with fail
  refine (big_no _ _ _ _ hn).mono ?_
  rintro e w0 ⟨rfl, rfl⟩
  go_wp2_with fail
  refine (drEnc_s _ _ _ bs _ h8).mono ?_
  rintro e w1 ⟨L, ln, lc, lz, hln, hLr, rfl, hb1⟩
  have hLl := hLr.len
  replace h8 := h8.below hb1
  have hT := hb1
  clear hb1
  go_wp2_with fail
  refine (drDec_s _ _ _ bs _ h8).mono ?_
  rintro e w2 ⟨B, bn, bc, bz, i, k, hbn, hB, hi, hk, rfl, hb2⟩
  obtain ⟨hBr, hBc, hBy, _⟩ := hB
  have hBl := hBr.len
  replace h8 := h8.below hb2
  replace hT := below_keep00 hT hb2
  replace hLr := hLr.below hb2 (Nat.le_refl _)
  clear hb2
  go_wp2_with fail
  refine (decodeInts_i _ _ _ bz _ _ _ hBr hBy (by omega)).mono ?_
  rintro e w3 ⟨X, xc, rfl, hXo, hb3⟩
  have hXl := decI_len bz i k
  have hXr := hXo.rd
  clear hXo
  replace h8 := h8.below hb3
  replace hT := below_keep00 hT hb3
  replace hLr := hLr.below hb3 (Nat.le_refl _)
  replace hBr := hBr.below hb3 (Nat.le_refl _)
  clear hb3
  go_wp2_with fail
  refine (decodeInts_s _ _ _ bz _ _ _ hBr hBy (by omega)).mono ?_
  rintro e w4 ⟨Y, yc, rfl, hYo, hb4⟩
  have hYr := hYo.rd
  clear hYo
  replace h8 := h8.below hb4
  replace hT := below_keep00 hT hb4
  replace hLr := hLr.below hb4 (Nat.le_refl _)
  replace hXr := hXr.below hb4 (Nat.le_refl _)
  clear hb4 hBr hBy
  go_wp2_with fail
  refine (drEqB_s _ _ _ bs _ h8).mono ?_
  rintro e w5 ⟨P, pn, pc, pz, Q, qn, qc, qz, hpn, hqn, hP, hQ, rfl, hb5⟩
  obtain ⟨hPr, _, hPy, _⟩ := hP
  obtain ⟨hQr, _, hQy, _⟩ := hQ
  clear h8
  replace hT := below_keep00 hT hb5
  replace hLr := hLr.below hb5 (Nat.le_refl _)
  replace hXr := hXr.below hb5 (Nat.le_refl _)
  replace hYr := hYr.below hb5 (Nat.le_refl _)
  clear hb5
  go_wp2_with fail
  refine (encodeInts_i _ _ _ lz _ hLr (by omega)).mono ?_
  rintro e w6 ⟨E, ec, rfl, hEo, hb6⟩
  have hEl := appL_len [] lz
  simp only [List.length_nil] at hEl
  have hEr := hEo.rd
  clear hEo
  replace hT := below_keep00 hT hb6
  replace hLr := hLr.below hb6 (Nat.le_refl _)
  replace hXr := hXr.below hb6 (Nat.le_refl _)
  replace hYr := hYr.below hb6 (Nat.le_refl _)
  replace hPr := hPr.below hb6 (Nat.le_refl _)
  replace hQr := hQr.below hb6 (Nat.le_refl _)
  clear hb6
  go_wp2_with fail
  refine (encodeInts_s _ _ _ lz _ hLr (by omega)).mono ?_
  rintro e w7 ⟨F, fc, rfl, hFo, hb7⟩
  have hFr := hFo.rd
  clear hFo
  replace hT := below_keep00 hT hb7
  replace hLr := hLr.below hb7 (Nat.le_refl _)
  replace hXr := hXr.below hb7 (Nat.le_refl _)
  replace hYr := hYr.below hb7 (Nat.le_refl _)
  replace hPr := hPr.below hb7 (Nat.le_refl _)
  replace hQr := hQr.below hb7 (Nat.le_refl _)
  replace hEr := hEr.below hb7 (Nat.le_refl _)
  clear hb7
  go_wp2_with fail
  refine (same8_any _ _ _ _ _ _ _ _ _ hEr hFr (by omega) (by omega)).mono ?_
  rintro e w8 ⟨rfl, hb8⟩
  replace hT := below_keep00 hT hb8
  replace hLr := hLr.below hb8 (Nat.le_refl _)
  replace hXr := hXr.below hb8 (Nat.le_refl _)
  replace hYr := hYr.below hb8 (Nat.le_refl _)
  replace hPr := hPr.below hb8 (Nat.le_refl _)
  replace hQr := hQr.below hb8 (Nat.le_refl _)
  clear hb8 hEr hFr
  have d1 : decide (appL [] lz = appL [] lz) = true := by simp
  go_wp2_with fail
  refine (sameI_any _ _ _ _ _ _ _ _ _ hXr hYr (by omega) (by omega)).mono ?_
  rintro e w9 ⟨rfl, hb9⟩
  replace hT := below_keep00 hT hb9
  replace hLr := hLr.below hb9 (Nat.le_refl _)
  replace hPr := hPr.below hb9 (Nat.le_refl _)
  replace hQr := hQr.below hb9 (Nat.le_refl _)
  clear hb9 hXr hYr
  have d2 : decide (lL (decI bz i k) = lL (decI bz i k)) = true := by simp
  go_wp2_with fail
  refine (equalB_i _ _ _ _ _ _ _ _ _ hPr hQr hPy hQy).mono ?_
  rintro e w9' ⟨rfl, rfl⟩
  go_wp2_with fail
  refine (same8_any _ _ _ _ _ _ _ _ _ hPr hQr (by omega) (by omega)).mono ?_
  rintro e w10 ⟨rfl, hb10⟩
  replace hT := below_keep00 hT hb10
  replace hLr := hLr.below hb10 (Nat.le_refl _)
  clear hb10 hPr hQr hPy hQy
  generalize decide (pz = qz) = same
  have hXn : Hid (lB (decI bz i k) = true → ((lL (decI bz i k)).length : Int) = k) := Lib.hid fun h => by
    cases hd : decI bz i k with
    | none => rw [hd] at h; cases h
    | some p => exact decI_count hd
  generalize lB (decI bz i k) = ok at hXn ⊢
  generalize (lL (decI bz i k)).length = xn at hXn hXl ⊢
  generalize lQ (decI bz i k) = nx
  go_wp2
  go_loop [15] (fun j => ∃ p : Nat, p ≤ ln ∧ j = .int .i64 p ∧ ∀ q z, q < p → lz[q]? = some z → 0 ≤ z ∧ z ≤ 1000000000000) (fun j => ln - (intOf j).toNat)
  case atStart => exact ⟨0, Nat.zero_le _, rfl, fun q z hq => absurd hq (by omega)⟩
  case round =>
    obtain ⟨p, hp, rfl, hall0⟩ := hrel
    have hall := Lib.hid hall0
    clear hall0
    by_cases hlt : p < ln
    · obtain ⟨b, off, z, rfl, hz0, hc⟩ := hLr.get hlt
      have hz := Lib.hid hz0
      clear hz0
      have hi1 : (0 : Int) ≤ (p : Int) := by omega
      have hi2 : (p : Int) < (ln : Int) := by omega
      by_cases h1 : 0 ≤ z
      · by_cases h2 : z ≤ 1000000000000
        · go_wp2
          go_round
          case rel =>
            refine ⟨p + 1, by omega, by go_num, fun q u hq hu => ?_⟩
            rcases Nat.lt_or_ge q p with h | h
            · exact hall.out q u h hu
            · obtain rfl : q = p := by omega
              rw [hz.out] at hu
              injection hu with hu
              omega
          case measure => simp [intOf]; omega
        · go_wp2
          go_ret
          exact ⟨rfl, hT⟩
      · go_wp2
        go_ret
        exact ⟨rfl, hT⟩
    · obtain rfl : p = ln := by omega
      have hnu : Nums lz := fun z hz => by
        obtain ⟨q, hq, rfl⟩ := List.mem_iff_getElem.1 hz
        exact hall.out q _ (by omega) (List.getElem?_eq_getElem hq)
      clear hall
      go_wp2_with fail
      refine (encodeInts_i _ _ _ lz _ hLr (by omega)).mono ?_
      rintro e w11 ⟨G, gc, rfl, hGo, hb11⟩
      have hGr := hGo.rd
      replace hT := below_keep00 hT hb11
      replace hLr := hLr.below hb11 (Nat.le_refl _)
      clear hb11 hGo
      go_wp2_with fail
      refine (decBack_i _ _ _ lz _ _ hGr hLl (by omega) hnu).mono ?_
      rintro e w12 ⟨Z, zc, rfl, hZr, hb12⟩
      replace hT := below_keep00 hT hb12
      replace hLr := hLr.below hb12 (Nat.le_refl _)
      clear hb12 hGr
      go_wp2_with fail
      refine (sameI_any _ _ _ _ _ _ _ _ _ hZr hLr (by omega) (by omega)).mono ?_
      rintro e w13 ⟨rfl, hb13⟩
      have d3 : decide (lz = lz) = true := by simp
      replace hT := below_keep00 hT hb13
      replace hLr := hLr.below hb13 (Nat.le_refl _)
      clear hb13 hZr
      go_wp2_with fail
      refine (encodeInts_i _ _ _ lz _ hLr (by omega)).mono ?_
      rintro e w14 ⟨U, uc, rfl, hUo, hb14⟩
      replace hT := below_keep00 hT hb14
      clear hb14 hUo hLr
      rcases Bool.eq_false_or_eq_true ok with hok | hok
      · subst hok
        have hx := hXn.out rfl
        go_wp2
        go_ret
        exact ⟨by first | rfl | simp, hT⟩
      · subst hok
        go_wp2
        go_ret
        exact ⟨by first | rfl | simp, hT⟩
end Go.Proofs.Ytenkmppmjfhajaa
