/- The walk of the law FnVars: its call returns true. -/
import Derived.Test.YtenkmppmjfhajaaRows
import Derived.Test.YtenkmppmjfhajaaMem
import Derived.Test.YtenkmppmjfhajaaSetPure
import Derived.Test.YtenkmppmjfhajaaCurMem
import Derived.Test.YtenkmppmjfhajaaDraw1
import Derived.Test.YtenkmppmjfhajaaDraw2
import Derived.Test.YtenkmppmjfhajaaLaw6
import Derived.Test.YtenkmppmjfhajaaDraw3
import Derived.Test.YtenkmppmjfhajaaLawInts
import Derived.Test.YtenkmppmjfhajaaLawBytes
import Derived.Test.YtenkmppmjfhajaaVarPure
import Derived.Test.YtenkmppmjfhajaaVarPure2
import Derived.Test.YtenkmppmjfhajaaVar
import Derived.Test.YtenkmppmjfhajaaRead
import Derived.Test.YtenkmppmjfhajaaReadS
import Derived.Test.YtenkmppmjfhajaaBytes2
import Derived.Test.YtenkmppmjfhajaaEnc
import Derived.Test.YtenkmppmjfhajaaSame
import Derived.Test.YtenkmppmjfhajaaDraw5
import Derived.Test.YtenkmppmjfhajaaDraw6
import Derived.Deep.QuietTactic
import Derived.BigQuiet
import Derived.WalkSmall
import Derived.Deep.RegionHeld3
import Derived.Outline
namespace Go.Proofs.Ytenkmppmjfhajaa
open Go.RowKit
set_option linter.unusedVariables false

theorem below_keepV {w wr w1 : World} (h : Below w.heap.size w wr) (hb : Below wr.drew.heap.size wr.drew w1) : Below w.heap.size w w1 := (Below.drew h).trans (hb.mono h.size)
theorem readBack_i (Y : Option Addr) (yn yc : Nat) (ez fz : List Int) (en fn : Nat) (w : World) (hr : Ri w .u8 Y yn (appB ez fz)) (hby : Bys (appB ez fz)) (hel : ez.length = en) (hfl : fz.length = fn) (hfn : fn ≤ 1000) (hen : en ≤ 1000) (hyc : yn ≤ yc) :
    Calls Try.prog 65 #[.slice Y yn yc, .int .i64 (en : Int), .int .i64 (fn : Int)] w fun e w' => ∃ H hc, e = .returned (.tuple #[.slice H fn hc, .int .i64 (yn : Int), .bool true]) ∧ Ri w' .u8 H fn fz ∧ Below w.heap.size w w' := by
  have hyl := hr.len
  have hal : (appB ez fz).length ≤ 3000 := by have := appV_len ez (fz.length : Int); unfold appB; rw [List.length_append]; omega
  have hrd : rdBs (appB ez fz) (en : Int) (fn : Int) = some (fz, (yn : Int)) := by
    rw [← hel, ← hfl, rdBs_app (by omega), hyl]
  have hc := readBytes_i Y yn yc _ (en : Int) (fn : Int) w hr hby (by omega) hyc (by omega)
  rw [hrd] at hc
  refine hc.mono ?_
  rintro e w' ⟨H, hc', rfl, ho, hb⟩
  have ho' : Oi w' w.heap.size 5 .u8 H fz.length hc' fz := ho
  refine ⟨H, hc', ?_, ?_, hb⟩
  · rw [← hfl]
    rfl
  · rw [← hfl]
    exact ho'.rd
theorem readVBack_i (A : Option Addr) (m c : Nat) (bz t : List Int) (n : Int) (bn : Nat) (w : World) (hr : Ri w .u8 A m (bz ++ enc n ++ t)) (hby : Bys (bz ++ enc n ++ t)) (hbl : bz.length = bn) (hm : m ≤ 1000) (hbn : bn ≤ 1000) (h0 : 0 ≤ n) (h1 : n ≤ 1000000000000) :
    Calls Try.prog 60 #[.slice A m c, .int .i64 (bn : Int)] w fun e w' => e = .returned (.tuple #[.int .i64 n, .int .i64 ((bn : Int) + ((enc n).length : Int)), .bool true]) ∧ w = w' := by
  have hc := readVarint_i A m c _ (bn : Int) w hr hby (by omega) (by omega)
  have hrd : rdV (bz ++ enc n ++ t) (bn : Int) = some (n, (enc n).length) := by rw [← hbl]; exact rdV_enc h0 h1
  rw [hrd] at hc
  refine hc.mono ?_
  rintro e w' ⟨he, rfl⟩
  exact ⟨he, rfl⟩
set_option maxHeartbeats 4000000 in
set_option maxRecDepth 100000 in
theorem FnVars_walk {w : World} (A : Option Addr) (n c : Nat) (bs : List Int) (hin : InInts .u8 w w.heap.size A n c bs) :
    Calls Try.prog 7 #[.slice A n c] w fun e w' => e = .returned (.bool true) ∧ Below w.heap.size w w' := by
  by_cases big : 1048576 < n
  · go_enter Try.func7, Try.ntmps7
    go_wp2_with fail
    refine (big_yes _ _ _ _ big).mono ?_
    rintro e w1 ⟨rfl, rfl⟩
    go_wp2
    go_ret
    exact ⟨rfl, Below.refl _ _⟩
  have hn : n ≤ 1048576 := by omega
  have h8 := code8_of hin hn
  clear big hin
  go_enter Try.func7, Try.ntmps7
  go_wp2_with fail
  refine (big_no _ _ _ _ hn).mono ?_
  rintro e w0 ⟨rfl, rfl⟩
  go_wp2_with fail
  refine (drAppV_s _ _ _ bs _ h8).mono ?_
  rintro e w1 ⟨B, bn, bc, bz, x, hbn, hB, hx0, hx1, rfl, hb1⟩
  replace h8 := h8.below hb1
  obtain ⟨hBr, hBc, hBy, _⟩ := hB
  have hBl := hBr.len
  go_wp2_with fail
  refine (appendVarint_i _ _ _ bz _ _ hBr (by omega)).mono ?_
  rintro e w2 ⟨X, xc, rfl, hXo, hb2⟩
  have hXl := appV_len bz x
  have hXr := hXo.rd
  have hXc := hXo.le
  clear hXo
  have hT := below_keep00 hb1 hb2
  clear hb1
  replace h8 := h8.below hb2
  replace hBr := hBr.below hb2 (Nat.le_refl _)
  clear hb2
  go_wp2_with fail
  refine (drRdV_s _ _ _ bs _ h8).mono ?_
  rintro e w3 ⟨C, cn, cc, cz, i, hcn, hC, hi0, hi1, rfl, hb3⟩
  obtain ⟨hCr, hCc, hCy, _⟩ := hC
  have hCl := hCr.len
  replace hT := below_keep00 hT hb3
  replace h8 := h8.below hb3
  replace hBr := hBr.below hb3 (Nat.le_refl _)
  replace hXr := hXr.below hb3 (Nat.le_refl _)
  clear hb3
  go_wp2_with fail
  refine (readVarint_i _ _ _ cz _ _ hCr hCy (by omega) (by omega)).mono ?_
  rintro e w3' ⟨rfl, rfl⟩
  go_wp2_with fail
  refine (readVarint_s _ _ _ cz _ _ hCr hCy (by omega) (by omega)).mono ?_
  rintro e w3' ⟨rfl, rfl⟩
  go_wp2_with fail
  refine (drAppB_s _ _ _ bs _ h8).mono ?_
  rintro e w4 ⟨E, en, ec, ez, F, fn, fc, fz, hen, hfn, hE, hF, rfl, hb4⟩
  obtain ⟨hEr, hEc, hEy, _⟩ := hE
  obtain ⟨hFr, hFc, hFy, _⟩ := hF
  have hEl := hEr.len
  have hFl := hFr.len
  replace hT := below_keep00 hT hb4
  replace h8 := h8.below hb4
  replace hBr := hBr.below hb4 (Nat.le_refl _)
  replace hXr := hXr.below hb4 (Nat.le_refl _)
  replace hCr := hCr.below hb4 (Nat.le_refl _)
  clear hb4
  go_wp2_with fail
  refine (appendBytes_i _ _ _ ez _ _ _ fz _ hEr hFr (by omega) (by omega)).mono ?_
  rintro e w5 ⟨Y, yc, rfl, hYo, hb5⟩
  have hYl : (appB ez fz).length ≤ 3000 := by have := appV_len ez (fz.length : Int); unfold appB; rw [List.length_append]; omega
  have hYr := hYo.rd
  have hYc := hYo.le
  clear hYo
  replace hT := below_keep00 hT hb5
  replace h8 := h8.below hb5
  replace hBr := hBr.below hb5 (Nat.le_refl _)
  replace hXr := hXr.below hb5 (Nat.le_refl _)
  replace hCr := hCr.below hb5 (Nat.le_refl _)
  replace hEr := hEr.below hb5 (Nat.le_refl _)
  replace hFr := hFr.below hb5 (Nat.le_refl _)
  clear hb5
  go_wp2_with fail
  refine (drRdB_s _ _ _ bs _ h8).mono ?_
  rintro e w6 ⟨G, gn, gc, gz, j, most, hgn, hG, hj, hmost, rfl, hb6⟩
  obtain ⟨hGr, hGc, hGy, _⟩ := hG
  have hGl := hGr.len
  replace hT := below_keep00 hT hb6
  clear h8
  replace hBr := hBr.below hb6 (Nat.le_refl _)
  replace hXr := hXr.below hb6 (Nat.le_refl _)
  replace hCr := hCr.below hb6 (Nat.le_refl _)
  replace hEr := hEr.below hb6 (Nat.le_refl _)
  replace hFr := hFr.below hb6 (Nat.le_refl _)
  replace hYr := hYr.below hb6 (Nat.le_refl _)
  clear hb6
  go_wp2_with fail
  refine (readBytes_i _ _ _ gz _ _ _ hGr hGy (by omega) hGc (by omega)).mono ?_
  rintro e w7 ⟨P, pc, rfl, hPo, hb7⟩
  have hPl := rdBs_len gz j most
  have hPr := hPo.rd
  clear hPo
  replace hT := below_keep00 hT hb7
  replace hBr := hBr.below hb7 (Nat.le_refl _)
  replace hXr := hXr.below hb7 (Nat.le_refl _)
  replace hCr := hCr.below hb7 (Nat.le_refl _)
  replace hEr := hEr.below hb7 (Nat.le_refl _)
  replace hFr := hFr.below hb7 (Nat.le_refl _)
  replace hYr := hYr.below hb7 (Nat.le_refl _)
  replace hGr := hGr.below hb7 (Nat.le_refl _)
  clear hb7
  go_wp2_with fail
  refine (readBytes_s _ _ _ gz _ _ _ hGr hGy (by omega) hGc (by omega)).mono ?_
  rintro e w8 ⟨Q, qc, rfl, hQo, hb8⟩
  have hQr := hQo.rd
  clear hQo
  replace hT := below_keep00 hT hb8
  replace hBr := hBr.below hb8 (Nat.le_refl _)
  replace hXr := hXr.below hb8 (Nat.le_refl _)
  replace hCr := hCr.below hb8 (Nat.le_refl _)
  replace hEr := hEr.below hb8 (Nat.le_refl _)
  replace hFr := hFr.below hb8 (Nat.le_refl _)
  replace hYr := hYr.below hb8 (Nat.le_refl _)
  replace hPr := hPr.below hb8 (Nat.le_refl _)
  clear hb8 hGr hGy hGc
  go_wp2_with fail
  refine (appendVarint_s _ _ _ bz _ _ hBr (by omega)).mono ?_
  rintro e w9 ⟨U, uc, rfl, hUo, hb9⟩
  have hUr := hUo.rd
  clear hUo
  replace hT := below_keep00 hT hb9
  replace hBr := hBr.below hb9 (Nat.le_refl _)
  replace hXr := hXr.below hb9 (Nat.le_refl _)
  replace hCr := hCr.below hb9 (Nat.le_refl _)
  replace hEr := hEr.below hb9 (Nat.le_refl _)
  replace hFr := hFr.below hb9 (Nat.le_refl _)
  replace hYr := hYr.below hb9 (Nat.le_refl _)
  replace hPr := hPr.below hb9 (Nat.le_refl _)
  replace hQr := hQr.below hb9 (Nat.le_refl _)
  clear hb9
  go_wp2_with fail
  refine (same8_any _ _ _ _ _ _ _ _ _ hXr hUr (by omega) (by omega)).mono ?_
  rintro e w10 ⟨rfl, hb10⟩
  replace hT := below_keep00 hT hb10
  replace hBr := hBr.below hb10 (Nat.le_refl _)
  replace hXr := hXr.below hb10 (Nat.le_refl _)
  replace hCr := hCr.below hb10 (Nat.le_refl _)
  replace hEr := hEr.below hb10 (Nat.le_refl _)
  replace hFr := hFr.below hb10 (Nat.le_refl _)
  replace hYr := hYr.below hb10 (Nat.le_refl _)
  replace hPr := hPr.below hb10 (Nat.le_refl _)
  replace hQr := hQr.below hb10 (Nat.le_refl _)
  clear hb10 hUr
  have d1 : decide (appV bz x = appV bz x) = true := by simp
  go_wp2_with fail
  refine (appendBytes_s _ _ _ ez _ _ _ fz _ hEr hFr (by omega) (by omega)).mono ?_
  rintro e w11 ⟨V, vc, rfl, hVo, hb11⟩
  have hVr := hVo.rd
  clear hVo
  replace hT := below_keep00 hT hb11
  replace hBr := hBr.below hb11 (Nat.le_refl _)
  replace hXr := hXr.below hb11 (Nat.le_refl _)
  replace hCr := hCr.below hb11 (Nat.le_refl _)
  replace hFr := hFr.below hb11 (Nat.le_refl _)
  replace hYr := hYr.below hb11 (Nat.le_refl _)
  replace hPr := hPr.below hb11 (Nat.le_refl _)
  replace hQr := hQr.below hb11 (Nat.le_refl _)
  clear hb11 hEr
  go_wp2_with fail
  refine (same8_any _ _ _ _ _ _ _ _ _ hYr hVr (by omega) (by omega)).mono ?_
  rintro e w12 ⟨rfl, hb12⟩
  replace hT := below_keep00 hT hb12
  replace hBr := hBr.below hb12 (Nat.le_refl _)
  replace hXr := hXr.below hb12 (Nat.le_refl _)
  replace hCr := hCr.below hb12 (Nat.le_refl _)
  replace hFr := hFr.below hb12 (Nat.le_refl _)
  replace hYr := hYr.below hb12 (Nat.le_refl _)
  replace hPr := hPr.below hb12 (Nat.le_refl _)
  replace hQr := hQr.below hb12 (Nat.le_refl _)
  clear hb12 hVr
  have d2 : decide (appB ez fz = appB ez fz) = true := by simp
  go_wp2_with fail
  refine (same8_any _ _ _ _ _ _ _ _ _ hPr hQr (by omega) (by omega)).mono ?_
  rintro e w13 ⟨rfl, hb13⟩
  replace hT := below_keep00 hT hb13
  replace hBr := hBr.below hb13 (Nat.le_refl _)
  replace hXr := hXr.below hb13 (Nat.le_refl _)
  replace hCr := hCr.below hb13 (Nat.le_refl _)
  replace hFr := hFr.below hb13 (Nat.le_refl _)
  replace hYr := hYr.below hb13 (Nat.le_refl _)
  clear hb13 hPr hQr
  have d3 : decide (lL (rdBs gz j most) = lL (rdBs gz j most)) = true := by simp
  go_wp2_with fail
  refine (readBack_i _ _ _ ez fz _ _ _ hYr (appB_bys hEy hFy) hEl hFl (by omega) (by omega) hYc).mono ?_
  rintro e w14 ⟨H, hc, rfl, hHr, hb14⟩
  replace hT := below_keep00 hT hb14
  replace hBr := hBr.below hb14 (Nat.le_refl _)
  replace hXr := hXr.below hb14 (Nat.le_refl _)
  replace hCr := hCr.below hb14 (Nat.le_refl _)
  replace hFr := hFr.below hb14 (Nat.le_refl _)
  clear hb14 hYr
  go_wp2_with fail
  refine (same8_any _ _ _ _ _ _ _ _ _ hHr hFr (by omega) (by omega)).mono ?_
  rintro e w15 ⟨rfl, hb15⟩
  replace hT := below_keep00 hT hb15
  replace hBr := hBr.below hb15 (Nat.le_refl _)
  replace hXr := hXr.below hb15 (Nat.le_refl _)
  replace hCr := hCr.below hb15 (Nat.le_refl _)
  clear hb15 hHr hFr
  have d4 : decide (fz = fz) = true := by simp
  by_cases h1 : 0 ≤ x
  · by_cases h2 : x ≤ 1000000000000
    · have hBX := appV_bys (n := x) hBy
      have e0 := appV_in (b := bz) h1 h2
      have hEl' := enc_len x
      rw [e0] at hXr hXl hBX hXc ⊢
      simp only [List.length_append, hBl] at hXr hXl hXc ⊢
      clear e0
      obtain ⟨i0, hi, hz0, hz1, hz2⟩ := info_parts bytes_info
      go_wp2_with (first
        | (at_builtin; refine wpList_pushAll _ rfl _ _ 22 rfl w15.heap.size 5 i0 (.int .u8 0) 1 .u8 Try.underlying22 hi hz0 hz1 hz2 rfl (by omega) _ 0 0 _ rfl (lit_noneO (Nat.le_refl _)) X _ xc (bz ++ enc x) rfl (hXr.alloc _) (by omega) (by simp) ?_; intro J jc w16 hJo hb16; simp only [Nat.zero_add, List.nil_append] at hJo; replace hb16 := ((Below.refl w15.heap.size w15).alloc (Nat.le_refl _) _).trans hb16; have hs16 := hb16.size)
        | (at_builtin; refine wpList_push _ rfl _ _ 22 rfl w15.heap.size 5 i0 (.int .u8 0) 1 .u8 Try.underlying22 hi hz0 hz1 hz2 rfl (by omega) J _ jc _ rfl (hJo.alloc _) w16.heap.size 200 rfl (by simp) (by omega) (by simp; omega) ?_; intro K kc w17 hKo hb17; replace hb17 := (hb16.alloc hs16 _).trans hb17))
      have hKr := hKo.rd
      have hKy : Bys (bz ++ enc x ++ [200]) := hBX.snoc (by omega) (by omega)
      replace hT := below_keep00 hT hb17
      replace hCr := hCr.below hb17 (Nat.le_refl _)
      clear hKo hJo hb16 hb17 hXr hBr hs16
      refine (readVBack_i _ _ _ bz [200] x _ _ hKr hKy hBl (by omega) (by omega) h1 h2).mono ?_
      rintro e w18 ⟨rfl, rfl⟩
      have hst : (((bn : Int) + ((enc x).length : Int)) == ((bn + (enc x).length : Nat) : Int)) = true := by simp
      clear hKr hKy hBX
      rcases hrr : rdV cz i with _ | ⟨v, k⟩
      · simp only [rN, rA, rB, Option.isSome]
        go_wp2_with fail
        go_quiet (fail)
        go_wp2
        go_ret
        exact ⟨by first | rfl | simp, below_drewN hT _⟩
      · obtain ⟨s0, s1, s2, s3, s4, s5⟩ := rdV_some hrr
        have hback := Lib.hid (rdV_back hCy hrr)
        clear hrr hCy
        obtain ⟨p, rfl⟩ := Int.eq_ofNat_of_zero_le s0
        simp only [rN, rA, rB, Option.isSome]
        obtain ⟨q, hq⟩ : ∃ q, q = p + k := ⟨_, rfl⟩
        have hqi : ((p : Int) + (k : Int)) = (q : Int) := by omega
        have hpp : ((p : Int)).toNat = p := by omega
        have hqq : ((q : Int)).toNat = q := by omega
        rw [hqi] at s4 hback ⊢
        rw [hpp, hqq] at hback
        have hp1 : (0 : Int) ≤ (p : Int) := by omega
        have hp2 : (p : Int) ≤ (cc : Int) := by omega
        have hq1 : (0 : Int) ≤ (q : Int) := by omega
        have hq2 : (q : Int) ≤ (cc : Int) := by omega
        have hCp := hCr.takes (show p ≤ cn by omega)
        have hCq := hCr.takes (show q ≤ cn by omega)
        have hvl := appV_len (cz.take p) v
        have htl : (cz.take p).length ≤ 8 := by rw [List.length_take]; omega
        clear hqi hpp hqq hq s3 s5
        go_wp2_with fail
        go_region_held3 (fun w' => True) (trivial) (first | (have _hX := hbP; go_at_call 67; refine (same8_any _ _ _ _ _ _ _ _ _ hOo.rd ((Rd.drew hCq).below hbP (Nat.le_refl _)) (by omega) (by omega)).mono ?_; rintro e w20 ⟨rfl, hbQ⟩) | (go_at_call 58; refine (appendVarint_i _ _ _ (cz.take p) _ _ ?_ (by omega)).mono ?_; (exact Rd.drew hCp); rintro e w19 ⟨O, oc, rfl, hOo, hbP⟩))
        go_wp2
        go_ret
        exact ⟨by first | rfl | simp [hback.out], below_keep00 (below_keepV hT hbP) hbQ⟩
    · have e0 := Lib.hid (appV_out (b := bz) (n := x) (by omega))
      go_wp2_with fail
      refine (same8_any _ _ _ _ _ _ _ _ _ hXr hBr (by omega) (by omega)).mono ?_
      rintro e w16 ⟨rfl, hb16⟩
      go_wp2
      go_ret
      exact ⟨by simp [e0.out], below_keep00 hT hb16⟩
  · have e0 := Lib.hid (appV_out (b := bz) (n := x) (by omega))
    go_wp2_with fail
    refine (same8_any _ _ _ _ _ _ _ _ _ hXr hBr (by omega) (by omega)).mono ?_
    rintro e w16 ⟨rfl, hb16⟩
    go_wp2
    go_ret
    exact ⟨by simp [e0.out], below_keep00 hT hb16⟩
end Go.Proofs.Ytenkmppmjfhajaa
