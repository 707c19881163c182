/- Contracts of reached, l7Reach, Ancestors, Descendants, Depth. -/
import Derived.Test.YtkfdenokbhlfeaaRows
import Derived.Test.YtkfdenokbhlfeaaMem
import Derived.Test.YtkfdenokbhlfeaaTopoMem
import Derived.Test.YtkfdenokbhlfeaaTopoPure
import Derived.Test.YtkfdenokbhlfeaaLawInts
import Derived.Test.YtkfdenokbhlfeaaPut
import Derived.Test.YtkfdenokbhlfeaaTopo2
import Derived.Test.YtkfdenokbhlfeaaSets
import Derived.Test.YtkfdenokbhlfeaaShapePure
import Derived.Test.YtkfdenokbhlfeaaShape1
import Derived.Deep.RegionHeld3
import Derived.Outline
namespace Go.Proofs.Ytkfdenokbhlfeaa
open Go.RowKit
set_option linter.unusedVariables false

/-- The inner loop: the union grows by one place's neighbours. -/
def UnRel (w0 : World) (p : Nat) (A : Option Addr) (n0 c0' : Nat) (L : Option Addr) (m e0 : Nat) (nb : Int → List Int) (s0 : Int) (fs : List Int) (nF : Nat) (v i : Value) (wq : World) : Prop :=
  ∃ j : Nat, j ≤ nF ∧ i = .int .i64 j ∧ v = .int .i64 (uAll nb s0 (fs.take j)) ∧ Below w0.heap.size w0 wq ∧ wq.cell? ⟨p, 0, none⟩ = some (.slice A n0 c0') ∧ wq.cell? ⟨p, 1, none⟩ = some (.slice L m e0)
def ReRel (w : World) (A : Option Addr) (n0 c0' : Nat) (L : Option Addr) (m e0 : Nat) (nb : Int → List Int) (f0 : List Int) (st : Nat) (fr al ki : Value) (wr : World) : Prop :=
  ∃ (k nF : Nat) (F : Option Addr) (cF : Nat), k ≤ st ∧ ki = .int .i64 k ∧ al = .int .i64 (rI nb f0 k).1 ∧ fr = .slice F nF cF ∧ nF ≤ 16 ∧ Ri wr .i64 F nF (rI nb f0 k).2 ∧ Below w.heap.size w wr ∧ wr.cell? ⟨w.heap.size, 0, none⟩ = some (.slice A n0 c0') ∧ wr.cell? ⟨w.heap.size, 1, none⟩ = some (.slice L m e0)
def RsRel (w : World) (A : Option Addr) (n0 c0' : Nat) (L : Option Addr) (m e0 : Nat) (nb : Int → List Int) (s0 : Int) (sv ki : Value) (wr : World) : Prop :=
  ∃ k : Nat, k ≤ 9 ∧ ki = .int .i64 k ∧ sv = .int .i64 (rS nb s0 k) ∧ Below w.heap.size w wr ∧ wr.cell? ⟨w.heap.size, 0, none⟩ = some (.slice A n0 c0') ∧ wr.cell? ⟨w.heap.size, 1, none⟩ = some (.slice L m e0)
def DiRel (w : World) (A : Option Addr) (n0 c0' : Nat) (L : Option Addr) (m e0 : Nat) (nb : Int → List Int) (tot : Nat) (fr ki : Value) (wr : World) : Prop :=
  ∃ (k nF : Nat) (F : Option Addr) (cF : Nat) (fs : List Int), k ≤ 8 ∧ ki = .int .i64 k ∧ fr = .slice F nF cF ∧ nF ≤ 16 ∧ Ri wr .i64 F nF fs ∧ Hid (tot = k + dep nb (8 - k) (uAll nb 0 fs)) ∧ Below w.heap.size w wr ∧ wr.cell? ⟨w.heap.size, 0, none⟩ = some (.slice A n0 c0') ∧ wr.cell? ⟨w.heap.size, 1, none⟩ = some (.slice L m e0)
def DsRel (w : World) (A : Option Addr) (n0 c0' : Nat) (L : Option Addr) (m e0 : Nat) (nb : Int → List Int) (tot : Nat) (ki sv : Value) (wr : World) : Prop :=
  ∃ (k : Nat) (s : Int), k ≤ 8 ∧ ki = .int .i64 k ∧ sv = .int .i64 s ∧ Hid (tot = k + dep nb (8 - k) s) ∧ Below w.heap.size w wr ∧ wr.cell? ⟨w.heap.size, 0, none⟩ = some (.slice A n0 c0') ∧ wr.cell? ⟨w.heap.size, 1, none⟩ = some (.slice L m e0)
theorem dep_zero (nb : Int → List Int) (f : Nat) : dep nb f 0 = 0 := by cases f <;> simp [dep]
theorem dep_step (nb : Int → List Int) {k : Nat} {s : Int} (hk : k < 8) (hs : ¬ s = 0) : dep nb (8 - k) s = dep nb (8 - (k + 1)) (uAll nb 0 (elemsE s)) + 1 := by
  obtain ⟨f, hf⟩ : ∃ f, 8 - k = f + 1 := ⟨7 - k, by omega⟩
  rw [hf, show 8 - (k + 1) = f by omega, dep, if_neg hs]

set_option maxHeartbeats 4000000 in
theorem reached_i (A : Option Addr) (n0 c0' : Nat) (L : Option Addr) (m e0 : Nat) (T : Tp) (F0 : Option Addr) (m0 cF0 : Nat) (f0 : List Int) (kd : Int) (st : Nat) (w : World) (hT : Rl w L m T.links) (hm : m ≤ 1048576) (hf0 : Ri w .i64 F0 m0 f0) (hm0 : m0 ≤ 16) (hst : st ≤ 100) :
    Calls Try.prog 62 #[.agg #[.slice A n0 c0', .slice L m e0], .slice F0 m0 cF0, .int .i64 kd, .int .i64 st] w fun e w' => e = .returned (.int .i64 (rI (fun r => nbr T.links r kd) f0 st).1) ∧ Below w.heap.size w w' := by
  obtain ⟨nb, h_nb⟩ : ∃ y_, y_ = (fun r => nbr T.links r kd) := ⟨_, rfl⟩
  have HNB := Lib.hid h_nb
  rw [← h_nb]
  clear h_nb
  go_enter Try.func62, Try.ntmps62
  go_wp2
  go_loopw [1, 9, 10] (ReRel w A n0 c0' L m e0 nb f0 st) (fun _ _ i _ => st - (intOf i).toNat)
  case atStart => exact ⟨0, m0, F0, cF0, Nat.zero_le _, rfl, rfl, rfl, hm0, hf0.alloc _, (Below.refl _ _).alloc (Nat.le_refl _) _, by simp, by simp⟩
  case round =>
    obtain ⟨k, nF, F, cF, hk, rfl, rfl, rfl, hnF, hF, hb, bx0, bx1⟩ := hrel
    have hs := hb.size
    by_cases hks : k < st
    · have hks' : (k : Int) < (st : Int) := by omega
      obtain ⟨fs, h_fs⟩ : ∃ y_, y_ = (rI nb f0 k).2 := ⟨_, rfl⟩
      obtain ⟨al, h_al⟩ : ∃ y_, y_ = (rI nb f0 k).1 := ⟨_, rfl⟩
      rw [← h_fs] at hF
      rw [← h_al]
      have HFS := Lib.hid h_fs
      have HAL := Lib.hid h_al
      clear h_fs h_al
      have hFl := Lib.hid hF.len
      go_wp2
      go_loopw [11, 21] (UnRel wr w.heap.size A n0 c0' L m e0 nb 0 fs nF) (fun _ i _ => nF - (intOf i).toNat)
      case atStart => exact ⟨0, Nat.zero_le _, rfl, rfl, Below.refl _ _, bx0, bx1⟩
      case round =>
        obtain ⟨j, hj, rfl, rfl, hbq, cx0, cx1⟩ := hrel
        rename_i wq
        have hBq := below_keep0 hb hbq
        have hsq := hBq.size
        by_cases hlt : j < nF
        · have hT' := hT.below hBq (Nat.le_refl _)
          have hFq := hF.below hbq (Nat.le_refl _)
          obtain ⟨b, off, x, rfl, hx0, hc⟩ := hFq.get hlt
          have hx := Lib.hid hx0
          clear hx0
          have hnl := nbr_len T.links x kd
          go_wp2_with (first
            | (go_at_call 59; refine (nb_i _ _ _ _ _ _ T _ _ _ hT' hm).mono ?_; rintro e w1 ⟨A1, c1, rfl, o1, hb1⟩)
            | (go_at_call 66; refine (makeSet_i _ _ _ _ _ o1.rd (by omega)).mono ?_; rintro e w2 ⟨rfl, rfl⟩)
            | (go_at_call 65; refine (uni_i _ _ _).mono ?_; rintro e w3 ⟨rfl, rfl⟩))
          go_roundw
          case rel => exact ⟨j + 1, by omega, by go_num, congrArg (Value.int .i64) (by rw [uAll_succ hx.out, HNB.out]), below_keep0 hbq hb1, cell_keep0 cx0 hb1, cell_keep0 cx1 hb1⟩
          case measure => simp [intOf]; omega
        · obtain rfl : j = nF := by omega
          have hte := Lib.hid (show fs.take j = fs from List.take_of_length_le (by rw [hFl.out]; omega))
          rw [hte.out]
          obtain ⟨nx, h_nx⟩ : ∃ y_, y_ = uAll nb 0 fs := ⟨_, rfl⟩
          rw [← h_nx]
          have HNX := Lib.hid h_nx
          clear h_nx
          have hel := elemsE_len nx
          go_wp2_with (first
            | (go_at_call 65; refine (uni_i _ _ _).mono ?_; rintro e w3 ⟨rfl, rfl⟩)
            | (go_at_call 67; refine (elements_i _ _).mono ?_; rintro e w4 ⟨A4, c4, rfl, o4, hb4⟩))
          go_roundw
          case rel =>
            refine ⟨k + 1, _, A4, c4, by omega, by go_num, congrArg (Value.int .i64) ?_, rfl, hel, ?_, below_keep0 hBq hb4, cell_keep0 cx0 hb4, cell_keep0 cx1 hb4⟩
            · rw [HAL.out, HNX.out, HFS.out]; rfl
            · have h4 := o4.rd
              rw [HNX.out, HFS.out] at h4 ⊢
              exact h4
          case measure => simp [intOf]; omega
    · obtain rfl : k = st := by omega
      go_wp2
      go_ret
      exact ⟨rfl, hb⟩
set_option maxHeartbeats 4000000 in
theorem reach_s (A : Option Addr) (n0 c0' : Nat) (L : Option Addr) (m e0 : Nat) (T : Tp) (s0 kd : Int) (w : World) (hT : Rl w L m T.links) (hm : m ≤ 1048576) :
    Calls Try.prog 60 #[.agg #[.slice A n0 c0', .slice L m e0], .int .i64 s0, .int .i64 kd] w fun e w' => e = .returned (.int .i64 (rS (fun r => nbr T.links r kd) s0 9)) ∧ Below w.heap.size w w' := by
  obtain ⟨nb, h_nb⟩ : ∃ y_, y_ = (fun r => nbr T.links r kd) := ⟨_, rfl⟩
  have HNB := Lib.hid h_nb
  rw [← h_nb]
  clear h_nb
  go_enter Try.func60, Try.ntmps60
  go_wp2
  go_loopw [7, 8] (RsRel w A n0 c0' L m e0 nb s0) (fun _ i _ => 9 - (intOf i).toNat)
  case atStart => exact ⟨0, Nat.zero_le _, rfl, rfl, (Below.refl _ _).alloc (Nat.le_refl _) _, by simp, by simp⟩
  case round =>
    obtain ⟨k, hk, rfl, rfl, hb, bx0', bx1'⟩ := hrel
    have hs := hb.size
    by_cases hks : k ≤ 8
    · have hks' : (k : Int) ≤ 8 := by omega
      obtain ⟨s, h_s⟩ : ∃ y_, y_ = rS nb s0 k := ⟨_, rfl⟩
      rw [← h_s]
      have HS := Lib.hid h_s
      clear h_s
      obtain ⟨nF, h_nF⟩ : ∃ y_, y_ = (elemsE s).length := ⟨_, rfl⟩
      have hFl := Lib.hid h_nF.symm
      have hnF : nF ≤ 16 := by rw [h_nF]; exact elemsE_len s
      clear h_nF
      go_wp2_with fail
      refine (elements_s _ _).mono ?_
      rintro e w5 ⟨F, cF, rfl, o5, hbx⟩
      rw [hFl.out] at o5 ⊢
      have hF := o5.rd
      have hb5 := below_keep0 hb hbx
      have bx0 := cell_keep0 bx0' hbx
      have bx1 := cell_keep0 bx1' hbx
      clear o5 bx0' bx1'
      go_wp2
      go_loopw [7, 10] (UnRel w5 w.heap.size A n0 c0' L m e0 nb s (elemsE s) nF) (fun _ i _ => nF - (intOf i).toNat)
      case atStart => exact ⟨0, Nat.zero_le _, rfl, rfl, Below.refl _ _, bx0, bx1⟩
      case round =>
        obtain ⟨j, hj, rfl, rfl, hbq, cx0, cx1⟩ := hrel
        rename_i wq
        have hBq := below_keep0 hb5 hbq
        have hsq := hBq.size
        by_cases hlt : j < nF
        · have hT' := hT.below hBq (Nat.le_refl _)
          have hFq := hF.below hbq (Nat.le_refl _)
          obtain ⟨b, off, x, rfl, hx0, hc⟩ := hFq.get hlt
          have hx := Lib.hid hx0
          clear hx0
          have hnl := nbr_len T.links x kd
          have hi1 : (0 : Int) ≤ (j : Int) := by omega
          have hi2 : (j : Int) < (nF : Int) := by omega
          go_wp2_with fail
          go_region_held3 (fun w' => w'.cell? ⟨w.heap.size, 0, none⟩ = some (.slice A n0 c0') ∧ w'.cell? ⟨w.heap.size, 1, none⟩ = some (.slice L m e0) ∧ w'.cell? ⟨b, off + j, none⟩ = some (.int .i64 x)) (first | exact ⟨cell_keepD cx0 hbK, cell_keepD cx1 hbK, cell_keepD hc hbK⟩ | exact ⟨cx0, cx1, hc⟩) (first | (go_at_call 58; refine (behind_s _ _ _ _ _ _ T _ _ _ ?_ hm).mono ?_; (exact Rd.drew hT'); rintro e w1 ⟨A1, c1, rfl, o1, hbK⟩) | (go_at_call 61; refine (makeSet_s _ _ _ _ _ o1.rd ?_).mono ?_; (omega); rintro e w2 ⟨rfl, rfl⟩) | (go_at_call 64; refine (uni_s _ _ _).mono ?_; rintro e w3 ⟨rfl, rfl⟩))
          go_wp2
          go_roundw
          case rel => exact ⟨j + 1, by omega, by go_num, congrArg (Value.int .i64) (by rw [uAll_succ hx.out, HNB.out]), below_keepD hbq hbK, cell_keepD cx0 hbK, cell_keepD cx1 hbK⟩
          case measure => simp [intOf]; omega
        · obtain rfl : j = nF := by omega
          have hte := Lib.hid (show (elemsE s).take j = elemsE s from List.take_of_length_le (by rw [hFl.out]; omega))
          rw [hte.out]
          go_wp2
          go_roundw
          case rel => exact ⟨k + 1, by omega, by go_num, congrArg (Value.int .i64) (by rw [HS.out]; rfl), hBq, cx0, cx1⟩
          case measure => simp [intOf]; omega
    · obtain rfl : k = 9 := by omega
      go_wp2
      go_ret
      exact ⟨rfl, hb⟩
end Go.Proofs.Ytkfdenokbhlfeaa
