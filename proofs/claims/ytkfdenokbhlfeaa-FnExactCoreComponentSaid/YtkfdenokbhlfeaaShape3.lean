/- Contracts of Ancestors, Descendants, Depth, CoreComponent. -/
import Derived.Test.YtkfdenokbhlfeaaRows
import Derived.Test.YtkfdenokbhlfeaaMem
import Derived.Test.YtkfdenokbhlfeaaTopoMem
import Derived.Test.YtkfdenokbhlfeaaTopoPure
import Derived.Test.YtkfdenokbhlfeaaLawInts
import Derived.Test.YtkfdenokbhlfeaaPut
import Derived.Test.YtkfdenokbhlfeaaTopo2
import Derived.Test.YtkfdenokbhlfeaaSets
import Derived.Test.YtkfdenokbhlfeaaShapePure
import Derived.Test.YtkfdenokbhlfeaaRng
import Derived.Test.YtkfdenokbhlfeaaShape1
import Derived.Test.YtkfdenokbhlfeaaShape2
import Derived.Deep.RegionHeld3
import Derived.Outline
namespace Go.Proofs.Ytkfdenokbhlfeaa
open Go.RowKit
set_option linter.unusedVariables false

theorem Ri.alloc1 {w : World} {E : TypeId} {x : Int} : Ri (w.alloc (.cells #[.int .i64 x] E)) .i64 (some ⟨w.heap.size, 0, none⟩) 1 [x] := Ri.one (by simp)
theorem Ri.alloc1At {w : World} {E : TypeId} {x : Int} {g : Nat} (h : g = w.heap.size) : Ri (w.alloc (.cells #[.int .i64 x] E)) .i64 (some ⟨g, 0, none⟩) 1 [x] := by subst h; exact Ri.alloc1
def upT (ls : List Lk) (r kd : Int) : Int := rS (fun r => nbr ls r kd) (mkSet (nbr ls r kd)) 9
theorem upT_eq (ls : List Lk) (r kd : Int) : (rI (fun r => nbr ls r kd) [r] 10).1 = upT ls r kd := reach_eq (fun r => nbr ls r kd) r 9
def depT (ls : List Lk) (r : Int) : Nat := dep (fun r => nbr ls r 3) 8 (mkSet (nbr ls r 3))
theorem depT_eq (ls : List Lk) (r : Int) : depT ls r = 0 + dep (fun r => nbr ls r 3) (8 - 0) (uAll (fun r => nbr ls r 3) 0 [r]) := by rw [uAll_one, Nat.zero_add]; rfl
def coreB (xs : List As) (r : Int) : Bool := decide (0 ≤ r) && (match xs[r.toNat]? with | some x => x.core | none => false)
def compT (T : Tp) (r : Int) : Int := if coreB T.ases r then rS (fun r => nbr T.links r 1) (addE 0 r) 9 else 0

set_option maxHeartbeats 1000000 in
theorem anc_i (A : Option Addr) (n0 c0' : Nat) (L : Option Addr) (m e0 : Nat) (T : Tp) (r : Int) (w : World) (hT : Rl w L m T.links) (hm : m ≤ 1048576) :
    Calls Try.prog 39 #[.agg #[.slice A n0 c0', .slice L m e0], .int .i64 r] w fun e w' => e = .returned (.int .i64 (upT T.links r 3)) ∧ Below w.heap.size w w' := by
  rw [← upT_eq]
  go_enter Try.func39, Try.ntmps39
  go_wp2_with fail
  refine (reached_i _ _ _ _ _ _ T _ _ _ [r] _ 10 _ ((hT.alloc _).alloc _) hm (Ri.alloc1At (by simp)) (by omega) (by omega)).mono ?_
  rintro e w1 ⟨rfl, hb1⟩
  go_wp2
  go_ret
  exact ⟨rfl, below_keep ((Below.refl _ w).alloc (Nat.le_refl _) _) hb1⟩
set_option maxHeartbeats 1000000 in
theorem anc_s (A : Option Addr) (n0 c0' : Nat) (L : Option Addr) (m e0 : Nat) (T : Tp) (r : Int) (w : World) (hT : Rl w L m T.links) (hm : m ≤ 1048576) :
    Calls Try.prog 38 #[.agg #[.slice A n0 c0', .slice L m e0], .int .i64 r] w fun e w' => e = .returned (.int .i64 (upT T.links r 3)) ∧ Below w.heap.size w w' := by
  have hnl := nbr_len T.links r 3
  go_enter Try.func38, Try.ntmps38
  go_wp2_with fail
  obtain ⟨w5, hw5⟩ : ∃ y_, y_ = w.alloc (.cells #[.slice A n0 c0', .slice L m e0] 31) := ⟨_, rfl⟩
  rw [← hw5]
  have hb5 : Below w.heap.size w w5 := by rw [hw5]; exact (Below.refl _ _).alloc (Nat.le_refl _) _
  have cx0 : w5.cell? ⟨w.heap.size, 0, none⟩ = some (.slice A n0 c0') := by rw [hw5]; simp
  have cx1 : w5.cell? ⟨w.heap.size, 1, none⟩ = some (.slice L m e0) := by rw [hw5]; simp
  clear hw5
  have hT' := hT.below hb5 (Nat.le_refl _)
  go_region_held3 (fun w' => w'.cell? ⟨w.heap.size, 0, none⟩ = some (.slice A n0 c0') ∧ w'.cell? ⟨w.heap.size, 1, none⟩ = some (.slice L m e0)) (first | exact ⟨cell_keep0 (cell_keepD cx0 hbK) hbR, cell_keep0 (cell_keepD cx1 hbK) hbR⟩ | exact ⟨cell_keepD cx0 hbK, cell_keepD cx1 hbK⟩ | exact ⟨cx0, cx1⟩) (first | (go_at_call 36; refine (par_s _ _ _ _ _ _ T _ _ ?_ hm).mono ?_; (exact Rd.drew hT'); rintro e w1 ⟨A1, c1, rfl, o1, hbK⟩) | (go_at_call 61; refine (makeSet_s _ _ _ _ _ o1.rd ?_).mono ?_; (omega); rintro e w2 ⟨rfl, rfl⟩) | (go_at_call 60; refine (reach_s _ _ _ _ _ _ T _ _ _ ?_ hm).mono ?_; (exact (Rd.drew hT').below hbK (Nat.le_refl _)); rintro e w3 ⟨rfl, hbR⟩))
  go_wp2
  go_ret
  exact ⟨rfl, below_keep0 (below_keepD hb5 hbK) hbR⟩
set_option maxHeartbeats 1000000 in
theorem des_i (A : Option Addr) (n0 c0' : Nat) (L : Option Addr) (m e0 : Nat) (T : Tp) (r : Int) (w : World) (hT : Rl w L m T.links) (hm : m ≤ 1048576) :
    Calls Try.prog 41 #[.agg #[.slice A n0 c0', .slice L m e0], .int .i64 r] w fun e w' => e = .returned (.int .i64 (upT T.links r 2)) ∧ Below w.heap.size w w' := by
  rw [← upT_eq]
  go_enter Try.func41, Try.ntmps41
  go_wp2_with fail
  refine (reached_i _ _ _ _ _ _ T _ _ _ [r] _ 10 _ ((hT.alloc _).alloc _) hm (Ri.alloc1At (by simp)) (by omega) (by omega)).mono ?_
  rintro e w1 ⟨rfl, hb1⟩
  go_wp2
  go_ret
  exact ⟨rfl, below_keep ((Below.refl _ w).alloc (Nat.le_refl _) _) hb1⟩
set_option maxHeartbeats 1000000 in
theorem des_s (A : Option Addr) (n0 c0' : Nat) (L : Option Addr) (m e0 : Nat) (T : Tp) (r : Int) (w : World) (hT : Rl w L m T.links) (hm : m ≤ 1048576) :
    Calls Try.prog 40 #[.agg #[.slice A n0 c0', .slice L m e0], .int .i64 r] w fun e w' => e = .returned (.int .i64 (upT T.links r 2)) ∧ Below w.heap.size w w' := by
  have hnl := nbr_len T.links r 2
  go_enter Try.func40, Try.ntmps40
  go_wp2_with fail
  obtain ⟨w5, hw5⟩ : ∃ y_, y_ = w.alloc (.cells #[.slice A n0 c0', .slice L m e0] 31) := ⟨_, rfl⟩
  rw [← hw5]
  have hb5 : Below w.heap.size w w5 := by rw [hw5]; exact (Below.refl _ _).alloc (Nat.le_refl _) _
  have cx0 : w5.cell? ⟨w.heap.size, 0, none⟩ = some (.slice A n0 c0') := by rw [hw5]; simp
  have cx1 : w5.cell? ⟨w.heap.size, 1, none⟩ = some (.slice L m e0) := by rw [hw5]; simp
  clear hw5
  have hT' := hT.below hb5 (Nat.le_refl _)
  go_region_held3 (fun w' => w'.cell? ⟨w.heap.size, 0, none⟩ = some (.slice A n0 c0') ∧ w'.cell? ⟨w.heap.size, 1, none⟩ = some (.slice L m e0)) (first | exact ⟨cell_keep0 (cell_keepD cx0 hbK) hbR, cell_keep0 (cell_keepD cx1 hbK) hbR⟩ | exact ⟨cell_keepD cx0 hbK, cell_keepD cx1 hbK⟩ | exact ⟨cx0, cx1⟩) (first | (go_at_call 34; refine (chi_s _ _ _ _ _ _ T _ _ ?_ hm).mono ?_; (exact Rd.drew hT'); rintro e w1 ⟨A1, c1, rfl, o1, hbK⟩) | (go_at_call 61; refine (makeSet_s _ _ _ _ _ o1.rd ?_).mono ?_; (omega); rintro e w2 ⟨rfl, rfl⟩) | (go_at_call 60; refine (reach_s _ _ _ _ _ _ T _ _ _ ?_ hm).mono ?_; (exact (Rd.drew hT').below hbK (Nat.le_refl _)); rintro e w3 ⟨rfl, hbR⟩))
  go_wp2
  go_ret
  exact ⟨rfl, below_keep0 (below_keepD hb5 hbK) hbR⟩
set_option maxHeartbeats 4000000 in
theorem dep_i (A : Option Addr) (n0 c0' : Nat) (L : Option Addr) (m e0 : Nat) (T : Tp) (r : Int) (w : World) (hT : Rl w L m T.links) (hm : m ≤ 1048576) :
    Calls Try.prog 43 #[.agg #[.slice A n0 c0', .slice L m e0], .int .i64 r] w fun e w' => e = .returned (.int .i64 (depT T.links r)) ∧ Below w.heap.size w w' := by
  obtain ⟨tot, h_tot⟩ : ∃ y_, y_ = depT T.links r := ⟨_, rfl⟩
  rw [← h_tot]
  obtain ⟨nb, h_nb⟩ : ∃ y_, y_ = (fun r => nbr T.links r 3) := ⟨_, rfl⟩
  have HNB := Lib.hid h_nb
  have HT0 : Hid (tot = 0 + dep nb (8 - 0) (uAll nb 0 [r])) := Lib.hid (by rw [h_tot, h_nb]; exact depT_eq T.links r)
  clear h_nb h_tot
  go_enter Try.func43, Try.ntmps43
  go_wp2
  go_loopw [5, 6] (DiRel w A n0 c0' L m e0 nb tot) (fun _ i _ => 8 - (intOf i).toNat)
  case atStart => exact ⟨0, 1, _, 1, [r], Nat.zero_le _, rfl, rfl, by omega, Ri.alloc1At (by simp), HT0, ((Below.refl _ _).alloc (Nat.le_refl _) _).alloc (by simp) _, (World.cell?_alloc_lt _ _ _ (by simp)).trans (by simp), (World.cell?_alloc_lt _ _ _ (by simp)).trans (by simp)⟩
  case round =>
    clear HT0
    obtain ⟨k, nF, F, cF, fs, hk, rfl, rfl, hnF, hF, HT, hb, bx0, bx1⟩ := hrel
    have hs := hb.size
    by_cases hks : k < 8
    · have hks' : (k : Int) < 8 := by omega
      have hFl := Lib.hid hF.len
      go_wp2
      go_loopw [7, 18] (UnRel wr w.heap.size A n0 c0' L m e0 nb 0 fs nF) (fun _ i _ => nF - (intOf i).toNat)
      case atStart => exact ⟨0, Nat.zero_le _, rfl, rfl, Below.refl _ _, bx0, bx1⟩
      case round =>
        obtain ⟨j, hj, rfl, rfl, hbq, cx0, cx1⟩ := hrel
        rename_i wq
        have hBq := below_keep0 hb hbq
        have hsq := hBq.size
        by_cases hlt : j < nF
        · have hT' := hT.below hBq (Nat.le_refl _)
          have hFq := hF.below hbq (Nat.le_refl _)
          obtain ⟨b, off, x, rfl, hx0, hc⟩ := hFq.get hlt
          have hx := Lib.hid hx0
          clear hx0
          have hnl := nbr_len T.links x 3
          go_wp2_with (first
            | (go_at_call 37; refine (par_i _ _ _ _ _ _ T _ _ hT' hm).mono ?_; rintro e w1 ⟨A1, c1, rfl, o1, hb1⟩)
            | (go_at_call 66; refine (makeSet_i _ _ _ _ _ o1.rd (by omega)).mono ?_; rintro e w2 ⟨rfl, rfl⟩)
            | (go_at_call 65; refine (uni_i _ _ _).mono ?_; rintro e w3 ⟨rfl, rfl⟩))
          go_roundw
          case rel => exact ⟨j + 1, by omega, by go_num, congrArg (Value.int .i64) (by rw [uAll_succ hx.out, HNB.out]), below_keep0 hbq hb1, cell_keep0 cx0 hb1, cell_keep0 cx1 hb1⟩
          case measure => simp [intOf]; omega
        · obtain rfl : j = nF := by omega
          have hte := Lib.hid (show fs.take j = fs from List.take_of_length_le (by rw [hFl.out]; omega))
          rw [hte.out]
          obtain ⟨nx, h_nx⟩ : ∃ y_, y_ = uAll nb 0 fs := ⟨_, rfl⟩
          rw [← h_nx]
          have HNX := Lib.hid h_nx
          clear h_nx
          have hel := elemsE_len nx
          by_cases hz : nx = 0
          · have hfin := Lib.hid (show k = tot by rw [HT.out, ← HNX.out, hz, dep_zero]; rfl)
            have hz' : (nx == 0) = true := by simpa using hz
            clear hz
            go_wp2
            go_ret
            exact ⟨ret_int (congrArg (fun n : Nat => (n : Int)) hfin.out), hBq⟩
          · have hz' : (nx == 0) = false := by simpa using hz
            have hfin := Lib.hid (show tot = (k + 1) + dep nb (8 - (k + 1)) (uAll nb 0 (elemsE nx)) by rw [HT.out, ← HNX.out, dep_step nb hks hz]; omega)
            clear hz
            go_wp2_with (first
              | (go_at_call 67; refine (elements_i _ _).mono ?_; rintro e w4 ⟨A4, c4, rfl, o4, hb4⟩))
            go_roundw
            case rel => exact ⟨k + 1, _, A4, c4, _, by omega, by go_num, rfl, hel, o4.rd, hfin, below_keep0 hBq hb4, cell_keep0 cx0 hb4, cell_keep0 cx1 hb4⟩
            case measure => simp [intOf]; omega
    · obtain rfl : k = 8 := by omega
      have hfin := Lib.hid (show 8 = tot by rw [HT.out]; rfl)
      go_wp2
      go_ret
      exact ⟨ret_int (congrArg (fun n : Nat => (n : Int)) hfin.out), hb⟩
set_option maxHeartbeats 4000000 in
theorem dep_s (A : Option Addr) (n0 c0' : Nat) (L : Option Addr) (m e0 : Nat) (T : Tp) (r : Int) (w : World) (hT : Rl w L m T.links) (hm : m ≤ 1048576) :
    Calls Try.prog 42 #[.agg #[.slice A n0 c0', .slice L m e0], .int .i64 r] w fun e w' => e = .returned (.int .i64 (depT T.links r)) ∧ Below w.heap.size w w' := by
  have hnl0 := nbr_len T.links r 3
  obtain ⟨ms, h_ms⟩ : ∃ y_, y_ = mkSet (nbr T.links r 3) := ⟨_, rfl⟩
  have HMS := Lib.hid h_ms.symm
  obtain ⟨tot, h_tot⟩ : ∃ y_, y_ = depT T.links r := ⟨_, rfl⟩
  rw [← h_tot]
  obtain ⟨nb, h_nb⟩ : ∃ y_, y_ = (fun r => nbr T.links r 3) := ⟨_, rfl⟩
  have HNB := Lib.hid h_nb
  have HT0 : Hid (tot = 0 + dep nb (8 - 0) ms) := Lib.hid (by rw [h_tot, h_nb, h_ms, Nat.zero_add]; rfl)
  clear h_nb h_tot h_ms
  go_enter Try.func42, Try.ntmps42
  go_wp2_with (first
    | (go_at_call 36; refine (par_s _ _ _ _ _ _ T _ _ (hT.alloc _) hm).mono ?_; rintro e w1 ⟨A1, c1, rfl, o1, hb1⟩)
    | (go_at_call 61; refine (makeSet_s _ _ _ _ _ o1.rd (by omega)).mono ?_; rw [HMS.out]; rintro e w2 ⟨rfl, rfl⟩))
  go_loopw [5, 6] (DsRel w A n0 c0' L m e0 nb tot) (fun i _ _ => 8 - (intOf i).toNat)
  case atStart => exact ⟨0, ms, Nat.zero_le _, rfl, rfl, HT0, below_keep (Below.refl _ w) hb1, cell_keep0 (by simp) hb1, cell_keep0 (by simp) hb1⟩
  case round =>
    clear HT0 o1 hb1
    obtain ⟨k, s, hk, rfl, rfl, HT, hb, bx0', bx1'⟩ := hrel
    have hs := hb.size
    by_cases hz : s = 0
    · have hfin := Lib.hid (show k = tot by rw [HT.out, hz, dep_zero]; rfl)
      have hz' : (s != 0) = false := by simpa using hz
      clear hz
      go_wp2
      go_ret
      exact ⟨ret_int (congrArg (fun n : Nat => (n : Int)) hfin.out), hb⟩
    by_cases hks : k < 8
    · have hks' : (k : Int) < 8 := by omega
      have hz' : (s != 0) = true := by simpa using hz
      have hfin := Lib.hid (show tot = (k + 1) + dep nb (8 - (k + 1)) (uAll nb 0 (elemsE s)) by rw [HT.out, dep_step nb hks hz]; omega)
      clear hz
      obtain ⟨nF, h_nF⟩ : ∃ y_, y_ = (elemsE s).length := ⟨_, rfl⟩
      have hFl := Lib.hid h_nF.symm
      have hnF : nF ≤ 16 := by rw [h_nF]; exact elemsE_len s
      clear h_nF
      go_wp2_with fail
      refine (elements_s _ _).mono ?_
      rintro e w5 ⟨F, cF, rfl, o5, hbx⟩
      rw [hFl.out] at o5 ⊢
      have hF := o5.rd
      have hb5 := below_keep0 hb hbx
      have bx0 := cell_keep0 bx0' hbx
      have bx1 := cell_keep0 bx1' hbx
      clear o5 bx0' bx1'
      go_wp2
      go_loopw [7, 9] (UnRel w5 w.heap.size A n0 c0' L m e0 nb 0 (elemsE s) nF) (fun _ i _ => nF - (intOf i).toNat)
      case atStart => exact ⟨0, Nat.zero_le _, rfl, rfl, Below.refl _ _, bx0, bx1⟩
      case round =>
        obtain ⟨j, hj, rfl, rfl, hbq, cx0, cx1⟩ := hrel
        rename_i wq
        have hBq := below_keep0 hb5 hbq
        have hsq := hBq.size
        by_cases hlt : j < nF
        · have hT' := hT.below hBq (Nat.le_refl _)
          have hFq := hF.below hbq (Nat.le_refl _)
          obtain ⟨b, off, x, rfl, hx0, hc⟩ := hFq.get hlt
          have hx := Lib.hid hx0
          clear hx0
          have hnl := nbr_len T.links x 3
          have hi1 : (0 : Int) ≤ (j : Int) := by omega
          have hi2 : (j : Int) < (nF : Int) := by omega
          go_wp2_with fail
          go_region_held3 (fun w' => w'.cell? ⟨w.heap.size, 0, none⟩ = some (.slice A n0 c0') ∧ w'.cell? ⟨w.heap.size, 1, none⟩ = some (.slice L m e0) ∧ w'.cell? ⟨b, off + j, none⟩ = some (.int .i64 x)) (first | exact ⟨cell_keepD cx0 hbK, cell_keepD cx1 hbK, cell_keepD hc hbK⟩ | exact ⟨cx0, cx1, hc⟩) (first | (go_at_call 36; refine (par_s _ _ _ _ _ _ T _ _ ?_ hm).mono ?_; (exact Rd.drew hT'); rintro e w1 ⟨A1, c1, rfl, o1, hbK⟩) | (go_at_call 61; refine (makeSet_s _ _ _ _ _ o1.rd ?_).mono ?_; (omega); rintro e w2 ⟨rfl, rfl⟩) | (go_at_call 64; refine (uni_s _ _ _).mono ?_; rintro e w3 ⟨rfl, rfl⟩))
          go_wp2
          go_roundw
          case rel => exact ⟨j + 1, by omega, by go_num, congrArg (Value.int .i64) (by rw [uAll_succ hx.out, HNB.out]), below_keepD hbq hbK, cell_keepD cx0 hbK, cell_keepD cx1 hbK⟩
          case measure => simp [intOf]; omega
        · obtain rfl : j = nF := by omega
          have hte := Lib.hid (show (elemsE s).take j = elemsE s from List.take_of_length_le (by rw [hFl.out]; omega))
          rw [hte.out]
          go_wp2
          go_roundw
          case rel => exact ⟨k + 1, _, by omega, by go_num, rfl, hfin, hBq, cx0, cx1⟩
          case measure => simp [intOf]; omega
    · obtain rfl : k = 8 := by omega
      have hz' : (s != 0) = true := by simpa using hz
      have hfin := Lib.hid (show 8 = tot by rw [HT.out]; rfl)
      go_wp2
      go_ret
      exact ⟨ret_int (congrArg (fun n : Nat => (n : Int)) hfin.out), hb⟩
end Go.Proofs.Ytkfdenokbhlfeaa
