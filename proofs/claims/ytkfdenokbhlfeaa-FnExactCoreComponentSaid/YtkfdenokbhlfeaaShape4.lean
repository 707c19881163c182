/- Contracts of isCore, l5Realm, CoreComponent. -/
import Derived.Test.YtkfdenokbhlfeaaRows
import Derived.Test.YtkfdenokbhlfeaaMem
import Derived.Test.YtkfdenokbhlfeaaTopoMem
import Derived.Test.YtkfdenokbhlfeaaTopoPure
import Derived.Test.YtkfdenokbhlfeaaLawInts
import Derived.Test.YtkfdenokbhlfeaaPut
import Derived.Test.YtkfdenokbhlfeaaTopo2
import Derived.Test.YtkfdenokbhlfeaaSets
import Derived.Test.YtkfdenokbhlfeaaShapePure
import Derived.Test.YtkfdenokbhlfeaaRng
import Derived.Test.YtkfdenokbhlfeaaShape1
import Derived.Test.YtkfdenokbhlfeaaShape2
import Derived.Test.YtkfdenokbhlfeaaShape3
import Derived.Deep.RegionHeld3
import Derived.Outline
namespace Go.Proofs.Ytkfdenokbhlfeaa
open Go.RowKit
set_option linter.unusedVariables false

theorem coreB_neg {xs : List As} {r : Int} (h : ¬ 0 ≤ r) : coreB xs r = false := by simp [coreB, h]
theorem coreB_out {xs : List As} {k : Nat} (h : xs.length ≤ k) : coreB xs (k : Int) = false := by simp [coreB, List.getElem?_eq_none h]
theorem coreB_at {xs : List As} {k : Nat} {x : As} (h : xs[k]? = some x) : coreB xs (k : Int) = x.core := by simp [coreB, h]
theorem coreB_far {xs : List As} {r : Int} {n : Nat} (hl : xs.length = n) (h : inR r 0 ((n : Int) - 1) = false) : coreB xs r = false := by
  by_cases h1 : 0 ≤ r
  · obtain ⟨k, rfl⟩ := Int.eq_ofNat_of_zero_le h1
    refine coreB_out ?_
    rcases Nat.lt_or_ge k n with h2 | h2
    · rw [inR_true (by omega) (by omega)] at h
      cases h
    · omega
  · exact coreB_neg h1
set_option maxHeartbeats 1000000 in
theorem isCore_i (A : Option Addr) (n0 c0' : Nat) (L : Option Addr) (m e0 : Nat) (T : Tp) (r : Int) (w : World) (hA : Ra w A n0 T.ases) (hn : n0 ≤ 1048576) :
    Calls Try.prog 70 #[.agg #[.slice A n0 c0', .slice L m e0], .int .i64 r] w fun e w' => e = .returned (.bool (coreB T.ases r)) ∧ Below w.heap.size w w' := by
  have hl := Lib.hid hA.len
  by_cases h1 : 0 ≤ r
  · obtain ⟨k, rfl⟩ := Int.eq_ofNat_of_zero_le h1
    by_cases h2 : k < n0
    · obtain ⟨b, off, x, rfl, hx0, c0, c1, c2⟩ := hA.get h2
      have hcb := Lib.hid (coreB_at hx0)
      have hbl := World.block_lt_of_cell? w _ c0
      clear hx0
      have h2' : (k : Int) ≤ (n0 : Int) - 1 := by omega
      have h3' : (k : Int) < (n0 : Int) := by omega
      rcases Bool.eq_false_or_eq_true x.core with hq | hq
      all_goals
        go_enter Try.func70, Try.ntmps70
        go_wp2
        all_goals go_ret
        all_goals exact ⟨ret_bool (by rw [hcb.out, hq]), by repeat (first | exact Below.refl _ _ | exact Nat.le_refl _ | apply Below.drew | apply Below.alloc | (simp; done) | (simp; omega))⟩
    · have hcb := Lib.hid (coreB_out (xs := T.ases) (k := k) (by rw [hl.out]; omega))
      have h2' : ¬ ((k : Int) ≤ (n0 : Int) - 1) := by omega
      go_enter Try.func70, Try.ntmps70
      go_wp2
      all_goals go_ret
      all_goals exact ⟨ret_bool (by rw [hcb.out]), by repeat (first | exact Below.refl _ _ | exact Nat.le_refl _ | apply Below.drew | apply Below.alloc | (simp; done) | (simp; omega))⟩
  · have hcb := Lib.hid (coreB_neg (xs := T.ases) h1)
    go_enter Try.func70, Try.ntmps70
    go_wp2
    all_goals go_ret
    all_goals exact ⟨ret_bool (by rw [hcb.out]), by repeat (first | exact Below.refl _ _ | exact Nat.le_refl _ | apply Below.drew | apply Below.alloc | (simp; done) | (simp; omega))⟩
def pickT (T : Tp) (r : Int) : Int := rS (fun r => nbr T.links r 1) (addE 0 r) 9
theorem compT_no {T : Tp} {r : Int} (h : coreB T.ases r = false) : compT T r = 0 := by simp [compT, h]
theorem compT_yes {T : Tp} {r : Int} (h : coreB T.ases r = true) : compT T r = pickT T r := by simp [compT, pickT, h]
theorem pickT_far {T : Tp} {r : Int} (h : inR r 0 15 = false) : pickT T r = 0 := by
  have : addE 0 r = 0 := (addE_out (s := 0) (i := r) (fun hh => by rw [inR_true hh.2.2.1 hh.2.2.2] at h; cases h)).symm
  rw [pickT, this, rS_zero]
theorem pickT_in {T : Tp} {r : Int} (h : inR r 0 15 = true) : addE (rI (fun r => nbr T.links r 1) [r] 9).1 r = pickT T r := comp_eq (fun r => nbr T.links r 1) r h 9
set_option maxHeartbeats 1000000 in
theorem comp_i (A : Option Addr) (n0 c0' : Nat) (L : Option Addr) (m e0 : Nat) (T : Tp) (r : Int) (w : World) (hT : Rt w A n0 L m T) (hn : n0 ≤ 1048576) (hm : m ≤ 1048576) :
    Calls Try.prog 45 #[.agg #[.slice A n0 c0', .slice L m e0], .int .i64 r] w fun e w' => e = .returned (.int .i64 (compT T r)) ∧ Below w.heap.size w w' := by
  obtain ⟨cb, h_cb⟩ : ∃ y_, y_ = coreB T.ases r := ⟨_, rfl⟩
  have HC := Lib.hid h_cb.symm
  clear h_cb
  obtain ⟨ir, h_ir⟩ : ∃ y_, y_ = inR r 0 15 := ⟨_, rfl⟩
  have HI := Lib.hid h_ir.symm
  clear h_ir
  go_enter Try.func45, Try.ntmps45
  go_wp2_with fail
  refine (isCore_i _ _ _ _ _ _ T r _ (hT.1.alloc _) hn).mono ?_
  rw [HC.out]
  rintro e w1 ⟨rfl, hb1⟩
  have hB := below_keep (Below.refl _ w) hb1
  have bx0 : w1.cell? ⟨w.heap.size, 0, none⟩ = some (.slice A n0 c0') := (hb1.cell (p := ⟨w.heap.size, 0, none⟩) (by simp)).trans (by simp)
  have bx1 : w1.cell? ⟨w.heap.size, 1, none⟩ = some (.slice L m e0) := (hb1.cell (p := ⟨w.heap.size, 1, none⟩) (by simp)).trans (by simp)
  have hT1 := hT.below hB (Nat.le_refl _)
  clear hb1
  rcases Bool.eq_false_or_eq_true cb with rfl | rfl
  · rcases Bool.eq_false_or_eq_true ir with rfl | rfl
    · go_wp2_with (first
        | (go_at_call 71; refine (inRg_i _ _ _ _).mono ?_; rw [HI.out]; rintro e w' ⟨rfl, rfl⟩)
        | (go_at_call 62; refine (reached_i _ _ _ _ _ _ T _ _ _ [r] _ 9 _ (hT1.2.alloc _) hm (Ri.alloc1At rfl) (by omega) (by omega)).mono ?_; rintro e w2 ⟨rfl, hb2⟩)
        | (go_at_call 72; refine (add_i _ _ _).mono ?_; rintro e w3 ⟨rfl, rfl⟩))
      go_ret
      exact ⟨ret_int (by rw [compT_yes HC.out]; exact pickT_in HI.out), below_keep hB hb2⟩
    · go_wp2_with (first
        | (go_at_call 71; refine (inRg_i _ _ _ _).mono ?_; rw [HI.out]; rintro e w' ⟨rfl, rfl⟩))
      go_ret
      exact ⟨ret_int (by rw [compT_yes HC.out, pickT_far HI.out]), hB⟩
  · go_wp2_with (first
        | (go_at_call 71; refine (inRg_i _ _ _ _).mono ?_; rw [HI.out]; rintro e w' ⟨rfl, rfl⟩))
    go_ret
    exact ⟨ret_int (by rw [compT_no HC.out]), hB⟩
set_option maxHeartbeats 400000 in
theorem realm_s (A : Option Addr) (n0 c0' : Nat) (L : Option Addr) (m e0 : Nat) (T : Tp) (r : Int) (w : World) (hn : n0 ≤ 1048576) :
    Calls Try.prog 68 #[.agg #[.slice A n0 c0', .slice L m e0], .int .i64 r] w fun e w' => e = .returned (.bool (inR r 0 ((n0 : Int) - 1))) ∧ Below w.heap.size w w' := by
  go_enter Try.func68, Try.ntmps68
  go_wp2_with (first
    | (go_at_call 82; refine (inRg_s _ _ _ _).mono ?_; rintro e w' ⟨rfl, rfl⟩))
  go_ret
  exact ⟨ret_bool (by congr 1), by repeat (first | exact Below.refl _ _ | exact Nat.le_refl _ | apply Below.drew | apply Below.alloc | (simp; done) | (simp; omega))⟩
set_option maxHeartbeats 1000000 in
theorem comp_s (A : Option Addr) (n0 c0' : Nat) (L : Option Addr) (m e0 : Nat) (T : Tp) (r : Int) (w : World) (hT : Rt w A n0 L m T) (hn : n0 ≤ 1048576) (hm : m ≤ 1048576) :
    Calls Try.prog 44 #[.agg #[.slice A n0 c0', .slice L m e0], .int .i64 r] w fun e w' => e = .returned (.int .i64 (compT T r)) ∧ Below w.heap.size w w' := by
  have hl := Lib.hid hT.1.len
  obtain ⟨ir, h_ir⟩ : ∃ y_, y_ = inR r 0 ((n0 : Int) - 1) := ⟨_, rfl⟩
  have HI := Lib.hid h_ir.symm
  clear h_ir
  go_enter Try.func44, Try.ntmps44
  go_wp2_with fail
  refine (realm_s _ _ _ _ _ _ T r _ hn).mono ?_
  rw [HI.out]
  rintro e w1 ⟨rfl, hb1⟩
  have hB := below_keep (Below.refl _ w) hb1
  have bx0 : w1.cell? ⟨w.heap.size, 0, none⟩ = some (.slice A n0 c0') := (hb1.cell (p := ⟨w.heap.size, 0, none⟩) (by simp)).trans (by simp)
  have bx1 : w1.cell? ⟨w.heap.size, 1, none⟩ = some (.slice L m e0) := (hb1.cell (p := ⟨w.heap.size, 1, none⟩) (by simp)).trans (by simp)
  have hT1 := hT.below hB (Nat.le_refl _)
  clear hb1
  rcases Bool.eq_false_or_eq_true ir with rfl | rfl
  · have hh := inR_iff.1 HI.out
    obtain ⟨k, rfl⟩ := Int.eq_ofNat_of_zero_le hh.1
    have hk : k < n0 := by omega
    obtain ⟨b, off, x, rfl, hx0, c0, c1, c2⟩ := hT1.1.get hk
    have hcb := Lib.hid (coreB_at hx0)
    clear hx0 hh
    have h3' : (k : Int) < (n0 : Int) := by omega
    have h4' : (0 : Int) ≤ (k : Int) := by omega
    rcases Bool.eq_false_or_eq_true x.core with hq | hq
    · have HC := Lib.hid (hcb.out.trans hq)
      go_wp2_with fail
      go_region_held3 (fun w' => w'.cell? ⟨w.heap.size, 0, none⟩ = some (.slice (some ⟨b, off, none⟩) n0 c0') ∧ w'.cell? ⟨w.heap.size, 1, none⟩ = some (.slice L m e0)) (first | exact ⟨cell_keepD bx0 hbR, cell_keepD bx1 hbR⟩ | exact ⟨bx0, bx1⟩) (first | (go_at_call 69; refine (add_s _ _ _).mono ?_; rintro e w3 ⟨rfl, rfl⟩) | (go_at_call 60; refine (reach_s _ _ _ _ _ _ T _ _ _ ?_ hm).mono ?_; (exact Rd.drew hT1.2); rintro e w3 ⟨rfl, hbR⟩))
      go_wp2
      go_ret
      exact ⟨ret_int (by rw [compT_yes HC.out]; rfl), below_keepD hB hbR⟩
    · have HC := Lib.hid (hcb.out.trans hq)
      go_wp2
      go_ret
      exact ⟨ret_int (by rw [compT_no HC.out]), hB⟩
  · have HC : Hid (coreB T.ases r = false) := Lib.hid (coreB_far hl.out HI.out)
    go_wp2
    go_ret
    exact ⟨ret_int (by rw [compT_no HC.out]), hB⟩
end Go.Proofs.Ytkfdenokbhlfeaa
