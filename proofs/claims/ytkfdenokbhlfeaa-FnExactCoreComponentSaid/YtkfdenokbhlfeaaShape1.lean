/- Contracts of neighbours, l7Behind, Parents, Children. -/
import Derived.Test.YtkfdenokbhlfeaaRows
import Derived.Test.YtkfdenokbhlfeaaMem
import Derived.Test.YtkfdenokbhlfeaaTopoMem
import Derived.Test.YtkfdenokbhlfeaaTopoPure
import Derived.Test.YtkfdenokbhlfeaaLawInts
import Derived.Test.YtkfdenokbhlfeaaPut
import Derived.Test.YtkfdenokbhlfeaaTopo2
import Derived.Test.YtkfdenokbhlfeaaTopo5
import Derived.Test.YtkfdenokbhlfeaaSets
import Derived.Test.YtkfdenokbhlfeaaShapePure
import Derived.Test.YtkfdenokbhlfeaaRng
import Derived.Deep.RegionHeld3
import Derived.Outline
namespace Go.Proofs.Ytkfdenokbhlfeaa
open Go.RowKit
set_option linter.unusedVariables false

def NbRel (w : World) (nI : Nat) (A : Option Addr) (n0 c0' : Nat) (f : Int → Int) (zs : List Int) (L : Option Addr) (m e0 : Nat) (v i : Value) (wr : World) : Prop :=
  ∃ (k n : Nat) (B : Option Addr) (c : Nat), k ≤ nI ∧ i = .int .i64 k ∧ v = .slice B n c ∧ n ≤ k ∧ Oi wr w.heap.size 3 .i64 B n c (nbI f (zs.take k)) ∧ Below w.heap.size w wr ∧ wr.cell? ⟨w.heap.size, 0, none⟩ = some (.slice A n0 c0') ∧ wr.cell? ⟨w.heap.size, 1, none⟩ = some (.slice L m e0)
def BeRel (w : World) (nI : Nat) (A : Option Addr) (n0 c0' : Nat) (f : Int → Int) (zs : List Int) (L : Option Addr) (m e0 : Nat) (v i : Value) (wr : World) : Prop :=
  ∃ (k : Nat), k ≤ nI ∧ i = .int .i64 k ∧ v = .int .i64 (nbS f (zs.take k)) ∧ Below w.heap.size w wr ∧ wr.cell? ⟨w.heap.size, 0, none⟩ = some (.slice A n0 c0') ∧ wr.cell? ⟨w.heap.size, 1, none⟩ = some (.slice L m e0)
set_option maxHeartbeats 2000000 in
theorem nb_i (A : Option Addr) (n0 c0' : Nat) (L : Option Addr) (m e0 : Nat) (T : Tp) (r kd : Int) (w : World) (hT : Rl w L m T.links) (hm : m ≤ 1048576) :
    Calls Try.prog 59 #[.agg #[.slice A n0 c0', .slice L m e0], .int .i64 r, .int .i64 kd] w (RetIntS w (nbr T.links r kd)) := by
  have hl := Lib.hid hT.len
  obtain ⟨zs, h_zs⟩ : ∃ y_, y_ = ifsOf T.links r kd := ⟨_, rfl⟩
  have HZ := Lib.hid h_zs.symm
  obtain ⟨nI, h_nI⟩ : ∃ y_, y_ = zs.length := ⟨_, rfl⟩
  have HN := Lib.hid h_nI.symm
  have hnI : nI ≤ 2097152 := by have h1 := ifs_len T.links r; have h4 : (ifsOf T.links r kd).length ≤ (ifs T.links r).length := List.length_filter_le _ _; rw [← h_zs, ← h_nI] at h4; rw [hl.out] at h1; omega
  clear h_zs h_nI
  go_enter Try.func59, Try.ntmps59
  go_wp2_with fail
  refine (ofKind_i _ _ _ _ _ _ T _ _ _ (hT.alloc _) hm).mono ?_
  rw [HZ.out]
  rintro e wI ⟨AI, cI, rfl, oI, hbI⟩
  rw [HN.out] at oI ⊢
  have hB := below_keep (Below.refl _ w) hbI
  have bx0 : wI.cell? ⟨w.heap.size, 0, none⟩ = some (.slice A n0 c0') := (hbI.cell (p := ⟨w.heap.size, 0, none⟩) (by simp <;> omega)).trans (by simp)
  have bx1 : wI.cell? ⟨w.heap.size, 1, none⟩ = some (.slice L m e0) := (hbI.cell (p := ⟨w.heap.size, 1, none⟩) (by simp <;> omega)).trans (by simp)
  have hZ := oI.rd
  have hsI : w.heap.size + 1 ≤ wI.heap.size := by have := hbI.size; simp at this; omega
  clear hbI oI
  go_wp2
  go_loopw [7, 17] (fun v i wr => NbRel w nI A n0 c0' (remA T.links r) zs L m e0 v i wr ∧ Ri wr .i64 AI nI zs) (fun _ i _ => nI - (intOf i).toNat)
  case atStart => exact ⟨⟨0, 0, none, 0, Nat.zero_le _, rfl, rfl, Nat.le_refl _, Oi.nil, hB, bx0, bx1⟩, hZ⟩
  case round =>
    clear hZ hB bx0 bx1
    obtain ⟨⟨k, n, B, c, hk, rfl, rfl, hn, hown, hb, bx0, bx1⟩, hz⟩ := hrel
    have hs := hb.size
    have hlt1 : w.heap.size < wr.heap.size := World.block_lt_of_cell? wr _ bx0
    by_cases hlt : k < nI
    · have hT' := hT.below hb (Nat.le_refl _)
      obtain ⟨b, off, x, rfl, hx0, hc⟩ := hz.get hlt
      have hx := Lib.hid hx0
      clear hx0
      have hi1 : (0 : Int) ≤ (k : Int) := by omega
      have hi2 : (k : Int) < (nI : Int) := by omega
      obtain ⟨fr, h_fr⟩ : ∃ y_, y_ = remA T.links r x := ⟨_, rfl⟩
      have HF := Lib.hid h_fr.symm
      clear h_fr
      rcases Bool.eq_false_or_eq_true (inR fr 0 15) with q0 | q0
      · have hst := Lib.hid (show nbI (remA T.links r) (zs.take (k + 1)) = put (nbI (remA T.links r) (zs.take k)) fr by rw [nbI_succ hx.out]; unfold nbStepI; rw [HF.out, q0, if_pos rfl])
        have hpl := put_len (nbI (remA T.links r) (zs.take k)) fr
        have hnl := Lib.hid hown.len
        rw [hnl.out] at hpl
        go_wp2_with (first
          | (go_at_call 21; refine (remote_i _ _ _ _ _ _ T _ _ _ hT' hm).mono ?_; rw [HF.out]; rintro e w1 ⟨rfl, hbK⟩; have hB1 := below_keep0 hb hbK; have hs1 := hB1.size; have o1 := hown.below hbK (Nat.le_refl _); have y0 := cell_keep0 bx0 hbK; have y1 := cell_keep0 bx1 hbK; have hlt2 : w.heap.size < w1.heap.size := World.block_lt_of_cell? w1 _ y0)
          | (go_at_call 71; refine (inRg_i _ _ _ _).mono ?_; rintro e w' ⟨rfl, rfl⟩)
          | (go_at_call 55; refine (put_i _ _ _ _ _ _ w.heap.size o1 (by omega) (by omega)).mono ?_; rintro e w2 ⟨A2, c2, rfl, o2, hb2⟩))
        generalize hn2 : (put (nbI (remA T.links r) (zs.take k)) fr).length = n2 at o2 hpl
        have HN2 := Lib.hid hn2
        clear hn2
        go_roundw
        case rel =>
          refine ⟨⟨k + 1, n2, A2, c2, by omega, by go_num, rfl, by omega, ?_, below_keep0 hB1 hb2, cell_keep0 y0 hb2, cell_keep0 y1 hb2⟩, (hz.below hbK (Nat.le_refl _)).below hb2 (Nat.le_refl _)⟩
          rw [hst.out]
          exact o2
        case measure => simp [intOf]; omega
      · have hst := Lib.hid (show nbI (remA T.links r) (zs.take (k + 1)) = nbI (remA T.links r) (zs.take k) by rw [nbI_succ hx.out]; unfold nbStepI; rw [HF.out, q0, if_neg (by simp)])
        go_wp2_with (first
          | (go_at_call 21; refine (remote_i _ _ _ _ _ _ T _ _ _ hT' hm).mono ?_; rw [HF.out]; rintro e w1 ⟨rfl, hbK⟩; have hB1 := below_keep0 hb hbK; have hs1 := hB1.size; have o1 := hown.below hbK (Nat.le_refl _); have y0 := cell_keep0 bx0 hbK; have y1 := cell_keep0 bx1 hbK; have hlt2 : w.heap.size < w1.heap.size := World.block_lt_of_cell? w1 _ y0)
          | (go_at_call 71; refine (inRg_i _ _ _ _).mono ?_; rintro e w' ⟨rfl, rfl⟩))
        go_roundw
        case rel =>
          refine ⟨⟨k + 1, n, B, c, by omega, by go_num, rfl, by omega, ?_, hB1, y0, y1⟩, hz.below hbK (Nat.le_refl _)⟩
          rw [hst.out]
          exact o1
        case measure => simp [intOf]; omega
    · obtain rfl : k = nI := by omega
      go_wp2
      go_ret
      refine ret_ints hown hb ?_
      rw [← nb_eq, HZ.out, List.take_of_length_le (by rw [HN.out]; omega)]
set_option maxHeartbeats 2000000 in
theorem behind_s (A : Option Addr) (n0 c0' : Nat) (L : Option Addr) (m e0 : Nat) (T : Tp) (r kd : Int) (w : World) (hT : Rl w L m T.links) (hm : m ≤ 1048576) :
    Calls Try.prog 58 #[.agg #[.slice A n0 c0', .slice L m e0], .int .i64 r, .int .i64 kd] w (RetIntS w (nbr T.links r kd)) := by
  have hl := Lib.hid hT.len
  obtain ⟨zs, h_zs⟩ : ∃ y_, y_ = ifsOf T.links r kd := ⟨_, rfl⟩
  have HZ := Lib.hid h_zs.symm
  obtain ⟨nI, h_nI⟩ : ∃ y_, y_ = zs.length := ⟨_, rfl⟩
  have HN := Lib.hid h_nI.symm
  have hnI : nI ≤ 2097152 := by have h1 := ifs_len T.links r; have h4 : (ifsOf T.links r kd).length ≤ (ifs T.links r).length := List.length_filter_le _ _; rw [← h_zs, ← h_nI] at h4; rw [hl.out] at h1; omega
  clear h_zs h_nI
  go_enter Try.func58, Try.ntmps58
  go_wp2_with fail
  refine (ofKind_s _ _ _ _ _ _ T _ _ _ (hT.alloc _) hm).mono ?_
  rw [HZ.out]
  rintro e wI ⟨AI, cI, rfl, oI, hbI⟩
  rw [HN.out] at oI ⊢
  have hB := below_keep (Below.refl _ w) hbI
  have bx0 : wI.cell? ⟨w.heap.size, 0, none⟩ = some (.slice A n0 c0') := (hbI.cell (p := ⟨w.heap.size, 0, none⟩) (by simp <;> omega)).trans (by simp)
  have bx1 : wI.cell? ⟨w.heap.size, 1, none⟩ = some (.slice L m e0) := (hbI.cell (p := ⟨w.heap.size, 1, none⟩) (by simp <;> omega)).trans (by simp)
  have hZ := oI.rd
  have hsI : w.heap.size + 1 ≤ wI.heap.size := by have := hbI.size; simp at this; omega
  clear hbI oI
  go_wp2
  go_loopw [7, 9] (fun v i wr => BeRel w nI A n0 c0' (remA T.links r) zs L m e0 v i wr ∧ Ri wr .i64 AI nI zs) (fun _ i _ => nI - (intOf i).toNat)
  case atStart => exact ⟨⟨0, Nat.zero_le _, rfl, rfl, hB, bx0, bx1⟩, hZ⟩
  case round =>
    clear hZ hB bx0 bx1
    obtain ⟨⟨k, hk, rfl, rfl, hb, bx0, bx1⟩, hz⟩ := hrel
    have hs := hb.size
    have hlt1 : w.heap.size < wr.heap.size := World.block_lt_of_cell? wr _ bx0
    by_cases hlt : k < nI
    · have hT' := hT.below hb (Nat.le_refl _)
      obtain ⟨b, off, x, rfl, hx0, hc⟩ := hz.get hlt
      have hx := Lib.hid hx0
      clear hx0
      have hi1 : (0 : Int) ≤ (k : Int) := by omega
      have hi2 : (k : Int) < (nI : Int) := by omega
      go_wp2_with fail
      go_region_held3 (fun w' => w'.cell? ⟨w.heap.size, 0, none⟩ = some (.slice A n0 c0') ∧ w'.cell? ⟨w.heap.size, 1, none⟩ = some (.slice L m e0) ∧ w'.cell? ⟨b, off + k, none⟩ = some (.int .i64 x)) (first | exact ⟨cell_keepD bx0 hbK, cell_keepD bx1 hbK, cell_keepD hc hbK⟩ | exact ⟨bx0, bx1, hc⟩) (first | (go_at_call 20; refine (remote_s _ _ _ _ _ _ T _ _ _ ?_ hm).mono ?_; (exact Rd.drew hT'); rintro e w1 ⟨rfl, hbK⟩; have hB1 := below_keepD hb hbK; have hs1 := hB1.size; have y0 := cell_keepD bx0 hbK; have y1 := cell_keepD bx1 hbK))
      go_wp2_with (first
        | (go_at_call 69; refine (add_s _ _ _).mono ?_; rintro e w' ⟨rfl, rfl⟩))
      go_roundw
      case rel =>
        exact ⟨⟨k + 1, by omega, by go_num, congrArg (Value.int .i64) (nbS_succ hx.out).symm, hB1, y0, y1⟩, (hz.drew).below hbK (Nat.le_refl _)⟩
      case measure => simp [intOf]; omega
    · obtain rfl : k = nI := by omega
      go_wp2_with (first
        | (go_at_call 63; refine (elements_s _ _).mono ?_; rintro e w1 ⟨A1, c1, rfl, o1, hb1⟩))
      go_ret
      refine ret_ints (o1.mono hs) (below_keep0 hb hb1) ?_
      unfold nbr
      rw [HZ.out, List.take_of_length_le (by rw [HN.out]; omega)]
set_option maxHeartbeats 400000 in
theorem par_i (A : Option Addr) (n0 c0' : Nat) (L : Option Addr) (m e0 : Nat) (T : Tp) (r : Int) (w : World) (hT : Rl w L m T.links) (hm : m ≤ 1048576) :
    Calls Try.prog 37 #[.agg #[.slice A n0 c0', .slice L m e0], .int .i64 r] w (RetIntS w (nbr T.links r 3)) := by
  go_enter Try.func37, Try.ntmps37
  go_wp2_with fail
  refine (nb_i _ _ _ _ _ _ T _ _ _ (hT.alloc _) hm).mono ?_
  rintro e w1 ⟨A1, c1, rfl, o1, hb1⟩
  go_wp2
  go_ret
  exact ret_ints (o1.mono (by simp)) (below_keep (Below.refl _ w) hb1) rfl
set_option maxHeartbeats 400000 in
theorem chi_i (A : Option Addr) (n0 c0' : Nat) (L : Option Addr) (m e0 : Nat) (T : Tp) (r : Int) (w : World) (hT : Rl w L m T.links) (hm : m ≤ 1048576) :
    Calls Try.prog 35 #[.agg #[.slice A n0 c0', .slice L m e0], .int .i64 r] w (RetIntS w (nbr T.links r 2)) := by
  go_enter Try.func35, Try.ntmps35
  go_wp2_with fail
  refine (nb_i _ _ _ _ _ _ T _ _ _ (hT.alloc _) hm).mono ?_
  rintro e w1 ⟨A1, c1, rfl, o1, hb1⟩
  go_wp2
  go_ret
  exact ret_ints (o1.mono (by simp)) (below_keep (Below.refl _ w) hb1) rfl
set_option maxHeartbeats 400000 in
theorem par_s (A : Option Addr) (n0 c0' : Nat) (L : Option Addr) (m e0 : Nat) (T : Tp) (r : Int) (w : World) (hT : Rl w L m T.links) (hm : m ≤ 1048576) :
    Calls Try.prog 36 #[.agg #[.slice A n0 c0', .slice L m e0], .int .i64 r] w (RetIntS w (nbr T.links r 3)) := by
  go_enter Try.func36, Try.ntmps36
  go_wp2_with fail
  refine (behind_s _ _ _ _ _ _ T _ _ _ (hT.alloc _) hm).mono ?_
  rintro e w1 ⟨A1, c1, rfl, o1, hb1⟩
  go_wp2
  go_ret
  exact ret_ints (o1.mono (by simp)) (below_keep (Below.refl _ w) hb1) rfl
set_option maxHeartbeats 400000 in
theorem chi_s (A : Option Addr) (n0 c0' : Nat) (L : Option Addr) (m e0 : Nat) (T : Tp) (r : Int) (w : World) (hT : Rl w L m T.links) (hm : m ≤ 1048576) :
    Calls Try.prog 34 #[.agg #[.slice A n0 c0', .slice L m e0], .int .i64 r] w (RetIntS w (nbr T.links r 2)) := by
  go_enter Try.func34, Try.ntmps34
  go_wp2_with fail
  refine (behind_s _ _ _ _ _ _ T _ _ _ (hT.alloc _) hm).mono ?_
  rintro e w1 ⟨A1, c1, rfl, o1, hb1⟩
  go_wp2
  go_ret
  exact ret_ints (o1.mono (by simp)) (below_keep (Below.refl _ w) hb1) rfl
end Go.Proofs.Ytkfdenokbhlfeaa
