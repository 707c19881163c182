/- Contracts of InterfacesOfKind. -/
import Derived.Test.YtehfcejpoigclaaRows
import Derived.Test.YtehfcejpoigclaaMem
import Derived.Test.YtehfcejpoigclaaTopoMem
import Derived.Test.YtehfcejpoigclaaTopoPure
import Derived.Test.YtehfcejpoigclaaLawInts
import Derived.Test.YtehfcejpoigclaaTopo2
import Derived.Test.YtehfcejpoigclaaTopo3
import Derived.Test.YtehfcejpoigclaaTopo4
import Derived.Deep.RegionHeld3
import Derived.Outline
namespace Go.Proofs.Ytehfcejpoigclaa
open Go.RowKit
set_option linter.unusedVariables false

def Far (v : Value) (lo hi : Nat) : Prop := ∀ g, v.ownBlock = some g → g ≤ lo ∨ hi ≤ g
theorem Ri.farX {w w' : World} {k : IntKind} {A : Option Addr} {n : Nat} {zs : List Int} {row : Option Nat} (h : Ri w k A n zs) (hg : w.grownBy w' row) (hr : ∀ g, row = some g → ∀ b off, A = some ⟨b, off, none⟩ → b ≠ g) : Ri w' k A n zs :=
  h.grown hg fun b off e he => hr b he.symm b off e rfl
set_option maxHeartbeats 2000000 in
theorem ofKind_i (A : Option Addr) (n0 c0' : Nat) (L : Option Addr) (m e0 : Nat) (T : Tp) (r kd : Int) (w : World) (hT : Rl w L m T.links) (hm : m ≤ 1048576) :
    Calls Try.prog 14 #[.agg #[.slice A n0 c0', .slice L m e0], .int .i64 r, .int .i64 kd] w (RetIntS w (ifsOf T.links r kd)) := by
  obtain ⟨i0, hi, hz0, hz1, hz2⟩ := info_parts ints_info
  have hl := Lib.hid hT.len
  obtain ⟨zs, h_zs⟩ : ∃ y_, y_ = ifs T.links r := ⟨_, rfl⟩
  have HZ := Lib.hid h_zs.symm
  obtain ⟨nI, h_nI⟩ : ∃ y_, y_ = zs.length := ⟨_, rfl⟩
  have HN := Lib.hid h_nI.symm
  have hnI : nI ≤ 2097152 := by have h1 := ifs_len T.links r; rw [← h_zs, ← h_nI, hl.out] at h1; omega
  clear h_zs h_nI
  go_enter Try.func14, Try.ntmps14
  go_wp2_with fail
  refine (ifs_i _ _ _ _ _ _ T _ _ (hT.alloc _) hm).mono ?_
  rw [HZ.out]
  rintro e wI ⟨AI, cI, rfl, oI, hbI⟩
  rw [HN.out] at oI ⊢
  have hB := below_keep (Below.refl _ w) hbI
  have bx0 : wI.cell? ⟨w.heap.size, 0, none⟩ = some (.slice A n0 c0') := (hbI.cell (p := ⟨w.heap.size, 0, none⟩) (by simp <;> omega)).trans (by simp)
  have bx1 : wI.cell? ⟨w.heap.size, 1, none⟩ = some (.slice L m e0) := (hbI.cell (p := ⟨w.heap.size, 1, none⟩) (by simp <;> omega)).trans (by simp)
  have hZ := oI.rd
  have hsI : w.heap.size + 1 ≤ wI.heap.size := by have := hbI.size; simp at this; omega
  have hZlo : ∀ b off, AI = some ⟨b, off, none⟩ → w.heap.size < b := fun b off e => by have := (oI.block e).1; simp at this; omega
  have hZb : 0 < nI → ∀ b off, AI = some ⟨b, off, none⟩ → b < wI.heap.size := oI.outB
  clear hbI
  go_wp2
  go_loopw [7, 14] (fun v i wr => OkRel w nI A n0 c0' T.links zs r kd L m e0 v i wr ∧ Ri wr .i64 AI nI zs ∧ wI.heap.size ≤ wr.heap.size ∧ Far v (w.heap.size) wI.heap.size) (fun _ i _ => nI - (intOf i).toNat)
  case atStart => exact ⟨⟨0, 0, none, 0, Nat.zero_le _, rfl, rfl, Nat.le_refl _, Oi.nil, hB, bx0, bx1⟩, hZ, Nat.le_refl _, fun g hg => by simp [Value.ownBlock] at hg⟩
  case round =>
    clear hZ hB bx0 bx1 oI
    obtain ⟨⟨k, n, B, c, hk, rfl, rfl, hn, hown, hb, bx0, bx1⟩, hz, hwI, hfar⟩ := hrel
    have hs := hb.size
    have hlt1 : w.heap.size < wr.heap.size := World.block_lt_of_cell? wr _ bx0
    by_cases hlt : k < nI
    · have hT' := hT.below hb (Nat.le_refl _)
      obtain ⟨b, off, x, rfl, hx0, hc⟩ := hz.get hlt
      have hx := Lib.hid hx0
      clear hx0
      have hi1 : (0 : Int) ≤ (k : Int) := by omega
      have hi2 : (k : Int) < (nI : Int) := by omega
      rcases Bool.eq_false_or_eq_true (ifK T.links r x == kd) with q0 | q0
      · -- kept
          go_wp2_with (first
            | (go_at_call 22; refine (ifKind_i _ _ _ _ _ _ T _ _ _ hT' hm).mono ?_; rintro e w1 ⟨rfl, hbK⟩; have hB1 := below_keep0 hb hbK; have hs1 := hB1.size; have o1 := hown.below hbK (Nat.le_refl _); have y0 := cell_keep0 bx0 hbK; have y1 := cell_keep0 bx1 hbK; have hc1 := cell_keep0 hc hbK; have hlt2 : w.heap.size < w1.heap.size := World.block_lt_of_cell? w1 _ y0)
            | (at_builtin; refine wpList_pushAt _ rfl _ _ 34 rfl (w.heap.size + 1) 3 i0 (.int .i64 0) 8 .i64 Try.underlying34 hi hz0 hz1 hz2 rfl (by omega) B n c _ rfl (o1.alloc _) w1.heap.size x rfl (by simp) (by omega) (by simp; omega) ?_; intro A1 c1 w2 o2 hg2 hat2; have hb2 : Below (w.heap.size + 1) _ w2 := grown_below (o1.alloc _) hg2 (by simp; omega)))
          go_roundw
          case rel =>
            have hfin : ofKind T.links r kd (zs.take (k + 1)) = ofKind T.links r kd (zs.take k) ++ [x] := by unfold ofKind; rw [filter_take_succ hx.out]; simp [q0]
            refine ⟨⟨k + 1, n + 1, A1, c1, by omega, by go_num, rfl, by omega, ?_, (hB1.alloc hs1 _).trans (hb2.mono (by omega)), ?_, ?_⟩, ?_⟩
            · rw [hfin]; exact o2
            · exact (hb2.cell (p := ⟨w.heap.size, 0, none⟩) (by simp)).trans ((World.cell?_alloc_lt w1 _ _ hlt2).trans y0)
            · exact (hb2.cell (p := ⟨w.heap.size, 1, none⟩) (by simp)).trans ((World.cell?_alloc_lt w1 _ _ hlt2).trans y1)
            · refine ⟨?_, by have := hg2.size; simp at this; have := hbK.size; skip; omega, ?_⟩
              · refine Ri.farX (Ri.alloc (hz.below hbK (Nat.le_refl _)) _) hg2 (fun g hg b' off' e' => ?_)
                have h1 := hfar g hg
                have h2 := hZlo b' off' e'
                have h3 := hZb (by omega) b' off' e'
                omega
              · intro g hg
                rcases hat2 with h | h
                · exact hfar g (by rw [← h]; exact hg)
                · rw [hg] at h
                  simp at h
                  right
                  have := hbK.size
                  skip
                  omega
          case measure => simp [intOf]; omega
      · -- dropped
          go_wp2_with (first
            | (go_at_call 22; refine (ifKind_i _ _ _ _ _ _ T _ _ _ hT' hm).mono ?_; rintro e w1 ⟨rfl, hbK⟩; have hB1 := below_keep0 hb hbK; have hs1 := hB1.size; have o1 := hown.below hbK (Nat.le_refl _); have y0 := cell_keep0 bx0 hbK; have y1 := cell_keep0 bx1 hbK; have hc1 := cell_keep0 hc hbK; have hlt2 : w.heap.size < w1.heap.size := World.block_lt_of_cell? w1 _ y0))
          go_roundw
          case rel =>
            have hfin : ofKind T.links r kd (zs.take (k + 1)) = ofKind T.links r kd (zs.take k) := by unfold ofKind; rw [filter_take_succ hx.out]; simp [q0]
            refine ⟨⟨k + 1, n, B, c, by omega, by go_num, rfl, by omega, ?_, hB1, y0, y1⟩, hz.below hbK (Nat.le_refl _), by have := hbK.size; skip; omega, hfar⟩
            rw [hfin]
            exact o1
          case measure => simp [intOf]; omega
    · obtain rfl : k = nI := by omega
      go_wp2
      go_ret
      refine ret_ints (hown.mono (by omega)) hb ?_
      unfold ifsOf
      rw [HZ.out, List.take_of_length_le (by rw [HN.out]; omega)]
set_option maxHeartbeats 2000000 in
theorem ofKind_s (A : Option Addr) (n0 c0' : Nat) (L : Option Addr) (m e0 : Nat) (T : Tp) (r kd : Int) (w : World) (hT : Rl w L m T.links) (hm : m ≤ 1048576) :
    Calls Try.prog 15 #[.agg #[.slice A n0 c0', .slice L m e0], .int .i64 r, .int .i64 kd] w (RetIntS w (ifsOf T.links r kd)) := by
  obtain ⟨i0, hi, hz0, hz1, hz2⟩ := info_parts ints_info
  have hl := Lib.hid hT.len
  obtain ⟨zs, h_zs⟩ : ∃ y_, y_ = ifs T.links r := ⟨_, rfl⟩
  have HZ := Lib.hid h_zs.symm
  obtain ⟨nI, h_nI⟩ : ∃ y_, y_ = zs.length := ⟨_, rfl⟩
  have HN := Lib.hid h_nI.symm
  have hnI : nI ≤ 2097152 := by have h1 := ifs_len T.links r; rw [← h_zs, ← h_nI, hl.out] at h1; omega
  clear h_zs h_nI
  go_enter Try.func15, Try.ntmps15
  go_wp2_with fail
  refine (ifs_s _ _ _ _ _ _ T _ _ ((hT.alloc _).alloc _) hm).mono ?_
  rw [HZ.out]
  rintro e wI ⟨AI, cI, rfl, oI, hbI⟩
  rw [HN.out] at oI ⊢
  have hB := below_keep ((Below.refl _ w).alloc (Nat.le_refl _) _) hbI
  have bx0 : wI.cell? ⟨w.heap.size, 0, none⟩ = some (.slice A n0 c0') := (hbI.cell (p := ⟨w.heap.size, 0, none⟩) (by simp <;> omega)).trans ((World.cell?_alloc_lt _ _ _ (by simp)).trans (by simp))
  have bx1 : wI.cell? ⟨w.heap.size, 1, none⟩ = some (.slice L m e0) := (hbI.cell (p := ⟨w.heap.size, 1, none⟩) (by simp <;> omega)).trans ((World.cell?_alloc_lt _ _ _ (by simp)).trans (by simp))
  have hE := (lit_noneAt (w := w.alloc (.cells #[.slice A n0 c0', .slice L m e0] 27)) (w' := w) (base := w.heap.size + 1) (E := 3) (k := .i64) (g := w.heap.size + 1) (by simp) (by simp)).below hbI (Nat.le_refl _)
  have hZ := oI.rd
  have hsI : w.heap.size + 1 ≤ wI.heap.size := by have := hbI.size; simp at this; omega
  have hZlo : ∀ b off, AI = some ⟨b, off, none⟩ → w.heap.size + 1 < b := fun b off e => by have := (oI.block e).1; simp at this; omega
  have hZb : 0 < nI → ∀ b off, AI = some ⟨b, off, none⟩ → b < wI.heap.size := oI.outB
  clear hbI
  go_wp2
  go_loopw [7, 9] (fun v i wr => OkRel w nI A n0 c0' T.links zs r kd L m e0 v i wr ∧ Ri wr .i64 AI nI zs ∧ wI.heap.size ≤ wr.heap.size ∧ Far v (w.heap.size + 1) wI.heap.size) (fun _ i _ => nI - (intOf i).toNat)
  case atStart => exact ⟨⟨0, 0, some ⟨w.heap.size + 1, 0, none⟩, 0, Nat.zero_le _, rfl, rfl, Nat.le_refl _, hE, hB, bx0, bx1⟩, hZ, Nat.le_refl _, fun g hg => by simp [Value.ownBlock] at hg; omega⟩
  case round =>
    clear hZ hB bx0 bx1 hE oI
    obtain ⟨⟨k, n, B, c, hk, rfl, rfl, hn, hown, hb, bx0, bx1⟩, hz, hwI, hfar⟩ := hrel
    have hs := hb.size
    have hlt1 : w.heap.size < wr.heap.size := World.block_lt_of_cell? wr _ bx0
    by_cases hlt : k < nI
    · have hT' := hT.below hb (Nat.le_refl _)
      obtain ⟨b, off, x, rfl, hx0, hc⟩ := hz.get hlt
      have hx := Lib.hid hx0
      clear hx0
      have hi1 : (0 : Int) ≤ (k : Int) := by omega
      have hi2 : (k : Int) < (nI : Int) := by omega
      rcases Bool.eq_false_or_eq_true (ifK T.links r x == kd) with q0 | q0
      · -- kept
          go_wp2_with fail
          go_region_held3 (fun w' => w'.cell? ⟨w.heap.size, 0, none⟩ = some (.slice A n0 c0') ∧ w'.cell? ⟨w.heap.size, 1, none⟩ = some (.slice L m e0) ∧ w'.cell? ⟨b, off + k, none⟩ = some (.int .i64 x)) (first | exact ⟨bx0, bx1, hc⟩ | exact ⟨cell_keepD bx0 hbK, cell_keepD bx1 hbK, cell_keepD hc hbK⟩) (first | (go_at_call 23; refine (ifKind_s _ _ _ _ _ _ T _ _ _ ?_ hm).mono ?_; (exact Rd.drew hT'); rintro e w1 ⟨rfl, hbK⟩; have hB1 := below_keepD hb hbK; have hs1 := hB1.size; have o1 := (hown.drew).below hbK (Nat.le_refl _); have y0 := cell_keepD bx0 hbK; have y1 := cell_keepD bx1 hbK; have hc1 := cell_keepD hc hbK; have hlt2 : w.heap.size < w1.heap.size := World.block_lt_of_cell? w1 _ y0))
          go_wp2_with (first
            | (go_at_call 23; refine (ifKind_s _ _ _ _ _ _ T _ _ _ (Rd.drew hT') hm).mono ?_; rintro e w1 ⟨rfl, hbK⟩; have hB1 := below_keepD hb hbK; have hs1 := hB1.size; have o1 := (hown.drew).below hbK (Nat.le_refl _); have y0 := cell_keepD bx0 hbK; have y1 := cell_keepD bx1 hbK; have hc1 := cell_keepD hc hbK; have hlt2 : w.heap.size < w1.heap.size := World.block_lt_of_cell? w1 _ y0)
            | (at_builtin; refine wpList_pushAt _ rfl _ _ 34 rfl (w.heap.size + 1) 3 i0 (.int .i64 0) 8 .i64 Try.underlying34 hi hz0 hz1 hz2 rfl (by omega) B n c _ rfl (o1.alloc _) w1.heap.size x rfl (by simp) (by omega) (by simp; omega) ?_; intro A1 c1 w2 o2 hg2 hat2; have hb2 : Below (w.heap.size + 1) _ w2 := grown_below (o1.alloc _) hg2 (by simp; omega)))
          go_roundw
          case rel =>
            have hfin : ofKind T.links r kd (zs.take (k + 1)) = ofKind T.links r kd (zs.take k) ++ [x] := by unfold ofKind; rw [filter_take_succ hx.out]; simp [q0]
            refine ⟨⟨k + 1, n + 1, A1, c1, by omega, by go_num, rfl, by omega, ?_, (hB1.alloc hs1 _).trans (hb2.mono (by omega)), ?_, ?_⟩, ?_⟩
            · rw [hfin]; exact o2
            · exact (hb2.cell (p := ⟨w.heap.size, 0, none⟩) (by simp)).trans ((World.cell?_alloc_lt w1 _ _ hlt2).trans y0)
            · exact (hb2.cell (p := ⟨w.heap.size, 1, none⟩) (by simp)).trans ((World.cell?_alloc_lt w1 _ _ hlt2).trans y1)
            · refine ⟨?_, by have := hg2.size; simp at this; have := hbK.size; simp at this; omega, ?_⟩
              · refine Ri.farX (Ri.alloc ((hz.drew).below hbK (Nat.le_refl _)) _) hg2 (fun g hg b' off' e' => ?_)
                have h1 := hfar g hg
                have h2 := hZlo b' off' e'
                have h3 := hZb (by omega) b' off' e'
                omega
              · intro g hg
                rcases hat2 with h | h
                · exact hfar g (by rw [← h]; exact hg)
                · rw [hg] at h
                  simp at h
                  right
                  have := hbK.size
                  simp at this
                  omega
          case measure => simp [intOf]; omega
      · -- dropped
          go_wp2_with fail
          go_region_held3 (fun w' => w'.cell? ⟨w.heap.size, 0, none⟩ = some (.slice A n0 c0') ∧ w'.cell? ⟨w.heap.size, 1, none⟩ = some (.slice L m e0) ∧ w'.cell? ⟨b, off + k, none⟩ = some (.int .i64 x)) (first | exact ⟨bx0, bx1, hc⟩ | exact ⟨cell_keepD bx0 hbK, cell_keepD bx1 hbK, cell_keepD hc hbK⟩) (first | (go_at_call 23; refine (ifKind_s _ _ _ _ _ _ T _ _ _ ?_ hm).mono ?_; (exact Rd.drew hT'); rintro e w1 ⟨rfl, hbK⟩; have hB1 := below_keepD hb hbK; have hs1 := hB1.size; have o1 := (hown.drew).below hbK (Nat.le_refl _); have y0 := cell_keepD bx0 hbK; have y1 := cell_keepD bx1 hbK; have hc1 := cell_keepD hc hbK; have hlt2 : w.heap.size < w1.heap.size := World.block_lt_of_cell? w1 _ y0))
          go_wp2
          go_roundw
          case rel =>
            have hfin : ofKind T.links r kd (zs.take (k + 1)) = ofKind T.links r kd (zs.take k) := by unfold ofKind; rw [filter_take_succ hx.out]; simp [q0]
            refine ⟨⟨k + 1, n, B, c, by omega, by go_num, rfl, by omega, ?_, hB1, y0, y1⟩, (hz.drew).below hbK (Nat.le_refl _), by have := hbK.size; simp at this; omega, hfar⟩
            rw [hfin]
            exact o1
          case measure => simp [intOf]; omega
    · obtain rfl : k = nI := by omega
      go_wp2
      go_ret
      refine ret_ints (hown.mono (by omega)) hb ?_
      unfold ifsOf
      rw [HZ.out, List.take_of_length_le (by rw [HN.out]; omega)]
end Go.Proofs.Ytehfcejpoigclaa
