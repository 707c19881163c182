/- Contracts of InterfacesOfKind and CoreASes. -/
import Derived.Test.YtehfcejpoigclaaRows
import Derived.Test.YtehfcejpoigclaaMem
import Derived.Test.YtehfcejpoigclaaTopoMem
import Derived.Test.YtehfcejpoigclaaTopoPure
import Derived.Test.YtehfcejpoigclaaLawInts
import Derived.Test.YtehfcejpoigclaaTopo2
import Derived.Test.YtehfcejpoigclaaTopo3
import Derived.Deep.RegionHeld3
import Derived.StillTailTactics
import Derived.Outline
namespace Go.Proofs.Ytehfcejpoigclaa
open Go.RowKit
set_option linter.unusedVariables false

def OkRel (w : World) (nI : Nat) (A : Option Addr) (n0 c0' : Nat) (ls : List Lk) (zs : List Int) (r kd : Int) (L : Option Addr) (m e0 : Nat) (v i : Value) (wr : World) : Prop :=
  ∃ (k n : Nat) (B : Option Addr) (c : Nat), k ≤ nI ∧ i = .int .i64 k ∧ v = .slice B n c ∧ n ≤ k ∧ Oi wr (w.heap.size + 1) 3 .i64 B n c (ofKind ls r kd (zs.take k)) ∧ Below w.heap.size w wr ∧ wr.cell? ⟨w.heap.size, 0, none⟩ = some (.slice A n0 c0') ∧ wr.cell? ⟨w.heap.size, 1, none⟩ = some (.slice L m e0)
def CoRel (w : World) (m : Nat) (xs : List As) (isd : Int) (L : Option Addr) (e0 : Nat) (v i : Value) (wr : World) : Prop :=
  ∃ (k n : Nat) (A : Option Addr) (c : Nat), k ≤ m ∧ i = .int .i64 k ∧ v = .slice A n c ∧ n ≤ k ∧ Oi wr (w.heap.size + 1) 3 .i64 A n c (coreTo xs isd k) ∧ Below w.heap.size w wr ∧ wr.cell? ⟨w.heap.size, 0, none⟩ = some (.slice L m e0)
set_option maxHeartbeats 2000000 in
theorem cores_i (L : Option Addr) (m e0 : Nat) (A : Option Addr) (n0 c0' : Nat) (T : Tp) (isd : Int) (w : World) (hT : Ra w L m T.ases) (hm : m ≤ 1048576) :
    Calls Try.prog 16 #[.agg #[.slice L m e0, .slice A n0 c0'], .int .i64 isd] w (RetIntS w (cores T.ases isd)) := by
  obtain ⟨i0, hi, hz0, hz1, hz2⟩ := info_parts ints_info
  have hl := Lib.hid hT.len
  go_enter Try.func16, Try.ntmps16
  go_wp2
  go_loopw [5, 11] (CoRel w m T.ases isd L e0) (fun _ i _ => m - (intOf i).toNat)
  case atStart => exact ⟨0, 0, none, 0, Nat.zero_le _, rfl, rfl, Nat.le_refl _, Oi.nil, (Below.refl _ _).alloc (Nat.le_refl _) _, by simp⟩
  case round =>
    obtain ⟨k, n, A, c, hk, rfl, rfl, hn, hown, hb, hbox⟩ := hrel
    have hs := hb.size
    have hlt1 : w.heap.size < wr.heap.size := World.block_lt_of_cell? wr _ hbox
    by_cases hlt : k < m
    · have hT' := hT.below hb (Nat.le_refl _)
      obtain ⟨b, off, l, rfl, hx0, c0, c1, c2⟩ := hT'.get hlt
      have hx := Lib.hid hx0
      have hbl : b < wr.heap.size := World.block_lt_of_cell? wr _ c0
      clear hx0
      rcases Bool.eq_false_or_eq_true l.core with q0 | q0
      · rcases Bool.eq_false_or_eq_true (l.isd == isd) with q1 | q1
        · go_wp2_with (first
            | (at_builtin; refine wpList_push _ rfl _ _ 34 rfl (w.heap.size + 1) 3 i0 (.int .i64 0) 8 .i64 Try.underlying34 hi hz0 hz1 hz2 rfl (by omega) A n c _ rfl ((hown.alloc _).alloc _) (wr.heap.size + 1) (k : Int) rfl (by simp) (by omega) (by simp; omega) ?_; intro A1 c1 w2 o2 hb2))
          go_roundw
          case rel =>
            have hfin : coreTo T.ases isd (k + 1) = coreTo T.ases isd k ++ [(k : Int)] := by rw [coreTo_succ hx.out]; simp [q0, q1]
            refine ⟨k + 1, n + 1, A1, c1, by omega, by go_num, rfl, by omega, ?_, ((hb.alloc hs _).alloc (by simp; omega) _).trans (hb2.mono (by omega)), ?_⟩
            · rw [hfin]; exact o2
            · exact (hb2.cell (p := ⟨w.heap.size, 0, none⟩) (by simp)).trans ((World.cell?_alloc_lt _ _ _ (by simp; omega)).trans ((World.cell?_alloc_lt wr _ _ hlt1).trans hbox))
          case measure => simp [intOf]; omega
        · -- another domain
          go_wp2
          go_roundw
          case rel =>
            have hfin : coreTo T.ases isd (k + 1) = coreTo T.ases isd k := by rw [coreTo_succ hx.out]; simp [q0, q1]
            refine ⟨k + 1, n, A, c, by omega, by go_num, rfl, by omega, ?_, hb.alloc hs _, (World.cell?_alloc_lt wr _ _ hlt1).trans hbox⟩
            rw [hfin]
            exact hown.alloc _
          case measure => simp [intOf]; omega
      · -- no core
        go_wp2
        go_roundw
        case rel =>
          have hfin : coreTo T.ases isd (k + 1) = coreTo T.ases isd k := by rw [coreTo_succ hx.out]; simp [q0]
          refine ⟨k + 1, n, A, c, by omega, by go_num, rfl, by omega, ?_, hb.alloc hs _, (World.cell?_alloc_lt wr _ _ hlt1).trans hbox⟩
          rw [hfin]
          exact hown.alloc _
        case measure => simp [intOf]; omega
    · obtain rfl : k = m := by omega
      go_wp2
      go_ret
      refine ret_ints (hown.mono (by omega)) hb ?_
      unfold cores
      rw [hl.out]
set_option maxHeartbeats 2000000 in
theorem cores_s (L : Option Addr) (m e0 : Nat) (A : Option Addr) (n0 c0' : Nat) (T : Tp) (isd : Int) (w : World) (hT : Ra w L m T.ases) (hm : m ≤ 1048576) :
    Calls Try.prog 17 #[.agg #[.slice L m e0, .slice A n0 c0'], .int .i64 isd] w (RetIntS w (cores T.ases isd)) := by
  obtain ⟨i0, hi, hz0, hz1, hz2⟩ := info_parts ints_info
  have hl := Lib.hid hT.len
  go_enter Try.func17, Try.ntmps17
  go_wp2
  go_loopw [5, 6] (CoRel w m T.ases isd L e0) (fun _ i _ => m - (intOf i).toNat)
  case atStart => exact ⟨0, 0, some ⟨w.heap.size + 1, 0, none⟩, 0, Nat.zero_le _, rfl, by simp, Nat.le_refl _, lit_noneAt (w := w.alloc _) (w' := w) (by simp) (by simp), ((Below.refl _ _).alloc (Nat.le_refl _) _).alloc (by simp) _, by simp⟩
  case round =>
    obtain ⟨k, n, A, c, hk, rfl, rfl, hn, hown, hb, hbox⟩ := hrel
    have hs := hb.size
    have hlt1 : w.heap.size < wr.heap.size := World.block_lt_of_cell? wr _ hbox
    by_cases hlt : k < m
    · have hT' := hT.below hb (Nat.le_refl _)
      obtain ⟨b, off, l, rfl, hx0, c0, c1, c2⟩ := hT'.get hlt
      have hx := Lib.hid hx0
      have hbl : b < wr.heap.size := World.block_lt_of_cell? wr _ c0
      clear hx0
      rcases Bool.eq_false_or_eq_true l.core with q0 | q0
      · rcases Bool.eq_false_or_eq_true (l.isd == isd) with q1 | q1
        · go_wp2_with (first
            | (at_builtin; refine wpList_push _ rfl _ _ 34 rfl (w.heap.size + 1) 3 i0 (.int .i64 0) 8 .i64 Try.underlying34 hi hz0 hz1 hz2 rfl (by omega) A n c _ rfl (hown.alloc _) wr.heap.size (k : Int) rfl (by simp) (by omega) (by simp; omega) ?_; intro A1 c1 w2 o2 hb2))
          go_roundw
          case rel =>
            have hfin : coreTo T.ases isd (k + 1) = coreTo T.ases isd k ++ [(k : Int)] := by rw [coreTo_succ hx.out]; simp [q0, q1]
            refine ⟨k + 1, n + 1, A1, c1, by omega, by go_num, rfl, by omega, ?_, (hb.alloc hs _).trans (hb2.mono (by omega)), ?_⟩
            · rw [hfin]; exact o2
            · exact (hb2.cell (p := ⟨w.heap.size, 0, none⟩) (by simp)).trans ((World.cell?_alloc_lt wr _ _ hlt1).trans hbox)
          case measure => simp [intOf]; omega
        · -- another domain
          go_wp2
          go_roundw
          case rel =>
            have hfin : coreTo T.ases isd (k + 1) = coreTo T.ases isd k := by rw [coreTo_succ hx.out]; simp [q0, q1]
            refine ⟨k + 1, n, A, c, by omega, by go_num, rfl, by omega, ?_, hb, hbox⟩
            rw [hfin]
            exact hown
          case measure => simp [intOf]; omega
      · -- no core
        go_wp2
        go_roundw
        case rel =>
          have hfin : coreTo T.ases isd (k + 1) = coreTo T.ases isd k := by rw [coreTo_succ hx.out]; simp [q0]
          refine ⟨k + 1, n, A, c, by omega, by go_num, rfl, by omega, ?_, hb, hbox⟩
          rw [hfin]
          exact hown
        case measure => simp [intOf]; omega
    · obtain rfl : k = m := by omega
      go_wp2
      go_ret
      refine ret_ints (hown.mono (by omega)) hb ?_
      unfold cores
      rw [hl.out]
end Go.Proofs.Ytehfcejpoigclaa
