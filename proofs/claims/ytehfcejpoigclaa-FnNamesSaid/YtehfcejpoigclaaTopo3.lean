/- Contracts of Interfaces. -/
import Derived.Test.YtehfcejpoigclaaRows
import Derived.Test.YtehfcejpoigclaaMem
import Derived.Test.YtehfcejpoigclaaTopoMem
import Derived.Test.YtehfcejpoigclaaTopoPure
import Derived.Test.YtehfcejpoigclaaLawInts
import Derived.Test.YtehfcejpoigclaaPut
import Derived.Test.YtehfcejpoigclaaPutS
namespace Go.Proofs.Ytehfcejpoigclaa
open Go.RowKit
set_option linter.unusedVariables false

def IfRel (w : World) (m : Nat) (ls : List Lk) (r : Int) (L : Option Addr) (e0 : Nat) (v i : Value) (wr : World) : Prop :=
  ∃ (k n : Nat) (A : Option Addr) (c : Nat), k ≤ m ∧ i = .int .i64 k ∧ v = .slice A n c ∧ n ≤ 2 * k ∧ Oi wr w.heap.size 3 .i64 A n c (ifs (ls.take k) r) ∧ Below w.heap.size w wr ∧ wr.cell? ⟨w.heap.size, 1, none⟩ = some (.slice L m e0)
set_option maxHeartbeats 2000000 in
theorem ifs_i (A : Option Addr) (n0 c0' : Nat) (L : Option Addr) (m e0 : Nat) (T : Tp) (r : Int) (w : World) (hT : Rl w L m T.links) (hm : m ≤ 1048576) :
    Calls Try.prog 12 #[.agg #[.slice A n0 c0', .slice L m e0], .int .i64 r] w (RetIntS w (ifs T.links r)) := by
  have hl := Lib.hid hT.len
  go_enter Try.func12, Try.ntmps12
  go_wp2
  go_loopw [5, 11] (IfRel w m T.links r L e0) (fun _ i _ => m - (intOf i).toNat)
  case atStart => exact ⟨0, 0, none, 0, Nat.zero_le _, rfl, rfl, Nat.le_refl _, Oi.nil, (Below.refl _ _).alloc (Nat.le_refl _) _, by simp⟩
  case round =>
    obtain ⟨k, n, A, c, hk, rfl, rfl, hn, hown, hb, hbox⟩ := hrel
    have hs := hb.size
    have hlt1 : w.heap.size < wr.heap.size := World.block_lt_of_cell? wr _ hbox
    have hln := hown.len
    by_cases hlt : k < m
    · have hT' := hT.below hb (Nat.le_refl _)
      obtain ⟨b, off, l, rfl, hx0, c0, c1, c2, c3, c4⟩ := hT'.get hlt
      have hx := Lib.hid hx0
      have hbl : b < wr.heap.size := World.block_lt_of_cell? wr _ c0
      clear hx0
      rcases Bool.eq_false_or_eq_true (l.a == r) with q0 | q0
      · rcases Bool.eq_false_or_eq_true (l.b == r) with q1 | q1
        · -- both ends
          go_wp2_with fail
          refine (put_i _ _ _ (ifs (T.links.take k) r) _ _ w.heap.size (hown.alloc _) (by omega) (by simp; omega)).mono ?_
          rintro e w1 ⟨A1, c1, rfl, o1, hb1⟩
          have pl1 := put_len (ifs (T.links.take k) r) l.ai
          generalize hn1 : (put (ifs (T.links.take k) r) l.ai).length = n1 at o1 pl1
          have HN1 := Lib.hid hn1
          clear hn1
          obtain ⟨hcc, _⟩ := bcell hb1
          have hz1 : wr.heap.size < w1.heap.size := by have := hb1.size; simp at this; omega
          go_wp2_with fail
          refine (put_i _ _ _ (put (ifs (T.links.take k) r) l.ai) _ _ w.heap.size o1 (by omega) (by omega)).mono ?_
          rintro e w2 ⟨A2, c2, rfl, o2, hb2⟩
          have pl2 := put_len (put (ifs (T.links.take k) r) l.ai) l.bi
          generalize hn2 : (put (put (ifs (T.links.take k) r) l.ai) l.bi).length = n2 at o2 pl2
          have HN2 := Lib.hid hn2
          clear hn2
          rw [HN1.out] at pl2
          go_wp2
          go_roundw
          case rel =>
            have hfin : ifs (T.links.take (k + 1)) r = put (put (ifs (T.links.take k) r) l.ai) l.bi := by rw [ifs_succ hx.out]; simp [ifStep, q0, q1]
            refine ⟨k + 1, n2, A2, c2, by omega, by go_num, rfl, by omega, ?_, below_keep0 (below_keep hb hb1) hb2, cell_keep0 (cell_keep hbox hb1) hb2⟩
            rw [hfin]
            exact o2
          case measure => simp [intOf]; omega
        · -- the first end
          go_wp2_with fail
          refine (put_i _ _ _ (ifs (T.links.take k) r) _ _ w.heap.size (hown.alloc _) (by omega) (by simp; omega)).mono ?_
          rintro e w1 ⟨A1, c1, rfl, o1, hb1⟩
          have pl1 := put_len (ifs (T.links.take k) r) l.ai
          generalize hn1 : (put (ifs (T.links.take k) r) l.ai).length = n1 at o1 pl1
          have HN1 := Lib.hid hn1
          clear hn1
          obtain ⟨hcc, _⟩ := bcell hb1
          have hz1 : wr.heap.size < w1.heap.size := by have := hb1.size; simp at this; omega
          go_wp2
          go_roundw
          case rel =>
            have hfin : ifs (T.links.take (k + 1)) r = put (ifs (T.links.take k) r) l.ai := by rw [ifs_succ hx.out]; simp [ifStep, q0, q1]
            refine ⟨k + 1, n1, A1, c1, by omega, by go_num, rfl, by omega, ?_, below_keep hb hb1, cell_keep hbox hb1⟩
            rw [hfin]
            exact o1
          case measure => simp [intOf]; omega
      · rcases Bool.eq_false_or_eq_true (l.b == r) with q1 | q1
        · -- the second end
          go_wp2_with fail
          refine (put_i _ _ _ (ifs (T.links.take k) r) _ _ w.heap.size (hown.alloc _) (by omega) (by simp; omega)).mono ?_
          rintro e w1 ⟨A1, c1, rfl, o1, hb1⟩
          have pl1 := put_len (ifs (T.links.take k) r) l.bi
          generalize hn1 : (put (ifs (T.links.take k) r) l.bi).length = n1 at o1 pl1
          have HN1 := Lib.hid hn1
          clear hn1
          go_wp2
          go_roundw
          case rel =>
            have hfin : ifs (T.links.take (k + 1)) r = put (ifs (T.links.take k) r) l.bi := by rw [ifs_succ hx.out]; simp [ifStep, q0, q1]
            refine ⟨k + 1, n1, A1, c1, by omega, by go_num, rfl, by omega, ?_, below_keep hb hb1, cell_keep hbox hb1⟩
            rw [hfin]
            exact o1
          case measure => simp [intOf]; omega
        · -- neither
          go_wp2
          go_roundw
          case rel =>
            have hfin : ifs (T.links.take (k + 1)) r = (ifs (T.links.take k) r) := by rw [ifs_succ hx.out]; simp [ifStep, q0, q1]
            refine ⟨k + 1, n, A, c, by omega, by go_num, rfl, by omega, ?_, hb.alloc hs _, (World.cell?_alloc_lt wr _ _ hlt1).trans hbox⟩
            rw [hfin]
            exact hown.alloc _
          case measure => simp [intOf]; omega
    · obtain rfl : k = m := by omega
      go_wp2
      go_ret
      rw [List.take_of_length_le (by rw [hl.out]; omega)] at hown
      exact ret_ints hown hb rfl
set_option maxHeartbeats 2000000 in
theorem ifs_s (A : Option Addr) (n0 c0' : Nat) (L : Option Addr) (m e0 : Nat) (T : Tp) (r : Int) (w : World) (hT : Rl w L m T.links) (hm : m ≤ 1048576) :
    Calls Try.prog 13 #[.agg #[.slice A n0 c0', .slice L m e0], .int .i64 r] w (RetIntS w (ifs T.links r)) := by
  have hl := Lib.hid hT.len
  go_enter Try.func13, Try.ntmps13
  go_wp2
  go_loopw [5, 6] (IfRel w m T.links r L e0) (fun _ i _ => m - (intOf i).toNat)
  case atStart => exact ⟨0, 0, some ⟨w.heap.size + 1, 0, none⟩, 0, Nat.zero_le _, rfl, by simp, Nat.le_refl _, lit_noneAt (w := w.alloc _) (w' := w) (by simp) (by simp), ((Below.refl _ _).alloc (Nat.le_refl _) _).alloc (by simp) _, by simp⟩
  case round =>
    obtain ⟨k, n, A, c, hk, rfl, rfl, hn, hown, hb, hbox⟩ := hrel
    have hs := hb.size
    have hlt1 : w.heap.size < wr.heap.size := World.block_lt_of_cell? wr _ hbox
    have hln := hown.len
    by_cases hlt : k < m
    · have hT' := hT.below hb (Nat.le_refl _)
      obtain ⟨b, off, l, rfl, hx0, c0, c1, c2, c3, c4⟩ := hT'.get hlt
      have hx := Lib.hid hx0
      have hbl : b < wr.heap.size := World.block_lt_of_cell? wr _ c0
      clear hx0
      rcases Bool.eq_false_or_eq_true (l.a == r) with q0 | q0
      · rcases Bool.eq_false_or_eq_true (l.b == r) with q1 | q1
        · -- both ends
          go_wp2_with fail
          refine (put_s _ _ _ (ifs (T.links.take k) r) _ _ w.heap.size hown (by omega) (by omega)).mono ?_
          rintro e w1 ⟨A1, c1, rfl, o1, hb1⟩
          have pl1 := put_len (ifs (T.links.take k) r) l.ai
          generalize hn1 : (put (ifs (T.links.take k) r) l.ai).length = n1 at o1 pl1
          have HN1 := Lib.hid hn1
          clear hn1
          obtain ⟨hcc, _⟩ := bcell hb1
          have hz1 : wr.heap.size ≤ w1.heap.size := by have := hb1.size; omega
          go_wp2_with fail
          refine (put_s _ _ _ (put (ifs (T.links.take k) r) l.ai) _ _ w.heap.size o1 (by omega) (by omega)).mono ?_
          rintro e w2 ⟨A2, c2, rfl, o2, hb2⟩
          have pl2 := put_len (put (ifs (T.links.take k) r) l.ai) l.bi
          generalize hn2 : (put (put (ifs (T.links.take k) r) l.ai) l.bi).length = n2 at o2 pl2
          have HN2 := Lib.hid hn2
          clear hn2
          rw [HN1.out] at pl2
          go_wp2
          go_roundw
          case rel =>
            have hfin : ifs (T.links.take (k + 1)) r = put (put (ifs (T.links.take k) r) l.ai) l.bi := by rw [ifs_succ hx.out]; simp [ifStep, q0, q1]
            refine ⟨k + 1, n2, A2, c2, by omega, by go_num, rfl, by omega, ?_, below_keep0 (below_keep0 hb hb1) hb2, cell_keep0 (cell_keep0 hbox hb1) hb2⟩
            rw [hfin]
            exact o2
          case measure => simp [intOf]; omega
        · -- the first end
          go_wp2_with fail
          refine (put_s _ _ _ (ifs (T.links.take k) r) _ _ w.heap.size hown (by omega) (by omega)).mono ?_
          rintro e w1 ⟨A1, c1, rfl, o1, hb1⟩
          have pl1 := put_len (ifs (T.links.take k) r) l.ai
          generalize hn1 : (put (ifs (T.links.take k) r) l.ai).length = n1 at o1 pl1
          have HN1 := Lib.hid hn1
          clear hn1
          obtain ⟨hcc, _⟩ := bcell hb1
          have hz1 : wr.heap.size ≤ w1.heap.size := by have := hb1.size; omega
          go_wp2
          go_roundw
          case rel =>
            have hfin : ifs (T.links.take (k + 1)) r = put (ifs (T.links.take k) r) l.ai := by rw [ifs_succ hx.out]; simp [ifStep, q0, q1]
            refine ⟨k + 1, n1, A1, c1, by omega, by go_num, rfl, by omega, ?_, below_keep0 hb hb1, cell_keep0 hbox hb1⟩
            rw [hfin]
            exact o1
          case measure => simp [intOf]; omega
      · rcases Bool.eq_false_or_eq_true (l.b == r) with q1 | q1
        · -- the second end
          go_wp2_with fail
          refine (put_s _ _ _ (ifs (T.links.take k) r) _ _ w.heap.size hown (by omega) (by omega)).mono ?_
          rintro e w1 ⟨A1, c1, rfl, o1, hb1⟩
          have pl1 := put_len (ifs (T.links.take k) r) l.bi
          generalize hn1 : (put (ifs (T.links.take k) r) l.bi).length = n1 at o1 pl1
          have HN1 := Lib.hid hn1
          clear hn1
          go_wp2
          go_roundw
          case rel =>
            have hfin : ifs (T.links.take (k + 1)) r = put (ifs (T.links.take k) r) l.bi := by rw [ifs_succ hx.out]; simp [ifStep, q0, q1]
            refine ⟨k + 1, n1, A1, c1, by omega, by go_num, rfl, by omega, ?_, below_keep0 hb hb1, cell_keep0 hbox hb1⟩
            rw [hfin]
            exact o1
          case measure => simp [intOf]; omega
        · -- neither
          go_wp2
          go_roundw
          case rel =>
            have hfin : ifs (T.links.take (k + 1)) r = (ifs (T.links.take k) r) := by rw [ifs_succ hx.out]; simp [ifStep, q0, q1]
            refine ⟨k + 1, n, A, c, by omega, by go_num, rfl, by omega, ?_, hb, hbox⟩
            rw [hfin]
            exact hown
          case measure => simp [intOf]; omega
    · obtain rfl : k = m := by omega
      go_wp2
      go_ret
      rw [List.take_of_length_le (by rw [hl.out]; omega)] at hown
      exact ret_ints hown hb rfl
end Go.Proofs.Ytehfcejpoigclaa
