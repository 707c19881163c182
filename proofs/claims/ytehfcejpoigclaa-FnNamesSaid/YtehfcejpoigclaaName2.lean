/- Contracts of ParseAS. -/
import Derived.Test.YtehfcejpoigclaaRows
import Derived.Test.YtehfcejpoigclaaMem
import Derived.Test.YtehfcejpoigclaaTopoMem
import Derived.Test.YtehfcejpoigclaaTopoPure
import Derived.Test.YtehfcejpoigclaaStrPure
import Derived.Test.YtehfcejpoigclaaFmt
import Derived.Test.YtehfcejpoigclaaName1
import Derived.Deep.RegionHeld3
import Derived.StillTailTactics
import Derived.Outline
namespace Go.Proofs.Ytehfcejpoigclaa
open Go.RowKit
set_option linter.unusedVariables false

def hit (xs : List As) (s : ByteArray) (k : Nat) : Bool := (strOfNums (asT xs (k : Int))).toList == s.toList
def parK (xs : List As) (s : ByteArray) : Option Nat := (List.range xs.length).find? (hit xs s)
def parA (xs : List As) (s : ByteArray) : Int := match parK xs s with | some k => k | none => -1
def parB (xs : List As) (s : ByteArray) : Bool := (parK xs s).isSome
def NoHit (xs : List As) (s : ByteArray) (k : Nat) : Prop := ∀ j, j < k → hit xs s j = false
theorem par_hit {xs : List As} {s : ByteArray} {k : Nat} (h : NoHit xs s k) (hk : k < xs.length) (hh : hit xs s k = true) : parK xs s = some k := by
  unfold parK
  rw [List.find?_range_eq_some]
  exact ⟨hh, by simpa using hk, fun j hj => by simp [h j hj]⟩
theorem par_end {xs : List As} {s : ByteArray} (h : NoHit xs s xs.length) : parK xs s = none := by
  unfold parK
  rw [List.find?_range_eq_none]
  exact fun j hj => by simp [h j hj]
theorem NoHit.step {xs : List As} {s : ByteArray} {k : Nat} (h : NoHit xs s k) (hh : hit xs s k = false) : NoHit xs s (k + 1) := fun j hj => by
  by_cases e : j = k
  · rw [e]; exact hh
  · exact h j (by omega)
def PaRel (w : World) (A : Option Addr) (n c : Nat) (L : Option Addr) (m d : Nat) (xs : List As) (s : ByteArray) (i : Value) (wr : World) : Prop :=
  ∃ k : Nat, k ≤ n ∧ i = .int .i64 k ∧ NoHit xs s k ∧ Below w.heap.size w wr ∧ wr.cell? ⟨w.heap.size, 0, none⟩ = some (.slice A n c) ∧ wr.cell? ⟨w.heap.size, 1, none⟩ = some (.slice L m d)
theorem ret_par {a c : Int} {b d : Bool} (h : a = c) (k : b = d) : Ending.returned (.tuple #[.int .i64 a, .bool b]) = .returned (.tuple #[.int .i64 c, .bool d]) := by rw [h, k]

set_option maxHeartbeats 2000000 in
theorem parse_i (A : Option Addr) (n c : Nat) (L : Option Addr) (m d : Nat) (xs : List As) (s : ByteArray) (w : World) (hT : Ra w A n xs) (hn : n ≤ 1048576) (hw : ∀ x ∈ xs, -9223372036854775808 ≤ x.isd ∧ x.isd ≤ 9223372036854775807) :
    Calls Try.prog 29 #[.agg #[.slice A n c, .slice L m d], .string s] w fun e w' => e = .returned (.tuple #[.int .i64 (parA xs s), .bool (parB xs s)]) ∧ Below w.heap.size w w' := by
  have hl := Lib.hid hT.len
  go_enter Try.func29, Try.ntmps29
  go_wp2
  go_loopw [10] (PaRel w A n c L m d xs s) (fun i _ => n - (intOf i).toNat)
  case atStart => exact ⟨0, Nat.zero_le _, rfl, fun j hj => by omega, (Below.refl _ _).alloc (Nat.le_refl _) _, by simp, by simp⟩
  case round =>
    obtain ⟨k, hk, rfl, hd, hb, bx0, bx1⟩ := hrel
    have hs := hb.size
    have hT' := hT.below hb (Nat.le_refl _)
    have HD := Lib.hid hd
    clear hd
    by_cases hlt : k < n
    · have hi1 : (k : Int) < (n : Int) := by omega
      rcases Bool.eq_false_or_eq_true ((strOfNums (asT xs (k : Int))).toList == s.toList) with hu | hu
      · go_wp2_with (go_at_call 34; refine (fmtAS_i _ _ _ _ _ _ xs _ _ hT' hn hw).mono ?_; rintro e w1 ⟨rfl, hb1⟩)
        go_ret2
        have hp := par_hit HD.out (by rw [hl.out]; exact hlt) hu
        exact ⟨ret_par (by unfold parA; rw [hp]) (by unfold parB; rw [hp]; rfl), below_keep0 hb hb1⟩
      · go_wp2_with (go_at_call 34; refine (fmtAS_i _ _ _ _ _ _ xs _ _ hT' hn hw).mono ?_; rintro e w1 ⟨rfl, hb1⟩)
        go_roundw
        case rel => exact ⟨k + 1, by omega, by go_num, HD.out.step hu, below_keep0 hb hb1, cell_keep0 bx0 hb1, cell_keep0 bx1 hb1⟩
        case measure => simp [intOf]; omega
    · obtain rfl : k = n := by omega
      go_wp2
      go_ret2
      have hp := par_end (s := s) (xs := xs) (by rw [hl.out]; exact HD.out)
      exact ⟨ret_par (by unfold parA; rw [hp]) (by unfold parB; rw [hp]; rfl), hb⟩

set_option maxHeartbeats 2000000 in
theorem parse_s (A : Option Addr) (n c : Nat) (L : Option Addr) (m d : Nat) (xs : List As) (s : ByteArray) (w : World) (hT : Ra w A n xs) (hn : n ≤ 1048576) (hw : ∀ x ∈ xs, -9223372036854775808 ≤ x.isd ∧ x.isd ≤ 9223372036854775807) :
    Calls Try.prog 30 #[.agg #[.slice A n c, .slice L m d], .string s] w fun e w' => e = .returned (.tuple #[.int .i64 (parA xs s), .bool (parB xs s)]) ∧ Below w.heap.size w w' := by
  have hl := Lib.hid hT.len
  go_enter Try.func30, Try.ntmps30
  go_wp2
  go_loopw [6] (PaRel w A n c L m d xs s) (fun i _ => n - (intOf i).toNat)
  case atStart => exact ⟨0, Nat.zero_le _, rfl, fun j hj => by omega, (Below.refl _ _).alloc (Nat.le_refl _) _, by simp, by simp⟩
  case round =>
    obtain ⟨k, hk, rfl, hd, hb, bx0, bx1⟩ := hrel
    have hs := hb.size
    have hT' := hT.below hb (Nat.le_refl _)
    have HD := Lib.hid hd
    clear hd
    by_cases hlt : k < n
    · have hi1 : (k : Int) < (n : Int) := by omega
      rcases Bool.eq_false_or_eq_true ((strOfNums (asT xs (k : Int))).toList == s.toList) with hu | hu
      · go_wp2_with (go_at_call 35; refine (fmtAS_s _ _ _ _ _ _ xs _ _ hT' hn hw).mono ?_; rintro e w1 ⟨rfl, hb1⟩)
        go_ret2
        have hp := par_hit HD.out (by rw [hl.out]; exact hlt) hu
        exact ⟨ret_par (by unfold parA; rw [hp]) (by unfold parB; rw [hp]; rfl), below_keep0 hb hb1⟩
      · go_wp2_with (go_at_call 35; refine (fmtAS_s _ _ _ _ _ _ xs _ _ hT' hn hw).mono ?_; rintro e w1 ⟨rfl, hb1⟩)
        go_roundw
        case rel => exact ⟨k + 1, by omega, by go_num, HD.out.step hu, below_keep0 hb hb1, cell_keep0 bx0 hb1, cell_keep0 bx1 hb1⟩
        case measure => simp [intOf]; omega
    · obtain rfl : k = n := by omega
      go_wp2
      go_ret2
      have hp := par_end (s := s) (xs := xs) (by rw [hl.out]; exact HD.out)
      exact ⟨ret_par (by unfold parA; rw [hp]) (by unfold parB; rw [hp]; rfl), hb⟩
end Go.Proofs.Ytehfcejpoigclaa
