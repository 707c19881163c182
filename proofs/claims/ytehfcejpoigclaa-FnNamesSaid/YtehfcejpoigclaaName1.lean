/- Contracts of InRange/l1In, isAS/l5Realm, FormatAS, FormatInterface. -/
import Derived.Test.YtehfcejpoigclaaRows
import Derived.Test.YtehfcejpoigclaaMem
import Derived.Test.YtehfcejpoigclaaTopoMem
import Derived.Test.YtehfcejpoigclaaTopoPure
import Derived.Test.YtehfcejpoigclaaStrPure
import Derived.Test.YtehfcejpoigclaaFmt
import Derived.Deep.RegionHeld3
import Derived.StillTailTactics
import Derived.Outline
namespace Go.Proofs.Ytehfcejpoigclaa
open Go.RowKit
set_option linter.unusedVariables false

theorem wf64 {n : Int} (h : (Lit.int .i64 n).wf = true) : -9223372036854775808 ≤ n ∧ n ≤ 9223372036854775807 := by
  simp [Lit.wf] at h
  have e1 : IntKind.i64.min = -9223372036854775808 := by decide
  rw [e1] at h
  exact h
def inb (x a b : Int) : Bool := decide (a ≤ x) && decide (x ≤ b)
def asT (xs : List As) (r : Int) : List Int := if 0 ≤ r then (match xs[r.toNat]? with | some x => fmtI x.isd ++ 45 :: fmtI r | none => [63]) else [63]
def ifT (xs : List As) (r i : Int) : List Int := asT xs r ++ 35 :: fmtI i
theorem join3 (a : List Int) (c : Int) (b : List Int) : strOfNums a ++ strOfNums [c] ++ strOfNums b = strOfNums (a ++ c :: b) := by rw [strOf_append, strOf_append]; simp
theorem asT_len (xs : List As) (r : Int) : (asT xs r).length ≤ 43 := by
  unfold asT
  split
  · split
    · rename_i x _
      have h1 := fmtI_len x.isd
      have h2 := fmtI_len r
      simp; omega
    · simp
  · simp
theorem asT_range (xs : List As) (r : Int) : ∀ x ∈ asT xs r, 0 ≤ x ∧ x ≤ 255 := by
  intro y hy
  unfold asT at hy
  split at hy
  · split at hy
    · rename_i x _
      simp at hy
      rcases hy with h | h | h
      · have := fmtI_range _ _ h; omega
      · omega
      · have := fmtI_range _ _ h; omega
    · simp at hy; omega
  · simp at hy; omega

theorem inr_i (x a b : Int) (w : World) : Calls Try.prog 54 #[.int .i64 x, .int .i64 a, .int .i64 b] w fun e w' => e = .returned (.bool (inb x a b)) ∧ Below w.heap.size w w' := by
  unfold inb
  by_cases h1 : a ≤ x
  · have h1' : decide (a ≤ x) = true := decide_eq_true h1
    by_cases h2 : x ≤ b
    · have h2' : decide (x ≤ b) = true := decide_eq_true h2
      go_enter Try.func54, Try.ntmps54
      go_wp2
      go_ret
      exact ⟨by first | rfl | (rw [h1', h2']; rfl), Below.refl _ _⟩
    · have h2' : decide (x ≤ b) = false := decide_eq_false h2
      go_enter Try.func54, Try.ntmps54
      go_wp2
      go_ret
      exact ⟨by first | rfl | (rw [h1', h2']; rfl), Below.refl _ _⟩
  · have h1' : decide (a ≤ x) = false := decide_eq_false h1
    go_enter Try.func54, Try.ntmps54
    go_wp2
    go_ret
    exact ⟨by first | rfl | (rw [h1']; rfl), Below.refl _ _⟩

theorem inr_s (x a b : Int) (w : World) : Calls Try.prog 57 #[.int .i64 x, .int .i64 a, .int .i64 b] w fun e w' => e = .returned (.bool (inb x a b)) ∧ Below w.heap.size w w' := by
  unfold inb
  by_cases h1 : a ≤ x
  · have h1' : decide (a ≤ x) = true := decide_eq_true h1
    by_cases h2 : x ≤ b
    · have h2' : decide (x ≤ b) = true := decide_eq_true h2
      go_enter Try.func57, Try.ntmps57
      go_wp2
      go_ret
      exact ⟨by first | rfl | (rw [h1', h2']; rfl), Below.refl _ _⟩
    · have h2' : decide (x ≤ b) = false := decide_eq_false h2
      go_enter Try.func57, Try.ntmps57
      go_wp2
      go_ret
      exact ⟨by first | rfl | (rw [h1', h2']; rfl), Below.refl _ _⟩
  · have h1' : decide (a ≤ x) = false := decide_eq_false h1
    go_enter Try.func57, Try.ntmps57
    go_wp2
    go_ret
    exact ⟨by first | rfl | (rw [h1']; rfl), Below.refl _ _⟩

theorem isas_i (A : Option Addr) (n c : Nat) (L : Option Addr) (m d : Nat) (r : Int) (w : World) (hn : n ≤ 1048576) :
    Calls Try.prog 62 #[.agg #[.slice A n c, .slice L m d], .int .i64 r] w fun e w' => e = .returned (.bool (inb r 0 ((n : Int) - 1))) ∧ Below w.heap.size w w' := by
  go_enter Try.func62, Try.ntmps62
  go_wp2_with (go_at_call 54; refine (inr_i _ _ _ _).mono ?_; rintro e w1 ⟨rfl, hb1⟩)
  go_ret
  exact ⟨rfl, below_keep (Below.refl _ _) hb1⟩

theorem isas_s (A : Option Addr) (n c : Nat) (L : Option Addr) (m d : Nat) (r : Int) (w : World) (hn : n ≤ 1048576) :
    Calls Try.prog 64 #[.agg #[.slice A n c, .slice L m d], .int .i64 r] w fun e w' => e = .returned (.bool (inb r 0 ((n : Int) - 1))) ∧ Below w.heap.size w w' := by
  go_enter Try.func64, Try.ntmps64
  go_wp2_with (go_at_call 57; refine (inr_s _ _ _ _).mono ?_; rintro e w1 ⟨rfl, hb1⟩)
  go_ret
  exact ⟨rfl, below_keep (Below.refl _ _) hb1⟩

attribute [local go_sem] strOfNums_size in
set_option maxHeartbeats 2000000 in
theorem fmtAS_i (A : Option Addr) (n c : Nat) (L : Option Addr) (m d : Nat) (xs : List As) (r : Int) (w : World) (hT : Ra w A n xs) (hn : n ≤ 1048576) (hw : ∀ x ∈ xs, -9223372036854775808 ≤ x.isd ∧ x.isd ≤ 9223372036854775807) :
    Calls Try.prog 34 #[.agg #[.slice A n c, .slice L m d], .int .i64 r] w fun e w' => e = .returned (.string (strOfNums (asT xs r))) ∧ Below w.heap.size w w' := by
  have hlen := hT.len
  by_cases h : 0 ≤ r ∧ r < n
  · obtain ⟨k, rfl⟩ : ∃ k : Nat, r = k := ⟨r.toNat, by omega⟩
    have hk : k < n := by omega
    have hin : inb (k : Int) 0 ((n : Int) - 1) = true := by unfold inb; rw [decide_eq_true (by omega), decide_eq_true (by omega)]; rfl
    obtain ⟨b, off, x, rfl, hx, hc, -, -⟩ := hT.get hk
    obtain ⟨hx1, hx2⟩ := hw x (List.mem_of_getElem? hx)
    have has : asT xs (k : Int) = fmtI x.isd ++ 45 :: fmtI k := by unfold asT; rw [if_pos (by omega)]; simp [hx]
    rw [has]
    have l1 := fmtI_len x.isd
    have l2 := fmtI_len (k : Int)
    have hr1 : (0 : Int) ≤ (k : Int) := by omega
    have hr2 : (k : Int) < (n : Int) := by omega
    have hH := Lib.hid hx
    clear hw hlen hx has
    go_enter Try.func34, Try.ntmps34
    go_wp2_with fail
    refine (isas_i _ _ _ _ _ _ _ _ hn).mono ?_
    rintro e w1 ⟨rfl, hb1⟩
    rw [hin]
    have hB1 := below_keep (Below.refl _ _) hb1
    have bx : w1.cell? ⟨w.heap.size, 0, none⟩ = some (.slice (some ⟨b, off, none⟩) n c) := (hb1.cell (p := ⟨w.heap.size, 0, none⟩) (by simp)).trans (by simp)
    have hc1 := cell_keep0 ((World.cell?_alloc_lt w _ _ (World.block_lt_of_cell? w _ hc)).trans hc) hb1
    clear hb1
    go_wp2_with (go_at_call 63; refine (fmt_i _ _ (by omega) (by omega)).mono ?_; rintro e w2 ⟨rfl, hb2⟩)
    go_ret
    rename_i wA hbA
    refine ⟨congrArg (fun s => Ending.returned (Value.string s)) ?_, below_keep0 (below_keep0 hB1 hbA) hb2⟩
    exact join3 _ 45 _
  · have hin : inb r 0 ((n : Int) - 1) = false := by
      unfold inb
      by_cases h0 : 0 ≤ r
      · rw [decide_eq_false (p := r ≤ (n : Int) - 1) (by omega)]; simp
      · rw [decide_eq_false h0]; rfl
    have has : asT xs r = [63] := by
      unfold asT
      split
      · rw [List.getElem?_eq_none (by omega)]
      · rfl
    rw [has]
    go_enter Try.func34, Try.ntmps34
    go_wp2_with fail
    refine (isas_i _ _ _ _ _ _ _ _ hn).mono ?_
    rintro e w1 ⟨rfl, hb1⟩
    rw [hin]
    have hB1 := below_keep (Below.refl _ _) hb1
    go_wp2
    go_ret
    exact ⟨rfl, hB1⟩

attribute [local go_sem] strOfNums_size in
set_option maxHeartbeats 2000000 in
theorem fmtAS_s (A : Option Addr) (n c : Nat) (L : Option Addr) (m d : Nat) (xs : List As) (r : Int) (w : World) (hT : Ra w A n xs) (hn : n ≤ 1048576) (hw : ∀ x ∈ xs, -9223372036854775808 ≤ x.isd ∧ x.isd ≤ 9223372036854775807) :
    Calls Try.prog 35 #[.agg #[.slice A n c, .slice L m d], .int .i64 r] w fun e w' => e = .returned (.string (strOfNums (asT xs r))) ∧ Below w.heap.size w w' := by
  have hlen := hT.len
  by_cases h : 0 ≤ r ∧ r < n
  · obtain ⟨k, rfl⟩ : ∃ k : Nat, r = k := ⟨r.toNat, by omega⟩
    have hk : k < n := by omega
    have hin : inb (k : Int) 0 ((n : Int) - 1) = true := by unfold inb; rw [decide_eq_true (by omega), decide_eq_true (by omega)]; rfl
    obtain ⟨b, off, x, rfl, hx, hc, -, -⟩ := hT.get hk
    obtain ⟨hx1, hx2⟩ := hw x (List.mem_of_getElem? hx)
    have has : asT xs (k : Int) = fmtI x.isd ++ 45 :: fmtI k := by unfold asT; rw [if_pos (by omega)]; simp [hx]
    rw [has]
    have l1 := fmtI_len x.isd
    have l2 := fmtI_len (k : Int)
    have hr1 : (0 : Int) ≤ (k : Int) := by omega
    have hr2 : (k : Int) < (n : Int) := by omega
    have hH := Lib.hid hx
    clear hw hlen hx has
    go_enter Try.func35, Try.ntmps35
    go_wp2_with fail
    refine (isas_s _ _ _ _ _ _ _ _ hn).mono ?_
    rintro e w1 ⟨rfl, hb1⟩
    rw [hin]
    have hB1 := below_keep (Below.refl _ _) hb1
    have bx : w1.cell? ⟨w.heap.size, 0, none⟩ = some (.slice (some ⟨b, off, none⟩) n c) := (hb1.cell (p := ⟨w.heap.size, 0, none⟩) (by simp)).trans (by simp)
    have hc1 := cell_keep0 ((World.cell?_alloc_lt w _ _ (World.block_lt_of_cell? w _ hc)).trans hc) hb1
    clear hb1
    go_wp2_with (go_at_call 65; refine (fmt_s _ _ (by omega) (by omega)).mono ?_; rintro e w2 ⟨rfl, hb2⟩)
    go_ret
    rename_i wA hbA
    refine ⟨congrArg (fun s => Ending.returned (Value.string s)) ?_, below_keep0 (below_keep0 hB1 hbA) hb2⟩
    exact join3 _ 45 _
  · have hin : inb r 0 ((n : Int) - 1) = false := by
      unfold inb
      by_cases h0 : 0 ≤ r
      · rw [decide_eq_false (p := r ≤ (n : Int) - 1) (by omega)]; simp
      · rw [decide_eq_false h0]; rfl
    have has : asT xs r = [63] := by
      unfold asT
      split
      · rw [List.getElem?_eq_none (by omega)]
      · rfl
    rw [has]
    go_enter Try.func35, Try.ntmps35
    go_wp2_with fail
    refine (isas_s _ _ _ _ _ _ _ _ hn).mono ?_
    rintro e w1 ⟨rfl, hb1⟩
    rw [hin]
    have hB1 := below_keep (Below.refl _ _) hb1
    go_wp2
    go_ret
    exact ⟨rfl, hB1⟩

attribute [local go_sem] strOfNums_size in
set_option maxHeartbeats 2000000 in
theorem fmtIf_i (A : Option Addr) (n c : Nat) (L : Option Addr) (m d : Nat) (xs : List As) (r q : Int) (w : World) (hT : Ra w A n xs) (hn : n ≤ 1048576) (hw : ∀ x ∈ xs, -9223372036854775808 ≤ x.isd ∧ x.isd ≤ 9223372036854775807) (hq1 : -9223372036854775808 ≤ q) (hq2 : q ≤ 9223372036854775807) :
    Calls Try.prog 36 #[.agg #[.slice A n c, .slice L m d], .int .i64 r, .int .i64 q] w fun e w' => e = .returned (.string (strOfNums (ifT xs r q))) ∧ Below w.heap.size w w' := by
  have l1 := asT_len xs r
  have l2 := fmtI_len q
  unfold ifT
  go_enter Try.func36, Try.ntmps36
  go_wp2_with (first
    | (go_at_call 34; refine (fmtAS_i _ _ _ _ _ _ xs _ _ (hT.alloc _) hn hw).mono ?_; rintro e w1 ⟨rfl, hb1⟩)
    | (go_at_call 63; refine (fmt_i _ _ hq1 hq2).mono ?_; rintro e w2 ⟨rfl, hb2⟩))
  go_ret
  refine ⟨congrArg (fun s => Ending.returned (Value.string s)) ?_, below_keep0 (below_keep (Below.refl _ _) hb1) hb2⟩
  exact join3 _ 35 _

attribute [local go_sem] strOfNums_size in
set_option maxHeartbeats 2000000 in
theorem fmtIf_s (A : Option Addr) (n c : Nat) (L : Option Addr) (m d : Nat) (xs : List As) (r q : Int) (w : World) (hT : Ra w A n xs) (hn : n ≤ 1048576) (hw : ∀ x ∈ xs, -9223372036854775808 ≤ x.isd ∧ x.isd ≤ 9223372036854775807) (hq1 : -9223372036854775808 ≤ q) (hq2 : q ≤ 9223372036854775807) :
    Calls Try.prog 37 #[.agg #[.slice A n c, .slice L m d], .int .i64 r, .int .i64 q] w fun e w' => e = .returned (.string (strOfNums (ifT xs r q))) ∧ Below w.heap.size w w' := by
  have l1 := asT_len xs r
  have l2 := fmtI_len q
  unfold ifT
  go_enter Try.func37, Try.ntmps37
  go_wp2_with (first
    | (go_at_call 35; refine (fmtAS_s _ _ _ _ _ _ xs _ _ (hT.alloc _) hn hw).mono ?_; rintro e w1 ⟨rfl, hb1⟩)
    | (go_at_call 65; refine (fmt_s _ _ hq1 hq2).mono ?_; rintro e w2 ⟨rfl, hb2⟩))
  go_ret
  refine ⟨congrArg (fun s => Ending.returned (Value.string s)) ?_, below_keep0 (below_keep (Below.refl _ _) hb1) hb2⟩
  exact join3 _ 35 _
end Go.Proofs.Ytehfcejpoigclaa
