/- Contracts of FormatTopology. -/
import Derived.Test.YtehfcejpoigclaaRows
import Derived.Test.YtehfcejpoigclaaMem
import Derived.Test.YtehfcejpoigclaaTopoMem
import Derived.Test.YtehfcejpoigclaaTopoPure
import Derived.Test.YtehfcejpoigclaaStrPure
import Derived.Test.YtehfcejpoigclaaFmt
import Derived.Test.YtehfcejpoigclaaName1
import Derived.Test.YtehfcejpoigclaaName3
import Derived.Deep.RegionHeld3
import Derived.StillTailTactics
import Derived.Outline
namespace Go.Proofs.Ytehfcejpoigclaa
open Go.RowKit
set_option linter.unusedVariables false

section
variable {P : Program} (w : World)
/-- append(out, s): one string onto a row of the call's own. -/
theorem wpList_pushS {ops : Array Oper} {rest : List Oper} {o : Oper} {a : Act} {Q : Exit → Act → World → Prop} (hgd : o.guard = none) (s x : Operand) (t : TypeId)
    (ho : o.op = .call { callee := .builtin .append, args := #[s, x], argTypes := #[t, t] })
    (base : Nat) (e : TypeId) (i : TypeInfo) (z : Value) (bytes : Nat) (ht : P.underlying t = some (.slice e)) (hi : P.info? e = some i) (hz : i.zero = some z)
    (hsize : i.size = 1) (hby : i.bytes = bytes) (hzs : z.cells.size = 1) (h16 : bytes ≤ 16)
    (A : Option Addr) (n c : Nat) (cs : List Value) (hs : a.eval s = .slice A n c) (hown : Ow w base e 1 A n c cs)
    (g : Nat) (x0 : ByteArray) (hx : a.eval x = .slice (some ⟨g, 0, none⟩) 1 1) (hcell : w.cell? ⟨g, 0, none⟩ = some (.string x0)) (hn : n ≤ 1099511627776) (hbase : base ≤ w.heap.size)
    (h : ∀ A' c' w', Ow w' base e 1 A' (n + 1) c' (cs ++ [.string x0]) → Below base w w' → wpList P ops Q rest (a.put o.dst (.slice A' (n + 1) c')) w') : wpList P ops Q (o :: rest) a w := by
  refine wpList_append_own_at w hgd s x t ho base e i z 1 bytes ht hi hz hsize hby hzs (by omega) _ n cs hs hown ⟨g, 0, none⟩ 1 1 [.string x0] hx rfl ?_ ?_ ?_ ?_ hbase ?_
  · intro j u hj
    match j, hj with
    | 0, hj => simp at hj; subst hj; simpa [Addr.add] using hcell
  · intro u hu; simp at hu; subst hu; rfl
  · simp only [maxLen]; omega
  · have := Nat.mul_le_mul_left (n + 1) h16
    omega
  · intro v' w' hown' hg _ _
    obtain ⟨A', c', rfl⟩ := own_shape hown'
    exact h A' c' w' hown' (grown_below hown hg hbase)
end
theorem str_info : (Try.prog.info? 9).map (fun i => (i.zero, i.size, i.bytes)) = some (some (.string ⟨#[]⟩), 1, 16) := by kernel_rfl

def strs (xs : List As) (ls : List Lk) (k : Nat) : List Value := (List.range k).map fun (j : Nat) => .string (strOfNums (lkT xs ls (j : Int)))
def jn (xs : List As) (ls : List Lk) : Nat → List Int
  | 0 => []
  | k + 1 => (if 0 < k then jn xs ls k ++ [32] else jn xs ls k) ++ lkT xs ls (k : Int)
def topT (xs : List As) (ls : List Lk) : List Int := if ls.length = 0 then [45] else jn xs ls ls.length
theorem jn_len (xs : List As) (ls : List Lk) (k : Nat) : (jn xs ls k).length ≤ 132 * k := by
  induction k with
  | zero => simp [jn]
  | succ k ih =>
    have := lkT_len xs ls (k : Int)
    unfold jn
    split <;> simp <;> omega
theorem strs_succ (xs : List As) (ls : List Lk) (k : Nat) : strs xs ls (k + 1) = strs xs ls k ++ [.string (strOfNums (lkT xs ls (k : Int)))] := by unfold strs; rw [List.range_succ]; simp
theorem strs_get (xs : List As) (ls : List Lk) {k n : Nat} (h : k < n) : (strs xs ls n)[k]? = some (.string (strOfNums (lkT xs ls (k : Int)))) := by
  unfold strs
  rw [List.getElem?_map, List.getElem?_range h]; rfl
def JnRel (w : World) (n : Nat) (xs : List As) (ls : List Lk) (v i : Value) (wr : World) : Prop :=
  ∃ k : Nat, k ≤ n ∧ i = .int .i64 k ∧ v = .string (strOfNums (jn xs ls k)) ∧ Below w.heap.size w wr
def TpRel (w : World) (A : Option Addr) (n c : Nat) (L : Option Addr) (m d : Nat) (xs : List As) (ls : List Lk) (v i : Value) (wr : World) : Prop :=
  ∃ (k : Nat) (B : Option Addr) (e : Nat), k ≤ m ∧ i = .int .i64 k ∧ v = .slice B k e ∧ Ow wr (w.heap.size + 1) 9 1 B k e (strs xs ls k) ∧ Below w.heap.size w wr ∧ wr.cell? ⟨w.heap.size, 0, none⟩ = some (.slice A n c) ∧ wr.cell? ⟨w.heap.size, 1, none⟩ = some (.slice L m d)
def TsRel (w : World) (A : Option Addr) (n c : Nat) (L : Option Addr) (m d : Nat) (xs : List As) (ls : List Lk) (v i : Value) (wr : World) : Prop :=
  ∃ k : Nat, k ≤ m ∧ i = .int .i64 k ∧ v = .string (strOfNums (jn xs ls k)) ∧ Below w.heap.size w wr ∧ wr.cell? ⟨w.heap.size, 0, none⟩ = some (.slice A n c) ∧ wr.cell? ⟨w.heap.size, 1, none⟩ = some (.slice L m d)
theorem jn_first (xs : List As) (ls : List Lk) : strOfNums (jn xs ls 0) ++ strOfNums (lkT xs ls ((0 : Nat) : Int)) = strOfNums (jn xs ls (0 + 1)) := by rw [strOf_append]; rfl
theorem jn_first' (xs : List As) (ls : List Lk) {k : Nat} (h : k = 0) : strOfNums (jn xs ls k) ++ strOfNums (lkT xs ls (k : Int)) = strOfNums (jn xs ls (k + 1)) := by subst h; exact jn_first xs ls
theorem jn_next (xs : List As) (ls : List Lk) {k : Nat} (h : 0 < k) : strOfNums (jn xs ls k) ++ strOfNums [32] ++ strOfNums (lkT xs ls (k : Int)) = strOfNums (jn xs ls (k + 1)) := by rw [strOf_append, strOf_append]; simp [jn, h]

attribute [local go_sem] strOfNums_size

set_option maxHeartbeats 2000000 in
theorem join_i (A : Option Addr) (n c : Nat) (xs : List As) (ls : List Lk) (w : World) (hT : Rd w 1 A n (strs xs ls n)) (hn : n ≤ 1048576) :
    Calls Try.prog 71 #[.slice A n c, .string ⟨#[32]⟩] w fun e w' => e = .returned (.string (strOfNums (jn xs ls n))) ∧ Below w.heap.size w w' := by
  go_enter Try.func71, Try.ntmps71
  go_wp2
  go_loopw [5, 10] (JnRel w n xs ls) (fun _ i _ => n - (intOf i).toNat)
  case atStart => exact ⟨0, Nat.zero_le _, rfl, rfl, Below.refl _ _⟩
  case round =>
    obtain ⟨k, hk, rfl, rfl, hb⟩ := hrel
    have hT' := hT.below hb (Nat.le_refl _)
    by_cases hlt : k < n
    · have l1 := jn_len xs ls k
      have l2 := lkT_len xs ls (k : Int)
      obtain ⟨b, off, rfl, hblt, hc⟩ := hT'.get (strs_get xs ls hlt)
      have hi1 : (0 : Int) ≤ (k : Int) := by omega
      have hi2 : (k : Int) < (n : Int) := by omega
      rcases Nat.eq_zero_or_pos k with h0 | h0
      · have hz1 : ¬ (0 : Int) < (k : Int) := by omega
        have hz2 : decide ((0 : Int) < (k : Int)) = false := decide_eq_false hz1
        have H0 := Lib.hid h0
        clear h0
        go_wp2
        go_roundw
        case rel => exact ⟨k + 1, by omega, by go_num, congrArg Value.string (jn_first' xs ls H0.out), hb⟩
        case measure => simp [intOf]; omega
      · have h0' : (0 : Int) < (k : Int) := by omega
        go_wp2
        go_roundw
        case rel => exact ⟨k + 1, by omega, by go_num, congrArg Value.string (jn_next xs ls h0), hb⟩
        case measure => simp [intOf]; omega
    · obtain rfl : k = n := by omega
      go_wp2
      go_ret
      exact ⟨rfl, hb⟩

theorem spaced_i (A : Option Addr) (c : Nat) (xs : List As) (ls : List Lk) (w : World) (n : Nat) (hl : ls.length = n) (hT : Rd w 1 A n (strs xs ls n)) (hn : n ≤ 1048576) :
    Calls Try.prog 66 #[.slice A n c] w fun e w' => e = .returned (.string (strOfNums (topT xs ls))) ∧ Below w.heap.size w w' := by
  unfold topT
  rw [hl]
  clear hl
  rcases Nat.eq_zero_or_pos n with h0 | h0
  · subst h0
    rw [if_pos rfl]
    go_enter Try.func66, Try.ntmps66
    go_wp2
    go_ret
    exact ⟨rfl, Below.refl _ _⟩
  · rw [if_neg (by omega)]
    have hne : ((n : Int) == 0) = false := by simp; omega
    go_enter Try.func66, Try.ntmps66
    go_wp2_with (go_at_call 71; refine (join_i _ _ _ xs ls _ hT hn).mono ?_; rintro e w1 ⟨rfl, hb1⟩)
    go_ret
    exact ⟨rfl, hb1⟩

set_option maxHeartbeats 2000000 in
theorem fmtTop_i (A : Option Addr) (n c : Nat) (L : Option Addr) (m d : Nat) (xs : List As) (ls : List Lk) (w : World) (hA : Ra w A n xs) (hL : Rl w L m ls) (hn : n ≤ 1048576) (hm : m ≤ 1048576) (hw : WfA xs) (hk : WfK ls) :
    Calls Try.prog 40 #[.agg #[.slice A n c, .slice L m d]] w fun e w' => e = .returned (.string (strOfNums (topT xs ls))) ∧ Below w.heap.size w w' := by
  obtain ⟨i0, hi, hz0, hz1, hz2⟩ := info_parts str_info
  have hl := Lib.hid hL.len
  go_enter Try.func40, Try.ntmps40
  go_wp2
  go_loopw [3, 8] (TpRel w A n c L m d xs ls) (fun _ i _ => m - (intOf i).toNat)
  case atStart => exact ⟨0, none, 0, Nat.zero_le _, rfl, rfl, (by exact World.ownsRow_nil _ _ _ 1), (Below.refl _ _).alloc (Nat.le_refl _) _, by simp, by simp⟩
  case round =>
    obtain ⟨k, B, e, hkm, rfl, rfl, hown, hb, bx0, bx1⟩ := hrel
    have hs := hb.size
    have hlt1 : w.heap.size < wr.heap.size := World.block_lt_of_cell? wr _ bx0
    have hA' := hA.below hb (Nat.le_refl _)
    have hL' := hL.below hb (Nat.le_refl _)
    by_cases hlt : k < m
    · have hi2 : (k : Int) < (m : Int) := by omega
      go_wp2_with (first
        | (go_at_call 38; refine (fmtLk_i _ _ _ _ _ _ xs ls _ _ hA' hL' hn hm hw hk).mono ?_; rintro e' w1 ⟨rfl, hb1⟩; have hB1 := below_keep0 hb hb1; have hs1 := hB1.size; have o1 := hown.below hb1 (Nat.le_refl _); have y0 := cell_keep0 bx0 hb1; have y1 := cell_keep0 bx1 hb1; have hlt2 : w.heap.size < w1.heap.size := World.block_lt_of_cell? w1 _ y0)
        | (at_builtin; refine wpList_pushS _ rfl _ _ 65 rfl (w.heap.size + 1) 9 i0 (.string ⟨#[]⟩) 16 Try.underlying65 hi hz0 hz1 hz2 rfl (by omega) B k e _ rfl (World.ownsRow.alloc o1 _) w1.heap.size (strOfNums (lkT xs ls (k : Int))) rfl (by simp) (by omega) (by simp; omega) ?_; intro A1 c1 w2 o2 hb2))
      go_roundw
      case rel =>
        refine ⟨k + 1, A1, c1, by omega, by go_num, rfl, ?_, (hB1.alloc hs1 _).trans (hb2.mono (by omega)), ?_, ?_⟩
        · rw [strs_succ]; exact o2
        · exact (hb2.cell (p := ⟨w.heap.size, 0, none⟩) (by simp)).trans ((World.cell?_alloc_lt w1 _ _ hlt2).trans y0)
        · exact (hb2.cell (p := ⟨w.heap.size, 1, none⟩) (by simp)).trans ((World.cell?_alloc_lt w1 _ _ hlt2).trans y1)
      case measure => simp [intOf]; omega
    · obtain rfl : k = m := by omega
      go_wp2_with (go_at_call 66; refine (spaced_i _ _ xs ls _ _ hl.out hown.rd hm).mono ?_; rintro e' w1 ⟨rfl, hb1⟩)
      go_ret
      exact ⟨rfl, below_keep0 hb hb1⟩

set_option maxHeartbeats 2000000 in
theorem fmtTop_s (A : Option Addr) (n c : Nat) (L : Option Addr) (m d : Nat) (xs : List As) (ls : List Lk) (w : World) (hA : Ra w A n xs) (hL : Rl w L m ls) (hn : n ≤ 1048576) (hm : m ≤ 1048576) (hw : WfA xs) (hk : WfK ls) :
    Calls Try.prog 41 #[.agg #[.slice A n c, .slice L m d]] w fun e w' => e = .returned (.string (strOfNums (topT xs ls))) ∧ Below w.heap.size w w' := by
  have hl := Lib.hid hL.len
  go_enter Try.func41, Try.ntmps41
  go_wp2
  go_loopw [3, 4] (TsRel w A n c L m d xs ls) (fun _ i _ => m - (intOf i).toNat)
  case atStart => exact ⟨0, Nat.zero_le _, rfl, rfl, (Below.refl _ _).alloc (Nat.le_refl _) _, by simp, by simp⟩
  case round =>
    obtain ⟨k, hkm, rfl, rfl, hb, bx0, bx1⟩ := hrel
    have hs := hb.size
    have hA' := hA.below hb (Nat.le_refl _)
    have hL' := hL.below hb (Nat.le_refl _)
    by_cases hlt : k < m
    · have hi2 : (k : Int) < (m : Int) := by omega
      have l1 := jn_len xs ls k
      have l2 := lkT_len xs ls (k : Int)
      rcases Nat.eq_zero_or_pos k with h0 | h0
      · have hz1 : ¬ (0 : Int) < (k : Int) := by omega
        have hz2 : decide ((0 : Int) < (k : Int)) = false := decide_eq_false hz1
        have H0 := Lib.hid h0
        clear h0
        go_wp2_with (go_at_call 39; refine (fmtLk_s _ _ _ _ _ _ xs ls _ _ hA' hL' hn hm hw hk).mono ?_; rintro e' w1 ⟨rfl, hb1⟩)
        go_roundw
        case rel => exact ⟨k + 1, by omega, by go_num, congrArg Value.string (jn_first' xs ls H0.out), below_keep0 hb hb1, cell_keep0 bx0 hb1, cell_keep0 bx1 hb1⟩
        case measure => simp [intOf]; omega
      · have h0' : (0 : Int) < (k : Int) := by omega
        go_wp2_with (go_at_call 39; refine (fmtLk_s _ _ _ _ _ _ xs ls _ _ hA' hL' hn hm hw hk).mono ?_; rintro e' w1 ⟨rfl, hb1⟩)
        go_roundw
        case rel => exact ⟨k + 1, by omega, by go_num, congrArg Value.string (jn_next xs ls h0), below_keep0 hb hb1, cell_keep0 bx0 hb1, cell_keep0 bx1 hb1⟩
        case measure => simp [intOf]; omega
    · obtain rfl : k = m := by omega
      rcases Nat.eq_zero_or_pos k with h0 | h0
      · subst h0
        go_wp2
        go_ret
        exact ⟨by unfold topT; rw [if_pos hl.out]; rfl, hb⟩
      · have hne : ((k : Int) == 0) = false := by simp; omega
        go_wp2
        go_ret
        exact ⟨by unfold topT; rw [if_neg (by rw [hl.out]; omega), hl.out]; rfl, hb⟩
end Go.Proofs.Ytehfcejpoigclaa
