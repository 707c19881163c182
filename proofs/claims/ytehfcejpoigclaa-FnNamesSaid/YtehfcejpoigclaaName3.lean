/- Contracts of FormatLink. -/
import Derived.Test.YtehfcejpoigclaaRows
import Derived.Test.YtehfcejpoigclaaMem
import Derived.Test.YtehfcejpoigclaaTopoMem
import Derived.Test.YtehfcejpoigclaaTopoPure
import Derived.Test.YtehfcejpoigclaaStrPure
import Derived.Test.YtehfcejpoigclaaFmt
import Derived.Test.YtehfcejpoigclaaName1
import Derived.Deep.RegionHeld3
import Derived.StillTailTactics
import Derived.Outline
namespace Go.Proofs.Ytehfcejpoigclaa
open Go.RowKit
set_option linter.unusedVariables false

def sgn (k : Int) : Int := if k = 1 then 61 else if k = 2 then 62 else if k = 3 then 126 else 63
def oneLk (xs : List As) (l : Lk) : List Int := ifT xs l.a l.ai ++ sgn l.kind :: ifT xs l.b l.bi
def lkT (xs : List As) (ls : List Lk) (i : Int) : List Int := if 0 ≤ i then (match ls[i.toNat]? with | some l => oneLk xs l | none => []) else []
theorem ifT_len (xs : List As) (r i : Int) : (ifT xs r i).length ≤ 65 := by
  unfold ifT
  have h1 := asT_len xs r
  have h2 := fmtI_len i
  simp; omega
theorem lkT_len (xs : List As) (ls : List Lk) (i : Int) : (lkT xs ls i).length ≤ 131 := by
  unfold lkT
  split
  · split
    · rename_i l _
      have h1 := ifT_len xs l.a l.ai
      have h2 := ifT_len xs l.b l.bi
      unfold oneLk
      simp; omega
    · simp
  · simp
theorem oneLk_eq {xs : List As} {l : Lk} {c : Int} (h : sgn l.kind = c) : strOfNums (ifT xs l.a l.ai) ++ strOfNums [c] ++ strOfNums (ifT xs l.b l.bi) = strOfNums (oneLk xs l) := by rw [join3, ← h]; rfl
def WfA (xs : List As) : Prop := ∀ x ∈ xs, -9223372036854775808 ≤ x.isd ∧ x.isd ≤ 9223372036854775807
def WfK (ls : List Lk) : Prop := ∀ l ∈ ls, (-9223372036854775808 ≤ l.ai ∧ l.ai ≤ 9223372036854775807) ∧ (-9223372036854775808 ≤ l.bi ∧ l.bi ≤ 9223372036854775807)

attribute [local go_sem] strOfNums_size in
set_option maxHeartbeats 2000000 in
theorem fmtLk_i (A : Option Addr) (n c : Nat) (L : Option Addr) (m d : Nat) (xs : List As) (ls : List Lk) (i : Int) (w : World) (hA : Ra w A n xs) (hL : Rl w L m ls) (hn : n ≤ 1048576) (hm : m ≤ 1048576) (hw : WfA xs) (hk : WfK ls) :
    Calls Try.prog 38 #[.agg #[.slice A n c, .slice L m d], .int .i64 i] w fun e w' => e = .returned (.string (strOfNums (lkT xs ls i))) ∧ Below w.heap.size w w' := by
  have hlen := hL.len
  by_cases h : 0 ≤ i ∧ i < m
  · obtain ⟨k, rfl⟩ : ∃ k : Nat, i = k := ⟨i.toNat, by omega⟩
    have hkm : k < m := by omega
    have hin : inb (k : Int) 0 ((m : Int) - 1) = true := by unfold inb; rw [decide_eq_true (by omega), decide_eq_true (by omega)]; rfl
    obtain ⟨b, off, l, rfl, hx, c0, c1, c2, c3, c4⟩ := hL.get hkm
    obtain ⟨⟨hx1, hx2⟩, hx3, hx4⟩ := hk l (List.mem_of_getElem? hx)
    have has : lkT xs ls (k : Int) = oneLk xs l := by unfold lkT; rw [if_pos (by omega)]; simp [hx]
    rw [has]
    have l1 := ifT_len xs l.a l.ai
    have l2 := ifT_len xs l.b l.bi
    have hr1 : (0 : Int) ≤ (k : Int) := by omega
    have hr2 : (k : Int) < (m : Int) := by omega
    clear hk hlen hx has
    go_enter Try.func38, Try.ntmps38
    go_wp2_with fail
    refine (inr_i _ _ _ _).mono ?_
    rintro e w1 ⟨rfl, hb1⟩
    rw [hin]
    have hB1 := below_keep (Below.refl _ _) hb1
    have bx0 : w1.cell? ⟨w.heap.size, 0, none⟩ = some (.slice A n c) := (hb1.cell (p := ⟨w.heap.size, 0, none⟩) (by simp)).trans (by simp)
    have bx1 : w1.cell? ⟨w.heap.size, 1, none⟩ = some (.slice (some ⟨b, off, none⟩) m d) := (hb1.cell (p := ⟨w.heap.size, 1, none⟩) (by simp)).trans (by simp)
    have hA1 := hA.below hB1 (Nat.le_refl _)
    have hL1 := hL.below hB1 (Nat.le_refl _)
    have d0 := cell_keep0 c0 hB1
    have d1 := cell_keep0 c1 hB1
    have d2 := cell_keep0 c2 hB1
    have d3 := cell_keep0 c3 hB1
    have d4 := cell_keep0 c4 hB1
    have z1 : w.heap.size < w1.heap.size := World.block_lt_of_cell? w1 _ bx0
    clear hb1 c0 c1 c2 c3 c4
    by_cases k1 : l.kind = 1
    · have hsg : sgn l.kind = 61 := by rw [k1]; rfl
      go_wp2_with fail
      generalize hw2 : w1.alloc _ = w2
      have y0 : w2.cell? ⟨w.heap.size, 0, none⟩ = some (.slice A n c) := by rw [← hw2]; exact (World.cell?_alloc_lt w1 _ _ z1).trans bx0
      have y1 : w2.cell? ⟨w.heap.size, 1, none⟩ = some (.slice (some ⟨b, off, none⟩) m d) := by rw [← hw2]; exact (World.cell?_alloc_lt w1 _ _ z1).trans bx1
      have e0 : w2.cell? ⟨w1.heap.size, 0, none⟩ = some (.int .i64 l.a) := by rw [← hw2]; simp
      have e1 : w2.cell? ⟨w1.heap.size, 1, none⟩ = some (.int .i64 l.ai) := by rw [← hw2]; simp
      have e2 : w2.cell? ⟨w1.heap.size, 2, none⟩ = some (.int .i64 l.b) := by rw [← hw2]; simp
      have e3 : w2.cell? ⟨w1.heap.size, 3, none⟩ = some (.int .i64 l.bi) := by rw [← hw2]; simp
      have hA2 : Ra w2 A n xs := by rw [← hw2]; exact hA1.alloc _
      have hB2 : Below w.heap.size w w2 := by rw [← hw2]; exact hB1.alloc (by omega) _
      clear hw2 bx0 bx1 d0 d1 d2 d3 d4 hA1 hL1
      have q1 : ¬ (9223372036854775807 < (ifT xs l.a l.ai).length + 1) := by omega
      have q2 : (ifT xs l.a l.ai).length < 9223372036854775807 := by omega
      have q3 : ¬ (9223372036854775807 < (ifT xs l.a l.ai).length + 1 + (ifT xs l.b l.bi).length) := by omega
      have q4 : (ifT xs l.a l.ai).length + 1 + (ifT xs l.b l.bi).length ≤ 9223372036854775807 := by omega
      go_region_held3 (fun w' => w'.cell? ⟨w.heap.size, 0, none⟩ = some (.slice A n c) ∧ w'.cell? ⟨w.heap.size, 1, none⟩ = some (.slice (some ⟨b, off, none⟩) m d) ∧ w'.cell? ⟨w1.heap.size, 0, none⟩ = some (.int .i64 l.a) ∧ w'.cell? ⟨w1.heap.size, 1, none⟩ = some (.int .i64 l.ai) ∧ w'.cell? ⟨w1.heap.size, 2, none⟩ = some (.int .i64 l.b) ∧ w'.cell? ⟨w1.heap.size, 3, none⟩ = some (.int .i64 l.bi)) (first | exact ⟨cell_keep0 (cell_keepD y0 hbP) hbQ, cell_keep0 (cell_keepD y1 hbP) hbQ, cell_keep0 (cell_keepD e0 hbP) hbQ, cell_keep0 (cell_keepD e1 hbP) hbQ, cell_keep0 (cell_keepD e2 hbP) hbQ, cell_keep0 (cell_keepD e3 hbP) hbQ⟩ | exact ⟨cell_keepD y0 hbP, cell_keepD y1 hbP, cell_keepD e0 hbP, cell_keepD e1 hbP, cell_keepD e2 hbP, cell_keepD e3 hbP⟩ | exact ⟨y0, y1, e0, e1, e2, e3⟩) (first | (have _hX := hbP; go_at_call 36; refine (fmtIf_i _ _ _ _ _ _ xs l.b l.bi _ ?_ hn hw hx3 hx4).mono ?_; (exact (Rd.drew hA2).below hbP (Nat.le_refl _)); rintro e w4 ⟨rfl, hbQ⟩) | (go_at_call 36; refine (fmtIf_i _ _ _ _ _ _ xs l.a l.ai _ ?_ hn hw hx1 hx2).mono ?_; (exact Rd.drew hA2); rintro e w3 ⟨rfl, hbP⟩))
      go_wp2
      go_ret
      exact ⟨congrArg (fun s => Ending.returned (Value.string s)) (oneLk_eq hsg), below_keep0 (below_keepD hB2 hbP) hbQ⟩
    have b1 : (l.kind == 1) = false := by simpa using k1
    by_cases k2 : l.kind = 2
    · have hsg : sgn l.kind = 62 := by rw [k2]; rfl
      go_wp2_with fail
      generalize hw2 : w1.alloc _ = w2
      have y0 : w2.cell? ⟨w.heap.size, 0, none⟩ = some (.slice A n c) := by rw [← hw2]; exact (World.cell?_alloc_lt w1 _ _ z1).trans bx0
      have y1 : w2.cell? ⟨w.heap.size, 1, none⟩ = some (.slice (some ⟨b, off, none⟩) m d) := by rw [← hw2]; exact (World.cell?_alloc_lt w1 _ _ z1).trans bx1
      have e0 : w2.cell? ⟨w1.heap.size, 0, none⟩ = some (.int .i64 l.a) := by rw [← hw2]; simp
      have e1 : w2.cell? ⟨w1.heap.size, 1, none⟩ = some (.int .i64 l.ai) := by rw [← hw2]; simp
      have e2 : w2.cell? ⟨w1.heap.size, 2, none⟩ = some (.int .i64 l.b) := by rw [← hw2]; simp
      have e3 : w2.cell? ⟨w1.heap.size, 3, none⟩ = some (.int .i64 l.bi) := by rw [← hw2]; simp
      have hA2 : Ra w2 A n xs := by rw [← hw2]; exact hA1.alloc _
      have hB2 : Below w.heap.size w w2 := by rw [← hw2]; exact hB1.alloc (by omega) _
      clear hw2 bx0 bx1 d0 d1 d2 d3 d4 hA1 hL1
      have q1 : ¬ (9223372036854775807 < (ifT xs l.a l.ai).length + 1) := by omega
      have q2 : (ifT xs l.a l.ai).length < 9223372036854775807 := by omega
      have q3 : ¬ (9223372036854775807 < (ifT xs l.a l.ai).length + 1 + (ifT xs l.b l.bi).length) := by omega
      have q4 : (ifT xs l.a l.ai).length + 1 + (ifT xs l.b l.bi).length ≤ 9223372036854775807 := by omega
      go_region_held3 (fun w' => w'.cell? ⟨w.heap.size, 0, none⟩ = some (.slice A n c) ∧ w'.cell? ⟨w.heap.size, 1, none⟩ = some (.slice (some ⟨b, off, none⟩) m d) ∧ w'.cell? ⟨w1.heap.size, 0, none⟩ = some (.int .i64 l.a) ∧ w'.cell? ⟨w1.heap.size, 1, none⟩ = some (.int .i64 l.ai) ∧ w'.cell? ⟨w1.heap.size, 2, none⟩ = some (.int .i64 l.b) ∧ w'.cell? ⟨w1.heap.size, 3, none⟩ = some (.int .i64 l.bi)) (first | exact ⟨cell_keep0 (cell_keepD y0 hbP) hbQ, cell_keep0 (cell_keepD y1 hbP) hbQ, cell_keep0 (cell_keepD e0 hbP) hbQ, cell_keep0 (cell_keepD e1 hbP) hbQ, cell_keep0 (cell_keepD e2 hbP) hbQ, cell_keep0 (cell_keepD e3 hbP) hbQ⟩ | exact ⟨cell_keepD y0 hbP, cell_keepD y1 hbP, cell_keepD e0 hbP, cell_keepD e1 hbP, cell_keepD e2 hbP, cell_keepD e3 hbP⟩ | exact ⟨y0, y1, e0, e1, e2, e3⟩) (first | (have _hX := hbP; go_at_call 36; refine (fmtIf_i _ _ _ _ _ _ xs l.b l.bi _ ?_ hn hw hx3 hx4).mono ?_; (exact (Rd.drew hA2).below hbP (Nat.le_refl _)); rintro e w4 ⟨rfl, hbQ⟩) | (go_at_call 36; refine (fmtIf_i _ _ _ _ _ _ xs l.a l.ai _ ?_ hn hw hx1 hx2).mono ?_; (exact Rd.drew hA2); rintro e w3 ⟨rfl, hbP⟩))
      go_wp2
      go_ret
      exact ⟨congrArg (fun s => Ending.returned (Value.string s)) (oneLk_eq hsg), below_keep0 (below_keepD hB2 hbP) hbQ⟩
    have b2 : (l.kind == 2) = false := by simpa using k2
    by_cases k3 : l.kind = 3
    · have hsg : sgn l.kind = 126 := by rw [k3]; rfl
      go_wp2_with fail
      generalize hw2 : w1.alloc _ = w2
      have y0 : w2.cell? ⟨w.heap.size, 0, none⟩ = some (.slice A n c) := by rw [← hw2]; exact (World.cell?_alloc_lt w1 _ _ z1).trans bx0
      have y1 : w2.cell? ⟨w.heap.size, 1, none⟩ = some (.slice (some ⟨b, off, none⟩) m d) := by rw [← hw2]; exact (World.cell?_alloc_lt w1 _ _ z1).trans bx1
      have e0 : w2.cell? ⟨w1.heap.size, 0, none⟩ = some (.int .i64 l.a) := by rw [← hw2]; simp
      have e1 : w2.cell? ⟨w1.heap.size, 1, none⟩ = some (.int .i64 l.ai) := by rw [← hw2]; simp
      have e2 : w2.cell? ⟨w1.heap.size, 2, none⟩ = some (.int .i64 l.b) := by rw [← hw2]; simp
      have e3 : w2.cell? ⟨w1.heap.size, 3, none⟩ = some (.int .i64 l.bi) := by rw [← hw2]; simp
      have hA2 : Ra w2 A n xs := by rw [← hw2]; exact hA1.alloc _
      have hB2 : Below w.heap.size w w2 := by rw [← hw2]; exact hB1.alloc (by omega) _
      clear hw2 bx0 bx1 d0 d1 d2 d3 d4 hA1 hL1
      have q1 : ¬ (9223372036854775807 < (ifT xs l.a l.ai).length + 1) := by omega
      have q2 : (ifT xs l.a l.ai).length < 9223372036854775807 := by omega
      have q3 : ¬ (9223372036854775807 < (ifT xs l.a l.ai).length + 1 + (ifT xs l.b l.bi).length) := by omega
      have q4 : (ifT xs l.a l.ai).length + 1 + (ifT xs l.b l.bi).length ≤ 9223372036854775807 := by omega
      go_region_held3 (fun w' => w'.cell? ⟨w.heap.size, 0, none⟩ = some (.slice A n c) ∧ w'.cell? ⟨w.heap.size, 1, none⟩ = some (.slice (some ⟨b, off, none⟩) m d) ∧ w'.cell? ⟨w1.heap.size, 0, none⟩ = some (.int .i64 l.a) ∧ w'.cell? ⟨w1.heap.size, 1, none⟩ = some (.int .i64 l.ai) ∧ w'.cell? ⟨w1.heap.size, 2, none⟩ = some (.int .i64 l.b) ∧ w'.cell? ⟨w1.heap.size, 3, none⟩ = some (.int .i64 l.bi)) (first | exact ⟨cell_keep0 (cell_keepD y0 hbP) hbQ, cell_keep0 (cell_keepD y1 hbP) hbQ, cell_keep0 (cell_keepD e0 hbP) hbQ, cell_keep0 (cell_keepD e1 hbP) hbQ, cell_keep0 (cell_keepD e2 hbP) hbQ, cell_keep0 (cell_keepD e3 hbP) hbQ⟩ | exact ⟨cell_keepD y0 hbP, cell_keepD y1 hbP, cell_keepD e0 hbP, cell_keepD e1 hbP, cell_keepD e2 hbP, cell_keepD e3 hbP⟩ | exact ⟨y0, y1, e0, e1, e2, e3⟩) (first | (have _hX := hbP; go_at_call 36; refine (fmtIf_i _ _ _ _ _ _ xs l.b l.bi _ ?_ hn hw hx3 hx4).mono ?_; (exact (Rd.drew hA2).below hbP (Nat.le_refl _)); rintro e w4 ⟨rfl, hbQ⟩) | (go_at_call 36; refine (fmtIf_i _ _ _ _ _ _ xs l.a l.ai _ ?_ hn hw hx1 hx2).mono ?_; (exact Rd.drew hA2); rintro e w3 ⟨rfl, hbP⟩))
      go_wp2
      go_ret
      exact ⟨congrArg (fun s => Ending.returned (Value.string s)) (oneLk_eq hsg), below_keep0 (below_keepD hB2 hbP) hbQ⟩
    have b3 : (l.kind == 3) = false := by simpa using k3
    have hsg : sgn l.kind = 63 := by unfold sgn; rw [if_neg k1, if_neg k2, if_neg k3]
    go_wp2_with fail
    generalize hw2 : w1.alloc _ = w2
    have y0 : w2.cell? ⟨w.heap.size, 0, none⟩ = some (.slice A n c) := by rw [← hw2]; exact (World.cell?_alloc_lt w1 _ _ z1).trans bx0
    have y1 : w2.cell? ⟨w.heap.size, 1, none⟩ = some (.slice (some ⟨b, off, none⟩) m d) := by rw [← hw2]; exact (World.cell?_alloc_lt w1 _ _ z1).trans bx1
    have e0 : w2.cell? ⟨w1.heap.size, 0, none⟩ = some (.int .i64 l.a) := by rw [← hw2]; simp
    have e1 : w2.cell? ⟨w1.heap.size, 1, none⟩ = some (.int .i64 l.ai) := by rw [← hw2]; simp
    have e2 : w2.cell? ⟨w1.heap.size, 2, none⟩ = some (.int .i64 l.b) := by rw [← hw2]; simp
    have e3 : w2.cell? ⟨w1.heap.size, 3, none⟩ = some (.int .i64 l.bi) := by rw [← hw2]; simp
    have hA2 : Ra w2 A n xs := by rw [← hw2]; exact hA1.alloc _
    have hB2 : Below w.heap.size w w2 := by rw [← hw2]; exact hB1.alloc (by omega) _
    clear hw2 bx0 bx1 d0 d1 d2 d3 d4 hA1 hL1
    have q1 : ¬ (9223372036854775807 < (ifT xs l.a l.ai).length + 1) := by omega
    have q2 : (ifT xs l.a l.ai).length < 9223372036854775807 := by omega
    have q3 : ¬ (9223372036854775807 < (ifT xs l.a l.ai).length + 1 + (ifT xs l.b l.bi).length) := by omega
    have q4 : (ifT xs l.a l.ai).length + 1 + (ifT xs l.b l.bi).length ≤ 9223372036854775807 := by omega
    go_region_held3 (fun w' => w'.cell? ⟨w.heap.size, 0, none⟩ = some (.slice A n c) ∧ w'.cell? ⟨w.heap.size, 1, none⟩ = some (.slice (some ⟨b, off, none⟩) m d) ∧ w'.cell? ⟨w1.heap.size, 0, none⟩ = some (.int .i64 l.a) ∧ w'.cell? ⟨w1.heap.size, 1, none⟩ = some (.int .i64 l.ai) ∧ w'.cell? ⟨w1.heap.size, 2, none⟩ = some (.int .i64 l.b) ∧ w'.cell? ⟨w1.heap.size, 3, none⟩ = some (.int .i64 l.bi)) (first | exact ⟨cell_keep0 (cell_keepD y0 hbP) hbQ, cell_keep0 (cell_keepD y1 hbP) hbQ, cell_keep0 (cell_keepD e0 hbP) hbQ, cell_keep0 (cell_keepD e1 hbP) hbQ, cell_keep0 (cell_keepD e2 hbP) hbQ, cell_keep0 (cell_keepD e3 hbP) hbQ⟩ | exact ⟨cell_keepD y0 hbP, cell_keepD y1 hbP, cell_keepD e0 hbP, cell_keepD e1 hbP, cell_keepD e2 hbP, cell_keepD e3 hbP⟩ | exact ⟨y0, y1, e0, e1, e2, e3⟩) (first | (have _hX := hbP; go_at_call 36; refine (fmtIf_i _ _ _ _ _ _ xs l.b l.bi _ ?_ hn hw hx3 hx4).mono ?_; (exact (Rd.drew hA2).below hbP (Nat.le_refl _)); rintro e w4 ⟨rfl, hbQ⟩) | (go_at_call 36; refine (fmtIf_i _ _ _ _ _ _ xs l.a l.ai _ ?_ hn hw hx1 hx2).mono ?_; (exact Rd.drew hA2); rintro e w3 ⟨rfl, hbP⟩))
    go_wp2
    go_ret
    exact ⟨congrArg (fun s => Ending.returned (Value.string s)) (oneLk_eq hsg), below_keep0 (below_keepD hB2 hbP) hbQ⟩
  · have hin : inb i 0 ((m : Int) - 1) = false := by
      unfold inb
      by_cases h0 : 0 ≤ i
      · rw [decide_eq_false (p := i ≤ (m : Int) - 1) (by omega)]; simp
      · rw [decide_eq_false h0]; rfl
    have has : lkT xs ls i = [] := by
      unfold lkT
      split
      · rw [List.getElem?_eq_none (by omega)]
      · rfl
    rw [has]
    go_enter Try.func38, Try.ntmps38
    go_wp2_with fail
    refine (inr_i _ _ _ _).mono ?_
    rintro e w1 ⟨rfl, hb1⟩
    rw [hin]
    have hB1 := below_keep (Below.refl _ _) hb1
    go_wp2
    go_ret
    exact ⟨rfl, hB1⟩

attribute [local go_sem] strOfNums_size in
set_option maxHeartbeats 2000000 in
theorem fmtLk_s (A : Option Addr) (n c : Nat) (L : Option Addr) (m d : Nat) (xs : List As) (ls : List Lk) (i : Int) (w : World) (hA : Ra w A n xs) (hL : Rl w L m ls) (hn : n ≤ 1048576) (hm : m ≤ 1048576) (hw : WfA xs) (hk : WfK ls) :
    Calls Try.prog 39 #[.agg #[.slice A n c, .slice L m d], .int .i64 i] w fun e w' => e = .returned (.string (strOfNums (lkT xs ls i))) ∧ Below w.heap.size w w' := by
  have hlen := hL.len
  by_cases h : 0 ≤ i ∧ i < m
  · obtain ⟨k, rfl⟩ : ∃ k : Nat, i = k := ⟨i.toNat, by omega⟩
    have hkm : k < m := by omega
    have hin : inb (k : Int) 0 ((m : Int) - 1) = true := by unfold inb; rw [decide_eq_true (by omega), decide_eq_true (by omega)]; rfl
    obtain ⟨b, off, l, rfl, hx, c0, c1, c2, c3, c4⟩ := hL.get hkm
    obtain ⟨⟨hx1, hx2⟩, hx3, hx4⟩ := hk l (List.mem_of_getElem? hx)
    have has : lkT xs ls (k : Int) = oneLk xs l := by unfold lkT; rw [if_pos (by omega)]; simp [hx]
    rw [has]
    have l1 := ifT_len xs l.a l.ai
    have l2 := ifT_len xs l.b l.bi
    have hr1 : (0 : Int) ≤ (k : Int) := by omega
    have hr2 : (k : Int) < (m : Int) := by omega
    clear hk hlen hx has
    go_enter Try.func39, Try.ntmps39
    go_wp2_with fail
    refine (inr_s _ _ _ _).mono ?_
    rintro e w1 ⟨rfl, hb1⟩
    rw [hin]
    have hB1 := below_keep (Below.refl _ _) hb1
    have bx0 : w1.cell? ⟨w.heap.size, 0, none⟩ = some (.slice A n c) := (hb1.cell (p := ⟨w.heap.size, 0, none⟩) (by simp)).trans (by simp)
    have bx1 : w1.cell? ⟨w.heap.size, 1, none⟩ = some (.slice (some ⟨b, off, none⟩) m d) := (hb1.cell (p := ⟨w.heap.size, 1, none⟩) (by simp)).trans (by simp)
    have hA1 := hA.below hB1 (Nat.le_refl _)
    have hL1 := hL.below hB1 (Nat.le_refl _)
    have d0 := cell_keep0 c0 hB1
    have d1 := cell_keep0 c1 hB1
    have d2 := cell_keep0 c2 hB1
    have d3 := cell_keep0 c3 hB1
    have d4 := cell_keep0 c4 hB1
    have z1 : w.heap.size < w1.heap.size := World.block_lt_of_cell? w1 _ bx0
    clear hb1 c0 c1 c2 c3 c4
    by_cases k1 : l.kind = 1
    · have hsg : sgn l.kind = 61 := by rw [k1]; rfl
      go_wp2_with fail
      generalize hw2 : w1.alloc _ = w2
      have y0 : w2.cell? ⟨w.heap.size, 0, none⟩ = some (.slice A n c) := by rw [← hw2]; exact (World.cell?_alloc_lt w1 _ _ z1).trans bx0
      have y1 : w2.cell? ⟨w.heap.size, 1, none⟩ = some (.slice (some ⟨b, off, none⟩) m d) := by rw [← hw2]; exact (World.cell?_alloc_lt w1 _ _ z1).trans bx1
      have e0 : w2.cell? ⟨w1.heap.size, 0, none⟩ = some (.int .i64 l.a) := by rw [← hw2]; simp
      have e1 : w2.cell? ⟨w1.heap.size, 1, none⟩ = some (.int .i64 l.ai) := by rw [← hw2]; simp
      have e2 : w2.cell? ⟨w1.heap.size, 2, none⟩ = some (.int .i64 l.b) := by rw [← hw2]; simp
      have e3 : w2.cell? ⟨w1.heap.size, 3, none⟩ = some (.int .i64 l.bi) := by rw [← hw2]; simp
      have hA2 : Ra w2 A n xs := by rw [← hw2]; exact hA1.alloc _
      have hB2 : Below w.heap.size w w2 := by rw [← hw2]; exact hB1.alloc (by omega) _
      clear hw2 bx0 bx1 d0 d1 d2 d3 d4 hA1 hL1
      have q1 : ¬ (9223372036854775807 < (ifT xs l.a l.ai).length + 1) := by omega
      have q2 : (ifT xs l.a l.ai).length < 9223372036854775807 := by omega
      have q3 : ¬ (9223372036854775807 < (ifT xs l.a l.ai).length + 1 + (ifT xs l.b l.bi).length) := by omega
      have q4 : (ifT xs l.a l.ai).length + 1 + (ifT xs l.b l.bi).length ≤ 9223372036854775807 := by omega
      go_region_held3 (fun w' => w'.cell? ⟨w.heap.size, 0, none⟩ = some (.slice A n c) ∧ w'.cell? ⟨w.heap.size, 1, none⟩ = some (.slice (some ⟨b, off, none⟩) m d) ∧ w'.cell? ⟨w1.heap.size, 0, none⟩ = some (.int .i64 l.a) ∧ w'.cell? ⟨w1.heap.size, 1, none⟩ = some (.int .i64 l.ai) ∧ w'.cell? ⟨w1.heap.size, 2, none⟩ = some (.int .i64 l.b) ∧ w'.cell? ⟨w1.heap.size, 3, none⟩ = some (.int .i64 l.bi)) (first | exact ⟨cell_keep0 (cell_keepD y0 hbP) hbQ, cell_keep0 (cell_keepD y1 hbP) hbQ, cell_keep0 (cell_keepD e0 hbP) hbQ, cell_keep0 (cell_keepD e1 hbP) hbQ, cell_keep0 (cell_keepD e2 hbP) hbQ, cell_keep0 (cell_keepD e3 hbP) hbQ⟩ | exact ⟨cell_keepD y0 hbP, cell_keepD y1 hbP, cell_keepD e0 hbP, cell_keepD e1 hbP, cell_keepD e2 hbP, cell_keepD e3 hbP⟩ | exact ⟨y0, y1, e0, e1, e2, e3⟩) (first | (have _hX := hbP; go_at_call 37; refine (fmtIf_s _ _ _ _ _ _ xs l.b l.bi _ ?_ hn hw hx3 hx4).mono ?_; (exact (Rd.drew hA2).below hbP (Nat.le_refl _)); rintro e w4 ⟨rfl, hbQ⟩) | (go_at_call 37; refine (fmtIf_s _ _ _ _ _ _ xs l.a l.ai _ ?_ hn hw hx1 hx2).mono ?_; (exact Rd.drew hA2); rintro e w3 ⟨rfl, hbP⟩))
      go_wp2
      go_ret
      exact ⟨congrArg (fun s => Ending.returned (Value.string s)) (oneLk_eq hsg), below_keep0 (below_keepD hB2 hbP) hbQ⟩
    have b1 : (l.kind == 1) = false := by simpa using k1
    by_cases k2 : l.kind = 2
    · have hsg : sgn l.kind = 62 := by rw [k2]; rfl
      go_wp2_with fail
      generalize hw2 : w1.alloc _ = w2
      have y0 : w2.cell? ⟨w.heap.size, 0, none⟩ = some (.slice A n c) := by rw [← hw2]; exact (World.cell?_alloc_lt w1 _ _ z1).trans bx0
      have y1 : w2.cell? ⟨w.heap.size, 1, none⟩ = some (.slice (some ⟨b, off, none⟩) m d) := by rw [← hw2]; exact (World.cell?_alloc_lt w1 _ _ z1).trans bx1
      have e0 : w2.cell? ⟨w1.heap.size, 0, none⟩ = some (.int .i64 l.a) := by rw [← hw2]; simp
      have e1 : w2.cell? ⟨w1.heap.size, 1, none⟩ = some (.int .i64 l.ai) := by rw [← hw2]; simp
      have e2 : w2.cell? ⟨w1.heap.size, 2, none⟩ = some (.int .i64 l.b) := by rw [← hw2]; simp
      have e3 : w2.cell? ⟨w1.heap.size, 3, none⟩ = some (.int .i64 l.bi) := by rw [← hw2]; simp
      have hA2 : Ra w2 A n xs := by rw [← hw2]; exact hA1.alloc _
      have hB2 : Below w.heap.size w w2 := by rw [← hw2]; exact hB1.alloc (by omega) _
      clear hw2 bx0 bx1 d0 d1 d2 d3 d4 hA1 hL1
      have q1 : ¬ (9223372036854775807 < (ifT xs l.a l.ai).length + 1) := by omega
      have q2 : (ifT xs l.a l.ai).length < 9223372036854775807 := by omega
      have q3 : ¬ (9223372036854775807 < (ifT xs l.a l.ai).length + 1 + (ifT xs l.b l.bi).length) := by omega
      have q4 : (ifT xs l.a l.ai).length + 1 + (ifT xs l.b l.bi).length ≤ 9223372036854775807 := by omega
      go_region_held3 (fun w' => w'.cell? ⟨w.heap.size, 0, none⟩ = some (.slice A n c) ∧ w'.cell? ⟨w.heap.size, 1, none⟩ = some (.slice (some ⟨b, off, none⟩) m d) ∧ w'.cell? ⟨w1.heap.size, 0, none⟩ = some (.int .i64 l.a) ∧ w'.cell? ⟨w1.heap.size, 1, none⟩ = some (.int .i64 l.ai) ∧ w'.cell? ⟨w1.heap.size, 2, none⟩ = some (.int .i64 l.b) ∧ w'.cell? ⟨w1.heap.size, 3, none⟩ = some (.int .i64 l.bi)) (first | exact ⟨cell_keep0 (cell_keepD y0 hbP) hbQ, cell_keep0 (cell_keepD y1 hbP) hbQ, cell_keep0 (cell_keepD e0 hbP) hbQ, cell_keep0 (cell_keepD e1 hbP) hbQ, cell_keep0 (cell_keepD e2 hbP) hbQ, cell_keep0 (cell_keepD e3 hbP) hbQ⟩ | exact ⟨cell_keepD y0 hbP, cell_keepD y1 hbP, cell_keepD e0 hbP, cell_keepD e1 hbP, cell_keepD e2 hbP, cell_keepD e3 hbP⟩ | exact ⟨y0, y1, e0, e1, e2, e3⟩) (first | (have _hX := hbP; go_at_call 37; refine (fmtIf_s _ _ _ _ _ _ xs l.b l.bi _ ?_ hn hw hx3 hx4).mono ?_; (exact (Rd.drew hA2).below hbP (Nat.le_refl _)); rintro e w4 ⟨rfl, hbQ⟩) | (go_at_call 37; refine (fmtIf_s _ _ _ _ _ _ xs l.a l.ai _ ?_ hn hw hx1 hx2).mono ?_; (exact Rd.drew hA2); rintro e w3 ⟨rfl, hbP⟩))
      go_wp2
      go_ret
      exact ⟨congrArg (fun s => Ending.returned (Value.string s)) (oneLk_eq hsg), below_keep0 (below_keepD hB2 hbP) hbQ⟩
    have b2 : (l.kind == 2) = false := by simpa using k2
    by_cases k3 : l.kind = 3
    · have hsg : sgn l.kind = 126 := by rw [k3]; rfl
      go_wp2_with fail
      generalize hw2 : w1.alloc _ = w2
      have y0 : w2.cell? ⟨w.heap.size, 0, none⟩ = some (.slice A n c) := by rw [← hw2]; exact (World.cell?_alloc_lt w1 _ _ z1).trans bx0
      have y1 : w2.cell? ⟨w.heap.size, 1, none⟩ = some (.slice (some ⟨b, off, none⟩) m d) := by rw [← hw2]; exact (World.cell?_alloc_lt w1 _ _ z1).trans bx1
      have e0 : w2.cell? ⟨w1.heap.size, 0, none⟩ = some (.int .i64 l.a) := by rw [← hw2]; simp
      have e1 : w2.cell? ⟨w1.heap.size, 1, none⟩ = some (.int .i64 l.ai) := by rw [← hw2]; simp
      have e2 : w2.cell? ⟨w1.heap.size, 2, none⟩ = some (.int .i64 l.b) := by rw [← hw2]; simp
      have e3 : w2.cell? ⟨w1.heap.size, 3, none⟩ = some (.int .i64 l.bi) := by rw [← hw2]; simp
      have hA2 : Ra w2 A n xs := by rw [← hw2]; exact hA1.alloc _
      have hB2 : Below w.heap.size w w2 := by rw [← hw2]; exact hB1.alloc (by omega) _
      clear hw2 bx0 bx1 d0 d1 d2 d3 d4 hA1 hL1
      have q1 : ¬ (9223372036854775807 < (ifT xs l.a l.ai).length + 1) := by omega
      have q2 : (ifT xs l.a l.ai).length < 9223372036854775807 := by omega
      have q3 : ¬ (9223372036854775807 < (ifT xs l.a l.ai).length + 1 + (ifT xs l.b l.bi).length) := by omega
      have q4 : (ifT xs l.a l.ai).length + 1 + (ifT xs l.b l.bi).length ≤ 9223372036854775807 := by omega
      go_region_held3 (fun w' => w'.cell? ⟨w.heap.size, 0, none⟩ = some (.slice A n c) ∧ w'.cell? ⟨w.heap.size, 1, none⟩ = some (.slice (some ⟨b, off, none⟩) m d) ∧ w'.cell? ⟨w1.heap.size, 0, none⟩ = some (.int .i64 l.a) ∧ w'.cell? ⟨w1.heap.size, 1, none⟩ = some (.int .i64 l.ai) ∧ w'.cell? ⟨w1.heap.size, 2, none⟩ = some (.int .i64 l.b) ∧ w'.cell? ⟨w1.heap.size, 3, none⟩ = some (.int .i64 l.bi)) (first | exact ⟨cell_keep0 (cell_keepD y0 hbP) hbQ, cell_keep0 (cell_keepD y1 hbP) hbQ, cell_keep0 (cell_keepD e0 hbP) hbQ, cell_keep0 (cell_keepD e1 hbP) hbQ, cell_keep0 (cell_keepD e2 hbP) hbQ, cell_keep0 (cell_keepD e3 hbP) hbQ⟩ | exact ⟨cell_keepD y0 hbP, cell_keepD y1 hbP, cell_keepD e0 hbP, cell_keepD e1 hbP, cell_keepD e2 hbP, cell_keepD e3 hbP⟩ | exact ⟨y0, y1, e0, e1, e2, e3⟩) (first | (have _hX := hbP; go_at_call 37; refine (fmtIf_s _ _ _ _ _ _ xs l.b l.bi _ ?_ hn hw hx3 hx4).mono ?_; (exact (Rd.drew hA2).below hbP (Nat.le_refl _)); rintro e w4 ⟨rfl, hbQ⟩) | (go_at_call 37; refine (fmtIf_s _ _ _ _ _ _ xs l.a l.ai _ ?_ hn hw hx1 hx2).mono ?_; (exact Rd.drew hA2); rintro e w3 ⟨rfl, hbP⟩))
      go_wp2
      go_ret
      exact ⟨congrArg (fun s => Ending.returned (Value.string s)) (oneLk_eq hsg), below_keep0 (below_keepD hB2 hbP) hbQ⟩
    have b3 : (l.kind == 3) = false := by simpa using k3
    have hsg : sgn l.kind = 63 := by unfold sgn; rw [if_neg k1, if_neg k2, if_neg k3]
    go_wp2_with fail
    generalize hw2 : w1.alloc _ = w2
    have y0 : w2.cell? ⟨w.heap.size, 0, none⟩ = some (.slice A n c) := by rw [← hw2]; exact (World.cell?_alloc_lt w1 _ _ z1).trans bx0
    have y1 : w2.cell? ⟨w.heap.size, 1, none⟩ = some (.slice (some ⟨b, off, none⟩) m d) := by rw [← hw2]; exact (World.cell?_alloc_lt w1 _ _ z1).trans bx1
    have e0 : w2.cell? ⟨w1.heap.size, 0, none⟩ = some (.int .i64 l.a) := by rw [← hw2]; simp
    have e1 : w2.cell? ⟨w1.heap.size, 1, none⟩ = some (.int .i64 l.ai) := by rw [← hw2]; simp
    have e2 : w2.cell? ⟨w1.heap.size, 2, none⟩ = some (.int .i64 l.b) := by rw [← hw2]; simp
    have e3 : w2.cell? ⟨w1.heap.size, 3, none⟩ = some (.int .i64 l.bi) := by rw [← hw2]; simp
    have hA2 : Ra w2 A n xs := by rw [← hw2]; exact hA1.alloc _
    have hB2 : Below w.heap.size w w2 := by rw [← hw2]; exact hB1.alloc (by omega) _
    clear hw2 bx0 bx1 d0 d1 d2 d3 d4 hA1 hL1
    have q1 : ¬ (9223372036854775807 < (ifT xs l.a l.ai).length + 1) := by omega
    have q2 : (ifT xs l.a l.ai).length < 9223372036854775807 := by omega
    have q3 : ¬ (9223372036854775807 < (ifT xs l.a l.ai).length + 1 + (ifT xs l.b l.bi).length) := by omega
    have q4 : (ifT xs l.a l.ai).length + 1 + (ifT xs l.b l.bi).length ≤ 9223372036854775807 := by omega
    go_region_held3 (fun w' => w'.cell? ⟨w.heap.size, 0, none⟩ = some (.slice A n c) ∧ w'.cell? ⟨w.heap.size, 1, none⟩ = some (.slice (some ⟨b, off, none⟩) m d) ∧ w'.cell? ⟨w1.heap.size, 0, none⟩ = some (.int .i64 l.a) ∧ w'.cell? ⟨w1.heap.size, 1, none⟩ = some (.int .i64 l.ai) ∧ w'.cell? ⟨w1.heap.size, 2, none⟩ = some (.int .i64 l.b) ∧ w'.cell? ⟨w1.heap.size, 3, none⟩ = some (.int .i64 l.bi)) (first | exact ⟨cell_keep0 (cell_keepD y0 hbP) hbQ, cell_keep0 (cell_keepD y1 hbP) hbQ, cell_keep0 (cell_keepD e0 hbP) hbQ, cell_keep0 (cell_keepD e1 hbP) hbQ, cell_keep0 (cell_keepD e2 hbP) hbQ, cell_keep0 (cell_keepD e3 hbP) hbQ⟩ | exact ⟨cell_keepD y0 hbP, cell_keepD y1 hbP, cell_keepD e0 hbP, cell_keepD e1 hbP, cell_keepD e2 hbP, cell_keepD e3 hbP⟩ | exact ⟨y0, y1, e0, e1, e2, e3⟩) (first | (have _hX := hbP; go_at_call 37; refine (fmtIf_s _ _ _ _ _ _ xs l.b l.bi _ ?_ hn hw hx3 hx4).mono ?_; (exact (Rd.drew hA2).below hbP (Nat.le_refl _)); rintro e w4 ⟨rfl, hbQ⟩) | (go_at_call 37; refine (fmtIf_s _ _ _ _ _ _ xs l.a l.ai _ ?_ hn hw hx1 hx2).mono ?_; (exact Rd.drew hA2); rintro e w3 ⟨rfl, hbP⟩))
    go_wp2
    go_ret
    exact ⟨congrArg (fun s => Ending.returned (Value.string s)) (oneLk_eq hsg), below_keep0 (below_keepD hB2 hbP) hbQ⟩
  · have hin : inb i 0 ((m : Int) - 1) = false := by
      unfold inb
      by_cases h0 : 0 ≤ i
      · rw [decide_eq_false (p := i ≤ (m : Int) - 1) (by omega)]; simp
      · rw [decide_eq_false h0]; rfl
    have has : lkT xs ls i = [] := by
      unfold lkT
      split
      · rw [List.getElem?_eq_none (by omega)]
      · rfl
    rw [has]
    go_enter Try.func39, Try.ntmps39
    go_wp2_with fail
    refine (inr_s _ _ _ _).mono ?_
    rintro e w1 ⟨rfl, hb1⟩
    rw [hin]
    have hB1 := below_keep (Below.refl _ _) hb1
    go_wp2
    go_ret
    exact ⟨rfl, hB1⟩
end Go.Proofs.Ytehfcejpoigclaa
