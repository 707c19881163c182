/- Contracts of insertInt and l5Put. -/
import Derived.Test.YtehfcejpoigclaaRows
import Derived.Test.YtehfcejpoigclaaMem
import Derived.Test.YtehfcejpoigclaaLawInts
import Derived.Test.YtehfcejpoigclaaTopoPure
import Derived.Deep.RegionLaw
import Derived.Outline
namespace Go.Proofs.Ytehfcejpoigclaa
open Go.RowKit
set_option linter.unusedVariables false

theorem lit_noneI {w w' : World} {base : Nat} {E : TypeId} {k : IntKind} (h : base ≤ w.heap.size) : Oi (w.alloc (.cells #[] E)) base E k (some ⟨w.heap.size, 0, none⟩) 0 0 [] := World.ownsRow_made w #[] 0 h (Nat.zero_le _) rfl
theorem lit_noneAt {w w' : World} {base : Nat} {E : TypeId} {k : IntKind} {g : Nat} (hg : g = w.heap.size) (h : base ≤ w.heap.size) : Oi (w.alloc (.cells #[] E)) base E k (some ⟨g, 0, none⟩) 0 0 [] := by subst hg; exact lit_noneI (w' := w) h
theorem ret_ints {w w' : World} {A : Option Addr} {n c : Nat} {zs ys : List Int} (h : Oi w' w.heap.size 3 .i64 A n c zs) (hb : Below w.heap.size w w') (e : ys = zs) : RetIntS w ys (.returned (.slice A n c)) w' := by
  have hl := h.len
  subst e
  subst hl
  exact ⟨A, c, rfl, h, hb⟩
theorem copyInts_any (A : Option Addr) (n c : Nat) (zs : List Int) (w : World) (hr : Ri w .i64 A n zs) (hn : n ≤ 1073741824) :
    Calls Try.prog 70 #[.slice A n c] w (RetIntS w zs) := by
  obtain ⟨i0, hi, hz0, hz1, hz2⟩ := info_parts ints_info
  go_enter Try.func70, Try.ntmps70
  go_wp2_with (first
    | (at_builtin; refine wpList_pushAll _ rfl _ _ 34 rfl w.heap.size 3 i0 (.int .i64 0) 8 .i64 Try.underlying34 hi hz0 hz1 hz2 rfl (by omega) _ 0 0 _ rfl (lit_noneI (w' := w) (Nat.le_refl _)) A n c zs rfl (hr.alloc _) (by omega) (by simp) ?_; intro A' c' w1 hown' hb'; simp only [Nat.zero_add, List.nil_append] at hown'))
  go_ret
  exact ret_ints hown' (((Below.refl _ _).alloc (Nat.le_refl _) _).trans hb') rfl
/-- A call that returns the integers zs in a row of the caller's own, its blocks from base on, and turns nothing that was there. -/
def RetOwn (w : World) (base : Nat) (zs : List Int) (e : Ending) (w' : World) : Prop :=
  ∃ A c, e = .returned (.slice A zs.length c) ∧ Oi w' base 3 .i64 A zs.length c zs ∧ Below w.heap.size w w'
theorem ret_own {w w' : World} {base : Nat} {A : Option Addr} {n c : Nat} {zs ys : List Int} (h : Oi w' base 3 .i64 A n c zs) (hb : Below w.heap.size w w') (e : ys = zs) : RetOwn w base ys (.returned (.slice A n c)) w' := by
  have hl := h.len
  subst e
  subst hl
  exact ⟨A, c, rfl, h, hb⟩
set_option maxHeartbeats 2000000 in
theorem put_i (A : Option Addr) (n c : Nat) (zs : List Int) (x : Int) (w : World) (base : Nat) (ho : Oi w base 3 .i64 A n c zs) (hn : n ≤ 1073741824) (hbase : base ≤ w.heap.size) :
    Calls Try.prog 49 #[.slice A n c, .int .i64 x] w (RetOwn w base (put zs x)) := by
  obtain ⟨i0, hi, hz0, hz1, hz2⟩ := info_parts ints_info
  have hr := ho.rd
  have hl := Lib.hid hr.len
  have hnc := ho.le
  go_enter Try.func49, Try.ntmps49
  go_wp2
  go_loop [5] (fun i => ∃ k : Nat, k ≤ n ∧ i = .int .i64 k ∧ Hid (∀ j y, j < k → zs[j]? = some y → y < x)) (fun i => n - (intOf i).toNat)
  case atStart => exact ⟨0, Nat.zero_le _, rfl, Lib.hid (fun j y hj => absurd hj (by omega))⟩
  case round =>
    obtain ⟨k, hk, rfl, hall⟩ := hrel
    by_cases hlt : k < n
    · obtain ⟨b, off, y, rfl, hx0, hc⟩ := hr.get hlt
      have hx := Lib.hid hx0
      clear hx0
      by_cases hyx : y < x
      · go_wp2
        go_round
        case rel =>
          refine ⟨k + 1, by omega, by go_num, Lib.hid (fun j z hj hz => ?_)⟩
          rcases Nat.lt_or_ge j k with h | h
          · exact hall.out j z h hz
          · obtain rfl : j = k := by omega
            rw [hx.out] at hz
            injection hz with hz
            omega
        case measure => simp [intOf]; omega
      · have hd1 : decide (y < x) = false := decide_eq_false hyx
        by_cases hye : y = x
        · subst hye
          go_wp2
          go_ret
          exact ret_own ho (Below.refl _ _) (put_same hall.out (by rw [hl.out]; omega) hx.out)
        · have hne : (y == x) = false := by simpa using hye
          have hE := Lib.hid (put_new (n := x) hall.out (by rw [hl.out]; omega) (fun z hz => by rw [hx.out] at hz; injection hz with hz; omega))
          have hk1 : k ≤ c := by omega
          have hsub := hr.takes (i := k) (by omega)
          have hdr : Ri w .i64 (if c = k then some ⟨b, off, none⟩ else some ⟨b, off + k, none⟩) (n - k) (zs.drop k) := by rw [if_neg (by omega)]; exact hr.drops k
          have hbw : b < w.heap.size := World.block_lt_of_cell? w _ hc
          have hlen1 := Lib.hid hsub.len
          go_wp2
          go_region_law (first | (refine step_push _ rfl (.tmp 36) (.tmp 38) 34 rfl w.heap.size 3 i0 (.int .i64 0) 8 .i64 Try.underlying34 hi hz0 hz1 hz2 rfl (by omega) A1 k c1 (zs.take k) rfl ((o1.mono (Nat.le_refl _)).alloc _) (some ⟨w1.heap.size, 0, none⟩) 1 1 [x] rfl (Ri.one (by simp)) (by omega) (by have := hb1.size; simp at this ⊢; omega) ?_; intro A2 c2 w2 ho2 hb2; have hB2 : Below w.heap.size w w2 := (((Below.refl _ _).drew.trans hb1).alloc (by have := hb1.size; simp at this ⊢; omega) _).trans hb2; have hsB := hB2.size) | (refine step_push _ rfl (.tmp 36) (.tmp 38) 34 rfl w.heap.size 3 i0 (.int .i64 0) 8 .i64 Try.underlying34 hi hz0 hz1 hz2 rfl (by omega) A1 k c1 (zs.take k) rfl (o1.mono (by simp)) (some ⟨w.heap.size, 0, none⟩) 1 1 [x] rfl (Ri.one ((hb1.cell (p := ⟨w.heap.size, 0, none⟩) (by simp)).trans (by simp))) (by omega) (by have := hb1.size; simp at this ⊢; omega) ?_; intro A2 c2 w2 ho2 hb2; have hB2 : Below w.heap.size w w2 := (((Below.refl _ _).drew.alloc (by simp) _).trans (hb1.mono (by simp))).trans hb2; have hsB := hB2.size) | (go_simp; go_at_call 70; refine (copyInts_any _ _ _ (zs.take k) _ ?_ (by omega)).mono ?_; (first | exact hsub | exact Ri.drew hsub | exact Ri.alloc (Ri.drew hsub) _); rintro e w1 ⟨A1, c1, rfl, o1, hb1⟩; rw [hlen1.out] at o1; rw [hlen1.out]) | (refine step_push _ rfl (.tmp 39) (.tmp 42) 34 rfl w.heap.size 3 i0 (.int .i64 0) 8 .i64 Try.underlying34 hi hz0 hz1 hz2 rfl (by omega) A2 (k + 1) c2 (zs.take k ++ [x]) rfl (ho2) (if c = k then some ⟨b, off, none⟩ else some ⟨b, off + k, none⟩) (n - k) _ (zs.drop k) rfl (Ri.below hdr hB2 (Nat.le_refl _)) (by omega) (by omega) ?_; intro A3 c3 w3 ho3 hb3))
          all_goals (go_wp2; go_ret; exact ret_own (ho3.mono hbase) (hB2.trans hb3) hE.out)
    · obtain rfl : k = n := by omega
      have hE := Lib.hid (put_new (n := x) hall.out (by rw [hl.out]; omega) (fun z hz => by rw [List.getElem?_eq_none (by rw [hl.out]; omega)] at hz; cases hz))
      have hd1 : ¬ ((k : Int) < (k : Int)) := by omega
      have hsub := hr.takes (i := k) (by omega)
      have hlen1 := Lib.hid hsub.len
      have hnil : Hid (zs.drop k = []) := Lib.hid (List.drop_eq_nil_of_le (by rw [hl.out]; omega))
      rcases ho.2 with ⟨hv, hk0⟩ | ⟨g, cap, cur, hv, hg0, hg1, _⟩
      · have hA : A = none := by injection hv
        have hc0 : c = 0 := by injection hv
        subst hA hc0
        obtain rfl : k = 0 := by omega
        have hdr : Ri w .i64 none 0 (zs.drop 0) := by rw [hnil.out]; exact Ri.empty
        clear hv
        go_wp2
        go_region_law (first | (refine step_push _ rfl (.tmp 36) (.tmp 38) 34 rfl w.heap.size 3 i0 (.int .i64 0) 8 .i64 Try.underlying34 hi hz0 hz1 hz2 rfl (by omega) A1 0 c1 (zs.take 0) rfl ((o1.mono (Nat.le_refl _)).alloc _) (some ⟨w1.heap.size, 0, none⟩) 1 1 [x] rfl (Ri.one (by simp)) (by omega) (by have := hb1.size; simp at this ⊢; omega) ?_; intro A2 c2 w2 ho2 hb2; have hB2 : Below w.heap.size w w2 := (((Below.refl _ _).drew.trans hb1).alloc (by have := hb1.size; simp at this ⊢; omega) _).trans hb2; have hsB := hB2.size) | (refine step_push _ rfl (.tmp 36) (.tmp 38) 34 rfl w.heap.size 3 i0 (.int .i64 0) 8 .i64 Try.underlying34 hi hz0 hz1 hz2 rfl (by omega) A1 0 c1 (zs.take 0) rfl (o1.mono (by simp)) (some ⟨w.heap.size, 0, none⟩) 1 1 [x] rfl (Ri.one ((hb1.cell (p := ⟨w.heap.size, 0, none⟩) (by simp)).trans (by simp))) (by omega) (by have := hb1.size; simp at this ⊢; omega) ?_; intro A2 c2 w2 ho2 hb2; have hB2 : Below w.heap.size w w2 := (((Below.refl _ _).drew.alloc (by simp) _).trans (hb1.mono (by simp))).trans hb2; have hsB := hB2.size) | (go_simp; go_at_call 70; refine (copyInts_any _ _ _ (zs.take 0) _ ?_ (by omega)).mono ?_; (first | exact hsub | exact Ri.drew hsub | exact Ri.alloc (Ri.drew hsub) _); rintro e w1 ⟨A1, c1, rfl, o1, hb1⟩; rw [hlen1.out] at o1; rw [hlen1.out]) | (refine step_push _ rfl (.tmp 39) (.tmp 42) 34 rfl w.heap.size 3 i0 (.int .i64 0) 8 .i64 Try.underlying34 hi hz0 hz1 hz2 rfl (by omega) A2 (0 + 1) c2 (zs.take 0 ++ [x]) rfl (ho2) (none) (0) _ (zs.drop 0) rfl (Ri.below hdr hB2 (Nat.le_refl _)) (by omega) (by omega) ?_; intro A3 c3 w3 ho3 hb3))
        all_goals (go_wp2; go_ret; exact ret_own (ho3.mono hbase) (hB2.trans hb3) hE.out)
      · have hA : A = some ⟨g, 0, none⟩ := by injection hv
        subst hA
        clear hv hg1
        by_cases hck : c = k
        · subst hck
          have hdr : Ri w .i64 (some ⟨g, 0, none⟩) 0 (zs.drop c) := by rw [hnil.out]; exact Ri.empty
          go_wp2
          go_region_law (first | (refine step_push _ rfl (.tmp 36) (.tmp 38) 34 rfl w.heap.size 3 i0 (.int .i64 0) 8 .i64 Try.underlying34 hi hz0 hz1 hz2 rfl (by omega) A1 c c1 (zs.take c) rfl ((o1.mono (Nat.le_refl _)).alloc _) (some ⟨w1.heap.size, 0, none⟩) 1 1 [x] rfl (Ri.one (by simp)) (by omega) (by have := hb1.size; simp at this ⊢; omega) ?_; intro A2 c2 w2 ho2 hb2; have hB2 : Below w.heap.size w w2 := (((Below.refl _ _).drew.trans hb1).alloc (by have := hb1.size; simp at this ⊢; omega) _).trans hb2; have hsB := hB2.size) | (refine step_push _ rfl (.tmp 36) (.tmp 38) 34 rfl w.heap.size 3 i0 (.int .i64 0) 8 .i64 Try.underlying34 hi hz0 hz1 hz2 rfl (by omega) A1 c c1 (zs.take c) rfl (o1.mono (by simp)) (some ⟨w.heap.size, 0, none⟩) 1 1 [x] rfl (Ri.one ((hb1.cell (p := ⟨w.heap.size, 0, none⟩) (by simp)).trans (by simp))) (by omega) (by have := hb1.size; simp at this ⊢; omega) ?_; intro A2 c2 w2 ho2 hb2; have hB2 : Below w.heap.size w w2 := (((Below.refl _ _).drew.alloc (by simp) _).trans (hb1.mono (by simp))).trans hb2; have hsB := hB2.size) | (go_simp; go_at_call 70; refine (copyInts_any _ _ _ (zs.take c) _ ?_ (by omega)).mono ?_; (first | exact hsub | exact Ri.drew hsub | exact Ri.alloc (Ri.drew hsub) _); rintro e w1 ⟨A1, c1, rfl, o1, hb1⟩; rw [hlen1.out] at o1; rw [hlen1.out]) | (refine step_push _ rfl (.tmp 39) (.tmp 42) 34 rfl w.heap.size 3 i0 (.int .i64 0) 8 .i64 Try.underlying34 hi hz0 hz1 hz2 rfl (by omega) A2 (c + 1) c2 (zs.take c ++ [x]) rfl (ho2) (some ⟨g, 0, none⟩) (0) _ (zs.drop c) rfl (Ri.below hdr hB2 (Nat.le_refl _)) (by omega) (by omega) ?_; intro A3 c3 w3 ho3 hb3))
          all_goals (go_wp2; go_ret; exact ret_own (ho3.mono hbase) (hB2.trans hb3) hE.out)
        · have hdr : Ri w .i64 (some ⟨g, k, none⟩) 0 (zs.drop k) := by rw [hnil.out]; exact Ri.empty
          go_wp2
          go_region_law (first | (refine step_push _ rfl (.tmp 36) (.tmp 38) 34 rfl w.heap.size 3 i0 (.int .i64 0) 8 .i64 Try.underlying34 hi hz0 hz1 hz2 rfl (by omega) A1 k c1 (zs.take k) rfl ((o1.mono (Nat.le_refl _)).alloc _) (some ⟨w1.heap.size, 0, none⟩) 1 1 [x] rfl (Ri.one (by simp)) (by omega) (by have := hb1.size; simp at this ⊢; omega) ?_; intro A2 c2 w2 ho2 hb2; have hB2 : Below w.heap.size w w2 := (((Below.refl _ _).drew.trans hb1).alloc (by have := hb1.size; simp at this ⊢; omega) _).trans hb2; have hsB := hB2.size) | (refine step_push _ rfl (.tmp 36) (.tmp 38) 34 rfl w.heap.size 3 i0 (.int .i64 0) 8 .i64 Try.underlying34 hi hz0 hz1 hz2 rfl (by omega) A1 k c1 (zs.take k) rfl (o1.mono (by simp)) (some ⟨w.heap.size, 0, none⟩) 1 1 [x] rfl (Ri.one ((hb1.cell (p := ⟨w.heap.size, 0, none⟩) (by simp)).trans (by simp))) (by omega) (by have := hb1.size; simp at this ⊢; omega) ?_; intro A2 c2 w2 ho2 hb2; have hB2 : Below w.heap.size w w2 := (((Below.refl _ _).drew.alloc (by simp) _).trans (hb1.mono (by simp))).trans hb2; have hsB := hB2.size) | (go_simp; go_at_call 70; refine (copyInts_any _ _ _ (zs.take k) _ ?_ (by omega)).mono ?_; (first | exact hsub | exact Ri.drew hsub | exact Ri.alloc (Ri.drew hsub) _); rintro e w1 ⟨A1, c1, rfl, o1, hb1⟩; rw [hlen1.out] at o1; rw [hlen1.out]) | (refine step_push _ rfl (.tmp 39) (.tmp 42) 34 rfl w.heap.size 3 i0 (.int .i64 0) 8 .i64 Try.underlying34 hi hz0 hz1 hz2 rfl (by omega) A2 (k + 1) c2 (zs.take k ++ [x]) rfl (ho2) (some ⟨g, k, none⟩) (0) _ (zs.drop k) rfl (Ri.below hdr hB2 (Nat.le_refl _)) (by omega) (by omega) ?_; intro A3 c3 w3 ho3 hb3))
          all_goals (go_wp2; go_ret; exact ret_own (ho3.mono hbase) (hB2.trans hb3) hE.out)
end Go.Proofs.Ytehfcejpoigclaa
