/- Contracts of the laws' own helpers on topologies: copy, size, compare. -/
import Derived.Test.YthigpjkdmlkjmaaRows
import Derived.Test.YthigpjkdmlkjmaaMem
import Derived.Test.YthigpjkdmlkjmaaTopoMem
import Derived.Deep.QuietTactic
import Derived.BigQuiet
import Derived.StillTailTactics
import Derived.WalkSmall
import Derived.Outline
namespace Go.Proofs.Ythigpjkdmlkjmaa
open Go.RowKit
set_option linter.unusedVariables false

theorem as_info : (Try.prog.info? 48).map (fun i => (i.zero, i.size, i.bytes)) = some (some (.agg #[.int .i64 0, .bool false, .int .i64 0]), 3, 24) := by kernel_rfl
theorem lk_info : (Try.prog.info? 55).map (fun i => (i.zero, i.size, i.bytes)) = some (some (.agg #[.int .i64 0, .int .i64 0, .int .i64 0, .int .i64 0, .int .i64 0]), 5, 40) := by kernel_rfl

set_option maxHeartbeats 400000 in
theorem toAS_any (x : As) (w : World) : Calls Try.prog 43 #[.agg #[.int .i64 x.isd, .bool x.core, .int .i64 x.key]] w fun e w' => e = .returned (.agg #[.int .i64 x.isd, .bool x.core, .int .i64 x.key]) ∧ Below w.heap.size w w' := by
  go_enter Try.func43, Try.ntmps43
  go_wp2
  exact bodyPost_ret (v := .agg #[.int .i64 x.isd, .bool x.core, .int .i64 x.key]) (by simp [results, Try.results43, go_sem]) rfl ⟨rfl, by repeat (first | exact Below.refl _ _ | exact Nat.le_refl _ | (refine Below.alloc ?_ (by simp; try omega) _))⟩

set_option maxHeartbeats 400000 in
theorem toLink_any (x : Lk) (w : World) : Calls Try.prog 44 #[.agg #[.int .i64 x.a, .int .i64 x.ai, .int .i64 x.b, .int .i64 x.bi, .int .i64 x.kind]] w fun e w' => e = .returned (.agg #[.int .i64 x.a, .int .i64 x.ai, .int .i64 x.b, .int .i64 x.bi, .int .i64 x.kind]) ∧ Below w.heap.size w w' := by
  go_enter Try.func44, Try.ntmps44
  go_wp2
  exact bodyPost_ret (v := .agg #[.int .i64 x.a, .int .i64 x.ai, .int .i64 x.b, .int .i64 x.bi, .int .i64 x.kind]) (by simp [results, Try.results44, go_sem]) rfl ⟨rfl, by repeat (first | exact Below.refl _ _ | exact Nat.le_refl _ | (refine Below.alloc ?_ (by simp; try omega) _))⟩

def ToAsRel (w : World) (n : Nat) (xs : List As) (i : Value) (wr : World) : Prop :=
  ∃ (k : Nat) (q : List Value), k ≤ n ∧ i = .int .i64 k ∧ q.length = (n - k) * 3 ∧ Ow wr w.heap.size 48 3 (some ⟨w.heap.size, 0, none⟩) n n ((xs.take k).flatMap As.cells ++ q) ∧ Below w.heap.size w wr
def RetAS (w : World) (xs : List As) (e : Ending) (w' : World) : Prop :=
  ∃ A c, e = .returned (.slice A xs.length c) ∧ Ow w' w.heap.size 48 3 A xs.length c (xs.flatMap As.cells) ∧ Below w.heap.size w w'
set_option maxHeartbeats 1000000 in
theorem toASS_any (A : Option Addr) (n c : Nat) (xs : List As) (w : World) (hr : Ra w A n xs) (hn : n ≤ 1048576) :
    Calls Try.prog 28 #[.slice A n c] w (RetAS w xs) := by
  have hl := Lib.hid hr.len
  obtain ⟨i0, hi, hz0, hz1, hz2⟩ := info_parts as_info
  have hb0 : i0.bytes * n ≤ 281474976710656 := by rw [hz2]; omega
  have HB := Lib.hid hb0
  clear hb0
  go_enter Try.func28, Try.ntmps28
  go_wp2_with (first
    | (at_make; refine wpList_make_full _ rfl _ _ 28 rfl w.heap.size 48 i0 _ 3 Try.underlying28 hi hz0 hz1 _ _ _ _ n rfl rfl (by omega) (by omega) HB.out (by simp only [maxLen]; omega) (Nat.le_refl _) ?_; intro w1 hown1 hg1))
  have hb1 : Below w.heap.size w w1 := (Below.refl _ _).grown hg1 (Nat.le_refl _) (by simp)
  have Ho := Lib.hid hown1
  clear hown1 hg1
  go_loopw [4] (ToAsRel w n xs) (fun i _ => n - (intOf i).toNat)
  case atStart => exact ⟨0, _, Nat.zero_le _, rfl, Ho.out.1, by simpa [Ow] using Ho.out, hb1⟩
  case round =>
    clear hb1 Ho
    obtain ⟨k, q, hk, rfl, hq, hown, hb⟩ := hrel
    have hs := hb.size
    by_cases hlt : k < n
    · have hr' := hr.below hb (Nat.le_refl _)
      obtain ⟨b, off, x, rfl, hx0, c0, c1, c2⟩ := hr'.get hlt
      have hx := Lib.hid hx0
      clear hx0
      obtain ⟨j, hj⟩ : ∃ j, n - k = j + 1 := ⟨n - k - 1, by omega⟩
      rw [hj] at hq
      obtain ⟨x0, x1, x2, q', rfl, hq'⟩ := three hq
      have hj2 : n - (k + 1) = j := by omega
      have HQ : Hid (q'.length = (n - (k + 1)) * 3) := Lib.hid (by rw [hj2]; exact hq')
      clear hq hq' hj hj2
      have hpl : Hid (((xs.take k).flatMap As.cells).length = k * 3) := Lib.hid (by rw [flat_len _ 3 as_cells, List.length_take, Nat.min_eq_left (by rw [hl.out]; omega)])
      have HO := Lib.hid hown
      clear hown
      go_wp2_with (first | (go_at_call 43; refine (toAS_any x _).mono ?_; rintro e w1 ⟨rfl, hb1⟩
                            have o0 := HO.out.below hb1 (Nat.le_refl _)
                            have hkn : k * 3 + 3 ≤ n * 3 := by have := Nat.mul_le_mul_right 3 (show k + 1 ≤ n by omega); omega
                            obtain ⟨⟨u0, hu0⟩, hf0, o1, g1⟩ := o0.set (j := k * 3) (by omega) (.int .i64 x.isd)
                            obtain ⟨⟨u1, hu1⟩, hf1, o2, g2⟩ := o1.set (j := k * 3 + 1) (by omega) (.bool x.core)
                            obtain ⟨⟨u2, hu2⟩, hf2, o3, g3⟩ := o2.set (j := k * 3 + 2) (by omega) (.int .i64 x.key)
                            have OE := Lib.hid o3
                            have G1 := Lib.hid g1
                            have G2 := Lib.hid g2
                            have G3 := Lib.hid g3
                            clear g1 g2 g3 hkn o0 o1 o2 o3))
      go_roundw
      case rel =>
        have ob := OE.out
        rw [set3 _ _ _ _ _ _ _ _ _ hpl.out] at ob
        refine ⟨k + 1, q', by omega, by go_num, HQ.out, ?_, ?_⟩
        · rw [flat_snoc As.cells hx.out, List.append_assoc]
          exact ob
        · have hb' := below_keep0 hb hb1
          exact (((hb'.setCell (Nat.le_refl _) _).setCell (Nat.le_refl _) _).setCell (Nat.le_refl _) _)
      case measure => simp [intOf]; omega
    · obtain rfl : k = n := by omega
      go_wp2
      go_ret
      have hq0 : q = [] := List.eq_nil_of_length_eq_zero (by rw [hq]; simp)
      subst hq0
      rw [List.append_nil, List.take_of_length_le (by rw [hl.out]; omega)] at hown
      have h := hl.out
      subst h
      exact ⟨_, _, rfl, hown, hb⟩

def ToLkRel (w : World) (n : Nat) (xs : List Lk) (i : Value) (wr : World) : Prop :=
  ∃ (k : Nat) (q : List Value), k ≤ n ∧ i = .int .i64 k ∧ q.length = (n - k) * 5 ∧ Ow wr w.heap.size 55 5 (some ⟨w.heap.size, 0, none⟩) n n ((xs.take k).flatMap Lk.cells ++ q) ∧ Below w.heap.size w wr
def RetLink (w : World) (xs : List Lk) (e : Ending) (w' : World) : Prop :=
  ∃ A c, e = .returned (.slice A xs.length c) ∧ Ow w' w.heap.size 55 5 A xs.length c (xs.flatMap Lk.cells) ∧ Below w.heap.size w w'
set_option maxHeartbeats 1000000 in
theorem toLinkS_any (A : Option Addr) (n c : Nat) (xs : List Lk) (w : World) (hr : Rl w A n xs) (hn : n ≤ 1048576) :
    Calls Try.prog 29 #[.slice A n c] w (RetLink w xs) := by
  have hl := Lib.hid hr.len
  obtain ⟨i0, hi, hz0, hz1, hz2⟩ := info_parts lk_info
  have hb0 : i0.bytes * n ≤ 281474976710656 := by rw [hz2]; omega
  have HB := Lib.hid hb0
  clear hb0
  go_enter Try.func29, Try.ntmps29
  go_wp2_with (first
    | (at_make; refine wpList_make_full _ rfl _ _ 29 rfl w.heap.size 55 i0 _ 5 Try.underlying29 hi hz0 hz1 _ _ _ _ n rfl rfl (by omega) (by omega) HB.out (by simp only [maxLen]; omega) (Nat.le_refl _) ?_; intro w1 hown1 hg1))
  have hb1 : Below w.heap.size w w1 := (Below.refl _ _).grown hg1 (Nat.le_refl _) (by simp)
  have Ho := Lib.hid hown1
  clear hown1 hg1
  go_loopw [4] (ToLkRel w n xs) (fun i _ => n - (intOf i).toNat)
  case atStart => exact ⟨0, _, Nat.zero_le _, rfl, Ho.out.1, by simpa [Ow] using Ho.out, hb1⟩
  case round =>
    clear hb1 Ho
    obtain ⟨k, q, hk, rfl, hq, hown, hb⟩ := hrel
    have hs := hb.size
    by_cases hlt : k < n
    · have hr' := hr.below hb (Nat.le_refl _)
      obtain ⟨b, off, x, rfl, hx0, c0, c1, c2, c3, c4⟩ := hr'.get hlt
      have hx := Lib.hid hx0
      clear hx0
      obtain ⟨j, hj⟩ : ∃ j, n - k = j + 1 := ⟨n - k - 1, by omega⟩
      rw [hj] at hq
      obtain ⟨x0, x1, x2, x3, x4, q', rfl, hq'⟩ := five hq
      have hj2 : n - (k + 1) = j := by omega
      have HQ : Hid (q'.length = (n - (k + 1)) * 5) := Lib.hid (by rw [hj2]; exact hq')
      clear hq hq' hj hj2
      have hpl : Hid (((xs.take k).flatMap Lk.cells).length = k * 5) := Lib.hid (by rw [flat_len _ 5 lk_cells, List.length_take, Nat.min_eq_left (by rw [hl.out]; omega)])
      have HO := Lib.hid hown
      clear hown
      go_wp2_with (first | (go_at_call 44; refine (toLink_any x _).mono ?_; rintro e w1 ⟨rfl, hb1⟩
                            have o0 := HO.out.below hb1 (Nat.le_refl _)
                            have hkn : k * 5 + 5 ≤ n * 5 := by have := Nat.mul_le_mul_right 5 (show k + 1 ≤ n by omega); omega
                            obtain ⟨⟨u0, hu0⟩, hf0, o1, g1⟩ := o0.set (j := k * 5) (by omega) (.int .i64 x.a)
                            obtain ⟨⟨u1, hu1⟩, hf1, o2, g2⟩ := o1.set (j := k * 5 + 1) (by omega) (.int .i64 x.ai)
                            obtain ⟨⟨u2, hu2⟩, hf2, o3, g3⟩ := o2.set (j := k * 5 + 2) (by omega) (.int .i64 x.b)
                            obtain ⟨⟨u3, hu3⟩, hf3, o4, g4⟩ := o3.set (j := k * 5 + 3) (by omega) (.int .i64 x.bi)
                            obtain ⟨⟨u4, hu4⟩, hf4, o5, g5⟩ := o4.set (j := k * 5 + 4) (by omega) (.int .i64 x.kind)
                            have OE := Lib.hid o5
                            have G1 := Lib.hid g1
                            have G2 := Lib.hid g2
                            have G3 := Lib.hid g3
                            have G4 := Lib.hid g4
                            have G5 := Lib.hid g5
                            clear g1 g2 g3 g4 g5 hkn o0 o1 o2 o3 o4 o5))
      go_roundw
      case rel =>
        have ob := OE.out
        rw [set5 _ _ _ _ _ _ _ _ _ _ _ _ _ hpl.out] at ob
        refine ⟨k + 1, q', by omega, by go_num, HQ.out, ?_, ?_⟩
        · rw [flat_snoc Lk.cells hx.out, List.append_assoc]
          exact ob
        · have hb' := below_keep0 hb hb1
          exact (((((hb'.setCell (Nat.le_refl _) _).setCell (Nat.le_refl _) _).setCell (Nat.le_refl _) _).setCell (Nat.le_refl _) _).setCell (Nat.le_refl _) _)
      case measure => simp [intOf]; omega
    · obtain rfl : k = n := by omega
      go_wp2
      go_ret
      have hq0 : q = [] := List.eq_nil_of_length_eq_zero (by rw [hq]; simp)
      subst hq0
      rw [List.append_nil, List.take_of_length_le (by rw [hl.out]; omega)] at hown
      have h := hl.out
      subst h
      exact ⟨_, _, rfl, hown, hb⟩

def RetTopo (w : World) (T : Tp) (n m : Nat) (e : Ending) (w' : World) : Prop :=
  ∃ A c L d, e = .returned (.agg #[.slice A n c, .slice L m d]) ∧ Ow w' w.heap.size 48 3 A n c (T.ases.flatMap As.cells) ∧ Ow w' w.heap.size 55 5 L m d (T.links.flatMap Lk.cells) ∧ Below w.heap.size w w'
theorem Ow.mono {w : World} {base base' : Nat} {E : TypeId} {size : Nat} {A : Option Addr} {n c : Nat} {cs : List Value} (h : Ow w base E size A n c cs) (hb : base' ≤ base) : Ow w base' E size A n c cs := by
  refine ⟨h.1, ?_⟩
  rcases h.2 with h2 | ⟨g, cap, cur, hv, hg, r⟩
  · exact .inl h2
  · exact .inr ⟨g, cap, cur, hv, by omega, r⟩
theorem Ow.setBelow {w : World} {base : Nat} {E : TypeId} {size : Nat} {A : Option Addr} {n c : Nat} {cs : List Value} (h : Ow w base E size A n c cs) {p : Addr} (hp : p.block < base) (u : Value) : Ow (w.setCell p u) base E size A n c cs := ownsRow_setCell_below h hp u
set_option maxHeartbeats 1000000 in
theorem toTopology_any (A : Option Addr) (n c : Nat) (L : Option Addr) (m d : Nat) (T : Tp) (w : World) (hT : Rt w A n L m T) (hn : n ≤ 1048576) (hm : m ≤ 1048576) :
    Calls Try.prog 11 #[.agg #[.slice A n c, .slice L m d]] w (RetTopo w T n m) := by
  have hl1 := Lib.hid hT.1.len
  have hl2 := Lib.hid hT.2.len
  go_enter Try.func11, Try.ntmps11
  go_wp2_with fail
  refine (toASS_any _ _ _ T.ases _ (((hT.1.alloc _).alloc _).alloc _) hn).mono ?_
  rintro e w1 ⟨A1, c1, rfl, o1, hb1⟩
  rw [hl1.out] at o1 ⊢
  have hl1s := Rl.below (((hT.2.alloc _).alloc _).alloc _) hb1 (Nat.le_refl _)
  obtain ⟨hc1, hf1⟩ := bcell hb1
  have hz1 : w.heap.size + 2 < w1.heap.size := by have := hb1.size; simp at this; omega
  have O1 := Lib.hid o1
  clear o1
  have hB1 : Below w.heap.size w w1 := ((((Below.refl _ _).alloc (Nat.le_refl _) _).alloc (by simp) _).alloc (by simp; omega) _).trans (hb1.mono (by simp; omega))
  have hB2 := hB1.setCell (p := ⟨w.heap.size + 1 + 1, 0, none⟩) (by simp; omega) (.slice A1 n c1)
  have HB2 := Lib.hid hB2
  clear hB2 hl1s
  go_wp2_with fail
  refine (toLinkS_any _ _ _ T.links _ (hT.2.below HB2.out (Nat.le_refl _)) hm).mono ?_
  rintro e w2 ⟨L2, d2, rfl, o2, hb2⟩
  rw [hl2.out] at o2 ⊢
  have hsz : (w1.setCell ⟨w.heap.size + 1 + 1, 0, none⟩ (.slice A1 n c1)).heap.size = w1.heap.size := by simp [World.setCell]
  have hc2 : ∀ b o, b < w1.heap.size → w2.cell? ⟨b, o, none⟩ = (w1.setCell ⟨w.heap.size + 1 + 1, 0, none⟩ (.slice A1 n c1)).cell? ⟨b, o, none⟩ := fun b o h => (bcell hb2).1 b o (by rw [hsz]; exact h)
  have hf2 : ∀ b o, b < w1.heap.size → w2.frozen? ⟨b, o, none⟩ = (w1.setCell ⟨w.heap.size + 1 + 1, 0, none⟩ (.slice A1 n c1)).frozen? ⟨b, o, none⟩ := fun b o h => (bcell hb2).2 b o (by rw [hsz]; exact h)
  have hz2 : w1.heap.size ≤ w2.heap.size := by have := hb2.size; rw [hsz] at this; exact this
  have hg : w1.grownBy (w1.setCell ⟨w.heap.size + 1 + 1, 0, none⟩ (.slice A1 n c1)) (some (w.heap.size + 1 + 1)) := ⟨rfl, rfl, rfl, by rw [hsz]; exact Nat.le_refl _, fun k _ hk => Below.heap_setCell _ _ _ _ (fun e => hk (by rw [e]))⟩
  have o1b := (O1.out.far hg (fun r hr g hA => by have h1 := (O1.out.block hA).1; simp at h1 hr; omega)).below hb2 (Nat.le_refl _)
  have q : ∀ o, w2.cell? ⟨w.heap.size + 1, o, none⟩ = w1.cell? ⟨w.heap.size + 1, o, none⟩ := fun o => by
    rw [hc2 _ _ (by omega)]
    exact World.cell?_of_block (Below.heap_setCell _ _ _ _ (by simp))
  have qf : ∀ o, w2.frozen? ⟨w.heap.size + 1, o, none⟩ = w1.frozen? ⟨w.heap.size + 1, o, none⟩ := fun o => by
    rw [hf2 _ _ (by omega)]
    exact World.frozen?_of_block (Below.heap_setCell _ _ _ _ (by simp))
  have q0 : w2.cell? ⟨w.heap.size + 1, 0, none⟩ = some (.slice none 0 0) := by rw [q, hc1 _ _ (by simp)]; go_simp
  have q1 : w2.cell? ⟨w.heap.size + 1, 1, none⟩ = some (.slice none 0 0) := by rw [q, hc1 _ _ (by simp)]; go_simp
  have qf0 : w2.frozen? ⟨w.heap.size + 1, 0, none⟩ = false := by rw [qf, hf1 _ _ (by simp)]; go_simp
  have qf1 : w2.frozen? ⟨w.heap.size + 1, 1, none⟩ = false := by rw [qf, hf1 _ _ (by simp)]; go_simp
  clear q qf
  have HG1 := Lib.hid o1b
  have HG2 := Lib.hid o2
  have HB3 := Lib.hid (HB2.out.trans (hb2.mono HB2.out.size))
  have hsz2 := Lib.hid hsz
  clear o1b o2 hb2 hg hsz hb1 O1 HB2 hB1
  go_wp2
  refine bodyPost_ret (v := .agg #[.slice A1 n c1, .slice L2 m d2]) (by simp [results, Try.results11, go_sem]; go_simp) rfl ?_
  have e1 := Ow.mono (base' := w.heap.size + 3) HG1.out (by simp)
  have e2 := Ow.mono (base' := w.heap.size + 3) HG2.out (by rw [hsz2.out]; omega)
  have f1 := (((e1.setBelow (p := ⟨w.heap.size + 1 + 1, 1, none⟩) (by simp) (.slice L2 m d2)).setBelow (p := ⟨w.heap.size + 1, 0, none⟩) (by simp) (.slice A1 n c1)).setBelow (p := ⟨w.heap.size + 1, 1, none⟩) (by simp) (.slice L2 m d2)).mono (base' := w.heap.size) (by omega)
  have f2 := (((e2.setBelow (p := ⟨w.heap.size + 1 + 1, 1, none⟩) (by simp) (.slice L2 m d2)).setBelow (p := ⟨w.heap.size + 1, 0, none⟩) (by simp) (.slice A1 n c1)).setBelow (p := ⟨w.heap.size + 1, 1, none⟩) (by simp) (.slice L2 m d2)).mono (base' := w.heap.size) (by omega)
  exact ⟨A1, c1, L2, d2, rfl, f1, f2, ((HB3.out.setCell (by simp; omega) _).setCell (by simp) _).setCell (by simp) _⟩
end Go.Proofs.Ythigpjkdmlkjmaa
