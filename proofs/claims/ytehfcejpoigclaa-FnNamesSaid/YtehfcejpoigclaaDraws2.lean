/- More contracts of the functions that draw a topology and what goes with it. -/
import Derived.Test.YtehfcejpoigclaaRows
import Derived.Test.YtehfcejpoigclaaMem
import Derived.Test.YtehfcejpoigclaaTopoMem
import Derived.Test.YtehfcejpoigclaaTopoPure
import Derived.Test.YtehfcejpoigclaaDrawPure
import Derived.Test.YtehfcejpoigclaaBox
import Derived.Test.YtehfcejpoigclaaAdd
import Derived.Test.YtehfcejpoigclaaDrawT
import Derived.Test.YtehfcejpoigclaaAnyT
import Derived.Test.YtehfcejpoigclaaName1
import Derived.Test.YtehfcejpoigclaaDraws
import Derived.Deep.QuietTactic
import Derived.BigQuiet
import Derived.WalkSmall
import Derived.Deep.RegionHeld3
import Derived.Deep.RegionLaw
import Derived.StillTailTactics
import Derived.Outline
namespace Go.Proofs.Ytehfcejpoigclaa
open Go.RowKit
set_option linter.unusedVariables false

set_option maxHeartbeats 2000000 in
set_option maxRecDepth 100000 in
theorem drRem_s (A0 : Option Addr) (n0 c0' : Nat) (bs : List Int) (w : World) (h8 : Code8 w A0 n0 bs) : Calls Try.prog 18 #[.slice A0 n0 c0'] w (NewT2 w) := by
  obtain ⟨w1, hw1⟩ : ∃ y_, y_ = w.alloc (.cells #[.slice none 0 0, .slice none 0 0] 27) := ⟨_, rfl⟩
  have hb0 : Below w.heap.size w w1 := by rw [hw1]; exact (Below.refl _ _).alloc (Nat.le_refl _) _
  have hs1 : w1.heap.size = w.heap.size + 1 := by rw [hw1]; simp
  have hq1 : Qb w1 w.heap.size := by rw [hw1]; exact heap_new w _
  have h81 := h8.below hb0
  have Hw1 := Lib.hid hw1
  have Hs1 := Lib.hid hs1
  have hs1' : w.heap.size < w1.heap.size := by omega
  clear hw1 hs1 h8
  go_enter Try.func18, Try.ntmps18
  go_wp2_with fail
  rw [← Hw1.out]
  refine (door5_s _ _ _ bs _ h81).mono ?_
  rintro e w3 ⟨A, n, c, L, m, d, T, x, y, rfl, ht, hy, hb⟩
  have hq3 := hq1.below hb (by omega)
  have hB3 := hb0.trans (hb.mono (Nat.le_of_lt hs1'))
  obtain ⟨⟨q0, q1⟩, qf0, qf1⟩ := hq3.cells
  go_wp2
  refine bodyPost_ret (v := .tuple #[.agg #[.slice A n c, .slice L m d], .int .i64 x, .int .i64 y]) (by simp [results, Try.results18, go_sem]; go_simp) rfl ?_
  exact ⟨A, n, c, L, m, d, T, x, y, rfl, ((ht.far (grown_setC w3 w.heap.size 0 _) (by omega)).far (grown_setC _ w.heap.size 1 _) (by omega)).mono (by omega), hy, (hB3.setCell (by simp) _).setCell (by simp) _⟩
set_option maxHeartbeats 2000000 in
set_option maxRecDepth 100000 in
theorem drFIf_s (A0 : Option Addr) (n0 c0' : Nat) (bs : List Int) (w : World) (h8 : Code8 w A0 n0 bs) : Calls Try.prog 31 #[.slice A0 n0 c0'] w (NewT2 w) := by
  obtain ⟨w1, hw1⟩ : ∃ y_, y_ = w.alloc (.cells #[.slice none 0 0, .slice none 0 0] 27) := ⟨_, rfl⟩
  have hb0 : Below w.heap.size w w1 := by rw [hw1]; exact (Below.refl _ _).alloc (Nat.le_refl _) _
  have hs1 : w1.heap.size = w.heap.size + 1 := by rw [hw1]; simp
  have hq1 : Qb w1 w.heap.size := by rw [hw1]; exact heap_new w _
  have h81 := h8.below hb0
  have Hw1 := Lib.hid hw1
  have Hs1 := Lib.hid hs1
  have hs1' : w.heap.size < w1.heap.size := by omega
  clear hw1 hs1 h8
  go_enter Try.func31, Try.ntmps31
  go_wp2_with fail
  rw [← Hw1.out]
  refine (door5_s _ _ _ bs _ h81).mono ?_
  rintro e w3 ⟨A, n, c, L, m, d, T, x, y, rfl, ht, hy, hb⟩
  have hq3 := hq1.below hb (by omega)
  have hB3 := hb0.trans (hb.mono (Nat.le_of_lt hs1'))
  obtain ⟨⟨q0, q1⟩, qf0, qf1⟩ := hq3.cells
  go_wp2
  refine bodyPost_ret (v := .tuple #[.agg #[.slice A n c, .slice L m d], .int .i64 x, .int .i64 y]) (by simp [results, Try.results31, go_sem]; go_simp) rfl ?_
  exact ⟨A, n, c, L, m, d, T, x, y, rfl, ((ht.far (grown_setC w3 w.heap.size 0 _) (by omega)).far (grown_setC _ w.heap.size 1 _) (by omega)).mono (by omega), hy, (hB3.setCell (by simp) _).setCell (by simp) _⟩
set_option maxHeartbeats 1000000 in
theorem str_s (g : Nat) (A : Option Addr) (n c : Nat) (vs : List ByteArray) (w : World) (hq : Cu w 70 g) (hr : Rd w 1 A n (vs.map Value.string)) (h0 : 0 < n) (h1 : n ≤ 1000) (hne : ∀ b off, A = some ⟨b, off, none⟩ → b ≠ g) : Calls Try.prog 61 #[.pointer (some ⟨g, 0, none⟩), .slice A n c] w (fun e w' => ∃ s : ByteArray, e = .returned (.string s) ∧ Dr 70 g w w') := by
  have Hne := Lib.hid hne
  clear hne
  go_enter Try.func61, Try.ntmps61
  go_wp2_with fail
  refine (below_s _ _ _ hq (by omega)).mono ?_
  rintro e w1 ⟨x, hx0, hx1, rfl, hd1⟩
  obtain ⟨k, rfl⟩ := Int.eq_ofNat_of_zero_le hx0
  have hk : k < n := by omega
  have hl : vs.length = n := by have := hr.1; simpa using this
  have hr1 := Rd.grown hr hd1.1 (fun b off e he => Hne.out b off e (by injection he))
  obtain ⟨b, off, rfl, _, hc⟩ := hr1.get (j := k) (u := .string (vs[k]'(by omega))) (by rw [List.getElem?_map, List.getElem?_eq_getElem (by omega)]; rfl)
  clear hr hr1
  have hx2 : (k : Int) < (n : Int) := by omega
  generalize vs[k]'(by omega) = sk at hc
  clear hl
  go_wp2
  go_ret
  exact ⟨sk, rfl, hd1⟩
theorem Rd.litS {w : World} {vs : List ByteArray} {E : TypeId} : Rd (w.alloc (.cells (vs.map Value.string).toArray E)) 1 (some ⟨w.heap.size, 0, none⟩) vs.length (vs.map Value.string) := by
  refine ⟨by simp, fun _ => ⟨w.heap.size, 0, rfl, by simp, fun j u hu => ?_⟩⟩
  have e := heap_new w (.cells (vs.map Value.string).toArray E)
  unfold World.cell?
  simp only [e, Nat.zero_add]
  simpa using hu
set_option maxHeartbeats 2000000 in
set_option maxRecDepth 100000 in
theorem drPar_s (A0 : Option Addr) (n0 c0' : Nat) (bs : List Int) (w : World) (h8 : Code8 w A0 n0 bs) : Calls Try.prog 28 #[.slice A0 n0 c0'] w (NewTS w) := by
  obtain ⟨w1, hw1⟩ : ∃ y_, y_ = w.alloc (.cells #[.slice none 0 0, .slice none 0 0] 27) := ⟨_, rfl⟩
  have hb0 : Below w.heap.size w w1 := by rw [hw1]; exact (Below.refl _ _).alloc (Nat.le_refl _) _
  have hs1 : w1.heap.size = w.heap.size + 1 := by rw [hw1]; simp
  have hq1 : Qb w1 w.heap.size := by rw [hw1]; exact heap_new w _
  have h81 := h8.below hb0
  have Hw1 := Lib.hid hw1
  have Hs1 := Lib.hid hs1
  have hs1' : w.heap.size < w1.heap.size := by omega
  clear hw1 hs1 h8
  go_enter Try.func28, Try.ntmps28
  go_wp2_with fail
  rw [← Hw1.out]
  refine (new_s _ _ _ bs _ h81).mono ?_
  rintro e w2 ⟨g, hg, rfl, hq, hb⟩
  go_wp2_with fail
  refine (any_s _ _ hq).mono ?_
  rintro e w3 ⟨A, n, c, L, m, d, T, rfl, ht, hd⟩
  have hP := pb_start Hw1.out hg hq hb ht hd
  clear hb hq hd ht h81 hq1 hb0
  have hgq := hP.hg
  go_wp2_with fail
  generalize w3.alloc _ = w4 at hP ⊢
  generalize w3.heap.size = p at hP ⊢
  have hpp := hP.gp
  have hpq : w.heap.size < p := by omega
  have hpq1 : ¬ w.heap.size = p := by omega
  have hpq2 : ¬ p = w.heap.size := by omega
  have hm30 := hP.tp.2.2.2.2.1
  refine (once_s _ _ _ hP.cu (by omega)).mono ?_
  rintro e w5 ⟨bb, rfl, hd⟩
  replace hP := hP.draw hd
  clear hd
  have hPd := hP.drew
  obtain ⟨z0, z1⟩ := hP.cells; obtain ⟨⟨zq0, zq1⟩, zf0, zf1⟩ := hP.qb.cells
  have pl5 := hP.size
  have n1 := World.new_ne w5 _ z0
  have n2 := World.new_ne w5 _ z1
  rcases Bool.eq_false_or_eq_true bb with rfl | rfl
  · go_wp2_with fail
    go_region_held3 (fun w' => w'.cell? ⟨p, 0, none⟩ = some (.slice A n c) ∧ w'.cell? ⟨p, 1, none⟩ = some (.slice L m d)) (first | exact ⟨x0, x1⟩ | exact ⟨z0, z1⟩ | exact (hPd.alloc _).cells | go_keep) (first | (go_at_call 61; refine (str_s _ _ _ _ [⟨#[]⟩, ⟨#[48, 45, 48]⟩, ⟨#[49, 45, 48]⟩, ⟨#[48, 45, 48, 48]⟩, ⟨#[48]⟩, ⟨#[45]⟩, ⟨#[63]⟩] _ (hPd.alloc _).cu (Rd.litS (vs := [⟨#[]⟩, ⟨#[48, 45, 48]⟩, ⟨#[49, 45, 48]⟩, ⟨#[48, 45, 48, 48]⟩, ⟨#[48]⟩, ⟨#[45]⟩, ⟨#[63]⟩])) (by simp) (by simp) (fun b off e => by injection e with e; injection e with e; have := hP.cu.lt; simp at *; omega)).mono ?_; rintro e xw ⟨s, rfl, xd⟩; have hPx := (hPd.alloc _).draw xd; obtain ⟨x0, x1⟩ := hPx.cells; obtain ⟨⟨xq0, xq1⟩, xf0, xf1⟩ := hPx.qb.cells))
    go_wp2
    refine bodyPost_ret (v := .tuple #[.agg #[.slice A n c, .slice L m d], .string s]) (by simp [results, Try.results28, go_sem]; go_simp) rfl ?_
    exact ⟨A, n, c, L, m, d, T, s, rfl, (hPx.fin _ _).1, (hPx.fin _ _).2⟩
  · have hn8 := hP.tp.2.2.2.1
    have hwf := Lib.hid hP.tp.2.2.2.2.2.1.1
    go_wp2_with fail
    go_region_held3 (fun w' => w'.cell? ⟨p, 0, none⟩ = some (.slice A n c) ∧ w'.cell? ⟨p, 1, none⟩ = some (.slice L m d)) (first | exact ⟨y0, y1⟩ | exact ⟨x0, x1⟩ | exact ⟨z0, z1⟩ | go_keep) (first | (have _hX := xd; go_at_call 35; refine (fmtAS_s _ _ _ _ _ _ T.ases _ _ hPx.tp.1.1 (by omega) hwf.out).mono ?_; rintro e yw ⟨rfl, yb⟩; have hPy := hPx.below yb; obtain ⟨y0, y1⟩ := hPy.cells; obtain ⟨⟨yq0, yq1⟩, yf0, yf1⟩ := hPy.qb.cells) | (go_at_call 48; refine (below_s _ _ _ hPd.cu (by omega)).mono ?_; rintro e xw ⟨x, xlo, xhi, rfl, xd⟩; have hPx := hPd.draw xd; obtain ⟨x0, x1⟩ := hPx.cells; obtain ⟨⟨xq0, xq1⟩, xf0, xf1⟩ := hPx.qb.cells; have xe : IntKind.i64.wrap (x - 1) = x - 1 := IntWalk.i64_in _ (by omega)))
    go_wp2
    refine bodyPost_ret (v := .tuple #[.agg #[.slice A n c, .slice L m d], .string (strOfNums (asT T.ases x))]) (by simp [results, Try.results28, go_sem]; go_simp) rfl ?_
    exact ⟨A, n, c, L, m, d, T, _, rfl, (hPy.fin _ _).1, (hPy.fin _ _).2⟩
end Go.Proofs.Ytehfcejpoigclaa
