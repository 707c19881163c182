/- Contracts of the functions that draw a topology and what goes with it. -/
import Derived.Test.YtehfcejpoigclaaRows
import Derived.Test.YtehfcejpoigclaaMem
import Derived.Test.YtehfcejpoigclaaTopoMem
import Derived.Test.YtehfcejpoigclaaTopoPure
import Derived.Test.YtehfcejpoigclaaDrawPure
import Derived.Test.YtehfcejpoigclaaBox
import Derived.Test.YtehfcejpoigclaaAdd
import Derived.Test.YtehfcejpoigclaaDrawT
import Derived.Test.YtehfcejpoigclaaAnyT
import Derived.Test.YtehfcejpoigclaaName1
import Derived.Deep.QuietTactic
import Derived.BigQuiet
import Derived.WalkSmall
import Derived.Deep.RegionHeld3
import Derived.Deep.RegionLaw
import Derived.StillTailTactics
import Derived.Outline
namespace Go.Proofs.Ytehfcejpoigclaa
open Go.RowKit
set_option linter.unusedVariables false

/-- A drawn topology, and nothing that was there has turned. -/
def NewT (w : World) (V : Tp → Prop) (e : Ending) (w' : World) : Prop :=
  ∃ (A : Option Addr) (n c : Nat) (L : Option Addr) (m d : Nat) (T : Tp), e = .returned (.agg #[.slice A n c, .slice L m d]) ∧ TopR w.heap.size w' A n c L m d T ∧ V T ∧ Below w.heap.size w w'
def NewT1 (w : World) (e : Ending) (w' : World) : Prop :=
  ∃ (A : Option Addr) (n c : Nat) (L : Option Addr) (m d : Nat) (T : Tp) (x : Int), e = .returned (.tuple #[.agg #[.slice A n c, .slice L m d], .int .i64 x]) ∧ TopR w.heap.size w' A n c L m d T ∧ I64 x ∧ Below w.heap.size w w'
def NewT2 (w : World) (e : Ending) (w' : World) : Prop :=
  ∃ (A : Option Addr) (n c : Nat) (L : Option Addr) (m d : Nat) (T : Tp) (x y : Int), e = .returned (.tuple #[.agg #[.slice A n c, .slice L m d], .int .i64 x, .int .i64 y]) ∧ TopR w.heap.size w' A n c L m d T ∧ I64 y ∧ Below w.heap.size w w'
def NewTS (w : World) (e : Ending) (w' : World) : Prop :=
  ∃ (A : Option Addr) (n c : Nat) (L : Option Addr) (m d : Nat) (T : Tp) (s : ByteArray), e = .returned (.tuple #[.agg #[.slice A n c, .slice L m d], .string s]) ∧ TopR w.heap.size w' A n c L m d T ∧ Below w.heap.size w w'
/-- The state behind l5Any: the result's box in the first block, the cursor in g, the topology's box in p. -/
structure Pb (g : Nat) (w wr : World) (p B : Nat) (A : Option Addr) (n c : Nat) (L : Option Addr) (m d : Nat) (T : Tp) : Prop where
  box : wr.heap[p]? = some (.cells #[.slice A n c, .slice L m d] 27 (0, 0))
  tp : TopR B wr A n c L m d T
  qb : Qb wr w.heap.size
  bel : Below w.heap.size w wr
  cu : Cu wr 70 g
  hg : w.heap.size < g
  gB : g < B
  gp : g < p
section
variable {g : Nat} {w wr w1 : World} {p B n c m d : Nat} {A L : Option Addr} {T : Tp}
theorem Pb.size (h : Pb g w wr p B A n c L m d T) : p < wr.heap.size := (Array.getElem?_eq_some_iff.1 h.box).1
theorem Pb.cells (h : Pb g w wr p B A n c L m d T) : wr.cell? ⟨p, 0, none⟩ = some (.slice A n c) ∧ wr.cell? ⟨p, 1, none⟩ = some (.slice L m d) := by
  have e := h.box
  refine ⟨?_, ?_⟩ <;> simp [World.cell?, e]
theorem Pb.draw (h : Pb g w wr p B A n c L m d T) (hd : Dr 70 g wr w1) : Pb g w w1 p B A n c L m d T :=
  ⟨(hd.1.block _ h.size (fun e => by have := h.gp; injection e with e; omega)).trans h.box, h.tp.far hd.1 h.gB, (hd.1.block _ h.qb.lt (fun e => by have := h.hg; injection e with e; omega)).trans h.qb,
    h.bel.trans (hd.below (Nat.le_of_lt h.hg) h.bel.size), hd.2, h.hg, h.gB, h.gp⟩
theorem Pb.below (h : Pb g w wr p B A n c L m d T) (hb : Below wr.heap.size wr w1) : Pb g w w1 p B A n c L m d T :=
  ⟨(hb.block _ h.size).trans h.box, h.tp.below hb, h.qb.below hb h.qb.lt, h.bel.trans (hb.mono h.bel.size), h.cu.below hb, h.hg, h.gB, h.gp⟩
theorem Pb.drew (h : Pb g w wr p B A n c L m d T) : Pb g w wr.drew p B A n c L m d T := h.below (Below.refl _ _).drew
theorem Pb.drewN (h : Pb g w wr p B A n c L m d T) (k : Nat) : Pb g w (wr.drewN k) p B A n c L m d T := ⟨h.box, ⟨⟨h.tp.1.1, h.tp.1.2⟩, h.tp.2⟩, h.qb, ⟨h.bel.os, h.bel.tape, h.bel.output, h.bel.size, h.bel.block⟩, h.cu.drewN k, h.hg, h.gB, h.gp⟩
theorem Pb.alloc (h : Pb g w wr p B A n c L m d T) (o : Obj) : Pb g w (wr.alloc o) p B A n c L m d T := h.below ((Below.refl _ _).alloc (Nat.le_refl _) o)
theorem pb_start {w1 w2 w3 : World} (hw1 : w1 = w.alloc (.cells #[.slice none 0 0, .slice none 0 0] 27)) (hg : w1.heap.size ≤ g) (hq : Cu w2 70 g) (hb : Below w1.heap.size w1 w2) (ht : TopR w2.heap.size w3 A n c L m d T) (hd : Dr 70 g w2 w3) :
    Pb g w (w3.alloc (.cells #[.slice A n c, .slice L m d] 27)) w3.heap.size w2.heap.size A n c L m d T := by
  have hs1 : w1.heap.size = w.heap.size + 1 := by rw [hw1]; simp
  have hgl := hq.lt
  have hs3 := hd.size
  have hq1 : Qb w1 w.heap.size := by rw [hw1]; exact heap_new w _
  have hB1 : Below w.heap.size w w1 := by rw [hw1]; exact (Below.refl _ _).alloc (Nat.le_refl _) _
  have hq2 := hq1.below hb (by omega)
  have hq3 : Qb w3 w.heap.size := (hd.1.block _ hq2.lt (fun e => by injection e with e; omega)).trans hq2
  have hB2 := hB1.trans (hb.mono (by omega))
  have hB3 := hB2.trans (hd.below (base := w.heap.size) (by omega) (by omega))
  exact ⟨heap_new w3 _, ht.below ((Below.refl _ _).alloc (Nat.le_refl _) _), (Below.heap_alloc _ _ _ hq3.lt).trans hq3, hB3.alloc (by omega) _, hd.2.alloc _, by omega, by omega, by omega⟩
theorem Pb.fin (h : Pb g w wr p B A n c L m d T) (v0 v1 : Value) : TopR w.heap.size ((wr.setCell ⟨w.heap.size, 0, none⟩ v0).setCell ⟨w.heap.size, 1, none⟩ v1) A n c L m d T ∧ Below w.heap.size w ((wr.setCell ⟨w.heap.size, 0, none⟩ v0).setCell ⟨w.heap.size, 1, none⟩ v1) := by
  have h1 := h.hg
  have h2 := h.gB
  exact ⟨((h.tp.far (grown_setC wr w.heap.size 0 v0) (by omega)).far (grown_setC _ w.heap.size 1 v1) (by omega)).mono (by omega), (h.bel.setCell (by simp) v0).setCell (by simp) v1⟩
end
set_option maxHeartbeats 2000000 in
set_option maxRecDepth 100000 in
theorem drVal_s (A0 : Option Addr) (n0 c0' : Nat) (bs : List Int) (w : World) (h8 : Code8 w A0 n0 bs) : Calls Try.prog 21 #[.slice A0 n0 c0'] w (NewT w (fun _ => True)) := by
  obtain ⟨w1, hw1⟩ : ∃ y_, y_ = w.alloc (.cells #[.slice none 0 0, .slice none 0 0] 27) := ⟨_, rfl⟩
  have hb0 : Below w.heap.size w w1 := by rw [hw1]; exact (Below.refl _ _).alloc (Nat.le_refl _) _
  have hs1 : w1.heap.size = w.heap.size + 1 := by rw [hw1]; simp
  have hq1 : Qb w1 w.heap.size := by rw [hw1]; exact heap_new w _
  have h81 := h8.below hb0
  have Hw1 := Lib.hid hw1
  have Hs1 := Lib.hid hs1
  have hs1' : w.heap.size < w1.heap.size := by omega
  clear hw1 hs1 h8
  go_enter Try.func21, Try.ntmps21
  go_wp2_with fail
  rw [← Hw1.out]
  refine (new_s _ _ _ bs _ h81).mono ?_
  rintro e w2 ⟨g, hg, rfl, hq, hb⟩
  go_wp2_with fail
  refine (any_s _ _ hq).mono ?_
  rintro e w3 ⟨A, n, c, L, m, d, T, rfl, ht, hd⟩
  have hq2 := hq1.below hb (by omega)
  have hq3 : Qb w3 w.heap.size := (hd.1.block _ hq2.lt (fun e => by injection e with e; omega)).trans hq2
  have hB3 := (hb0.trans (hb.mono (Nat.le_of_lt hs1'))).trans (hd.below (base := w.heap.size) (by omega) (by have := hb.size; omega))
  have hgl := hq.lt
  obtain ⟨⟨q0, q1⟩, qf0, qf1⟩ := hq3.cells
  go_wp2
  refine bodyPost_ret (v := .agg #[.slice A n c, .slice L m d]) (by simp [results, Try.results21, go_sem]; go_simp) rfl ?_
  exact ⟨A, n, c, L, m, d, T, rfl, ((ht.far (grown_setC w3 w.heap.size 0 _) (by omega)).far (grown_setC _ w.heap.size 1 _) (by omega)).mono (by omega), trivial, (hB3.setCell (by simp) _).setCell (by simp) _⟩
theorem top_of {g : Nat} {w w' : World} {V : Tp → Prop} {A L : Option Addr} {n c m d N : Nat} {T : Tp} (hn : n ≤ 8) (hm : m ≤ 24) (hA : Ow w' w.heap.size 58 3 A n c (T.ases.flatMap As.cells)) (hL : Ow w' N 42 5 L m d (T.links.flatMap Lk.cells)) (h1 : w.heap.size ≤ N) (hw : WfT T) : TopR w.heap.size w' A n c L m d T :=
  ⟨⟨hA.rd, hL.rd⟩, hA.leC, hL.leC, hn, by omega, hw, fun b off e => (hA.block e).1, fun b off e => Nat.le_trans h1 (hL.block e).1⟩
set_option maxHeartbeats 2000000 in
set_option maxRecDepth 100000 in
theorem drTop_s (A0 : Option Addr) (n0 c0' : Nat) (bs : List Int) (w : World) (h8 : Code8 w A0 n0 bs) : Calls Try.prog 7 #[.slice A0 n0 c0'] w (NewT w Vld) := by
  obtain ⟨w1, hw1⟩ : ∃ y_, y_ = w.alloc (.cells #[.slice none 0 0, .slice none 0 0] 27) := ⟨_, rfl⟩
  have hb0 : Below w.heap.size w w1 := by rw [hw1]; exact (Below.refl _ _).alloc (Nat.le_refl _) _
  have hs1 : w1.heap.size = w.heap.size + 1 := by rw [hw1]; simp
  have hq1 : Qb w1 w.heap.size := by rw [hw1]; exact heap_new w _
  have h81 := h8.below hb0
  have Hw1 := Lib.hid hw1
  have Hs1 := Lib.hid hs1
  have hs1' : w.heap.size < w1.heap.size := by omega
  clear hw1 hs1 h8
  go_enter Try.func7, Try.ntmps7
  go_wp2_with fail
  rw [← Hw1.out]
  refine (new_s _ _ _ bs _ h81).mono ?_
  rintro e w2 ⟨g, hg, rfl, hq, hb⟩
  go_wp2_with fail
  refine (draw_s _ _ hq).mono ?_
  rintro e w3 ⟨A, n, c, L, m, d, T, N, rfl, hV, hn8, hm24, hA, hL, hlo, h1, h2, hd⟩
  have ht := top_of (g := g) (V := Vld) hn8 hm24 hA hL h1 (Vld.wf hV)
  have hq2 := hq1.below hb (by omega)
  have hq3 : Qb w3 w.heap.size := (hd.1.block _ hq2.lt (fun e => by injection e with e; omega)).trans hq2
  have hB3 := (hb0.trans (hb.mono (Nat.le_of_lt hs1'))).trans (hd.below (base := w.heap.size) (by omega) (by have := hb.size; omega))
  have hgl := hq.lt
  obtain ⟨⟨q0, q1⟩, qf0, qf1⟩ := hq3.cells
  go_wp2
  refine bodyPost_ret (v := .agg #[.slice A n c, .slice L m d]) (by simp [results, Try.results7, go_sem]; go_simp) rfl ?_
  exact ⟨A, n, c, L, m, d, T, rfl, ((ht.far (grown_setC w3 w.heap.size 0 _) (by omega)).far (grown_setC _ w.heap.size 1 _) (by omega)).mono (by omega), hV, (hB3.setCell (by simp) _).setCell (by simp) _⟩
set_option maxHeartbeats 2000000 in
set_option maxRecDepth 100000 in
theorem one5_s (A0 : Option Addr) (n0 c0' : Nat) (bs : List Int) (w : World) (h8 : Code8 w A0 n0 bs) : Calls Try.prog 46 #[.slice A0 n0 c0'] w (NewT1 w) := by
  obtain ⟨w1, hw1⟩ : ∃ y_, y_ = w.alloc (.cells #[.slice none 0 0, .slice none 0 0] 27) := ⟨_, rfl⟩
  have hb0 : Below w.heap.size w w1 := by rw [hw1]; exact (Below.refl _ _).alloc (Nat.le_refl _) _
  have hs1 : w1.heap.size = w.heap.size + 1 := by rw [hw1]; simp
  have hq1 : Qb w1 w.heap.size := by rw [hw1]; exact heap_new w _
  have h81 := h8.below hb0
  have Hw1 := Lib.hid hw1
  have Hs1 := Lib.hid hs1
  have hs1' : w.heap.size < w1.heap.size := by omega
  clear hw1 hs1 h8
  go_enter Try.func46, Try.ntmps46
  go_wp2_with fail
  rw [← Hw1.out]
  refine (new_s _ _ _ bs _ h81).mono ?_
  rintro e w2 ⟨g, hg, rfl, hq, hb⟩
  go_wp2_with fail
  refine (any_s _ _ hq).mono ?_
  rintro e w3 ⟨A, n, c, L, m, d, T, rfl, ht, hd⟩
  have hP := pb_start Hw1.out hg hq hb ht hd
  clear hb hq hd ht h81 hq1 hb0
  have hgq := hP.hg
  go_wp2_with fail
  generalize w3.alloc _ = w4 at hP ⊢
  generalize w3.heap.size = p at hP ⊢
  have hpp := hP.gp
  have hpq : w.heap.size < p := by omega
  have hpq1 : ¬ w.heap.size = p := by omega
  have hpq2 : ¬ p = w.heap.size := by omega
  have hm30 := hP.tp.2.2.2.2.1
  have hPd := hP.drew
  obtain ⟨z0, z1⟩ := hP.cells; obtain ⟨⟨zq0, zq1⟩, zf0, zf1⟩ := hP.qb.cells
  go_region_held3 (fun w' => w'.cell? ⟨p, 0, none⟩ = some (.slice A n c) ∧ w'.cell? ⟨p, 1, none⟩ = some (.slice L m d)) (first | exact ⟨x0, x1⟩ | exact ⟨z0, z1⟩ | go_keep) (first | (go_at_call 48; refine (below_s _ _ _ hPd.cu (by omega)).mono ?_; rintro e xw ⟨x, xlo, xhi, rfl, xd⟩; have hPx := hPd.draw xd; obtain ⟨x0, x1⟩ := hPx.cells; obtain ⟨⟨xq0, xq1⟩, xf0, xf1⟩ := hPx.qb.cells; have xe : IntKind.i64.wrap (x - 1) = x - 1 := IntWalk.i64_in _ (by omega)))
  go_wp2
  refine bodyPost_ret (v := .tuple #[.agg #[.slice A n c, .slice L m d], .int .i64 (x - 1)]) (by simp [results, Try.results46, go_sem]; go_simp) rfl ?_
  exact ⟨A, n, c, L, m, d, T, x - 1, rfl, (hPx.fin _ _).1, by unfold I64; omega, (hPx.fin _ _).2⟩
set_option maxHeartbeats 2000000 in
set_option maxRecDepth 100000 in
theorem drIfs_s (A0 : Option Addr) (n0 c0' : Nat) (bs : List Int) (w : World) (h8 : Code8 w A0 n0 bs) : Calls Try.prog 8 #[.slice A0 n0 c0'] w (NewT1 w) := by
  obtain ⟨w1, hw1⟩ : ∃ y_, y_ = w.alloc (.cells #[.slice none 0 0, .slice none 0 0] 27) := ⟨_, rfl⟩
  have hb0 : Below w.heap.size w w1 := by rw [hw1]; exact (Below.refl _ _).alloc (Nat.le_refl _) _
  have hs1 : w1.heap.size = w.heap.size + 1 := by rw [hw1]; simp
  have hq1 : Qb w1 w.heap.size := by rw [hw1]; exact heap_new w _
  have h81 := h8.below hb0
  have Hw1 := Lib.hid hw1
  have Hs1 := Lib.hid hs1
  have hs1' : w.heap.size < w1.heap.size := by omega
  clear hw1 hs1 h8
  go_enter Try.func8, Try.ntmps8
  go_wp2_with fail
  rw [← Hw1.out]
  refine (one5_s _ _ _ bs _ h81).mono ?_
  rintro e w3 ⟨A, n, c, L, m, d, T, x, rfl, ht, hx, hb⟩
  have hq3 := hq1.below hb (by omega)
  have hB3 := hb0.trans (hb.mono (Nat.le_of_lt hs1'))
  obtain ⟨⟨q0, q1⟩, qf0, qf1⟩ := hq3.cells
  go_wp2
  refine bodyPost_ret (v := .tuple #[.agg #[.slice A n c, .slice L m d], .int .i64 x]) (by simp [results, Try.results8, go_sem]; go_simp) rfl ?_
  exact ⟨A, n, c, L, m, d, T, x, rfl, ((ht.far (grown_setC w3 w.heap.size 0 _) (by omega)).far (grown_setC _ w.heap.size 1 _) (by omega)).mono (by omega), hx, (hB3.setCell (by simp) _).setCell (by simp) _⟩
set_option maxHeartbeats 2000000 in
set_option maxRecDepth 100000 in
theorem drCor_s (A0 : Option Addr) (n0 c0' : Nat) (bs : List Int) (w : World) (h8 : Code8 w A0 n0 bs) : Calls Try.prog 10 #[.slice A0 n0 c0'] w (NewT1 w) := by
  obtain ⟨w1, hw1⟩ : ∃ y_, y_ = w.alloc (.cells #[.slice none 0 0, .slice none 0 0] 27) := ⟨_, rfl⟩
  have hb0 : Below w.heap.size w w1 := by rw [hw1]; exact (Below.refl _ _).alloc (Nat.le_refl _) _
  have hs1 : w1.heap.size = w.heap.size + 1 := by rw [hw1]; simp
  have hq1 : Qb w1 w.heap.size := by rw [hw1]; exact heap_new w _
  have h81 := h8.below hb0
  have Hw1 := Lib.hid hw1
  have Hs1 := Lib.hid hs1
  have hs1' : w.heap.size < w1.heap.size := by omega
  clear hw1 hs1 h8
  go_enter Try.func10, Try.ntmps10
  go_wp2_with fail
  rw [← Hw1.out]
  refine (one5_s _ _ _ bs _ h81).mono ?_
  rintro e w3 ⟨A, n, c, L, m, d, T, x, rfl, ht, hx, hb⟩
  have hq3 := hq1.below hb (by omega)
  have hB3 := hb0.trans (hb.mono (Nat.le_of_lt hs1'))
  obtain ⟨⟨q0, q1⟩, qf0, qf1⟩ := hq3.cells
  go_wp2
  refine bodyPost_ret (v := .tuple #[.agg #[.slice A n c, .slice L m d], .int .i64 x]) (by simp [results, Try.results10, go_sem]; go_simp) rfl ?_
  exact ⟨A, n, c, L, m, d, T, x, rfl, ((ht.far (grown_setC w3 w.heap.size 0 _) (by omega)).far (grown_setC _ w.heap.size 1 _) (by omega)).mono (by omega), hx, (hB3.setCell (by simp) _).setCell (by simp) _⟩
set_option maxHeartbeats 2000000 in
set_option maxRecDepth 100000 in
theorem drOfK_s (A0 : Option Addr) (n0 c0' : Nat) (bs : List Int) (w : World) (h8 : Code8 w A0 n0 bs) : Calls Try.prog 9 #[.slice A0 n0 c0'] w (NewT2 w) := by
  obtain ⟨w1, hw1⟩ : ∃ y_, y_ = w.alloc (.cells #[.slice none 0 0, .slice none 0 0] 27) := ⟨_, rfl⟩
  have hb0 : Below w.heap.size w w1 := by rw [hw1]; exact (Below.refl _ _).alloc (Nat.le_refl _) _
  have hs1 : w1.heap.size = w.heap.size + 1 := by rw [hw1]; simp
  have hq1 : Qb w1 w.heap.size := by rw [hw1]; exact heap_new w _
  have h81 := h8.below hb0
  have Hw1 := Lib.hid hw1
  have Hs1 := Lib.hid hs1
  have hs1' : w.heap.size < w1.heap.size := by omega
  clear hw1 hs1 h8
  go_enter Try.func9, Try.ntmps9
  go_wp2_with fail
  rw [← Hw1.out]
  refine (new_s _ _ _ bs _ h81).mono ?_
  rintro e w2 ⟨g, hg, rfl, hq, hb⟩
  go_wp2_with fail
  refine (any_s _ _ hq).mono ?_
  rintro e w3 ⟨A, n, c, L, m, d, T, rfl, ht, hd⟩
  have hP := pb_start Hw1.out hg hq hb ht hd
  clear hb hq hd ht h81 hq1 hb0
  have hgq := hP.hg
  go_wp2_with fail
  generalize w3.alloc _ = w4 at hP ⊢
  generalize w3.heap.size = p at hP ⊢
  have hpp := hP.gp
  have hpq : w.heap.size < p := by omega
  have hpq1 : ¬ w.heap.size = p := by omega
  have hpq2 : ¬ p = w.heap.size := by omega
  have hm30 := hP.tp.2.2.2.2.1
  have hPd := hP.drew
  obtain ⟨z0, z1⟩ := hP.cells; obtain ⟨⟨zq0, zq1⟩, zf0, zf1⟩ := hP.qb.cells
  go_region_held3 (fun w' => w'.cell? ⟨p, 0, none⟩ = some (.slice A n c) ∧ w'.cell? ⟨p, 1, none⟩ = some (.slice L m d)) (first | exact ⟨y0, y1⟩ | exact ⟨x0, x1⟩ | exact ⟨z0, z1⟩ | go_keep) (first | (have _hX := xd; go_at_call 48; refine (below_s _ _ _ hPx.cu (by omega)).mono ?_; rintro e yw ⟨y, ylo, yhi, rfl, yd⟩; have hPy := hPx.draw yd; obtain ⟨y0, y1⟩ := hPy.cells; obtain ⟨⟨yq0, yq1⟩, yf0, yf1⟩ := hPy.qb.cells; have ye : IntKind.i64.wrap (y - 1) = y - 1 := IntWalk.i64_in _ (by omega)) | (go_at_call 48; refine (below_s _ _ _ hPd.cu (by omega)).mono ?_; rintro e xw ⟨x, xlo, xhi, rfl, xd⟩; have hPx := hPd.draw xd; obtain ⟨x0, x1⟩ := hPx.cells; obtain ⟨⟨xq0, xq1⟩, xf0, xf1⟩ := hPx.qb.cells; have xe : IntKind.i64.wrap (x - 1) = x - 1 := IntWalk.i64_in _ (by omega)))
  go_wp2
  refine bodyPost_ret (v := .tuple #[.agg #[.slice A n c, .slice L m d], .int .i64 x, .int .i64 y]) (by simp [results, Try.results9, go_sem]; go_simp) rfl ?_
  exact ⟨A, n, c, L, m, d, T, x, y, rfl, (hPy.fin _ _).1, by unfold I64; omega, (hPy.fin _ _).2⟩
set_option maxHeartbeats 2000000 in
set_option maxRecDepth 100000 in
theorem drFLk_s (A0 : Option Addr) (n0 c0' : Nat) (bs : List Int) (w : World) (h8 : Code8 w A0 n0 bs) : Calls Try.prog 32 #[.slice A0 n0 c0'] w (NewT1 w) := by
  obtain ⟨w1, hw1⟩ : ∃ y_, y_ = w.alloc (.cells #[.slice none 0 0, .slice none 0 0] 27) := ⟨_, rfl⟩
  have hb0 : Below w.heap.size w w1 := by rw [hw1]; exact (Below.refl _ _).alloc (Nat.le_refl _) _
  have hs1 : w1.heap.size = w.heap.size + 1 := by rw [hw1]; simp
  have hq1 : Qb w1 w.heap.size := by rw [hw1]; exact heap_new w _
  have h81 := h8.below hb0
  have Hw1 := Lib.hid hw1
  have Hs1 := Lib.hid hs1
  have hs1' : w.heap.size < w1.heap.size := by omega
  clear hw1 hs1 h8
  go_enter Try.func32, Try.ntmps32
  go_wp2_with fail
  rw [← Hw1.out]
  refine (new_s _ _ _ bs _ h81).mono ?_
  rintro e w2 ⟨g, hg, rfl, hq, hb⟩
  go_wp2_with fail
  refine (any_s _ _ hq).mono ?_
  rintro e w3 ⟨A, n, c, L, m, d, T, rfl, ht, hd⟩
  have hP := pb_start Hw1.out hg hq hb ht hd
  clear hb hq hd ht h81 hq1 hb0
  have hgq := hP.hg
  go_wp2_with fail
  generalize w3.alloc _ = w4 at hP ⊢
  generalize w3.heap.size = p at hP ⊢
  have hpp := hP.gp
  have hpq : w.heap.size < p := by omega
  have hpq1 : ¬ w.heap.size = p := by omega
  have hpq2 : ¬ p = w.heap.size := by omega
  have hm30 := hP.tp.2.2.2.2.1
  have hPd := hP.drew
  obtain ⟨z0, z1⟩ := hP.cells; obtain ⟨⟨zq0, zq1⟩, zf0, zf1⟩ := hP.qb.cells
  have me : IntKind.i64.wrap ((m : Int) + 2) = (m : Int) + 2 := IntWalk.i64_in _ (by omega)
  go_region_held3 (fun w' => w'.cell? ⟨p, 0, none⟩ = some (.slice A n c) ∧ w'.cell? ⟨p, 1, none⟩ = some (.slice L m d)) (first | exact ⟨x0, x1⟩ | exact ⟨z0, z1⟩ | go_keep) (first | (go_at_call 48; refine (below_s _ _ _ hPd.cu (by omega)).mono ?_; rintro e xw ⟨x, xlo, xhi, rfl, xd⟩; have hPx := hPd.draw xd; obtain ⟨x0, x1⟩ := hPx.cells; obtain ⟨⟨xq0, xq1⟩, xf0, xf1⟩ := hPx.qb.cells; have xe : IntKind.i64.wrap (x - 1) = x - 1 := IntWalk.i64_in _ (by omega)))
  clear me
  go_wp2
  refine bodyPost_ret (v := .tuple #[.agg #[.slice A n c, .slice L m d], .int .i64 (x - 1)]) (by simp [results, Try.results32, go_sem]; go_simp) rfl ?_
  exact ⟨A, n, c, L, m, d, T, x - 1, rfl, (hPx.fin _ _).1, by unfold I64; omega, (hPx.fin _ _).2⟩
set_option maxHeartbeats 1000000 in
theorem drKnd_s (A0 : Option Addr) (n0 c0' : Nat) (bs : List Int) (w : World) (h8 : Code8 w A0 n0 bs) : Calls Try.prog 33 #[.slice A0 n0 c0'] w (fun e w' => ∃ x : Int, -1 ≤ x ∧ x ≤ 6 ∧ e = .returned (.int .i64 x) ∧ Below w.heap.size w w') := by
  go_enter Try.func33, Try.ntmps33
  go_wp2_with fail
  refine (new_s _ _ _ bs _ h8).mono ?_
  rintro e w2 ⟨g, hg, rfl, hq, hb⟩
  go_wp2_with fail
  refine (below_s _ _ _ hq (by omega)).mono ?_
  rintro e w3 ⟨x, hx0, hx1, rfl, hd⟩
  go_wp2
  go_ret
  exact ⟨x - 1, by omega, by omega, rfl, hb.trans (hd.below hg hb.size)⟩
theorem TopR.lkCell {B : Nat} {w : World} {A : Option Addr} {n c bl off m d i : Nat} {T : Tp} (h : TopR B w A n c (some ⟨bl, off, none⟩) m d T) (hi : i < m) : ∃ l : Lk, w.cell? ⟨bl, off + i * 5, none⟩ = some (.int .i64 l.a) ∧ w.cell? ⟨bl, off + i * 5 + 1, none⟩ = some (.int .i64 l.ai) ∧ w.cell? ⟨bl, off + i * 5 + 2, none⟩ = some (.int .i64 l.b) ∧ w.cell? ⟨bl, off + i * 5 + 3, none⟩ = some (.int .i64 l.bi) ∧ w.cell? ⟨bl, off + i * 5 + 4, none⟩ = some (.int .i64 l.kind) ∧ Hid (I64 l.ai ∧ I64 l.bi) := by
  obtain ⟨b, o, l, e, hl, c0, c1, c2, c3, c4⟩ := Rl.get h.1.2 hi
  injection e with e
  injection e with e1 e2
  subst e1
  subst e2
  exact ⟨l, c0, c1, c2, c3, c4, Lib.hid (h.2.2.2.2.2.1.2 l (List.mem_of_getElem? hl))⟩
theorem TopR.lkLt {B : Nat} {w : World} {A : Option Addr} {n c bl off m d : Nat} {T : Tp} (h : TopR B w A n c (some ⟨bl, off, none⟩) m d T) (hm : 0 < m) : bl < w.heap.size := by
  obtain ⟨l, c0, _⟩ := h.lkCell hm
  exact World.block_lt_of_cell? w _ c0
theorem zero_kept {w w' : World} {g : Nat} (H : Nat) (hH : w.heap.size = H) (hd : Dr 70 g (w.alloc (.cells #[.int .i64 0, .int .i64 0, .int .i64 0, .int .i64 0, .int .i64 0] 42)) w') (hg : g < w.heap.size) :
    w'.cell? ⟨H, 0, none⟩ = some (.int .i64 0) ∧ w'.cell? ⟨H, 1, none⟩ = some (.int .i64 0) ∧ w'.cell? ⟨H, 2, none⟩ = some (.int .i64 0) ∧ w'.cell? ⟨H, 3, none⟩ = some (.int .i64 0) ∧ w'.cell? ⟨H, 4, none⟩ = some (.int .i64 0) ∧ (∀ j, w'.frozen? ⟨H, j, none⟩ = false) ∧ Hid (w'.heap[H]? = some (.cells #[.int .i64 0, .int .i64 0, .int .i64 0, .int .i64 0, .int .i64 0] 42 (0, 0))) := by
  subst hH
  have e0 := heap_new w (.cells #[.int .i64 0, .int .i64 0, .int .i64 0, .int .i64 0, .int .i64 0] 42)
  have e : w'.heap[w.heap.size]? = _ := (hd.1.block _ (by simp) (fun e => by injection e with e; omega)).trans e0
  refine ⟨?_, ?_, ?_, ?_, ?_, fun j => ?_, Lib.hid e⟩ <;> simp [World.cell?, World.frozen?, e]
theorem lk_cells5 {w : World} {b : Nat} {x0 x1 x2 x3 x4 : Value} (e : w.heap[b]? = some (.cells #[x0, x1, x2, x3, x4] 42 (0, 0))) : w.cell? ⟨b, 0, none⟩ = some x0 ∧ w.cell? ⟨b, 1, none⟩ = some x1 ∧ w.cell? ⟨b, 2, none⟩ = some x2 ∧ w.cell? ⟨b, 3, none⟩ = some x3 ∧ w.cell? ⟨b, 4, none⟩ = some x4 := by
  refine ⟨?_, ?_, ?_, ?_, ?_⟩ <;> simp [World.cell?, e]
theorem lk_set5 {w : World} {b : Nat} (h : Hid (w.heap[b]? = some (.cells #[.int .i64 0, .int .i64 0, .int .i64 0, .int .i64 0, .int .i64 0] 42 (0, 0)))) (x0 x1 x2 x3 x4 : Value) :
    (((((w.setCell ⟨b, 0, none⟩ x0).setCell ⟨b, 1, none⟩ x1).setCell ⟨b, 2, none⟩ x2).setCell ⟨b, 3, none⟩ x3).setCell ⟨b, 4, none⟩ x4).heap[b]? = some (.cells #[x0, x1, x2, x3, x4] 42 (0, 0)) := by
  have e0 := heap_setCell_same h.out 0 x0
  have e1 := heap_setCell_same e0 1 x1
  have e2 := heap_setCell_same e1 2 x2
  have e3 := heap_setCell_same e2 3 x3
  have e4 := heap_setCell_same e3 4 x4
  rw [e4]
  simp
/-- A store into a block that is newer than an elder state leaves the state as it is. -/
theorem Pb.setFar {g : Nat} {w w5 wr : World} {p B n c m d : Nat} {A L : Option Addr} {T : Tp} (h5 : Pb g w w5 p B A n c L m d T) (h : Pb g w wr p B A n c L m d T) (j : Nat) (v : Value) : Pb g w (wr.setCell ⟨w5.heap.size, j, none⟩ v) p B A n c L m d T := by
  have hg := grown_setC wr w5.heap.size j v
  have h1 := h5.size
  have h2 := h5.cu.lt
  have h3 := h5.qb.lt
  have hs5 := h5.bel.size
  refine ⟨(hg.block _ h.size (fun e => by injection e with e; omega)).trans h.box, ⟨⟨Rd.grown2 h.tp.1.1 hg (fun hn b off e r er => by have := Rd.inB h5.tp.1.1 hn b off e; injection er with er; omega), Rd.grown2 h.tp.1.2 hg (fun hn b off e r er => by have := Rd.inB h5.tp.1.2 hn b off e; injection er with er; omega)⟩, h.tp.2⟩,
    (hg.block _ h.qb.lt (fun e => by injection e with e; omega)).trans h.qb, h.bel.setCell (by simp; omega) v, h.cu.keep hg (fun r e => by injection e with e; omega), h.hg, h.gB, h.gp⟩
theorem Pb.setN {g : Nat} {w w5 wr : World} {p B n c m d : Nat} {A L : Option Addr} {T : Tp} (h : Pb g w wr p B A n c L m d T) (h5 : Pb g w w5 p B A n c L m d T) (j : Nat) (v : Value) : Pb g w (wr.setCell ⟨w5.heap.size, j, none⟩ v) p B A n c L m d T := h5.setFar h j v
set_option maxHeartbeats 2000000 in
set_option maxRecDepth 100000 in
theorem door5_s (A0 : Option Addr) (n0 c0' : Nat) (bs : List Int) (w : World) (h8 : Code8 w A0 n0 bs) : Calls Try.prog 51 #[.slice A0 n0 c0'] w (NewT2 w) := by
  obtain ⟨w1, hw1⟩ : ∃ y_, y_ = w.alloc (.cells #[.slice none 0 0, .slice none 0 0] 27) := ⟨_, rfl⟩
  have hb0 : Below w.heap.size w w1 := by rw [hw1]; exact (Below.refl _ _).alloc (Nat.le_refl _) _
  have hs1 : w1.heap.size = w.heap.size + 1 := by rw [hw1]; simp
  have hq1 : Qb w1 w.heap.size := by rw [hw1]; exact heap_new w _
  have h81 := h8.below hb0
  have Hw1 := Lib.hid hw1
  have Hs1 := Lib.hid hs1
  have hs1' : w.heap.size < w1.heap.size := by omega
  clear hw1 hs1 h8
  go_enter Try.func51, Try.ntmps51
  go_wp2_with fail
  rw [← Hw1.out]
  refine (new_s _ _ _ bs _ h81).mono ?_
  rintro e w2 ⟨g, hg, rfl, hq, hb⟩
  go_wp2_with fail
  refine (any_s _ _ hq).mono ?_
  rintro e w3 ⟨A, n, c, L, m, d, T, rfl, ht, hd⟩
  have hP := pb_start Hw1.out hg hq hb ht hd
  clear hb hq hd ht h81 hq1 hb0
  have hgq := hP.hg
  by_cases hm0 : 0 < m
  · have hm0' : (0 : Int) < (m : Int) := by omega
    obtain ⟨bl, off, l', hL', hrest⟩ := Rl.get hP.tp.1.2 hm0
    subst hL'
    clear hrest l'
    go_wp2_with fail
    generalize w3.alloc _ = w4 at hP ⊢
    generalize w3.heap.size = p at hP ⊢
    have hpp := hP.gp
    have hpq : w.heap.size < p := by omega
    have hpq1 : ¬ w.heap.size = p := by omega
    have hpq2 : ¬ p = w.heap.size := by omega
    have hm30 := hP.tp.2.2.2.2.1
    refine (once_s _ _ _ hP.cu (by omega)).mono ?_
    rintro e w5 ⟨bb, rfl, hd⟩
    replace hP := hP.draw hd
    clear hd
    rcases Bool.eq_false_or_eq_true bb with rfl | rfl
    · have hPd := hP.drew
      obtain ⟨z0, z1⟩ := hP.cells; obtain ⟨⟨zq0, zq1⟩, zf0, zf1⟩ := hP.qb.cells
      have bl5 := hP.tp.lkLt hm0
      have pl5 := hP.size
      go_wp2_with fail
      go_region_law (first | (go_simp; go_at_call 48; refine (below_s _ _ _ hPd.cu (by omega)).mono ?_; rintro e xw ⟨x, xlo, xhi, rfl, xd⟩; have hPx := hPd.draw xd; obtain ⟨x0, x1⟩ := hPx.cells; obtain ⟨⟨xq0, xq1⟩, xf0, xf1⟩ := hPx.qb.cells; obtain ⟨k, rfl⟩ := Int.eq_ofNat_of_zero_le xlo; have k1 : (k : Int) < (m : Int) := (by omega); have k2 : (0 : Int) ≤ (k : Int) := (by omega); obtain ⟨l, l0, l1, l2, l3, l4, hi64⟩ := hPx.tp.lkCell (i := k) (by omega); have blt := World.block_lt_of_cell? xw _ l0; have plt := hPx.size) | (go_simp; go_at_call 48; refine (below_s _ _ _ (hPd.alloc (.cells #[.int .i64 0, .int .i64 0, .int .i64 0, .int .i64 0, .int .i64 0] 42)).cu (by omega)).mono ?_; rintro e xw ⟨x, xlo, xhi, rfl, xd⟩; have hPx := (hPd.alloc (.cells #[.int .i64 0, .int .i64 0, .int .i64 0, .int .i64 0, .int .i64 0] 42)).draw xd; obtain ⟨x0, x1⟩ := hPx.cells; obtain ⟨⟨xq0, xq1⟩, xf0, xf1⟩ := hPx.qb.cells; obtain ⟨k, rfl⟩ := Int.eq_ofNat_of_zero_le xlo; have k1 : (k : Int) < (m : Int) := (by omega); have k2 : (0 : Int) ≤ (k : Int) := (by omega); obtain ⟨l, l0, l1, l2, l3, l4, hi64⟩ := hPx.tp.lkCell (i := k) (by omega); have blt := World.block_lt_of_cell? xw _ l0; have plt := hPx.size; obtain ⟨y0, y1, y2, y3, y4, yf, ye⟩ := zero_kept (w := w5.drew) w5.heap.size rfl xd (by have := hPd.cu.lt; omega); have hfar : Hid (w5.heap.size ≠ bl ∧ w5.heap.size ≠ p) := Lib.hid ⟨by omega, by omega⟩; have hf1 : ¬ w5.heap.size = bl := (by omega); have hf2 : ¬ bl = w5.heap.size := (by omega); have yf0 := yf 0; have yf1 := yf 1; have yf2 := yf 2; have yf3 := yf 3; have yf4 := yf 4))
      all_goals
        have hg5 := hP.cu.lt
        first
          | (have _hY := yf0
             have hP7 := (((((hP.setFar hPx 0 (.int .i64 l.a)).setN hP 1 (.int .i64 l.ai)).setN hP 2 (.int .i64 l.b)).setN hP 3 (.int .i64 l.bi)).setN hP 4 (.int .i64 l.kind))
             have hL7 := lk_set5 ye (.int .i64 l.a) (.int .i64 l.ai) (.int .i64 l.b) (.int .i64 l.bi) (.int .i64 l.kind)
             have b71 : w.heap.size < w5.heap.size := by omega
             have b72 : ¬ w5.heap.size = p := by omega
             have b73 : ¬ w5.heap.size = g := by omega
             clear y0 y1 y2 y3 y4 yf yf0 yf1 yf2 yf3 yf4 ye hf1 hf2 l0 l1 l2 l3 l4 x0 x1 xq0 xq1 xf0 xf1 z0 z1 zq0 zq1 zf0 zf1 blt plt hPd hPx xd
             generalize World.setCell (World.setCell (World.setCell (World.setCell (World.setCell xw _ _) _ _) _ _) _ _) _ _ = w7 at hP7 hL7 ⊢
             have hwl : p < w5.heap.size := hP.size
             clear hP bl5 pl5 hg5
             generalize w5.heap.size = b7 at hL7 b71 b72 b73 hwl ⊢)
          | (have hP7 := hPx.alloc (.cells #[.int .i64 l.a, .int .i64 l.ai, .int .i64 l.b, .int .i64 l.bi, .int .i64 l.kind] 42)
             have hL7 := heap_new xw (.cells #[.int .i64 l.a, .int .i64 l.ai, .int .i64 l.b, .int .i64 l.bi, .int .i64 l.kind] 42)
             have hgx := hPx.cu.lt
             have b71 : w.heap.size < xw.heap.size := by omega
             have b72 : ¬ xw.heap.size = p := by omega
             have b73 : ¬ xw.heap.size = g := by omega
             clear l0 l1 l2 l3 l4 x0 x1 xq0 xq1 xf0 xf1 z0 z1 zq0 zq1 zf0 zf1 blt hPd hPx xd hgx hP bl5 pl5 hg5
             generalize xw.alloc _ = w7 at hP7 hL7 ⊢
             generalize xw.heap.size = b7 at hL7 b71 b72 b73 plt ⊢)
        have b74 : ¬ p = b7 := fun e => b72 e.symm
        have b75 : ¬ w.heap.size = b7 := by omega
        have b76 : ¬ b7 = w.heap.size := by omega
        go_wp2_with fail
        refine (once_s _ _ _ hP7.cu (by omega)).mono ?_
        rintro e w8 ⟨bb, rfl, hd⟩
        have hP8 := hP7.draw hd
        have hL8 := (hd.1.block b7 (Array.getElem?_eq_some_iff.1 hL7).1 (fun e => b73 (by injection e))).trans hL7
        clear hP7 hL7 hd
        obtain ⟨l0, l1, l2, l3, l4⟩ := lk_cells5 hL8
        obtain ⟨z0, z1⟩ := hP8.cells; obtain ⟨⟨zq0, zq1⟩, zf0, zf1⟩ := hP8.qb.cells
        rcases Bool.eq_false_or_eq_true bb with rfl | rfl
        · go_wp2_with fail
          go_region_held3 (fun w' => w'.cell? ⟨p, 0, none⟩ = some (.slice A n c) ∧ w'.cell? ⟨p, 1, none⟩ = some (.slice (some ⟨bl, off, none⟩) m d) ∧ w'.cell? ⟨b7, 0, none⟩ = some (.int .i64 l.a) ∧ w'.cell? ⟨b7, 1, none⟩ = some (.int .i64 l.ai)) (first | exact ⟨z0, z1, l0, l1⟩ | go_keep) (fail)
          go_wp2
          refine bodyPost_ret (v := .tuple #[.agg #[.slice A n c, .slice (some ⟨bl, off, none⟩) m d], .int .i64 l.a, .int .i64 l.ai]) (by simp [results, Try.results51, go_sem]; go_simp) rfl ?_
          exact ⟨A, n, c, (some ⟨bl, off, none⟩), m, d, T, l.a, l.ai, rfl, (hP8.drew.fin _ _).1, hi64.out.1, (hP8.drew.fin _ _).2⟩
        · go_wp2_with fail
          go_region_held3 (fun w' => w'.cell? ⟨p, 0, none⟩ = some (.slice A n c) ∧ w'.cell? ⟨p, 1, none⟩ = some (.slice (some ⟨bl, off, none⟩) m d) ∧ w'.cell? ⟨b7, 2, none⟩ = some (.int .i64 l.b) ∧ w'.cell? ⟨b7, 3, none⟩ = some (.int .i64 l.bi)) (first | exact ⟨z0, z1, l2, l3⟩ | go_keep) (fail)
          go_wp2
          refine bodyPost_ret (v := .tuple #[.agg #[.slice A n c, .slice (some ⟨bl, off, none⟩) m d], .int .i64 l.b, .int .i64 l.bi]) (by simp [results, Try.results51, go_sem]; go_simp) rfl ?_
          exact ⟨A, n, c, (some ⟨bl, off, none⟩), m, d, T, l.b, l.bi, rfl, (hP8.drew.fin _ _).1, hi64.out.2, (hP8.drew.fin _ _).2⟩
    · go_wp2_with fail
      have hPd := hP.drew
      obtain ⟨z0, z1⟩ := hP.cells; obtain ⟨⟨zq0, zq1⟩, zf0, zf1⟩ := hP.qb.cells
      go_region_held3 (fun w' => w'.cell? ⟨p, 0, none⟩ = some (.slice A n c) ∧ w'.cell? ⟨p, 1, none⟩ = some (.slice (some ⟨bl, off, none⟩) m d)) (first | exact ⟨y0, y1⟩ | exact ⟨x0, x1⟩ | exact ⟨z0, z1⟩ | go_keep) (first | (have _hX := xd; go_at_call 48; refine (below_s _ _ _ hPx.cu (by omega)).mono ?_; rintro e yw ⟨y, ylo, yhi, rfl, yd⟩; have hPy := hPx.draw yd; obtain ⟨y0, y1⟩ := hPy.cells; obtain ⟨⟨yq0, yq1⟩, yf0, yf1⟩ := hPy.qb.cells; have ye : IntKind.i64.wrap (y - 1) = y - 1 := IntWalk.i64_in _ (by omega)) | (go_at_call 48; refine (below_s _ _ _ hPd.cu (by omega)).mono ?_; rintro e xw ⟨x, xlo, xhi, rfl, xd⟩; have hPx := hPd.draw xd; obtain ⟨x0, x1⟩ := hPx.cells; obtain ⟨⟨xq0, xq1⟩, xf0, xf1⟩ := hPx.qb.cells; have xe : IntKind.i64.wrap (x - 1) = x - 1 := IntWalk.i64_in _ (by omega)))
      go_wp2
      refine bodyPost_ret (v := .tuple #[.agg #[.slice A n c, .slice (some ⟨bl, off, none⟩) m d], .int .i64 (x - 1), .int .i64 (y - 1)]) (by simp [results, Try.results51, go_sem]; go_simp) rfl ?_
      exact ⟨A, n, c, (some ⟨bl, off, none⟩), m, d, T, x - 1, y - 1, rfl, (hPy.fin _ _).1, by unfold I64; omega, (hPy.fin _ _).2⟩
  · have hm0' : ¬ (0 : Int) < (m : Int) := by omega
    go_wp2_with fail
    generalize w3.alloc _ = w4 at hP ⊢
    generalize w3.heap.size = p at hP ⊢
    have hpp := hP.gp
    have hpq : w.heap.size < p := by omega
    have hpq1 : ¬ w.heap.size = p := by omega
    have hpq2 : ¬ p = w.heap.size := by omega
    have hm30 := hP.tp.2.2.2.2.1
    have hPd := hP.drew
    obtain ⟨z0, z1⟩ := hP.cells; obtain ⟨⟨zq0, zq1⟩, zf0, zf1⟩ := hP.qb.cells
    go_region_held3 (fun w' => w'.cell? ⟨p, 0, none⟩ = some (.slice A n c) ∧ w'.cell? ⟨p, 1, none⟩ = some (.slice L m d)) (first | exact ⟨y0, y1⟩ | exact ⟨x0, x1⟩ | exact ⟨z0, z1⟩ | go_keep) (first | (have _hX := xd; go_at_call 48; refine (below_s _ _ _ hPx.cu (by omega)).mono ?_; rintro e yw ⟨y, ylo, yhi, rfl, yd⟩; have hPy := hPx.draw yd; obtain ⟨y0, y1⟩ := hPy.cells; obtain ⟨⟨yq0, yq1⟩, yf0, yf1⟩ := hPy.qb.cells; have ye : IntKind.i64.wrap (y - 1) = y - 1 := IntWalk.i64_in _ (by omega)) | (go_at_call 48; refine (below_s _ _ _ hPd.cu (by omega)).mono ?_; rintro e xw ⟨x, xlo, xhi, rfl, xd⟩; have hPx := hPd.draw xd; obtain ⟨x0, x1⟩ := hPx.cells; obtain ⟨⟨xq0, xq1⟩, xf0, xf1⟩ := hPx.qb.cells; have xe : IntKind.i64.wrap (x - 1) = x - 1 := IntWalk.i64_in _ (by omega)))
    go_wp2
    refine bodyPost_ret (v := .tuple #[.agg #[.slice A n c, .slice L m d], .int .i64 (x - 1), .int .i64 (y - 1)]) (by simp [results, Try.results51, go_sem]; go_simp) rfl ?_
    exact ⟨A, n, c, L, m, d, T, x - 1, y - 1, rfl, (hPy.fin _ _).1, by unfold I64; omega, (hPy.fin _ _).2⟩
end Go.Proofs.Ytehfcejpoigclaa
