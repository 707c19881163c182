/- The contract of l5Any: a topology of its own, valid or not. -/
import Derived.Test.YtehfcejpoigclaaRows
import Derived.Test.YtehfcejpoigclaaMem
import Derived.Test.YtehfcejpoigclaaTopoMem
import Derived.Test.YtehfcejpoigclaaTopoPure
import Derived.Test.YtehfcejpoigclaaDrawPure
import Derived.Test.YtehfcejpoigclaaBox
import Derived.Test.YtehfcejpoigclaaAdd
import Derived.Test.YtehfcejpoigclaaDrawT
import Derived.Deep.QuietTactic
import Derived.BigQuiet
import Derived.WalkSmall
import Derived.Deep.RegionHeld3
import Derived.Deep.RegionLaw
import Derived.StillTailTactics
import Derived.Outline
namespace Go.Proofs.Ytehfcejpoigclaa
open Go.RowKit
set_option linter.unusedVariables false

def WfT (T : Tp) : Prop := (∀ x ∈ T.ases, I64 x.isd) ∧ (∀ l ∈ T.links, I64 l.ai ∧ I64 l.bi)
theorem Vld.wf {T : Tp} (h : Vld T) : WfT T := by
  refine ⟨fun x hx => ?_, fun l hl => ?_⟩
  · obtain ⟨i, hi⟩ := List.getElem?_of_mem hx
    have hlt : i < T.ases.length := (List.getElem?_eq_some_iff.1 hi).1
    have h' : validT T.ases T.links = true := h
    simp only [validT, Bool.and_eq_true] at h'
    have h1 := List.all_eq_true.1 h'.1.2 i (List.mem_range.2 hlt)
    simp only [asOk, hi, Bool.and_eq_true, inR_iff] at h1
    unfold I64
    omega
  · obtain ⟨i, hi⟩ := List.getElem?_of_mem hl
    obtain ⟨_, _, _, h3, h4, _⟩ := lkOk_parts (valid_ok h hi).1
    unfold I64
    omega
/-- A topology that can be read, its rows from B on. -/
def TopR (B : Nat) (w : World) (A : Option Addr) (n c : Nat) (L : Option Addr) (m d : Nat) (T : Tp) : Prop :=
  Rt w A n L m T ∧ n ≤ c ∧ m ≤ d ∧ n ≤ 8 ∧ m ≤ 30 ∧ WfT T ∧ (∀ b off, A = some ⟨b, off, none⟩ → B ≤ b) ∧ (∀ b off, L = some ⟨b, off, none⟩ → B ≤ b)
section
variable {B : Nat} {w w' : World} {A L : Option Addr} {n c m d : Nat} {T : Tp}
theorem TopR.below (h : TopR B w A n c L m d T) (hb : Below w.heap.size w w') : TopR B w' A n c L m d T := ⟨h.1.below hb (Nat.le_refl _), h.2⟩
theorem TopR.far (h : TopR B w A n c L m d T) {g : Nat} (hg : w.grownBy w' (some g)) (hlt : g < B) : TopR B w' A n c L m d T :=
  ⟨⟨Rd.grown2 h.1.1 hg (fun _ b off e r er => by have := h.2.2.2.2.2.2.1 b off e; injection er with er; omega), Rd.grown2 h.1.2 hg (fun _ b off e r er => by have := h.2.2.2.2.2.2.2 b off e; injection er with er; omega)⟩, h.2⟩
theorem TopR.mono {B' : Nat} (h : TopR B w A n c L m d T) (hB : B' ≤ B) : TopR B' w A n c L m d T :=
  ⟨h.1, h.2.1, h.2.2.1, h.2.2.2.1, h.2.2.2.2.1, h.2.2.2.2.2.1, fun b off e => Nat.le_trans hB (h.2.2.2.2.2.2.1 b off e), fun b off e => Nat.le_trans hB (h.2.2.2.2.2.2.2 b off e)⟩
theorem TopR.of_st {p N : Nat} {xs : List As} {ls : List Lk} (h : St w p B N A n c xs L m d ls) (hn : n ≤ 8) (hm : m ≤ 30) (hw : WfT ⟨xs, ls⟩) : TopR B w A n c L m d ⟨xs, ls⟩ :=
  ⟨h.rt, h.oA.leC, h.oL.leC, hn, hm, hw, fun b off e => (h.oA.block e).1, fun b off e => Nat.le_trans h.hB (h.oL.block e).1⟩
end
def AnyT (g : Nat) (w : World) (e : Ending) (w' : World) : Prop :=
  ∃ (A : Option Addr) (n c : Nat) (L : Option Addr) (m d : Nat) (T : Tp), e = .returned (.agg #[.slice A n c, .slice L m d]) ∧ TopR w.heap.size w' A n c L m d T ∧ Dr 70 g w w'
theorem any_fin {g : Nat} {w wr : World} {A L : Option Addr} {n c m d : Nat} {T : Tp} (h : TopR (w.heap.size + 1) wr A n c L m d T) (hd : Dr 70 g w wr) (hg : g < w.heap.size) (v0 v1 : Value) :
    AnyT g w (.returned (.agg #[.slice A n c, .slice L m d])) ((wr.setCell ⟨w.heap.size, 0, none⟩ v0).setCell ⟨w.heap.size, 1, none⟩ v1) :=
  ⟨A, n, c, L, m, d, T, rfl, ((h.far (grown_setC wr w.heap.size 0 v0) (by omega)).far (grown_setC _ w.heap.size 1 v1) (by omega)).mono (by omega),
    hd.push hg (((Below.refl w.heap.size wr).setCell (by simp) v0).setCell (by simp) v1)⟩
/-- The state behind l5Draw: the topology's box in block p. -/
structure Pa (g : Nat) (w wr : World) (p N : Nat) (A : Option Addr) (n c : Nat) (xs : List As) (L : Option Addr) (m d : Nat) (ls : List Lk) : Prop where
  st : St wr p (w.heap.size + 1) N A n c xs L m d ls
  qb : Qb wr w.heap.size
  dr : Dr 70 g w wr
  hg : g < w.heap.size
section
variable {g : Nat} {w wr w1 : World} {p N n c m d : Nat} {A L : Option Addr} {xs : List As} {ls : List Lk}
theorem Pa.size (h : Pa g w wr p N A n c xs L m d ls) : p < wr.heap.size := h.st.lt
theorem Pa.pos (h : Pa g w wr p N A n c xs L m d ls) : w.heap.size < p := h.st.hp
theorem Pa.draw (h : Pa g w wr p N A n c xs L m d ls) (hd : Dr 70 g wr w1) : Pa g w w1 p N A n c xs L m d ls :=
  ⟨h.st.dr hd (by have := h.hg; omega), (hd.1.block _ h.qb.lt (fun e => by have := h.hg; injection e with e; omega)).trans h.qb, h.dr.trans hd, h.hg⟩
theorem Pa.below (h : Pa g w wr p N A n c xs L m d ls) (hb : Below wr.heap.size wr w1) : Pa g w w1 p N A n c xs L m d ls :=
  ⟨h.st.below hb, h.qb.below hb h.qb.lt, h.dr.push h.hg (hb.mono h.dr.size), h.hg⟩
theorem Pa.drew (h : Pa g w wr p N A n c xs L m d ls) : Pa g w wr.drew p N A n c xs L m d ls := h.below (Below.refl _ _).drew
theorem Pa.alloc (h : Pa g w wr p N A n c xs L m d ls) (o : Obj) : Pa g w (wr.alloc o) p N A n c xs L m d ls := h.below ((Below.refl _ _).alloc (Nat.le_refl _) o)
theorem Pa.next {N' n' c' m' d' : Nat} {A' L' : Option Addr} {xs' : List As} {ls' : List Lk} (h : Pa g w wr p N A n c xs L m d ls) (hs : St w1 p (w.heap.size + 1) N' A' n' c' xs' L' m' d' ls') (hb : Below (w.heap.size + 1) wr w1) : Pa g w w1 p N' A' n' c' xs' L' m' d' ls' :=
  ⟨hs, h.qb.below hb (by omega), h.dr.push h.hg (hb.mono (by omega)), h.hg⟩
theorem Pa.cu (h : Pa g w wr p N A n c xs L m d ls) : Cu wr 70 g := h.dr.2
theorem Pa.top (h : Pa g w wr p N A n c xs L m d ls) (hn : n ≤ 8) (hm : m ≤ 30) (hw : WfT ⟨xs, ls⟩) : TopR (w.heap.size + 1) wr A n c L m d ⟨xs, ls⟩ := TopR.of_st h.st hn hm hw
theorem pa_start {w2 : World} {T : Tp} (hg : g < w.heap.size) (hA : Ow w2 (w.heap.size + 1) 58 3 A n c (T.ases.flatMap As.cells)) (hL : Ow w2 N 42 5 L m d (T.links.flatMap Lk.cells)) (hlo : ∀ b, A = some ⟨b, 0, none⟩ → b < N) (h1 : w.heap.size + 1 ≤ N) (h2 : N ≤ w2.heap.size) (hq : Qb w2 w.heap.size) (hd : Dr 70 g w w2) :
    Pa g w (w2.alloc (.cells #[.slice A n c, .slice L m d] 27)) w2.heap.size N A n c T.ases L m d T.links := by
  have hd' := hd.alloc (.cells #[.slice A n c, .slice L m d] 27)
  refine ⟨⟨heap_new w2 _, hA.alloc _, hL.alloc _, fun b e => ⟨hlo b e, by have := hlo b e; omega⟩, fun b e => by have := (hL.block e).2; omega, by omega, by simp; omega, h1⟩, ?_, hd', hg⟩
  exact (Below.heap_alloc _ _ _ hq.lt).trans hq
end
theorem i64_6 : I64 6 := by constructor <;> decide
theorem wf_set {xs : List As} {ls : List Lk} {b : Nat} {z : As} (h : WfT ⟨xs, ls⟩) (hz : I64 z.isd) : WfT ⟨xs.set b z, ls⟩ :=
  ⟨fun x hx => by
    rcases List.mem_or_eq_of_mem_set hx with h1 | rfl
    · exact h.1 x h1
    · exact hz, h.2⟩
theorem wf_snoc {xs : List As} {ls : List Lk} {l : Lk} (h : WfT ⟨xs, ls⟩) (hl : I64 l.ai ∧ I64 l.bi) : WfT ⟨xs, ls ++ [l]⟩ :=
  ⟨h.1, fun x hx => by
    rcases List.mem_append.1 hx with h1 | h1
    · exact h.2 x h1
    · rw [List.mem_singleton] at h1
      subst h1
      exact hl⟩
theorem pa_none {g : Nat} {w wr : World} {p N n c m d : Nat} {A L : Option Addr} {xs : List As} {ls : List Lk} (h : Pa g w wr p N A n c xs L m d ls) (o : Obj) (v v0 v1 : Value) (hm : m ≤ 30) (hw : WfT ⟨xs, ls⟩) :
    AnyT g w (.returned (.agg #[.slice (some ⟨wr.heap.size, 0, none⟩) 0 0, .slice L m d])) ((((wr.setCell ⟨p, 0, none⟩ v).setCell ⟨w.heap.size, 0, none⟩ v0).setCell ⟨w.heap.size, 1, none⟩ v1).alloc o) := by
  have hs := h.size
  have hp := h.pos
  have hB := h.st.hB
  have hlL : ∀ a off, L = some ⟨a, off, none⟩ → w.heap.size + 1 ≤ a := fun a off e => Nat.le_trans hB (h.st.oL.block e).1
  refine ⟨_, 0, 0, L, m, d, ⟨[], ls⟩, rfl, ⟨⟨Rd.empty, ?_⟩, Nat.le_refl _, h.st.oL.leC, by omega, hm, ⟨(fun x hx => by cases hx), hw.2⟩, fun b off e => ?_, fun b off e => by have := hlL b off e; omega⟩, ?_⟩
  · have e1 := h.st.oL.far (grown_setC wr p 0 v) (fun r e a ha => by injection e with e; have := h.st.loL a ha; omega)
    have e2 := e1.far (grown_setC _ w.heap.size 0 v0) (fun r e a ha => by injection e with e; have := hlL a 0 ha; omega)
    have e3 := e2.far (grown_setC _ w.heap.size 1 v1) (fun r e a ha => by injection e with e; have := hlL a 0 ha; omega)
    exact (e3.alloc o).rd
  · injection e with e
    injection e with e
    omega
  · exact h.dr.push h.hg ((((Below.refl w.heap.size wr).setCell (by simp; omega) v).setCell (by simp) v0).setCell (by simp) v1 |>.alloc (by simp [World.setCell]; omega) o)

set_option maxHeartbeats 4000000 in
set_option maxRecDepth 100000 in
theorem any_s (g : Nat) (w : World) (hq : Cu w 70 g) : Calls Try.prog 47 #[.pointer (some ⟨g, 0, none⟩)] w (AnyT g w) := by
  obtain ⟨i1, hi', hy0, hy1, hy2⟩ := info_parts lkD_info
  have hglt := hq.lt
  have hq1 := hq.alloc (.cells #[.slice none 0 0, .slice none 0 0] 27)
  have hd1 := (Dr.refl hq).alloc (.cells #[.slice none 0 0, .slice none 0 0] 27)
  have hqb : Qb (w.alloc (.cells #[.slice none 0 0, .slice none 0 0] 27)) w.heap.size := heap_new w _
  clear hq
  go_enter Try.func47, Try.ntmps47
  go_wp2_with fail
  have hs1 : (w.alloc (.cells #[.slice none 0 0, .slice none 0 0] 27)).heap.size = w.heap.size + 1 := by simp
  generalize w.alloc _ = w1 at hq1 hd1 hqb hs1 ⊢
  refine (draw_s _ _ hq1).mono ?_
  rintro e w2 ⟨A, n, c, L, m, d, T, N, rfl, hV, hn8, hm24, hA, hL, hlo, h1, h2, hd⟩
  have hlen := hA.rd
  have hVl := valid_len hV
  have hnl : T.ases.length = n := Ra.len hlen
  have hn1 : 1 ≤ n := by omega
  rw [hs1] at hA h1
  have hPa := pa_start (g := g) (w := w) (T := T) hglt hA hL hlo h1 h2 ((hd.1.block _ hqb.lt (fun e => by injection e with e; omega)).trans hqb) (hd1.trans hd)
  have hW := Vld.wf hV
  obtain ⟨xs, ls⟩ := T
  dsimp only at hPa
  have hWf := Lib.hid hW
  clear hW hV hVl hnl hlen hA hL hlo h1 h2 hd hq1 hd1 hqb hs1
  obtain ⟨gA, rfl, hgA, _⟩ := hPa.st.head (by omega)
  obtain ⟨c0, c1⟩ := hPa.st.cells
  go_wp2_with fail
  generalize w2.alloc _ = w3 at hPa c0 c1 ⊢
  generalize w2.heap.size = p at hPa c0 c1 ⊢
  refine (below_s _ _ _ hPa.cu (by omega)).mono ?_
  rintro e w4 ⟨x, hx0, hx1, rfl, hd⟩
  replace hPa := hPa.draw hd
  clear hd c0 c1
  obtain ⟨k, rfl⟩ := Int.eq_ofNat_of_zero_le hx0
  have hk : k < n := by omega
  clear hx0 hx1
  go_wp2_with fail
  refine (below_s _ _ _ hPa.cu (by omega)).mono ?_
  rintro e w5 ⟨sw, hs0, hs1, rfl, hd⟩
  replace hPa := hPa.draw hd
  clear hd
  obtain ⟨xk, hxk0⟩ : ∃ x, xs[k]? = some x := ⟨_, List.getElem?_eq_getElem (by have := hPa.st.lenA; omega)⟩
  obtain ⟨xz, hxz0⟩ : ∃ x, xs[0]? = some x := ⟨_, List.getElem?_eq_getElem (by have := hPa.st.lenA; omega)⟩
  obtain ⟨a0, a1, a2⟩ := hPa.st.asCell hxk0
  obtain ⟨z0, z1, z2⟩ := hPa.st.asCell hxz0
  simp only [Nat.zero_mul, Nat.zero_add] at z0 z1 z2
  have hxk := Lib.hid hxk0
  have hxz := Lib.hid hxz0
  clear hxk0 hxz0
  obtain ⟨c0, c1⟩ := hPa.st.cells
  have i1' : (0 : Int) ≤ (k : Int) := by omega
  have i2' : (k : Int) < (n : Int) := by omega
  have i3' : 0 < n := by omega
  have hpl := hPa.size
  by_cases e0 : sw = 0
  · subst e0
    have hPd := hPa.drew
    go_wp2_with fail
    go_region_law (first | (go_simp; go_at_call 68; refine (int_s _ _ _ _ [0, -1, 2147483647, xz.key] _ (hPd.alloc _).cu (Ri.litA (zs := [0, -1, 2147483647, xz.key])) (by simp) (by simp) (fun b off e => by injection e with e; injection e with e; have := hPd.dr.2.lt; have := hPd.hg; have := hPd.dr.size; simp at *; omega)).mono ?_; rintro e wB ⟨y, hy, rfl, hdB⟩; have Hy := Lib.hid hy; clear hy; have hPB := (hPd.alloc _).draw hdB; obtain ⟨cB0, cB1⟩ := hPB.st.cells; obtain ⟨aB0, aB1, aB2⟩ := hPB.st.asCell hxk.out; have fB := (hPB.st.setAs (u := .int .i64 y) (z := ⟨xk.isd, xk.core, y⟩) hxk.out (j := 2) (by omega) rfl).2.1))
    all_goals
      obtain ⟨_, _, s1, s2⟩ := hPB.st.setAs (u := .int .i64 y) (z := ⟨xk.isd, xk.core, y⟩) hxk.out (j := 2) (by omega) rfl
      have hP9 := hPB.next s1 s2
      clear s1 s2 a0 a1 a2 z0 z1 z2 c0 c1 cB0 cB1 aB0 aB1 aB2 fB
      generalize World.setCell wB _ _ = w9 at hP9 ⊢
      obtain ⟨⟨q0, q1⟩, qf0, qf1⟩ := hP9.qb.cells
      obtain ⟨x0, x1⟩ := hP9.st.cells
      have hpq := hP9.pos
      go_wp2
      refine bodyPost_ret (v := .agg #[.slice (some ⟨gA, 0, none⟩) n c, .slice L m d]) (by simp [results, Try.results47, go_sem]; go_simp) rfl ?_
      exact any_fin (hP9.top hn8 (by omega) (wf_set hWf.out (hWf.out.1 xk (List.mem_of_getElem? hxk.out)))) hP9.dr hP9.hg _ _
  have sq0 : (sw == 0) = false := by simpa using e0
  by_cases e1 : sw = 1
  · subst e1
    have hPd := hPa.drew
    go_wp2_with fail
    go_region_law (first | (go_simp; go_at_call 68; refine (int_s _ _ _ _ [-1, 3, 2] _ (hPd.alloc _).cu (Ri.litA (zs := [-1, 3, 2])) (by simp) (by simp) (fun b off e => by injection e with e; injection e with e; have := hPd.dr.2.lt; have := hPd.hg; have := hPd.dr.size; simp at *; omega)).mono ?_; rintro e wB ⟨y, hy, rfl, hdB⟩; have Hy := Lib.hid hy; clear hy; have hPB := (hPd.alloc _).draw hdB; obtain ⟨cB0, cB1⟩ := hPB.st.cells; obtain ⟨aB0, aB1, aB2⟩ := hPB.st.asCell hxk.out; have fB := (hPB.st.setAs (u := .int .i64 y) (z := ⟨y, xk.core, xk.key⟩) hxk.out (j := 0) (by omega) rfl).2.1; simp only [Nat.add_zero] at fB))
    all_goals
      obtain ⟨_, _, s1, s2⟩ := hPB.st.setAs (u := .int .i64 y) (z := ⟨y, xk.core, xk.key⟩) hxk.out (j := 0) (by omega) rfl
      simp only [Nat.add_zero] at s1 s2
      have hP9 := hPB.next s1 s2
      clear s1 s2 a0 a1 a2 z0 z1 z2 c0 c1 cB0 cB1 aB0 aB1 aB2 fB
      generalize World.setCell wB _ _ = w9 at hP9 ⊢
      obtain ⟨⟨q0, q1⟩, qf0, qf1⟩ := hP9.qb.cells
      obtain ⟨x0, x1⟩ := hP9.st.cells
      have hpq := hP9.pos
      go_wp2
      refine bodyPost_ret (v := .agg #[.slice (some ⟨gA, 0, none⟩) n c, .slice L m d]) (by simp [results, Try.results47, go_sem]; go_simp) rfl ?_
      exact any_fin (hP9.top hn8 (by omega) (wf_set hWf.out (show I64 y by have := Hy.out; simp at this; unfold I64; omega))) hP9.dr hP9.hg _ _
  have sq1 : (sw == 1) = false := by simpa using e1
  by_cases e2 : sw = 2
  · subst e2
    obtain ⟨_, f0, s1, s2⟩ := hPa.st.setAs (u := .bool (!xk.core)) (z := ⟨xk.isd, !xk.core, xk.key⟩) hxk.out (j := 1) (by omega) rfl
    have hP9 := (hPa.next s1 s2).drew
    clear s1 s2
    have hne := (hPa.st.loA gA rfl).2
    have hne' := hne.symm
    have hne2 : ¬ w.heap.size = gA := by omega
    have hne3 : ¬ gA = w.heap.size := by omega
    obtain ⟨⟨q0, q1⟩, qf0, qf1⟩ := hPa.qb.cells
    have hpq := hPa.pos
    go_wp2_with fail
    go_still_tail 12, (by kernel_rfl)
    change wpList _ _ _ _ _ w5.drew
    go_wp2
    refine bodyPost_ret (v := .agg #[.slice (some ⟨gA, 0, none⟩) n c, .slice L m d]) (by simp [results, Try.results47, go_sem]; go_simp) rfl ?_
    exact any_fin (hP9.top hn8 (by omega) (wf_set hWf.out (hWf.out.1 xk (List.mem_of_getElem? hxk.out)))) hP9.dr hP9.hg _ _
  have sq2 : (sw == 2) = false := by simpa using e2
  by_cases e3 : sw = 3
  · subst e3
    by_cases hm0 : 0 < m
    · obtain ⟨gL, rfl, hgL, _⟩ := hPa.st.oL.head hm0
      have hm0' : (0 : Int) < (m : Int) := by omega
      have hPd := hPa.drew
      go_wp2_with fail
      go_region_law (first
        | (have _hX := hdB; refine step_pushW _ rfl (.tmp 60) (.tmp 70) 25 rfl N 42 i1 _ 5 40 Try.underlying25 hi' hy0 hy1 hy2 rfl (by omega) (by omega) (some ⟨gL, 0, none⟩) m d _ rfl (hPB.alloc _).st.oL wB.heap.size 1 (Lk.cells l) rfl rfl (new_cells wB (Lk.cells l) _) (lk_one _) (by omega) (by have := hPB.st.hN; simp <;> omega) ?_; intro L' d' w8 ho hg hat; obtain ⟨k0, k1, kf⟩ := (hPB.alloc _).st.keepL hg)
        | (go_simp; go_at_call 48; refine (below_s _ _ _ hPd.cu (by omega)).mono ?_; rintro e wB ⟨y, hy0', hy1', rfl, hdB⟩; have hPB := hPd.draw hdB; obtain ⟨yk, rfl⟩ := Int.eq_ofNat_of_zero_le hy0'; have hyk : (yk : Int) < (m : Int) := (by omega); have hyk2 : yk < m := (by omega); have hyk3 : (0 : Int) ≤ (yk : Int) := (by omega); obtain ⟨l, hl0⟩ : ∃ l, ls[yk]? = some l := ⟨_, List.getElem?_eq_getElem (by have := hPB.st.lenL; omega)⟩; obtain ⟨l0, l1, l2, l3, l4⟩ := hPB.st.lkCell hl0; have hl := Lib.hid hl0; clear hl0; obtain ⟨cB0, cB1⟩ := hPB.st.cells; have ltB := hPB.size))
      all_goals
        obtain ⟨s1, s2⟩ := (hPB.alloc _).st.addLk ho hg hat
        have hP9 := (hPB.alloc _).next s1 s2
        clear s1 s2 a0 a1 a2 z0 z1 z2 c0 c1 ho hg hat k0 k1 kf l0 l1 l2 l3 l4 cB0 cB1
        generalize World.setCell w8 _ _ = w9 at hP9 ⊢
        obtain ⟨⟨q0, q1⟩, qf0, qf1⟩ := hP9.qb.cells
        obtain ⟨x0, x1⟩ := hP9.st.cells
        have hpq := hP9.pos
        go_wp2
        refine bodyPost_ret (v := .agg #[.slice (some ⟨gA, 0, none⟩) n c, .slice L' (m + 1) d']) (by simp [results, Try.results47, go_sem]; go_simp) rfl ?_
        exact any_fin (hP9.top hn8 (by omega) (wf_snoc hWf.out (hWf.out.2 l (List.mem_of_getElem? hl.out)))) hP9.dr hP9.hg _ _

    · have hm0' : ¬ (0 : Int) < (m : Int) := by omega
      obtain ⟨⟨q0, q1⟩, qf0, qf1⟩ := hPa.qb.cells
      obtain ⟨x0, x1⟩ := hPa.st.cells
      have hpq := hPa.pos
      go_wp2
      refine bodyPost_ret (v := .agg #[.slice (some ⟨gA, 0, none⟩) n c, .slice L m d]) (by simp [results, Try.results47, go_sem]; go_simp) rfl ?_
      exact any_fin (hPa.top hn8 (by omega) hWf.out) hPa.dr hPa.hg _ _
  have sq3 : (sw == 3) = false := by simpa using e3
  by_cases e4 : sw = 4
  · subst e4
    have hPd := hPa.drew
    go_wp2_with fail
    go_region_law (first
      | (have _hX := hdC; refine step_pushW _ rfl (.tmp 76) (.tmp 85) 25 rfl N 42 i1 _ 5 40 Try.underlying25 hi' hy0 hy1 hy2 rfl (by omega) (by omega) L m d _ rfl (hPC.alloc _).st.oL zw.heap.size 1 (Lk.cells ⟨x - 1, 6, y, 6, z⟩) rfl rfl (new_cells zw (Lk.cells ⟨x - 1, 6, y, 6, z⟩) _) (lk_one _) (by omega) (by have := hPC.st.hN; simp <;> omega) ?_; intro L' d' w8 ho hg hat; obtain ⟨k0, k1, kf⟩ := (hPC.alloc _).st.keepL hg)
      | (have _hX := hdB; go_simp; go_at_call 48; refine (below_s _ _ _ hPB.cu (by omega)).mono ?_; rintro e zw ⟨z, z0, z1, rfl, hdC⟩; have hPC := hPB.draw hdC; obtain ⟨zc0, zc1⟩ := hPC.st.cells; have zlt := hPC.size)
      | (have _hX := hdA; go_simp; go_at_call 48; refine (below_s _ _ _ hPA.cu (by omega)).mono ?_; rintro e yw ⟨y, y0, y1, rfl, hdB⟩; have hPB := hPA.draw hdB; obtain ⟨yc0, yc1⟩ := hPB.st.cells; have ylt := hPB.size)
      | (go_simp; go_at_call 48; refine (below_s _ _ _ hPd.cu (by omega)).mono ?_; rintro e xw ⟨x, x0, x1, rfl, hdA⟩; have hPA := hPd.draw hdA; obtain ⟨xc0, xc1⟩ := hPA.st.cells; have xlt := hPA.size; have xe : IntKind.i64.wrap (x - 1) = x - 1 := IntWalk.i64_in _ (by omega)))

    all_goals
      obtain ⟨s1, s2⟩ := (hPC.alloc _).st.addLk ho hg hat
      have hP9 := (hPC.alloc _).next s1 s2
      clear s1 s2 a0 a1 a2 z0 z1 z2 c0 c1 ho hg hat k0 k1 kf xc0 xc1 yc0 yc1 zc0 zc1
      generalize World.setCell w8 _ _ = w9 at hP9 ⊢
      obtain ⟨⟨q0, q1⟩, qf0, qf1⟩ := hP9.qb.cells
      obtain ⟨x0, x1⟩ := hP9.st.cells
      have hpq := hP9.pos
      go_wp2
      refine bodyPost_ret (v := .agg #[.slice (some ⟨gA, 0, none⟩) n c, .slice L' (m + 1) d']) (by simp [results, Try.results47, go_sem]; go_simp) rfl ?_
      exact any_fin (hP9.top hn8 (by omega) (wf_snoc hWf.out ⟨i64_6, i64_6⟩)) hP9.dr hP9.hg _ _
  have sq4 : (sw == 4) = false := by simpa using e4
  by_cases e5 : sw = 5
  · subst e5
    have f0 := hPa.st.froz 0
    have f1 := hPa.st.froz 1
    have hpq := hPa.pos
    obtain ⟨⟨q0, q1⟩, qf0, qf1⟩ := hPa.qb.cells
    have hql := hPa.qb.lt
    go_wp2
    refine bodyPost_ret (v := .agg #[.slice (some ⟨w5.heap.size, 0, none⟩) 0 0, .slice L m d]) (by simp [results, Try.results47, go_sem]; go_simp) rfl ?_
    exact pa_none hPa _ _ _ _ (by omega) hWf.out
  have sq5 : (sw == 5) = false := by simpa using e5
  clear a0 a1 a2 z0 z1 z2 c0 c1
  obtain ⟨⟨q0, q1⟩, qf0, qf1⟩ := hPa.qb.cells
  obtain ⟨x0, x1⟩ := hPa.st.cells
  have hpq := hPa.pos
  go_wp2
  refine bodyPost_ret (v := .agg #[.slice (some ⟨gA, 0, none⟩) n c, .slice L m d]) (by simp [results, Try.results47, go_sem]; go_simp) rfl ?_
  exact any_fin (hPa.top hn8 (by omega) hWf.out) hPa.dr hPa.hg _ _
end Go.Proofs.Ytehfcejpoigclaa
