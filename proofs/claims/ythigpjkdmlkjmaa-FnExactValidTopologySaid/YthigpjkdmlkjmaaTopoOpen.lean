/- An argument that is a topology, opened to its cells. -/
import Derived.Test.YthigpjkdmlkjmaaTopoMem
import Derived.Deep.Slices
import Derived.Deep.Fields
import Derived.Lib.SmallJoins
import Derived.ProofKit
namespace Go.Proofs.Ythigpjkdmlkjmaa
open Go.RowKit Go.Joins Go.ChangeShapes Go.WideShapes Go.Deep
set_option linter.unusedVariables false

def fits (n : Int) : Prop := (Lit.int .i64 n).wf = true
def WfT (T : Tp) : Prop := (∀ x ∈ T.ases, fits x.isd ∧ fits x.key) ∧ ∀ l ∈ T.links, fits l.a ∧ fits l.ai ∧ fits l.b ∧ fits l.bi ∧ fits l.kind
def InTopo (w : World) (A : Option Addr) (n c : Nat) (L : Option Addr) (m d : Nat) (T : Tp) : Prop := Rt w A n L m T ∧ n ≤ c ∧ c ≤ maxLen ∧ m ≤ d ∧ d ≤ maxLen ∧ WfT T

theorem pick_list {α : Type} (P : Nat → α → Prop) : ∀ n : Nat, (∀ i, i < n → ∃ x, P i x) → ∃ xs : List α, xs.length = n ∧ ∀ i x, xs[i]? = some x → P i x
  | 0, _ => ⟨[], rfl, fun i x h => by simp at h⟩
  | n + 1, h => by
    obtain ⟨xs, hl, hx⟩ := pick_list P n (fun i hi => h i (by omega))
    obtain ⟨y, hy⟩ := h n (by omega)
    refine ⟨xs ++ [y], by simp [hl], fun i x hi => ?_⟩
    rcases Nat.lt_or_ge i n with h1 | h1
    · rw [List.getElem?_append_left (by omega)] at hi
      exact hx i x hi
    · have h2 : i < (xs ++ [y]).length := (List.getElem?_eq_some_iff.1 hi).1
      simp [hl] at h2
      obtain rfl : i = n := by omega
      rw [List.getElem?_append_right (by omega), hl, Nat.sub_self] at hi
      simp at hi
      subst hi
      exact hy

section
variable {H : Type} {enc : TypeId × Value → H} {P : Program} {w : World} {base : Nat} {spare : Nat → Bool} {held : Bool}

theorem as_of {t : TypeId} {f0 f1 f2 : Field} {fuel : Nat} {cs : List Value} {x : DataW H × List MemPlace} (ht : P.underlying t = some (.struct #[f0, f1, f2])) (hone : oneCellFields P #[f0, f1, f2] = true) (hC : P.cellsOf t = 3)
    (h0 : P.underlying f0.type = some (.int .i64)) (h1 : P.underlying f1.type = some .bool) (h2 : P.underlying f2.type = some (.int .i64)) (h : DataW.trod enc P w base spare held fuel t cs = some x) :
    ∃ a : As, cs = a.cells ∧ fits a.isd ∧ fits a.key := by
  obtain ⟨ys, n, _, _, hlen, hyl, hf⟩ := DataW.trod_struct ht h
  rw [hC] at hlen
  obtain ⟨o0, k0⟩ := hone_of hone 0 f0 rfl
  obtain ⟨o1, k1⟩ := hone_of hone 1 f1 rfl
  obtain ⟨o2, k2⟩ := hone_of hone 2 f2 rfl
  match cs, hlen with
  | [c0, c1, c2], _ =>
    have e0 := hf 0 f0 rfl
    have e1 := hf 1 f1 rfl
    have e2 := hf 2 f2 rfl
    rw [o0, k0, List.getElem?_eq_getElem (by simp at hyl; omega)] at e0
    rw [o1, k1, List.getElem?_eq_getElem (by simp at hyl; omega)] at e1
    rw [o2, k2, List.getElem?_eq_getElem (by simp at hyl; omega)] at e2
    obtain ⟨z0, q0, _, w0⟩ := DataW.trod_int h0 e0
    obtain ⟨z1, q1, _⟩ := DataW.trod_bool h1 e1
    obtain ⟨z2, q2, _, w2⟩ := DataW.trod_int h2 e2
    simp at q0 q1 q2
    subst q0 q1 q2
    exact ⟨⟨z0, z1, z2⟩, rfl, w0, w2⟩
theorem lk_of {t : TypeId} {f0 f1 f2 f3 f4 : Field} {fuel : Nat} {cs : List Value} {x : DataW H × List MemPlace} (ht : P.underlying t = some (.struct #[f0, f1, f2, f3, f4])) (hone : oneCellFields P #[f0, f1, f2, f3, f4] = true) (hC : P.cellsOf t = 5)
    (h0 : P.underlying f0.type = some (.int .i64)) (h1 : P.underlying f1.type = some (.int .i64)) (h2 : P.underlying f2.type = some (.int .i64)) (h3 : P.underlying f3.type = some (.int .i64)) (h4 : P.underlying f4.type = some (.int .i64)) (h : DataW.trod enc P w base spare held fuel t cs = some x) :
    ∃ a : Lk, cs = a.cells ∧ fits a.a ∧ fits a.ai ∧ fits a.b ∧ fits a.bi ∧ fits a.kind := by
  obtain ⟨ys, n, _, _, hlen, hyl, hf⟩ := DataW.trod_struct ht h
  rw [hC] at hlen
  obtain ⟨o0, k0⟩ := hone_of hone 0 f0 rfl
  obtain ⟨o1, k1⟩ := hone_of hone 1 f1 rfl
  obtain ⟨o2, k2⟩ := hone_of hone 2 f2 rfl
  obtain ⟨o3, k3⟩ := hone_of hone 3 f3 rfl
  obtain ⟨o4, k4⟩ := hone_of hone 4 f4 rfl
  match cs, hlen with
  | [c0, c1, c2, c3, c4], _ =>
    have e0 := hf 0 f0 rfl
    have e1 := hf 1 f1 rfl
    have e2 := hf 2 f2 rfl
    have e3 := hf 3 f3 rfl
    have e4 := hf 4 f4 rfl
    rw [o0, k0, List.getElem?_eq_getElem (by simp at hyl; omega)] at e0
    rw [o1, k1, List.getElem?_eq_getElem (by simp at hyl; omega)] at e1
    rw [o2, k2, List.getElem?_eq_getElem (by simp at hyl; omega)] at e2
    rw [o3, k3, List.getElem?_eq_getElem (by simp at hyl; omega)] at e3
    rw [o4, k4, List.getElem?_eq_getElem (by simp at hyl; omega)] at e4
    obtain ⟨z0, q0, _, w0⟩ := DataW.trod_int h0 e0
    obtain ⟨z1, q1, _, w1⟩ := DataW.trod_int h1 e1
    obtain ⟨z2, q2, _, w2⟩ := DataW.trod_int h2 e2
    obtain ⟨z3, q3, _, w3⟩ := DataW.trod_int h3 e3
    obtain ⟨z4, q4, _, w4⟩ := DataW.trod_int h4 e4
    simp at q0 q1 q2 q3 q4
    subst q0 q1 q2 q3 q4
    exact ⟨⟨z0, z1, z2, z3, z4⟩, rfl, w0, w1, w2, w3, w4⟩

/-- A slice of structs: its elements as a list, its cells as a reading. -/
theorem rows_of {α : Type} (f : α → List Value) (s : Nat) (hs0 : 0 < s) (hs : ∀ x, (f x).length = s) (G : α → Prop) {t e : TypeId} {fuel : Nat} {v : Value} {x : DataW H × List MemPlace} (ht : P.underlying t = some (.slice e)) (hC : P.cellsOf e = s)
    (hel : ∀ fuel cs x, DataW.trod enc P w base spare held fuel e cs = some x → ∃ a : α, cs = f a ∧ G a) (h : DataW.trod enc P w base spare held fuel t [v] = some x) :
    ∃ (A : Option Addr) (n c : Nat) (xs : List α), v = .slice A n c ∧ n ≤ c ∧ c ≤ maxLen ∧ Rd w s A n (xs.flatMap f) ∧ ∀ y ∈ xs, G y := by
  rcases open_slice ht h with ⟨hcs, _⟩ | ⟨a, len, cap, m, n, D, Pl, hcs, _, hl, hm, hmm, _, hi⟩
  · simp at hcs
    exact ⟨none, 0, 0, [], hcs, Nat.le_refl _, Nat.zero_le _, Rd.empty, by simp⟩
  · simp at hcs
    have hlm : len ≤ m := by rw [hmm]; split <;> omega
    obtain ⟨xs, hxl, hx⟩ := pick_list (fun i (y : α) => G y ∧ ∀ j u, (f y)[j]? = some u → w.cell? (a.add (i * s + j)) = some u) len (fun i hil => by
      obtain ⟨cs', hc, htr⟩ := hi i (by omega)
      rw [hC] at hc
      obtain ⟨y, rfl, hy⟩ := hel _ _ _ htr
      obtain ⟨_, hcl, hat⟩ := World.cells?_some hc
      refine ⟨y, hy, fun j u hu => ?_⟩
      have hj : j < (f y).length := (List.getElem?_eq_some_iff.1 hu).1
      have := hat j (by rw [hs] at hj; exact hj)
      rw [Go.Deep.add_add] at this
      rw [this, hu])
    refine ⟨some a, len, cap, xs, hcs, hl, hm, ⟨by rw [flat_len f s hs, hxl], fun hn => ?_⟩, fun y hy => ?_⟩
    · rw [flat_len f s hs, hxl] at hn
      have hl0 : 0 < len := by
        rcases Nat.eq_zero_or_pos len with h0 | h0
        · subst h0; simp at hn
        · exact h0
      obtain ⟨b, off, spot⟩ := a
      have hget : ∀ j u, (xs.flatMap f)[j]? = some u → w.cell? ((⟨b, off, spot⟩ : Addr).add j) = some u := by
        intro j u hu
        have hj : j < (xs.flatMap f).length := (List.getElem?_eq_some_iff.1 hu).1
        rw [flat_len f s hs] at hj
        have hq : j / s < xs.length := Nat.div_lt_of_lt_mul (by rw [Nat.mul_comm]; exact hj)
        have hx0 : xs[j / s]? = some (xs[j / s]'hq) := List.getElem?_eq_getElem hq
        have hr : j % s < s := Nat.mod_lt _ hs0
        have e : j / s * s + j % s = j := by rw [Nat.mul_comm]; exact Nat.div_add_mod j s
        have h1 := flat_get f s hs xs (j / s) (j % s) _ hx0 hr
        rw [e, hu] at h1
        have h2 := (hx _ _ hx0).2 (j % s) u h1.symm
        rw [e] at h2
        exact h2
      have hc0 := hget 0 _ (List.getElem?_eq_getElem (by rw [flat_len f s hs, hxl]; exact hn))
      have hspot : spot = none := by simpa [Addr.add] using World.cell?_spot hc0
      subst hspot
      refine ⟨b, off, rfl, ?_, fun j u hu => ?_⟩
      · have := World.block_lt_of_cell? w _ hc0
        simpa [Addr.add] using this
      · have h3 := hget j u hu
        have ha : (⟨b, off, none⟩ : Addr).add j = ⟨b, off + j, none⟩ := by unfold Addr.add; split <;> simp_all
        rw [ha] at h3
        exact h3
    · obtain ⟨i, hi'⟩ := List.mem_iff_getElem?.1 hy
      exact (hx i y hi').1

theorem open_topo {r : Reach} {b0 : Nat} {t ea el : TypeId} {F0 F1 a0 a1 a2 l0 l1 l2 l3 l4 : Field} {v : Value} {d : DataW H} {p : List MemPlace}
    (ht : P.underlying t = some (.struct #[F0, F1])) (hone : oneCellFields P #[F0, F1] = true) (hC : P.cellsOf t = 2) (h0 : P.underlying F0.type = some (.slice ea)) (h1 : P.underlying F1.type = some (.slice el))
    (hea : P.underlying ea = some (.struct #[a0, a1, a2])) (hoa : oneCellFields P #[a0, a1, a2] = true) (hCa : P.cellsOf ea = 3) (ha0 : P.underlying a0.type = some (.int .i64)) (ha1 : P.underlying a1.type = some .bool) (ha2 : P.underlying a2.type = some (.int .i64))
    (hel : P.underlying el = some (.struct #[l0, l1, l2, l3, l4])) (hol : oneCellFields P #[l0, l1, l2, l3, l4] = true) (hCl : P.cellsOf el = 5) (hl0 : P.underlying l0.type = some (.int .i64)) (hl1 : P.underlying l1.type = some (.int .i64)) (hl2 : P.underlying l2.type = some (.int .i64)) (hl3 : P.underlying l3.type = some (.int .i64)) (hl4 : P.underlying l4.type = some (.int .i64))
    (hv : Value.okWide P w r b0 t v) (h : DataW.Trod enc P w base spare held t v d p) :
    ∃ (A : Option Addr) (n c : Nat) (L : Option Addr) (m e : Nat) (T : Tp), v = .agg #[.slice A n c, .slice L m e] ∧ InTopo w A n c L m e T := by
  obtain ⟨v0, v1, y0, y1, n, rfl, _, _, t0, t1⟩ := open_agg2 ht hone hC hv h
  obtain ⟨A, n, c, xs, rfl, hn, hc, hA, hg⟩ := rows_of As.cells 3 (by omega) as_cells (fun a => fits a.isd ∧ fits a.key) h0 hCa (fun fuel cs x hx => as_of hea hoa hCa ha0 ha1 ha2 hx) t0
  obtain ⟨L, m, e, ls, rfl, hm, he, hL, hk⟩ := rows_of Lk.cells 5 (by omega) lk_cells (fun a => fits a.a ∧ fits a.ai ∧ fits a.b ∧ fits a.bi ∧ fits a.kind) h1 hCl (fun fuel cs x hx => lk_of hel hol hCl hl0 hl1 hl2 hl3 hl4 hx) t1
  exact ⟨A, n, c, L, m, e, ⟨xs, ls⟩, rfl, ⟨hA, hL⟩, hn, hc, hm, he, hg, hk⟩
end
end Go.Proofs.Ythigpjkdmlkjmaa
