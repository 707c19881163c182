/- A cursor of draws in memory: a block of its own with the bytes drawn from, a place and a number; how it stays as it is. No program in sight. -/
import Derived.Test.YtehfcejpoigclaaMem
namespace Go.Proofs.Ytehfcejpoigclaa
open Go.RowKit
set_option linter.unusedVariables false

def CuAt (w : World) (T : TypeId) (g : Nat) (B : Option Addr) (n c : Nat) (i h : Int) (bs : List Int) : Prop :=
  w.heap[g]? = some (.cells #[.slice B n c, .int .i64 i, .int .i64 h] T (0, 0)) ∧ 0 ≤ i ∧ i ≤ (n : Int) ∧ n ≤ 1048576 ∧ -9223372036854775808 ≤ h ∧ h ≤ 9223372036854775807 ∧ Ri w .u8 B n bs ∧ (∀ x ∈ bs, 0 ≤ x ∧ x ≤ 255) ∧ (0 < n → ∀ b off, B = some ⟨b, off, none⟩ → b < g)
/-- A cursor lies in block g. -/
def Cu (w : World) (T : TypeId) (g : Nat) : Prop := ∃ (B : Option Addr) (n c : Nat) (i h : Int) (bs : List Int), CuAt w T g B n c i h bs
/-- Draws: only the cursor's block has turned, and what is new. -/
def Dr (T : TypeId) (g : Nat) (w w' : World) : Prop := w.grownBy w' (some g) ∧ Cu w' T g

section
variable {w w' : World} {T : TypeId} {g n c : Nat} {B : Option Addr} {i h : Int} {bs : List Int}
theorem CuAt.lt (q : CuAt w T g B n c i h bs) : g < w.heap.size := (Array.getElem?_eq_some_iff.1 q.1).1
theorem CuAt.cells (q : CuAt w T g B n c i h bs) : w.cell? ⟨g, 0, none⟩ = some (.slice B n c) ∧ w.cell? ⟨g, 1, none⟩ = some (.int .i64 i) ∧ w.cell? ⟨g, 2, none⟩ = some (.int .i64 h) := by
  have e := q.1
  refine ⟨?_, ?_, ?_⟩ <;> simp [World.cell?, e]
theorem CuAt.froz (q : CuAt w T g B n c i h bs) (j : Nat) : w.frozen? ⟨g, j, none⟩ = false := by
  have e := q.1
  simp [World.frozen?, e]
theorem CuAt.keep (q : CuAt w T g B n c i h bs) {row : Option Nat} (hg : w.grownBy w' row) (hne : ∀ r, row = some r → g < r) : CuAt w' T g B n c i h bs := by
  obtain ⟨e, h1, h2, h3, h4, h5, hr, hb, hB⟩ := q
  have hlt : g < w.heap.size := (Array.getElem?_eq_some_iff.1 e).1
  refine ⟨?_, h1, h2, h3, h4, h5, hr.farUp hg g hB (fun r er => Nat.le_of_lt (hne r er)), hb, hB⟩
  rw [hg.block g hlt (fun er => by have := hne g er.symm; omega)]
  exact e
theorem heap_setCell_same {cs : Array Value} {fz : Nat × Nat} (e : w.heap[g]? = some (.cells cs T fz)) (j : Nat) (v : Value) : (w.setCell ⟨g, j, none⟩ v).heap[g]? = some (.cells (cs.setIfInBounds j v) T fz) := by
  unfold World.setCell
  rw [Array.getElem?_modify]
  simp [e]
theorem grown_setC (w : World) (g j : Nat) (v : Value) : w.grownBy (w.setCell ⟨g, j, none⟩ v) (some g) :=
  ⟨rfl, rfl, rfl, by simp [World.setCell], fun k hk hne => Below.heap_setCell w ⟨g, j, none⟩ v k (fun e => hne (by rw [e]))⟩
theorem CuAt.ri_set (q : CuAt w T g B n c i h bs) (j : Nat) (v : Value) : Ri (w.setCell ⟨g, j, none⟩ v) .u8 B n bs :=
  q.2.2.2.2.2.2.1.farUp (grown_setC w g j v) g q.2.2.2.2.2.2.2.2 (fun r er => by injection er with er; omega)
theorem CuAt.setI (q : CuAt w T g B n c i h bs) {i' : Int} (h0 : 0 ≤ i') (h1 : i' ≤ (n : Int)) : CuAt (w.setCell ⟨g, 1, none⟩ (.int .i64 i')) T g B n c i' h bs :=
  ⟨by rw [heap_setCell_same q.1]; simp, h0, h1, q.2.2.2.1, q.2.2.2.2.1, q.2.2.2.2.2.1, q.ri_set _ _, q.2.2.2.2.2.2.2.1, q.2.2.2.2.2.2.2.2⟩
theorem CuAt.setH (q : CuAt w T g B n c i h bs) {h' : Int} (h0 : -9223372036854775808 ≤ h') (h1 : h' ≤ 9223372036854775807) : CuAt (w.setCell ⟨g, 2, none⟩ (.int .i64 h')) T g B n c i h' bs :=
  ⟨by rw [heap_setCell_same q.1]; simp, q.2.1, q.2.2.1, q.2.2.2.1, h0, h1, q.ri_set _ _, q.2.2.2.2.2.2.2.1, q.2.2.2.2.2.2.2.2⟩
theorem Cu.lt (q : Cu w T g) : g < w.heap.size := by obtain ⟨B, n, c, i, h, bs, q⟩ := q; exact q.lt
theorem Cu.keep (q : Cu w T g) {row : Option Nat} (hg : w.grownBy w' row) (hne : ∀ r, row = some r → g < r) : Cu w' T g := by
  obtain ⟨B, n, c, i, h, bs, q⟩ := q
  exact ⟨B, n, c, i, h, bs, q.keep hg hne⟩
theorem grown_of_below (hb : Below w.heap.size w w') (row : Option Nat) : w.grownBy w' row := ⟨hb.os, hb.tape, hb.output, hb.size, fun k hk _ => hb.block k hk⟩
theorem Cu.below (q : Cu w T g) (hb : Below w.heap.size w w') : Cu w' T g := q.keep (grown_of_below hb none) (fun r e => by cases e)
theorem Cu.alloc (q : Cu w T g) (o : Obj) : Cu (w.alloc o) T g := q.below ((Below.refl _ _).alloc (Nat.le_refl _) o)
theorem Cu.drew (q : Cu w T g) : Cu w.drew T g := q
theorem Cu.drewN (q : Cu w T g) (k : Nat) : Cu (w.drewN k) T g := q
theorem Dr.refl (q : Cu w T g) : Dr T g w w := ⟨World.grownBy.refl _ _, q⟩
theorem Dr.trans {a b c : World} (h : Dr T g a b) (k : Dr T g b c) : Dr T g a c := ⟨h.1.trans k.1, k.2⟩
theorem Dr.of_below (q : Cu w T g) (hb : Below w.heap.size w w') : Dr T g w w' := ⟨grown_of_below hb _, q.below hb⟩
theorem Dr.alloc {a : World} (h : Dr T g a w) (o : Obj) : Dr T g a (w.alloc o) := h.trans (Dr.of_below h.2 ((Below.refl _ _).alloc (Nat.le_refl _) o))
theorem Dr.drew {a : World} (h : Dr T g a w) : Dr T g a w.drew := h.trans (Dr.of_below h.2 ((Below.refl _ _).drew))
theorem Dr.size (h : Dr T g w w') : w.heap.size ≤ w'.heap.size := h.1.size
theorem Dr.below (h : Dr T g w w') {base : Nat} (hg : base ≤ g) (hb : base ≤ w.heap.size) : Below base w w' := (Below.refl base w).grown h.1 hb (fun k e => by injection e with e; omega)
theorem Ri.dr {k : IntKind} {A : Option Addr} {m : Nat} {zs : List Int} (r : Ri w k A m zs) (h : Dr T g w w') (hne : ∀ b off, A = some ⟨b, off, none⟩ → b ≠ g) : Ri w' k A m zs := Ri.grown r h.1 (fun b off e he => hne b off e (by injection he))
theorem Oi.dr {base : Nat} {E : TypeId} {k : IntKind} {A : Option Addr} {m d : Nat} {zs : List Int} (o : Oi w base E k A m d zs) (h : Dr T g w w') (hb : g < base) : Oi w' base E k A m d zs := o.farDown h.1 (fun r e => by injection e with e; omega)
/-- A literal's row. -/
theorem Ri.lit {k : IntKind} {zs : List Int} {cs : Array Value} {E : TypeId} {fz : Nat × Nat} (e : w.heap[g]? = some (.cells cs E fz)) (hz : cs.toList = zs.map (Value.int k)) : Ri w k (some ⟨g, 0, none⟩) zs.length zs := by
  refine ⟨by simp, fun _ => ⟨g, 0, rfl, (Array.getElem?_eq_some_iff.1 e).1, fun j u hu => ?_⟩⟩
  rw [← hz] at hu
  simp [World.cell?, e]
  simpa using hu
end
end Go.Proofs.Ytehfcejpoigclaa
