/- Topologies in memory: rows of ASes and of links, what they read as. No program in sight. -/
import Derived.Test.YtehfcejpoigclaaMem
import Derived.Deep.Draws
namespace Go.Proofs.Ytehfcejpoigclaa
open Go.RowKit
set_option linter.unusedVariables false

structure As where
  isd : Int
  core : Bool
  key : Int
structure Lk where
  a : Int
  ai : Int
  b : Int
  bi : Int
  kind : Int
structure Tp where
  ases : List As
  links : List Lk
def As.cells (x : As) : List Value := [.int .i64 x.isd, .bool x.core, .int .i64 x.key]
def Lk.cells (x : Lk) : List Value := [.int .i64 x.a, .int .i64 x.ai, .int .i64 x.b, .int .i64 x.bi, .int .i64 x.kind]
def As.val (x : As) : Value := .agg #[.int .i64 x.isd, .bool x.core, .int .i64 x.key]
def Lk.val (x : Lk) : Value := .agg #[.int .i64 x.a, .int .i64 x.ai, .int .i64 x.b, .int .i64 x.bi, .int .i64 x.kind]

theorem flat_len {α : Type} (f : α → List Value) (s : Nat) (hs : ∀ x, (f x).length = s) (xs : List α) : (xs.flatMap f).length = xs.length * s := by
  induction xs with
  | nil => simp
  | cons x xs ih => rw [List.flatMap_cons, List.length_append, ih, hs, List.length_cons, Nat.succ_mul]; omega
theorem flat_get {α : Type} (f : α → List Value) (s : Nat) (hs : ∀ x, (f x).length = s) (xs : List α) (i j : Nat) (x : α) (hx : xs[i]? = some x) (hj : j < s) : (xs.flatMap f)[i * s + j]? = (f x)[j]? := by
  induction xs generalizing i with
  | nil => simp at hx
  | cons y xs ih =>
    rw [List.flatMap_cons]
    cases i with
    | zero =>
      simp at hx
      subst hx
      rw [Nat.zero_mul, Nat.zero_add, List.getElem?_append_left (by rw [hs]; exact hj)]
    | succ i =>
      rw [List.getElem?_cons_succ] at hx
      rw [List.getElem?_append_right (by rw [hs, Nat.succ_mul]; omega), hs, show (i + 1) * s + j - s = i * s + j by rw [Nat.succ_mul]; omega]
      exact ih i hx
theorem as_cells (x : As) : x.cells.length = 3 := rfl
theorem lk_cells (x : Lk) : x.cells.length = 5 := rfl
def Ra (w : World) (A : Option Addr) (n : Nat) (xs : List As) : Prop := Rd w 3 A n (xs.flatMap As.cells)
def Rl (w : World) (A : Option Addr) (n : Nat) (xs : List Lk) : Prop := Rd w 5 A n (xs.flatMap Lk.cells)
section
variable {w w' : World} {A L : Option Addr} {n m c d : Nat}
theorem Ra.len {xs : List As} (h : Ra w A n xs) : xs.length = n := by
  have h1 := h.1
  rw [flat_len _ 3 as_cells] at h1
  omega
theorem Rl.len {xs : List Lk} (h : Rl w A n xs) : xs.length = n := by
  have h1 := h.1
  rw [flat_len _ 5 lk_cells] at h1
  omega
theorem Ra.get {xs : List As} (h : Ra w A n xs) {i : Nat} (hi : i < n) : ∃ b off x, A = some ⟨b, off, none⟩ ∧ xs[i]? = some x ∧
    w.cell? ⟨b, off + i * 3, none⟩ = some (.int .i64 x.isd) ∧ w.cell? ⟨b, off + i * 3 + 1, none⟩ = some (.bool x.core) ∧ w.cell? ⟨b, off + i * 3 + 2, none⟩ = some (.int .i64 x.key) := by
  have hl := h.len
  have hx : xs[i]? = some (xs[i]'(by omega)) := List.getElem?_eq_getElem (by omega)
  have g := fun j hj => flat_get As.cells 3 as_cells xs i j _ hx hj
  obtain ⟨b, off, e, _, h0⟩ := Rd.get h (g 0 (by omega))
  subst e
  have at_ : ∀ j u, (xs.flatMap As.cells)[i * 3 + j]? = some u → w.cell? ⟨b, off + i * 3 + j, none⟩ = some u := by
    intro j u hu
    obtain ⟨b', off', e, _, hc⟩ := Rd.get h hu
    injection e with e
    injection e with e1 e2
    subst e1
    subst e2
    rw [Nat.add_assoc]
    exact hc
  exact ⟨b, off, _, rfl, hx, h0, at_ 1 _ (g 1 (by omega)), at_ 2 _ (g 2 (by omega))⟩
theorem Rl.get {xs : List Lk} (h : Rl w A n xs) {i : Nat} (hi : i < n) : ∃ b off x, A = some ⟨b, off, none⟩ ∧ xs[i]? = some x ∧
    w.cell? ⟨b, off + i * 5, none⟩ = some (.int .i64 x.a) ∧ w.cell? ⟨b, off + i * 5 + 1, none⟩ = some (.int .i64 x.ai) ∧ w.cell? ⟨b, off + i * 5 + 2, none⟩ = some (.int .i64 x.b) ∧
    w.cell? ⟨b, off + i * 5 + 3, none⟩ = some (.int .i64 x.bi) ∧ w.cell? ⟨b, off + i * 5 + 4, none⟩ = some (.int .i64 x.kind) := by
  have hl := h.len
  have hx : xs[i]? = some (xs[i]'(by omega)) := List.getElem?_eq_getElem (by omega)
  have g := fun j hj => flat_get Lk.cells 5 lk_cells xs i j _ hx hj
  obtain ⟨b, off, e, _, h0⟩ := Rd.get h (g 0 (by omega))
  subst e
  have at_ : ∀ j u, (xs.flatMap Lk.cells)[i * 5 + j]? = some u → w.cell? ⟨b, off + i * 5 + j, none⟩ = some u := by
    intro j u hu
    obtain ⟨b', off', e, _, hc⟩ := Rd.get h hu
    injection e with e
    injection e with e1 e2
    subst e1
    subst e2
    rw [Nat.add_assoc]
    exact hc
  exact ⟨b, off, _, rfl, hx, h0, at_ 1 _ (g 1 (by omega)), at_ 2 _ (g 2 (by omega)), at_ 3 _ (g 3 (by omega)), at_ 4 _ (g 4 (by omega))⟩
theorem Ra.below {xs : List As} {B : Nat} (h : Ra w A n xs) (hb : Below B w w') (hB : w.heap.size ≤ B) : Ra w' A n xs := Rd.below h hb hB
theorem Rl.below {xs : List Lk} {B : Nat} (h : Rl w A n xs) (hb : Below B w w') (hB : w.heap.size ≤ B) : Rl w' A n xs := Rd.below h hb hB
theorem Ra.alloc {xs : List As} (h : Ra w A n xs) (o : Obj) : Ra (w.alloc o) A n xs := Rd.alloc h o
theorem Rl.alloc {xs : List Lk} (h : Rl w A n xs) (o : Obj) : Rl (w.alloc o) A n xs := Rd.alloc h o
theorem Rl.takes {xs : List Lk} (h : Rl w A n xs) {k : Nat} (hk : k ≤ n) : Rl w A k (xs.take k) := by
  have h1 := Rd.takes h hk
  have e : ∀ (xs : List Lk) (k : Nat), (xs.flatMap Lk.cells).take (k * 5) = (xs.take k).flatMap Lk.cells := by
    intro xs
    induction xs with
    | nil => intro k; simp
    | cons x xs ih =>
      intro k
      cases k with
      | zero => simp
      | succ k =>
        rw [List.take_succ_cons, List.flatMap_cons, List.flatMap_cons, ← ih k, Nat.succ_mul, Nat.add_comm, List.take_append, lk_cells, Nat.add_sub_cancel_left, List.take_of_length_le (by rw [lk_cells]; omega)]
  rw [e] at h1
  exact h1
theorem Ra.takes {xs : List As} (h : Ra w A n xs) {k : Nat} (hk : k ≤ n) : Ra w A k (xs.take k) := by
  have h1 := Rd.takes h hk
  have e : ∀ (xs : List As) (k : Nat), (xs.flatMap As.cells).take (k * 3) = (xs.take k).flatMap As.cells := by
    intro xs
    induction xs with
    | nil => intro k; simp
    | cons x xs ih =>
      intro k
      cases k with
      | zero => simp
      | succ k =>
        rw [List.take_succ_cons, List.flatMap_cons, List.flatMap_cons, ← ih k, Nat.succ_mul, Nat.add_comm, List.take_append, as_cells, Nat.add_sub_cancel_left, List.take_of_length_le (by rw [as_cells]; omega)]
  rw [e] at h1
  exact h1
end
/-- A topology in memory. -/
def Rt (w : World) (A : Option Addr) (n : Nat) (L : Option Addr) (m : Nat) (T : Tp) : Prop := Ra w A n T.ases ∧ Rl w L m T.links
section
variable {w w' : World} {A L : Option Addr} {n m : Nat} {T : Tp}
theorem Rt.below {B : Nat} (h : Rt w A n L m T) (hb : Below B w w') (hB : w.heap.size ≤ B) : Rt w' A n L m T := ⟨h.1.below hb hB, h.2.below hb hB⟩
theorem Rt.drew (h : Rt w A n L m T) : Rt w.drew A n L m T := h
theorem Rt.drewN (h : Rt w A n L m T) (k : Nat) : Rt (w.drewN k) A n L m T := h
theorem Rt.alloc (h : Rt w A n L m T) (o : Obj) : Rt (w.alloc o) A n L m T := ⟨h.1.alloc o, h.2.alloc o⟩
end
theorem cell_keep0 {wr w1 : World} {p : Addr} {v : Value} (h : wr.cell? p = some v) (hb : Below wr.heap.size wr w1) : w1.cell? p = some v :=
  (hb.cell (World.block_lt_of_cell? wr p h)).trans h
theorem cell_keep {wr w1 : World} {p : Addr} {v : Value} {o : Obj} (h : wr.cell? p = some v) (hb : Below (wr.alloc o).heap.size (wr.alloc o) w1) : w1.cell? p = some v :=
  cell_keep0 ((World.cell?_alloc_lt wr o p (World.block_lt_of_cell? wr p h)).trans h) hb
theorem cell_keepD {wr w1 : World} {p : Addr} {v : Value} (h : wr.cell? p = some v) (hb : Below wr.drew.heap.size wr.drew w1) : w1.cell? p = some v := cell_keep0 (wr := wr.drew) h hb
theorem below_keepD {w wr w1 : World} (h : Below w.heap.size w wr) (hb : Below wr.drew.heap.size wr.drew w1) : Below w.heap.size w w1 := h.drew.trans (hb.mono h.size)
theorem below_keep {w wr w1 : World} {o : Obj} (h : Below w.heap.size w wr) (hb : Below (wr.alloc o).heap.size (wr.alloc o) w1) : Below w.heap.size w w1 :=
  (h.alloc h.size o).trans (hb.mono (by have := h.size; simp; omega))
theorem below_keep0 {w wr w1 : World} (h : Below w.heap.size w wr) (hb : Below wr.heap.size wr w1) : Below w.heap.size w w1 := h.trans (hb.mono h.size)

/-- A row of structs of the call's own. -/
def Ow (w : World) (base : Nat) (E : TypeId) (size : Nat) (A : Option Addr) (n c : Nat) (cs : List Value) : Prop := w.ownsRow base E size (.slice A n c) n cs
section
variable {w w' : World} {base : Nat} {E : TypeId} {size : Nat} {A : Option Addr} {n c g : Nat} {cs : List Value}
theorem Ow.rd (h : Ow w base E size A n c cs) : Rd w size A n cs := Rd.of_own h
theorem Ow.below {B : Nat} (h : Ow w base E size A n c cs) (hb : Below B w w') (hB : w.heap.size ≤ B) : Ow w' base E size A n c cs := by
  refine ⟨h.1, ?_⟩
  rcases h.2 with h2 | ⟨g, cap, cur, hv, hg, hh, r⟩
  · exact .inl h2
  · have hlt : g < w.heap.size := (Array.getElem?_eq_some_iff.1 hh).1
    exact .inr ⟨g, cap, cur, hv, hg, by rw [hb.block g (by omega)]; exact hh, r⟩
theorem Ow.alloc (h : Ow w base E size A n c cs) (o : Obj) : Ow (w.alloc o) base E size A n c cs := World.ownsRow.alloc h o
theorem Ow.far {row : Option Nat} (h : Ow w base E size A n c cs) (hg : w.grownBy w' row) (hr : ∀ r, row = some r → ∀ g, A = some ⟨g, 0, none⟩ → g ≠ r) : Ow w' base E size A n c cs := by
  refine World.ownsRow.kept h hg ?_
  rcases h.2 with ⟨hv, _⟩ | ⟨g, cap, cur, hv, _⟩
  · left; rw [hv]; rfl
  · right
    have hA : A = some ⟨g, 0, none⟩ := by injection hv
    subst hA
    intro he
    exact hr g he.symm g rfl rfl
theorem Ow.block (h : Ow w base E size A n c cs) {b off : Nat} (hA : A = some ⟨b, off, none⟩) : base ≤ b ∧ b < w.heap.size := Rd.block h hA
/-- Where a row of structs is not empty its block is known. -/
theorem Ow.head (h : Ow w base E size A n c cs) (hn : 0 < n) : ∃ g, A = some ⟨g, 0, none⟩ ∧ base ≤ g ∧ g < w.heap.size := by
  rcases h.2 with ⟨_, h0⟩ | ⟨g, cap, cur, hv, hb, hg, _⟩
  · omega
  · have hA : A = some ⟨g, 0, none⟩ := by injection hv
    exact ⟨g, hA, hb, (Array.getElem?_eq_some_iff.1 hg).1⟩
theorem Ow.set (h : Ow w base E size (some ⟨g, 0, none⟩) n c cs) {j : Nat} (hj : j < n * size) (u : Value) : (∃ x, w.cell? ⟨g, j, none⟩ = some x) ∧ w.frozen? ⟨g, j, none⟩ = false ∧ Ow (w.setCell ⟨g, j, none⟩ u) base E size (some ⟨g, 0, none⟩) n c (cs.set j u) ∧ w.grownBy (w.setCell ⟨g, j, none⟩ u) (some g) := by
  have hs := World.ownsRow.stored h j u
  have hc := World.ownsRow.cellAt h j hj
  have hl := h.1
  refine ⟨⟨cs[j]'(by omega), ?_⟩, World.ownsRow.frozenAt h j, hs.1, hs.2⟩
  rw [hc, List.getElem?_eq_getElem (by omega)]
end
theorem set3 (p q : List Value) (x0 x1 x2 a b c : Value) (i : Nat) (hp : p.length = i) : (((p ++ x0 :: x1 :: x2 :: q).set i a).set (i + 1) b).set (i + 2) c = p ++ a :: b :: c :: q := by
  subst hp
  simp [List.set_append_right]
theorem set5 (p q : List Value) (x0 x1 x2 x3 x4 a b c d e : Value) (i : Nat) (hp : p.length = i) : (((((p ++ x0 :: x1 :: x2 :: x3 :: x4 :: q).set i a).set (i + 1) b).set (i + 2) c).set (i + 3) d).set (i + 4) e = p ++ a :: b :: c :: d :: e :: q := by
  subst hp
  simp [List.set_append_right]
theorem three {q : List Value} {n : Nat} (h : q.length = (n + 1) * 3) : ∃ x0 x1 x2 q', q = x0 :: x1 :: x2 :: q' ∧ q'.length = n * 3 := by
  match q, h with
  | x0 :: x1 :: x2 :: q', h => exact ⟨x0, x1, x2, q', rfl, by simp at h; omega⟩
  | [x0, x1], h => simp at h; omega
  | [x0], h => simp at h; omega
  | [], h => simp at h
theorem five {q : List Value} {n : Nat} (h : q.length = (n + 1) * 5) : ∃ x0 x1 x2 x3 x4 q', q = x0 :: x1 :: x2 :: x3 :: x4 :: q' ∧ q'.length = n * 5 := by
  match q, h with
  | x0 :: x1 :: x2 :: x3 :: x4 :: q', h => exact ⟨x0, x1, x2, x3, x4, q', rfl, by simp at h; omega⟩
  | [x0, x1, x2, x3], h => simp at h; omega
  | [x0, x1, x2], h => simp at h; omega
  | [x0, x1], h => simp at h; omega
  | [x0], h => simp at h; omega
  | [], h => simp at h
theorem flat_snoc {α : Type} (f : α → List Value) {xs : List α} {k : Nat} {x : α} (h : xs[k]? = some x) : (xs.take (k + 1)).flatMap f = (xs.take k).flatMap f ++ f x := by
  rw [List.take_add_one, h, List.flatMap_append]
  simp

/-- Only blocks from lo on and below hi, and what is new, may have turned. -/
structure Btw (lo hi : Nat) (w w' : World) : Prop where
  os : w'.os = w.os
  tape : w'.tape = w.tape
  output : w'.output = w.output
  size : w.heap.size ≤ w'.heap.size
  block : ∀ k, k < w.heap.size → (k < lo ∨ hi ≤ k) → w'.heap[k]? = w.heap[k]?
theorem Btw.refl (lo hi : Nat) (w : World) : Btw lo hi w w := ⟨rfl, rfl, rfl, Nat.le_refl _, fun _ _ _ => rfl⟩
theorem Btw.trans {lo hi : Nat} {a b c : World} (h : Btw lo hi a b) (k : Btw lo hi b c) : Btw lo hi a c :=
  ⟨k.os.trans h.os, k.tape.trans h.tape, k.output.trans h.output, Nat.le_trans h.size k.size, fun i hi hne => (k.block i (Nat.lt_of_lt_of_le hi h.size) hne).trans (h.block i hi hne)⟩
theorem Btw.of_grown {lo hi : Nat} {a b : World} {g : Nat} (h : a.grownBy b (some g)) (h1 : lo ≤ g) (h2 : g < hi) : Btw lo hi a b :=
  ⟨h.os, h.tape, h.output, h.size, fun i hi hne => h.block i hi (fun e => by injection e with e; omega)⟩
theorem Btw.of_below {lo hi : Nat} {a b : World} (h : Below a.heap.size a b) : Btw lo hi a b := ⟨h.os, h.tape, h.output, h.size, fun i hi _ => h.block i hi⟩
theorem Btw.alloc {lo hi : Nat} {a b : World} (h : Btw lo hi a b) (o : Obj) : Btw lo hi a (b.alloc o) := h.trans (Btw.of_below ((Below.refl _ _).alloc (Nat.le_refl _) o))
theorem Btw.below {lo hi : Nat} {a b : World} (h : Btw lo hi a b) : Below lo a b ∨ True := Or.inr trivial
theorem Btw.belowLo {lo hi : Nat} {a b : World} (h : Btw lo hi a b) (hl : lo ≤ a.heap.size) : Below lo a b := ⟨h.os, h.tape, h.output, h.size, fun k hk => h.block k (by omega) (Or.inl hk)⟩
theorem Oi.btw {lo hi : Nat} {w w' : World} {base : Nat} {E : TypeId} {k : IntKind} {A : Option Addr} {n c : Nat} {zs : List Int} (h : Oi w base E k A n c zs) (hb : Btw lo hi w w') (hh : ∀ g, (Value.slice A n c).ownBlock = some g → g < lo ∨ hi ≤ g) : Oi w' base E k A n c zs := by
  refine ⟨h.1, ?_⟩
  rcases h.2 with h2 | ⟨g, cap, cur, hv, hg, hr, r⟩
  · exact .inl h2
  · refine .inr ⟨g, cap, cur, hv, hg, ?_, r⟩
    rw [hb.block g (Array.getElem?_eq_some_iff.1 hr).1 (hh g (by rw [hv]; rfl))]
    exact hr
theorem Rd.btw {lo hi : Nat} {w w' : World} {size : Nat} {A : Option Addr} {n : Nat} {xs : List Value} (h : Rd w size A n xs) (hb : Btw lo hi w w') (hh : 0 < xs.length → ∀ b off, A = some ⟨b, off, none⟩ → b < lo ∨ hi ≤ b) : Rd w' size A n xs := by
  refine ⟨h.1, fun hn => ?_⟩
  obtain ⟨b, off, e, hlt, hc⟩ := h.2 hn
  refine ⟨b, off, e, Nat.lt_of_lt_of_le hlt hb.size, fun j u hu => ?_⟩
  rw [World.cell?_of_block (a := ⟨b, off + j, none⟩) (hb.block b hlt (hh hn b off e))]
  exact hc j u hu
theorem Ow.btwFar {lo hi : Nat} {w w' : World} {base : Nat} {E : TypeId} {size : Nat} {A : Option Addr} {n c : Nat} {cs : List Value} (h : Ow w base E size A n c cs) (hb : Btw lo hi w w') (hh : ∀ g, A = some ⟨g, 0, none⟩ → g < lo ∨ hi ≤ g) : Ow w' base E size A n c cs := by
  refine ⟨h.1, ?_⟩
  rcases h.2 with h2 | ⟨g, cap, cur, hv, hg, hr, r⟩
  · exact .inl h2
  · refine .inr ⟨g, cap, cur, hv, hg, ?_, r⟩
    rw [hb.block g (Array.getElem?_eq_some_iff.1 hr).1 (hh g (by injection hv))]
    exact hr
theorem Rd.inB {w : World} {size : Nat} {A : Option Addr} {n : Nat} {xs : List Value} (h : Rd w size A n xs) : 0 < xs.length → ∀ b off, A = some ⟨b, off, none⟩ → b < w.heap.size := by
  intro hn b off e
  obtain ⟨b', off', e', hlt, _⟩ := h.2 hn
  rw [e] at e'
  injection e' with e'
  injection e' with e1 e2
  omega
theorem Rd.grown2 {w w' : World} {size : Nat} {A : Option Addr} {n : Nat} {xs : List Value} {row : Option Nat} (h : Rd w size A n xs) (hg : w.grownBy w' row) (hh : 0 < xs.length → ∀ b off, A = some ⟨b, off, none⟩ → ∀ r, row = some r → b ≠ r) : Rd w' size A n xs := by
  refine ⟨h.1, fun hn => ?_⟩
  obtain ⟨b, off, e, hlt, hc⟩ := h.2 hn
  refine ⟨b, off, e, Nat.lt_of_lt_of_le hlt hg.size, fun j u hu => ?_⟩
  rw [World.cell?_of_block (a := ⟨b, off + j, none⟩) (hg.block b hlt (fun e' => hh hn b off e b e'.symm rfl))]
  exact hc j u hu
theorem bcell {W w1 : World} (hb : Below W.heap.size W w1) : (∀ b o, b < W.heap.size → w1.cell? ⟨b, o, none⟩ = W.cell? ⟨b, o, none⟩) ∧ (∀ b o, b < W.heap.size → w1.frozen? ⟨b, o, none⟩ = W.frozen? ⟨b, o, none⟩) :=
  ⟨fun b o h => hb.cell (p := ⟨b, o, none⟩) h, fun b o h => hb.frozen (p := ⟨b, o, none⟩) h⟩
end Go.Proofs.Ytehfcejpoigclaa
