/- A topology under way in memory: its box, its two rows, and how they grow and turn. No program in sight. -/
import Derived.Test.YtehfcejpoigclaaTopoMem
import Derived.Test.YtehfcejpoigclaaTopoPure
import Derived.Test.YtehfcejpoigclaaCurMem
import Derived.Test.YtehfcejpoigclaaDraw1
import Derived.Test.YtehfcejpoigclaaDraw2
import Derived.Test.YtehfcejpoigclaaDraw3
import Derived.Maps.AppendAt
namespace Go.Proofs.Ytehfcejpoigclaa
open Go.RowKit
set_option linter.unusedVariables false

theorem own_shapeW {w : World} {base : Nat} {e : TypeId} {size : Nat} {v : Value} {n : Nat} {xs : List Value} (h : w.ownsRow base e size v n xs) : ∃ A c, v = .slice A n c := by
  rcases h.2 with ⟨rfl, rfl⟩ | ⟨g, cap, cur, rfl, _⟩
  · exact ⟨none, 0, rfl⟩
  · exact ⟨some ⟨g, 0, none⟩, cap, rfl⟩
theorem Ow.leC {w : World} {base : Nat} {E : TypeId} {size : Nat} {A : Option Addr} {n c : Nat} {cs : List Value} (h : Ow w base E size A n c cs) : n ≤ c := by
  rcases h.2 with ⟨hv, hn⟩ | ⟨g, cap, cur, hv, _, _, hnc, _⟩
  · omega
  · have : c = cap := by injection hv
    omega
theorem Ow.mono {w : World} {base base' : Nat} {E : TypeId} {size : Nat} {A : Option Addr} {n c : Nat} {cs : List Value} (h : Ow w base E size A n c cs) (hb : base' ≤ base) : Ow w base' E size A n c cs := by
  refine ⟨h.1, ?_⟩
  rcases h.2 with h2 | ⟨g, cap, cur, hv, hg, r⟩
  · exact .inl h2
  · exact .inr ⟨g, cap, cur, hv, by omega, r⟩
theorem Ow.nil {w : World} {base : Nat} {E : TypeId} {size : Nat} : Ow w base E size none 0 0 [] := World.ownsRow_nil w base E size
theorem Ow.bnd {w : World} {base : Nat} {E : TypeId} {size : Nat} {A : Option Addr} {n c : Nat} {cs : List Value} (h : Ow w base E size A n c cs) : ∀ r, (Value.slice A n c).ownBlock = some r → base ≤ r ∧ r < w.heap.size := World.ownsRow.lt h
section
variable {P : Program} (w : World)
/-- append(out, x): one struct onto a row of the call's own. -/
theorem run_pushW (base : Nat) (t ty e : TypeId) (i : TypeInfo) (z : Value) (size bytes : Nat) (ht : P.underlying t = some (.slice e)) (hi : P.info? e = some i) (hz : i.zero = some z)
    (hsize : i.size = size) (hby : i.bytes = bytes) (hzs : z.cells.size = size) (h0 : 0 < size) (h8 : bytes ≤ 100)
    (A : Option Addr) (n c : Nat) (cs : List Value) (hown : Ow w base e size A n c cs)
    (g d : Nat) (news : List Value) (hl : news.length = size) (hcell : ∀ j u, news[j]? = some u → w.cell? ⟨g, j, none⟩ = some u) (h1 : ∀ u ∈ news, u.oneCell' = true) (hn : n ≤ 1048576) (hbase : base ≤ w.heap.size) :
    ∃ A' c' w', (Builtin.append_ #[t, t] ty #[.slice A n c, .slice (some ⟨g, 0, none⟩) 1 d]).run P w = .ok (.slice A' (n + 1) c') w' ∧ Ow w' base e size A' (n + 1) c' (cs ++ news) ∧ w.grownBy w' (Value.slice A n c).ownBlock ∧
      ((Value.slice A' (n + 1) c').ownBlock = (Value.slice A n c).ownBlock ∨ (Value.slice A' (n + 1) c').ownBlock = some w.heap.size) := by
  have hm := Nat.mul_le_mul_left (n + 1) h8
  obtain ⟨v', w', hrun, hown', hg, _, hat⟩ := run_append_own_at (P := P) w base t ty e i z size bytes ht hi hz hsize hby hzs h0 _ n _ hown ⟨g, 0, none⟩ 1 d news (by omega) (fun j u hu => by
    have ha : (⟨g, 0, none⟩ : Addr).add j = ⟨g, j, none⟩ := by unfold Addr.add; split <;> simp_all
    rw [ha]; exact hcell j u hu) h1 (by simp only [maxLen]; omega) (by omega) hbase
  obtain ⟨A', c', rfl⟩ := own_shapeW hown'
  exact ⟨A', c', w', hrun, hown', hg, hat⟩
theorem wpList_pushW {ops : Array Oper} {rest : List Oper} {o : Oper} {a : Act} {Q : Exit → Act → World → Prop} (hgd : o.guard = none) (s x : Operand) (t : TypeId)
    (ho : o.op = .call { callee := .builtin .append, args := #[s, x], argTypes := #[t, t] })
    (base : Nat) (e : TypeId) (i : TypeInfo) (z : Value) (size bytes : Nat) (ht : P.underlying t = some (.slice e)) (hi : P.info? e = some i) (hz : i.zero = some z)
    (hsize : i.size = size) (hby : i.bytes = bytes) (hzs : z.cells.size = size) (h0 : 0 < size) (h8 : bytes ≤ 100)
    (A : Option Addr) (n c : Nat) (cs : List Value) (hs : a.eval s = .slice A n c) (hown : Ow w base e size A n c cs)
    (g d : Nat) (news : List Value) (hx : a.eval x = .slice (some ⟨g, 0, none⟩) 1 d) (hl : news.length = size) (hcell : ∀ j u, news[j]? = some u → w.cell? ⟨g, j, none⟩ = some u) (h1 : ∀ u ∈ news, u.oneCell' = true) (hn : n ≤ 1048576) (hbase : base ≤ w.heap.size)
    (h : ∀ A' c' w', Ow w' base e size A' (n + 1) c' (cs ++ news) → w.grownBy w' (Value.slice A n c).ownBlock → ((Value.slice A' (n + 1) c').ownBlock = (Value.slice A n c).ownBlock ∨ (Value.slice A' (n + 1) c').ownBlock = some w.heap.size) → wpList P ops Q rest (a.put o.dst (.slice A' (n + 1) c')) w') : wpList P ops Q (o :: rest) a w := by
  refine wpList_plain hgd fun _ hK => ?_
  obtain ⟨A', c', w', hrun, hown', hg, hat⟩ := run_pushW (P := P) w base t o.type e i z size bytes ht hi hz hsize hby hzs h0 h8 A n c cs hown g d news hl hcell h1 hn hbase
  unfold Oper.wp execOp
  simp only [ho, resolve, invoke, builtin, Sem.run_bind, Sem.run_pure, Result.andThen_ok, List.map_toArray, List.map_cons, List.map_nil, hs, hx, hrun]
  exact hK _ _ (h A' c' w' hown' hg hat)
theorem step_pushW {ops : Array Oper} {o : Oper} {a : Act} {K : Act → World → Prop} {Q : Exit → Act → World → Prop} {E : Prop} (hgd : o.guard = none) (s x : Operand) (t : TypeId)
    (ho : o.op = .call { callee := .builtin .append, args := #[s, x], argTypes := #[t, t] })
    (base : Nat) (e : TypeId) (i : TypeInfo) (z : Value) (size bytes : Nat) (ht : P.underlying t = some (.slice e)) (hi : P.info? e = some i) (hz : i.zero = some z)
    (hsize : i.size = size) (hby : i.bytes = bytes) (hzs : z.cells.size = size) (h0 : 0 < size) (h8 : bytes ≤ 100)
    (A : Option Addr) (n c : Nat) (cs : List Value) (hs : a.eval s = .slice A n c) (hown : Ow w base e size A n c cs)
    (g d : Nat) (news : List Value) (hx : a.eval x = .slice (some ⟨g, 0, none⟩) 1 d) (hl : news.length = size) (hcell : ∀ j u, news[j]? = some u → w.cell? ⟨g, j, none⟩ = some u) (h1 : ∀ u ∈ news, u.oneCell' = true) (hn : n ≤ 1048576) (hbase : base ≤ w.heap.size)
    (h : ∀ A' c' w', Ow w' base e size A' (n + 1) c' (cs ++ news) → w.grownBy w' (Value.slice A n c).ownBlock → ((Value.slice A' (n + 1) c').ownBlock = (Value.slice A n c).ownBlock ∨ (Value.slice A' (n + 1) c').ownBlock = some w.heap.size) → K (a.put o.dst (.slice A' (n + 1) c')) w') :
    if Region.wanted o (yielded ops a.tmps) = true then Oper.wp P o a w K Q else E := by
  have hw : Region.wanted o (yielded ops a.tmps) = true := by simp [Region.wanted, hgd]
  rw [if_pos hw]
  obtain ⟨A', c', w', hrun, hown', hg, hat⟩ := run_pushW (P := P) w base t o.type e i z size bytes ht hi hz hsize hby hzs h0 h8 A n c cs hown g d news hl hcell h1 hn hbase
  unfold Oper.wp execOp
  simp only [ho, resolve, invoke, builtin, Sem.run_bind, Sem.run_pure, Result.andThen_ok, List.map_toArray, List.map_cons, List.map_nil, hs, hx, hrun]
  exact h A' c' w' hown' hg hat
end
theorem flat_set {α : Type} (f : α → List Value) (s : Nat) (hs : ∀ x, (f x).length = s) (xs : List α) (i j : Nat) (x y : α) (u : Value) (hx : xs[i]? = some x) (hj : j < s) (hy : (f x).set j u = f y) : (xs.flatMap f).set (i * s + j) u = (xs.set i y).flatMap f := by
  induction xs generalizing i with
  | nil => simp at hx
  | cons z xs ih =>
    cases i with
    | zero =>
      simp at hx
      subst hx
      rw [List.flatMap_cons, List.set_cons_zero, List.flatMap_cons, ← hy, Nat.zero_mul, Nat.zero_add, List.set_append_left _ _ (by rw [hs]; exact hj)]
    | succ i =>
      rw [List.getElem?_cons_succ] at hx
      rw [List.flatMap_cons, List.set_cons_succ, List.flatMap_cons, List.set_append_right _ _ (by rw [hs, Nat.succ_mul]; omega), hs, show (i + 1) * s + j - s = i * s + j by rw [Nat.succ_mul]; omega, ih i hx]
theorem as_one (x : As) : ∀ u ∈ x.cells, u.oneCell' = true := by intro u hu; simp [As.cells] at hu; rcases hu with rfl | rfl | rfl <;> rfl
theorem lk_one (x : Lk) : ∀ u ∈ x.cells, u.oneCell' = true := by intro u hu; simp [Lk.cells] at hu; rcases hu with rfl | rfl | rfl | rfl | rfl <;> rfl
/-- The cells of a new block. -/
theorem new_cells (w : World) (l : List Value) (E : TypeId) (j : Nat) (u : Value) (h : l[j]? = some u) : (w.alloc (.cells l.toArray E)).cell? ⟨w.heap.size, j, none⟩ = some u := by
  have e := heap_new w (.cells l.toArray E)
  unfold World.cell?
  simp only [e]
  simpa using h

/-- A topology under way: its box in block p, its ASes from B on, its links from N on. -/
structure St (w : World) (p B N : Nat) (A : Option Addr) (n c : Nat) (xs : List As) (L : Option Addr) (m d : Nat) (ls : List Lk) : Prop where
  box : w.heap[p]? = some (.cells #[.slice A n c, .slice L m d] 27 (0, 0))
  oA : Ow w B 58 3 A n c (xs.flatMap As.cells)
  oL : Ow w N 42 5 L m d (ls.flatMap Lk.cells)
  loA : ∀ g, A = some ⟨g, 0, none⟩ → g < N ∧ g ≠ p
  loL : ∀ g, L = some ⟨g, 0, none⟩ → g ≠ p
  hp : B ≤ p
  hN : N ≤ w.heap.size
  hB : B ≤ N
section
variable {w w' w1 : World} {p B N n c m d : Nat} {A L : Option Addr} {xs : List As} {ls : List Lk}
theorem St.lt (h : St w p B N A n c xs L m d ls) : p < w.heap.size := (Array.getElem?_eq_some_iff.1 h.box).1
theorem St.cells (h : St w p B N A n c xs L m d ls) : w.cell? ⟨p, 0, none⟩ = some (.slice A n c) ∧ w.cell? ⟨p, 1, none⟩ = some (.slice L m d) := by
  have e := h.box
  refine ⟨?_, ?_⟩ <;> simp [World.cell?, e]
theorem St.froz (h : St w p B N A n c xs L m d ls) (j : Nat) : w.frozen? ⟨p, j, none⟩ = false := by
  have e := h.box
  simp [World.frozen?, e]
theorem St.rt (h : St w p B N A n c xs L m d ls) : Rt w A n L m ⟨xs, ls⟩ := ⟨h.oA.rd, h.oL.rd⟩
theorem St.lenA (h : St w p B N A n c xs L m d ls) : xs.length = n := Ra.len h.rt.1
theorem St.lenL (h : St w p B N A n c xs L m d ls) : ls.length = m := Rl.len h.rt.2
theorem St.below (h : St w p B N A n c xs L m d ls) (hb : Below w.heap.size w w') : St w' p B N A n c xs L m d ls :=
  ⟨by rw [hb.block p h.lt]; exact h.box, h.oA.below hb (Nat.le_refl _), h.oL.below hb (Nat.le_refl _), h.loA, h.loL, h.hp, Nat.le_trans h.hN hb.size, h.hB⟩
theorem St.alloc (h : St w p B N A n c xs L m d ls) (o : Obj) : St (w.alloc o) p B N A n c xs L m d ls := h.below ((Below.refl _ _).alloc (Nat.le_refl _) o)
theorem St.drew (h : St w p B N A n c xs L m d ls) : St w.drew p B N A n c xs L m d ls := h.below (Below.refl _ _).drew
theorem St.drewN (h : St w p B N A n c xs L m d ls) (k : Nat) : St (w.drewN k) p B N A n c xs L m d ls := ⟨h.box, h.oA, h.oL, h.loA, h.loL, h.hp, h.hN, h.hB⟩
theorem St.far (h : St w p B N A n c xs L m d ls) {g : Nat} (hg : w.grownBy w' (some g)) (hlt : g < B) : St w' p B N A n c xs L m d ls :=
  ⟨by rw [hg.block p h.lt (fun e => by injection e with e; have := h.hp; omega)]; exact h.box,
    h.oA.far hg (fun r e a ha => by injection e with e; have := (h.oA.block ha).1; omega),
    h.oL.far hg (fun r e a ha => by injection e with e; have := (h.oL.block ha).1; have := h.hB; omega), h.loA, h.loL, h.hp, Nat.le_trans h.hN hg.size, h.hB⟩
theorem St.dr {T : TypeId} {g : Nat} (h : St w p B N A n c xs L m d ls) (hd : Dr T g w w') (hg : g < B) : St w' p B N A n c xs L m d ls := h.far hd.1 hg
theorem St.addLk (h : St w p B N A n c xs L m d ls) {L' : Option Addr} {d' : Nat} {l : Lk} (ho : Ow w1 N 42 5 L' (m + 1) d' (ls.flatMap Lk.cells ++ l.cells)) (hg : w.grownBy w1 (Value.slice L m d).ownBlock)
    (hat : (Value.slice L' (m + 1) d').ownBlock = (Value.slice L m d).ownBlock ∨ (Value.slice L' (m + 1) d').ownBlock = some w.heap.size) :
    St (w1.setCell ⟨p, 1, none⟩ (.slice L' (m + 1) d')) p B N A n c xs L' (m + 1) d' (ls ++ [l]) ∧ Below B w (w1.setCell ⟨p, 1, none⟩ (.slice L' (m + 1) d')) := by
  have hne : ∀ r, (Value.slice L m d).ownBlock = some r → r ≠ p ∧ N ≤ r := fun r e => by
    refine ⟨?_, (h.oL.bnd r e).1⟩
    rcases L with _ | ⟨b, off, sp⟩
    · cases e
    · rcases h.oL.2 with ⟨hv, _⟩ | ⟨g, cap, cur, hv, _⟩
      · cases hv
      · injection hv with hv1
        rw [hv1, ownBlock_some] at e
        have e' : g = r := Option.some.inj e
        exact e' ▸ h.loL g hv1
  have hL' : ∀ g, L' = some ⟨g, 0, none⟩ → g ≠ p := fun g e => by
    subst e
    rcases hat with hat | hat
    · exact (hne g hat.symm).1
    · injection hat with hat
      have hlt := h.lt
      have hat' : g = w.heap.size := hat
      omega
  have hs : (w1.setCell ⟨p, 1, none⟩ (.slice L' (m + 1) d')).heap.size = w1.heap.size := by simp [World.setCell]
  have hb1 : w1.heap[p]? = some (.cells #[.slice A n c, .slice L m d] 27 (0, 0)) := by
    rw [hg.block p h.lt (fun e => (hne p e.symm).1 rfl)]
    exact h.box
  refine ⟨⟨by rw [heap_setCell_same hb1]; simp, ?_, ?_, h.loA, hL', h.hp, by rw [hs]; exact Nat.le_trans h.hN hg.size, h.hB⟩, ?_⟩
  · have h1 := h.oA.far hg (fun r e a ha => by have := (h.loA a ha).1; have := (hne r e).2; omega)
    exact h1.far (grown_setC w1 p 1 _) (fun r e a ha => by injection e with e; have := (h.loA a ha).2; omega)
  · have h1 : Ow w1 N 42 5 L' (m + 1) d' ((ls ++ [l]).flatMap Lk.cells) := by rw [List.flatMap_append]; simpa using ho
    exact h1.far (grown_setC w1 p 1 _) (fun r e a ha => by injection e with e; have := hL' a ha; omega)
  · exact ((Below.refl B w).grown hg (Nat.le_trans h.hB h.hN) (fun k e => Nat.le_trans h.hB (hne k e).2)).setCell h.hp _
theorem St.addAs (h : St w p B N A n c xs none 0 0 []) {A' : Option Addr} {c' : Nat} {x : As} (ho : Ow w1 B 58 3 A' (n + 1) c' (xs.flatMap As.cells ++ x.cells)) (hg : w.grownBy w1 (Value.slice A n c).ownBlock)
    (hat : (Value.slice A' (n + 1) c').ownBlock = (Value.slice A n c).ownBlock ∨ (Value.slice A' (n + 1) c').ownBlock = some w.heap.size) :
    St (w1.setCell ⟨p, 0, none⟩ (.slice A' (n + 1) c')) p B w1.heap.size A' (n + 1) c' (xs ++ [x]) none 0 0 [] ∧ Below B w (w1.setCell ⟨p, 0, none⟩ (.slice A' (n + 1) c')) := by
  have hne : ∀ r, (Value.slice A n c).ownBlock = some r → r ≠ p ∧ B ≤ r := fun r e => by
    refine ⟨?_, (h.oA.bnd r e).1⟩
    rcases A with _ | ⟨b, off, sp⟩
    · cases e
    · rcases h.oA.2 with ⟨hv, _⟩ | ⟨g, cap, cur, hv, _⟩
      · cases hv
      · injection hv with hv1
        rw [hv1, ownBlock_some] at e
        have e' : g = r := Option.some.inj e
        exact e' ▸ (h.loA g hv1).2
  have hA' : ∀ g, A' = some ⟨g, 0, none⟩ → g ≠ p := fun g e => by
    subst e
    rcases hat with hat | hat
    · exact (hne g hat.symm).1
    · injection hat with hat
      have hlt := h.lt
      have hat' : g = w.heap.size := hat
      omega
  have hs : (w1.setCell ⟨p, 0, none⟩ (.slice A' (n + 1) c')).heap.size = w1.heap.size := by simp [World.setCell]
  have hb1 : w1.heap[p]? = some (.cells #[.slice A n c, .slice none 0 0] 27 (0, 0)) := by
    rw [hg.block p h.lt (fun e => (hne p e.symm).1 rfl)]
    exact h.box
  refine ⟨⟨by rw [heap_setCell_same hb1]; simp, ?_, Ow.nil, fun g e => ⟨(ho.block e).2, hA' g e⟩, (fun g e => by cases e), h.hp, by rw [hs]; exact Nat.le_refl _, Nat.le_trans h.hB (Nat.le_trans h.hN hg.size)⟩, ?_⟩
  · have h1 : Ow w1 B 58 3 A' (n + 1) c' ((xs ++ [x]).flatMap As.cells) := by rw [List.flatMap_append]; simpa using ho
    exact h1.far (grown_setC w1 p 0 _) (fun r e a ha => by injection e with e; have := hA' a ha; omega)
  · exact ((Below.refl B w).grown hg (Nat.le_trans h.hB h.hN) (fun k e => (hne k e).2)).setCell h.hp _
theorem St.keepL (h : St w p B N A n c xs L m d ls) (hg : w.grownBy w1 (Value.slice L m d).ownBlock) : w1.cell? ⟨p, 0, none⟩ = some (.slice A n c) ∧ w1.cell? ⟨p, 1, none⟩ = some (.slice L m d) ∧ w1.frozen? ⟨p, 1, none⟩ = false := by
  have hb1 : w1.heap[p]? = some (.cells #[.slice A n c, .slice L m d] 27 (0, 0)) := by
    refine (hg.block p h.lt (fun e => ?_)).trans h.box
    rcases L with _ | ⟨b, off, sp⟩
    · cases e
    · rcases h.oL.2 with ⟨hv, _⟩ | ⟨g, cap, cur, hv, _⟩
      · cases hv
      · injection hv with hv1
        rw [hv1, ownBlock_some] at e
        have e' : p = g := Option.some.inj e
        exact h.loL g hv1 e'.symm
  refine ⟨?_, ?_, ?_⟩ <;> simp [World.cell?, World.frozen?, hb1]
theorem St.keepA (h : St w p B N A n c xs L m d ls) (hg : w.grownBy w1 (Value.slice A n c).ownBlock) : w1.cell? ⟨p, 0, none⟩ = some (.slice A n c) ∧ w1.cell? ⟨p, 1, none⟩ = some (.slice L m d) ∧ w1.frozen? ⟨p, 0, none⟩ = false := by
  have hb1 : w1.heap[p]? = some (.cells #[.slice A n c, .slice L m d] 27 (0, 0)) := by
    refine (hg.block p h.lt (fun e => ?_)).trans h.box
    rcases A with _ | ⟨b, off, sp⟩
    · cases e
    · rcases h.oA.2 with ⟨hv, _⟩ | ⟨g, cap, cur, hv, _⟩
      · cases hv
      · injection hv with hv1
        rw [hv1, ownBlock_some] at e
        have e' : p = g := Option.some.inj e
        exact (h.loA g hv1).2 e'.symm
  refine ⟨?_, ?_, ?_⟩ <;> simp [World.cell?, World.frozen?, hb1]
/-- One cell of an AS is stored into. -/
theorem St.setAs {g b j : Nat} {y z : As} {u : Value} (h : St w p B N (some ⟨g, 0, none⟩) n c xs L m d ls) (hy : xs[b]? = some y) (hj : j < 3) (hz : y.cells.set j u = z.cells) :
    (∃ x, w.cell? ⟨g, b * 3 + j, none⟩ = some x) ∧ w.frozen? ⟨g, b * 3 + j, none⟩ = false ∧ St (w.setCell ⟨g, b * 3 + j, none⟩ u) p B N (some ⟨g, 0, none⟩) n c (xs.set b z) L m d ls ∧ Below B w (w.setCell ⟨g, b * 3 + j, none⟩ u) := by
  have hl := h.lenA
  have hb : b < xs.length := (List.getElem?_eq_some_iff.1 hy).1
  obtain ⟨h1, h2, h3, h4⟩ := h.oA.set (j := b * 3 + j) (by omega) u
  have hg := h.loA g rfl
  have hgB := (h.oA.block rfl).1
  rw [flat_set As.cells 3 as_cells xs b j y z u hy hj hz] at h3
  refine ⟨h1, h2, ⟨?_, h3, ?_, h.loA, h.loL, h.hp, by simp [World.setCell]; exact h.hN, h.hB⟩, (Below.refl B w).setCell hgB _⟩
  · rw [h4.block p h.lt (fun e => by injection e with e; omega)]
    exact h.box
  · exact h.oL.far h4 (fun r e a ha => by injection e with e; have := (h.oL.block ha).1; omega)
/-- What is read of an AS. -/
theorem St.asCell {g i : Nat} {x : As} (h : St w p B N (some ⟨g, 0, none⟩) n c xs L m d ls) (hx : xs[i]? = some x) : w.cell? ⟨g, i * 3, none⟩ = some (.int .i64 x.isd) ∧ w.cell? ⟨g, i * 3 + 1, none⟩ = some (.bool x.core) ∧ w.cell? ⟨g, i * 3 + 2, none⟩ = some (.int .i64 x.key) := by
  have hi : i < xs.length := (List.getElem?_eq_some_iff.1 hx).1
  have hl := h.lenA
  obtain ⟨b, off, y, e, hy, c0, c1, c2⟩ := Ra.get h.rt.1 (i := i) (by omega)
  injection e with e
  injection e with e1 e2
  subst e1
  subst e2
  have hxy : y = x := by
    have hy' : xs[i]? = some y := hy
    rw [hx] at hy'
    exact (Option.some.inj hy').symm
  subst hxy
  simp only [Nat.zero_add] at c0 c1 c2
  exact ⟨c0, c1, c2⟩
theorem St.lkCell {g i : Nat} {l : Lk} (h : St w p B N A n c xs (some ⟨g, 0, none⟩) m d ls) (hl : ls[i]? = some l) : w.cell? ⟨g, i * 5, none⟩ = some (.int .i64 l.a) ∧ w.cell? ⟨g, i * 5 + 1, none⟩ = some (.int .i64 l.ai) ∧ w.cell? ⟨g, i * 5 + 2, none⟩ = some (.int .i64 l.b) ∧ w.cell? ⟨g, i * 5 + 3, none⟩ = some (.int .i64 l.bi) ∧ w.cell? ⟨g, i * 5 + 4, none⟩ = some (.int .i64 l.kind) := by
  have hi : i < ls.length := (List.getElem?_eq_some_iff.1 hl).1
  have hll := h.lenL
  obtain ⟨b, off, y, e, hy, c0, c1, c2, c3, c4⟩ := Rl.get h.rt.2 (i := i) (by omega)
  injection e with e
  injection e with e1 e2
  subst e1
  subst e2
  have hxy : y = l := by
    have hy' : ls[i]? = some y := hy
    rw [hl] at hy'
    exact (Option.some.inj hy').symm
  subst hxy
  simp only [Nat.zero_add] at c0 c1 c2 c3 c4
  exact ⟨c0, c1, c2, c3, c4⟩
theorem St.head (h : St w p B N A n c xs L m d ls) (hn : 0 < n) : ∃ g, A = some ⟨g, 0, none⟩ ∧ B ≤ g ∧ g < w.heap.size := h.oA.head hn
end
end Go.Proofs.Ytehfcejpoigclaa
