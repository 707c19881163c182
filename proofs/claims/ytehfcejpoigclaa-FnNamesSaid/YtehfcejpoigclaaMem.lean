/- Words for slices in memory: a slice that reads as a list of cells, a slice of integers, and how both stay as they are behind new blocks, draws, calls and stores elsewhere. No program in sight. -/
import Derived.WalkKit
import Derived.WalkLawsBesides
import Derived.Below
import Derived.Maps.AppendAt
import Derived.Lib.Hide
namespace Go.Proofs.Ytehfcejpoigclaa
open Go.RowKit
set_option linter.unusedVariables false

/-- The slice (A, n) reads as the cells xs, size cells an element. -/
def Rd (w : World) (size : Nat) (A : Option Addr) (n : Nat) (xs : List Value) : Prop :=
  xs.length = n * size ∧ (0 < xs.length → ∃ b off, A = some ⟨b, off, none⟩ ∧ b < w.heap.size ∧ ∀ j u, xs[j]? = some u → w.cell? ⟨b, off + j, none⟩ = some u)

section
variable {w w' : World} {size n : Nat} {A : Option Addr} {xs : List Value}

theorem Rd.empty : Rd w size A 0 [] := ⟨by simp, fun h => by simp at h⟩
theorem Rd.get (h : Rd w size A n xs) {j : Nat} {u : Value} (hj : xs[j]? = some u) : ∃ b off, A = some ⟨b, off, none⟩ ∧ b < w.heap.size ∧ w.cell? ⟨b, off + j, none⟩ = some u := by
  have hl : j < xs.length := (List.getElem?_eq_some_iff.1 hj).1
  obtain ⟨b, off, e, hb, hc⟩ := h.2 (by omega)
  exact ⟨b, off, e, hb, hc j u hj⟩
theorem Rd.keep (h : Rd w size A n xs) (hs : w.heap.size ≤ w'.heap.size) (hk : ∀ b off u, A = some ⟨b, off, none⟩ → ∀ j, w.cell? ⟨b, off + j, none⟩ = some u → w'.cell? ⟨b, off + j, none⟩ = some u) : Rd w' size A n xs :=
  ⟨h.1, fun hn => by
    obtain ⟨b, off, e, hb, hc⟩ := h.2 hn
    exact ⟨b, off, e, by omega, fun j u hu => hk b off u e j (hc j u hu)⟩⟩
theorem Rd.below {B : Nat} (h : Rd w size A n xs) (hb : Below B w w') (hB : w.heap.size ≤ B) : Rd w' size A n xs :=
  h.keep hb.size fun b off u _ j hc => by
    have hlt := World.block_lt_of_cell? w _ hc
    exact (hb.cell (p := ⟨b, off + j, none⟩) (Nat.lt_of_lt_of_le hlt hB)).trans hc
theorem Rd.drew (h : Rd w size A n xs) : Rd w.drew size A n xs := h
theorem Rd.alloc (h : Rd w size A n xs) (o : Obj) : Rd (w.alloc o) size A n xs :=
  h.below ((Below.refl w.heap.size w).alloc (Nat.le_refl _) o) (Nat.le_refl _)
theorem Rd.grown {row : Option Nat} (h : Rd w size A n xs) (hg : w.grownBy w' row) (hne : ∀ b off, A = some ⟨b, off, none⟩ → some b ≠ row) : Rd w' size A n xs :=
  h.keep hg.size fun b off u e j hc => hg.cell (a := ⟨b, off + j, none⟩) hc (hne b off e)
theorem Rd.of_own {base : Nat} {e : TypeId} {c : Nat} (h : w.ownsRow base e size (.slice A n c) n xs) : Rd w size A n xs := by
  refine ⟨h.1, fun hn => ?_⟩
  rcases h.2 with ⟨hv, hn0⟩ | ⟨g, cap, cur, hv, _, hg, _⟩
  · subst hn0
    have := h.1
    omega
  · have hA : A = some ⟨g, 0, none⟩ := by injection hv
    subst hA
    refine ⟨g, 0, rfl, (Array.getElem?_eq_some_iff.1 hg).1, fun j u hu => ?_⟩
    have hc := h.cells (g := g) rfl j u hu
    have ha : (⟨g, 0, none⟩ : Addr).add j = ⟨g, 0 + j, none⟩ := by unfold Addr.add; split <;> simp_all
    rw [ha] at hc
    exact hc
theorem Rd.block {base : Nat} {e : TypeId} {c : Nat} (h : w.ownsRow base e size (.slice A n c) n xs) {b off : Nat} (hA : A = some ⟨b, off, none⟩) : base ≤ b ∧ b < w.heap.size := by
  subst hA
  exact h.lt b rfl
theorem Rd.takes (h : Rd w size A n xs) {k : Nat} (hk : k ≤ n) : Rd w size A k (xs.take (k * size)) := by
  have hl : k * size ≤ xs.length := by rw [h.1]; exact Nat.mul_le_mul_right _ hk
  refine ⟨by rw [List.length_take]; omega, fun hn => ?_⟩
  rw [List.length_take] at hn
  obtain ⟨b, off, e, hb, hc⟩ := h.2 (by omega)
  refine ⟨b, off, e, hb, fun j u hu => hc j u ?_⟩
  rw [List.getElem?_take] at hu
  split at hu
  · exact hu
  · cases hu
theorem Rd.drops (h : Rd w size A n xs) {k : Nat} (b off : Nat) (hA : A = some ⟨b, off, none⟩) : Rd w size (some ⟨b, off + k * size, none⟩) (n - k) (xs.drop (k * size)) := by
  refine ⟨by rw [List.length_drop, h.1, Nat.sub_mul], fun hn => ?_⟩
  rw [List.length_drop] at hn
  obtain ⟨b', off', e, hb, hc⟩ := h.2 (by omega)
  rw [hA] at e
  injection e with e
  injection e with e1 e2
  subst e1
  subst e2
  refine ⟨b, off + k * size, rfl, hb, fun j u hu => ?_⟩
  rw [List.getElem?_drop] at hu
  have := hc _ u hu
  rwa [← Nat.add_assoc] at this
end

/-- A slice of integers of kind k. -/
def Ri (w : World) (k : IntKind) (A : Option Addr) (n : Nat) (zs : List Int) : Prop := Rd w 1 A n (zs.map (Value.int k))
/-- A slice of integers that lies in a row of the call's own, its blocks from base on. -/
def Oi (w : World) (base : Nat) (E : TypeId) (k : IntKind) (A : Option Addr) (n c : Nat) (zs : List Int) : Prop := w.ownsRow base E 1 (.slice A n c) n (zs.map (Value.int k))

section
variable {w w' : World} {k : IntKind} {n c : Nat} {A : Option Addr} {zs : List Int} {base : Nat} {E : TypeId}
theorem Ri.len (h : Ri w k A n zs) : zs.length = n := by have := h.1; simpa using this
theorem Ri.get (h : Ri w k A n zs) {i : Nat} (hi : i < n) : ∃ b off x, A = some ⟨b, off, none⟩ ∧ zs[i]? = some x ∧ w.cell? ⟨b, off + i, none⟩ = some (.int k x) := by
  have hl := h.len
  have hx : zs[i]? = some (zs[i]'(by omega)) := List.getElem?_eq_getElem (by omega)
  obtain ⟨b, off, e, _, hc⟩ := Rd.get (j := i) (u := .int k (zs[i]'(by omega))) h (by rw [List.getElem?_map, hx]; rfl)
  exact ⟨b, off, _, e, hx, hc⟩
theorem Ri.below {B : Nat} (h : Ri w k A n zs) (hb : Below B w w') (hB : w.heap.size ≤ B) : Ri w' k A n zs := Rd.below h hb hB
theorem Ri.alloc (h : Ri w k A n zs) (o : Obj) : Ri (w.alloc o) k A n zs := Rd.alloc h o
theorem Ri.drew (h : Ri w k A n zs) : Ri w.drew k A n zs := h
theorem Ri.grown {row : Option Nat} (h : Ri w k A n zs) (hg : w.grownBy w' row) (hne : ∀ b off, A = some ⟨b, off, none⟩ → some b ≠ row) : Ri w' k A n zs := Rd.grown h hg hne
theorem Ri.takes (h : Ri w k A n zs) {i : Nat} (hi : i ≤ n) : Ri w k A i (zs.take i) := by
  have := Rd.takes h hi
  rw [Nat.mul_one, ← List.map_take] at this
  exact this
theorem Ri.drops {b off : Nat} (h : Ri w k (some ⟨b, off, none⟩) n zs) (p : Nat) : Ri w k (some ⟨b, off + p, none⟩) (n - p) (zs.drop p) := by
  have h1 := Rd.drops (k := p) h b off rfl
  rw [Nat.mul_one, ← List.map_drop] at h1
  exact h1
theorem Ri.sub {b off : Nat} (h : Ri w k (some ⟨b, off, none⟩) n zs) {p v : Nat} (hp : p + v ≤ n) : Ri w k (some ⟨b, off + p, none⟩) v ((zs.drop p).take v) := (h.drops p).takes (by omega)
theorem Ri.empty : Ri w k A 0 [] := Rd.empty
theorem Oi.rd (h : Oi w base E k A n c zs) : Ri w k A n zs := Rd.of_own h
theorem Oi.len (h : Oi w base E k A n c zs) : zs.length = n := h.rd.len
theorem Oi.block (h : Oi w base E k A n c zs) {b off : Nat} (hA : A = some ⟨b, off, none⟩) : base ≤ b ∧ b < w.heap.size := Rd.block h hA
theorem Oi.le (h : Oi w base E k A n c zs) : n ≤ c := by
  rcases h.2 with ⟨hv, hn⟩ | ⟨g, cap, cur, hv, _, _, hnc, _⟩
  · omega
  · have : c = cap := by injection hv
    omega
theorem Oi.nil : Oi w base E k none 0 0 [] := World.ownsRow_nil w base E 1
theorem Oi.mono {base' : Nat} (h : Oi w base E k A n c zs) (hb : base' ≤ base) : Oi w base' E k A n c zs := by
  refine ⟨h.1, ?_⟩
  rcases h.2 with h2 | ⟨g, cap, cur, hv, hg, r⟩
  · exact .inl h2
  · exact .inr ⟨g, cap, cur, hv, by omega, r⟩
theorem Oi.below {B : Nat} (h : Oi w base E k A n c zs) (hb : Below B w w') (hB : w.heap.size ≤ B) : Oi w' base E k A n c zs := by
  refine ⟨h.1, ?_⟩
  rcases h.2 with h2 | ⟨g, cap, cur, hv, hg, hh, r⟩
  · exact .inl h2
  · have hlt : g < w.heap.size := (Array.getElem?_eq_some_iff.1 hh).1
    exact .inr ⟨g, cap, cur, hv, hg, by rw [hb.block g (by omega)]; exact hh, r⟩
theorem Oi.alloc (h : Oi w base E k A n c zs) (o : Obj) : Oi (w.alloc o) base E k A n c zs := World.ownsRow.alloc h o
theorem Oi.drew (h : Oi w base E k A n c zs) : Oi w.drew base E k A n c zs := h
/-- One element of a row of the call's own is stored into. -/
theorem Oi.store (h : Oi w base E k A n c zs) {i : Nat} (hi : i < n) (x : Int) : ∃ g, A = some ⟨g, 0, none⟩ ∧ base ≤ g ∧ g < w.heap.size ∧ (∃ u, w.cell? ⟨g, i, none⟩ = some (.int k u)) ∧ w.frozen? ⟨g, i, none⟩ = false ∧
    Oi (w.setCell ⟨g, i, none⟩ (.int k x)) base E k A n c (zs.set i x) ∧ w.grownBy (w.setCell ⟨g, i, none⟩ (.int k x)) (some g) := by
  have hl := h.len
  rcases h.2 with ⟨_, hn0⟩ | ⟨g, cap, cur, hv, hb, hg, _⟩
  · omega
  · have hA : A = some ⟨g, 0, none⟩ := by injection hv
    subst hA
    have hs := World.ownsRow.stored (cap := c) h i (.int k x)
    refine ⟨g, rfl, hb, (Array.getElem?_eq_some_iff.1 hg).1, ⟨zs[i]'(by omega), ?_⟩, World.ownsRow.frozenAt h i, ?_, hs.2⟩
    · rw [World.ownsRow.cellAt h i (by omega), List.getElem?_map, List.getElem?_eq_getElem (by omega)]; rfl
    · have := hs.1
      rw [← List.map_set] at this
      exact this
end

section
variable {P : Program} (w : World)
theorem own_shape {w : World} {base : Nat} {e : TypeId} {v : Value} {n : Nat} {xs : List Value} (h : w.ownsRow base e 1 v n xs) : ∃ A c, v = .slice A n c := by
  rcases h.2 with ⟨rfl, rfl⟩ | ⟨g, cap, cur, rfl, _⟩
  · exact ⟨none, 0, rfl⟩
  · exact ⟨some ⟨g, 0, none⟩, cap, rfl⟩
theorem grown_below {w w' : World} {base : Nat} {e : TypeId} {size : Nat} {v : Value} {n : Nat} {xs : List Value} (h : w.ownsRow base e size v n xs) (hg : w.grownBy w' v.ownBlock) (hb : base ≤ w.heap.size) : Below base w w' :=
  (Below.refl base w).grown hg hb fun k hk => (h.lt k hk).1
theorem oneCell_ints (k : IntKind) (zs : List Int) : ∀ u ∈ zs.map (Value.int k), u.oneCell' = true := by
  intro u hu
  obtain ⟨x, _, rfl⟩ := List.mem_map.1 hu
  rfl

/-- append(out, x): one integer onto a row of the call's own. -/
theorem wpList_push {ops : Array Oper} {rest : List Oper} {o : Oper} {a : Act} {Q : Exit → Act → World → Prop} (hgd : o.guard = none) (s x : Operand) (t : TypeId)
    (ho : o.op = .call { callee := .builtin .append, args := #[s, x], argTypes := #[t, t] })
    (base : Nat) (e : TypeId) (i : TypeInfo) (z : Value) (bytes : Nat) (k : IntKind) (ht : P.underlying t = some (.slice e)) (hi : P.info? e = some i) (hz : i.zero = some z)
    (hsize : i.size = 1) (hby : i.bytes = bytes) (hzs : z.cells.size = 1) (h8 : bytes ≤ 8)
    (A : Option Addr) (n c : Nat) (zs : List Int) (hs : a.eval s = .slice A n c) (hown : Oi w base e k A n c zs)
    (g : Nat) (x0 : Int) (hx : a.eval x = .slice (some ⟨g, 0, none⟩) 1 1) (hcell : w.cell? ⟨g, 0, none⟩ = some (.int k x0)) (hn : n ≤ 1099511627776) (hbase : base ≤ w.heap.size)
    (h : ∀ A' c' w', Oi w' base e k A' (n + 1) c' (zs ++ [x0]) → Below base w w' → wpList P ops Q rest (a.put o.dst (.slice A' (n + 1) c')) w') : wpList P ops Q (o :: rest) a w := by
  refine wpList_append_own_at w hgd s x t ho base e i z 1 bytes ht hi hz hsize hby hzs (by omega) _ n (zs.map (Value.int k)) hs hown ⟨g, 0, none⟩ 1 1 [.int k x0] hx rfl ?_ ?_ ?_ ?_ hbase ?_
  · intro j u hj
    match j, hj with
    | 0, hj => simp at hj; subst hj; simpa [Addr.add] using hcell
  · intro u hu; simp at hu; subst hu; rfl
  · simp only [maxLen]; omega
  · have := Nat.mul_le_mul_left (n + 1) h8
    omega
  · intro v' w' hown' hg _ _
    obtain ⟨A', c', rfl⟩ := own_shape hown'
    refine h A' c' w' ?_ (grown_below hown hg hbase)
    unfold Oi
    rw [List.map_append]
    exact hown'

theorem run_append_none (base : Nat) (t ty e : TypeId) (i : TypeInfo) (ht : P.underlying t = some (.slice e)) (hi : P.info? e = some i)
    (v : Value) (n : Nat) (xs : List Value) (hown : w.ownsRow base e 1 v n xs) (c : Nat) : (Builtin.append_ #[t, t] ty #[v, .slice none 0 c]).run P w = .ok v w := by
  rcases hown.2 with ⟨rfl, rfl⟩ | ⟨g, cap, cur, rfl, _, _, hnc, _⟩
  · simp [Builtin.append_, run_underlying ht, sizeOf, typeInfo, hi, Builtin.lenOf, Builtin.firstCells]
  · simp [Builtin.append_, run_underlying ht, sizeOf, typeInfo, hi, Builtin.lenOf, Builtin.firstCells, hnc, storeCells]

theorem run_append_ints (base : Nat) (t ty e : TypeId) (i : TypeInfo) (z : Value) (bytes : Nat) (k : IntKind) (ht : P.underlying t = some (.slice e)) (hi : P.info? e = some i) (hz : i.zero = some z)
    (hsize : i.size = 1) (hby : i.bytes = bytes) (hzs : z.cells.size = 1) (h8 : bytes ≤ 8)
    (A : Option Addr) (n c : Nat) (zs : List Int) (hown : Oi w base e k A n c zs)
    (X : Option Addr) (m d : Nat) (ys : List Int) (hr : Ri w k X m ys) (hn : n + m ≤ 1099511627776) (hbase : base ≤ w.heap.size) :
    ∃ A' c' w', (Builtin.append_ #[t, t] ty #[.slice A n c, .slice X m d]).run P w = .ok (.slice A' (n + m) c') w' ∧ Oi w' base e k A' (n + m) c' (zs ++ ys) ∧ Below base w w' := by
  have hm := hr.len
  rcases X with _ | ad
  · have h0 : m = 0 := by
      rcases Nat.eq_zero_or_pos m with h0 | h0
      · exact h0
      · obtain ⟨b, off, _, e, _⟩ := hr.get h0
        cases e
    subst h0
    have hy : ys = [] := List.eq_nil_of_length_eq_zero hm
    subst hy
    exact ⟨A, c, w, by rw [run_append_none w base t ty e i ht hi _ n _ hown d]; rfl, by simpa using hown, Below.refl _ _⟩
  · have hcells : ∀ j u, (ys.map (Value.int k))[j]? = some u → w.cell? (ad.add j) = some u := by
      intro j u hu
      obtain ⟨b, off, e, _, hc⟩ := Rd.get hr hu
      injection e with e
      subst e
      have ha : (⟨b, off, none⟩ : Addr).add j = ⟨b, off + j, none⟩ := by unfold Addr.add; split <;> simp_all
      rw [ha]
      exact hc
    have := Nat.mul_le_mul_left (n + m) h8
    obtain ⟨v', w', hrun, hown', hg, _, _⟩ := run_append_own_at (P := P) w base t ty e i z 1 bytes ht hi hz hsize hby hzs (by omega) _ n _ hown ad m d (ys.map (Value.int k)) (by simp [hm]) hcells (oneCell_ints k ys) (by simp only [maxLen]; omega) (by omega) hbase
    obtain ⟨A', c', rfl⟩ := own_shape hown'
    exact ⟨A', c', w', hrun, by unfold Oi; rw [List.map_append]; exact hown', grown_below hown hg hbase⟩

/-- append(out, xs...): a slice of integers, nil or not, onto a row of the call's own. -/
theorem wpList_pushAll {ops : Array Oper} {rest : List Oper} {o : Oper} {a : Act} {Q : Exit → Act → World → Prop} (hgd : o.guard = none) (s x : Operand) (t : TypeId)
    (ho : o.op = .call { callee := .builtin .append, args := #[s, x], argTypes := #[t, t] })
    (base : Nat) (e : TypeId) (i : TypeInfo) (z : Value) (bytes : Nat) (k : IntKind) (ht : P.underlying t = some (.slice e)) (hi : P.info? e = some i) (hz : i.zero = some z)
    (hsize : i.size = 1) (hby : i.bytes = bytes) (hzs : z.cells.size = 1) (h8 : bytes ≤ 8)
    (A : Option Addr) (n c : Nat) (zs : List Int) (hs : a.eval s = .slice A n c) (hown : Oi w base e k A n c zs)
    (X : Option Addr) (m d : Nat) (ys : List Int) (hx : a.eval x = .slice X m d) (hr : Ri w k X m ys) (hn : n + m ≤ 1099511627776) (hbase : base ≤ w.heap.size)
    (h : ∀ A' c' w', Oi w' base e k A' (n + m) c' (zs ++ ys) → Below base w w' → wpList P ops Q rest (a.put o.dst (.slice A' (n + m) c')) w') : wpList P ops Q (o :: rest) a w := by
  refine wpList_plain hgd fun _ hK => ?_
  obtain ⟨A', c', w', hrun, hown', hb⟩ := run_append_ints (P := P) w base t o.type e i z bytes k ht hi hz hsize hby hzs h8 A n c zs hown X m d ys hr hn hbase
  unfold Oper.wp execOp
  simp only [ho, resolve, invoke, builtin, Sem.run_bind, Sem.run_pure, Result.andThen_ok, List.map_toArray, List.map_cons, List.map_nil, hs, hx, hrun]
  exact hK _ _ (h A' c' w' hown' hb)
end

section
variable {w w' : World} {k : IntKind} {n c : Nat} {zs : List Int} {base : Nat} {E : TypeId} {g : Nat}
/-- The same store where the row's block is known. -/
theorem Oi.storeAt (h : Oi w base E k (some ⟨g, 0, none⟩) n c zs) {i : Nat} (hi : i < n) (x : Int) : (∃ u, w.cell? ⟨g, i, none⟩ = some (.int k u)) ∧ w.frozen? ⟨g, i, none⟩ = false ∧
    Oi (w.setCell ⟨g, i, none⟩ (.int k x)) base E k (some ⟨g, 0, none⟩) n c (zs.set i x) ∧ w.grownBy (w.setCell ⟨g, i, none⟩ (.int k x)) (some g) := by
  obtain ⟨g', e, _, _, h1, h2, h3, h4⟩ := h.store hi x
  injection e with e
  injection e with e
  subst e
  exact ⟨h1, h2, h3, h4⟩
end
theorem set_step {zs : List Int} {n k : Nat} {x : Int} (hl : zs.length = n) (hx : zs[k]? = some x) : (zs.take k ++ List.replicate (n - k) (0 : Int)).set k x = zs.take (k + 1) ++ List.replicate (n - (k + 1)) 0 := by
  have hk : k < zs.length := (List.getElem?_eq_some_iff.1 hx).1
  have hn : n - k = (n - (k + 1)) + 1 := by omega
  rw [hn, List.replicate_succ, List.set_append_right _ _ (by rw [List.length_take]; omega), List.length_take, Nat.min_eq_left (by omega), Nat.sub_self, List.set_cons_zero, List.take_add_one, hx]
  simp
theorem take_all {zs : List Int} {n : Nat} (hl : zs.length = n) : zs.take n ++ List.replicate (n - n) (0 : Int) = zs := by
  rw [List.take_of_length_le (by omega)]
  simp
section
variable {P : Program} (w : World)
/-- The two appends as steps of a region that draws its order. -/
theorem step_push {ops : Array Oper} {o : Oper} {a : Act} {K : Act → World → Prop} {Q : Exit → Act → World → Prop} {E : Prop} (hgd : o.guard = none) (s x : Operand) (t : TypeId)
    (ho : o.op = .call { callee := .builtin .append, args := #[s, x], argTypes := #[t, t] })
    (base : Nat) (e : TypeId) (i : TypeInfo) (z : Value) (bytes : Nat) (k : IntKind) (ht : P.underlying t = some (.slice e)) (hi : P.info? e = some i) (hz : i.zero = some z)
    (hsize : i.size = 1) (hby : i.bytes = bytes) (hzs : z.cells.size = 1) (h8 : bytes ≤ 8)
    (A : Option Addr) (n c : Nat) (zs : List Int) (hs : a.eval s = .slice A n c) (hown : Oi w base e k A n c zs)
    (X : Option Addr) (m d : Nat) (ys : List Int) (hx : a.eval x = .slice X m d) (hr : Ri w k X m ys) (hn : n + m ≤ 1099511627776) (hbase : base ≤ w.heap.size)
    (h : ∀ A' c' w', Oi w' base e k A' (n + m) c' (zs ++ ys) → Below base w w' → K (a.put o.dst (.slice A' (n + m) c')) w') :
    if Region.wanted o (yielded ops a.tmps) = true then Oper.wp P o a w K Q else E := by
  have hw : Region.wanted o (yielded ops a.tmps) = true := by simp [Region.wanted, hgd]
  rw [if_pos hw]
  obtain ⟨A', c', w', hrun, hown', hb⟩ := run_append_ints (P := P) w base t o.type e i z bytes k ht hi hz hsize hby hzs h8 A n c zs hown X m d ys hr hn hbase
  unfold Oper.wp execOp
  simp only [ho, resolve, invoke, builtin, Sem.run_bind, Sem.run_pure, Result.andThen_ok, List.map_toArray, List.map_cons, List.map_nil, hs, hx, hrun]
  exact h A' c' w' hown' hb
end
section
variable {P : Program} (w : World)
/-- The same append, saying that no block but the row's own has turned. -/
theorem run_append_intsG (base : Nat) (t ty e : TypeId) (i : TypeInfo) (z : Value) (bytes : Nat) (k : IntKind) (ht : P.underlying t = some (.slice e)) (hi : P.info? e = some i) (hz : i.zero = some z)
    (hsize : i.size = 1) (hby : i.bytes = bytes) (hzs : z.cells.size = 1) (h8 : bytes ≤ 8)
    (A : Option Addr) (n c : Nat) (zs : List Int) (hown : Oi w base e k A n c zs)
    (X : Option Addr) (m d : Nat) (ys : List Int) (hr : Ri w k X m ys) (hn : n + m ≤ 1099511627776) (hbase : base ≤ w.heap.size) :
    ∃ A' c' w', (Builtin.append_ #[t, t] ty #[.slice A n c, .slice X m d]).run P w = .ok (.slice A' (n + m) c') w' ∧ Oi w' base e k A' (n + m) c' (zs ++ ys) ∧ w.grownBy w' (Value.slice A n c).ownBlock := by
  have hm := hr.len
  rcases X with _ | ad
  · have h0 : m = 0 := by
      rcases Nat.eq_zero_or_pos m with h0 | h0
      · exact h0
      · obtain ⟨b, off, _, e, _⟩ := hr.get h0
        cases e
    subst h0
    have hy : ys = [] := List.eq_nil_of_length_eq_zero hm
    subst hy
    exact ⟨A, c, w, by rw [run_append_none w base t ty e i ht hi _ n _ hown d]; rfl, by simpa using hown, World.grownBy.refl _ _⟩
  · have hcells : ∀ j u, (ys.map (Value.int k))[j]? = some u → w.cell? (ad.add j) = some u := by
      intro j u hu
      obtain ⟨b, off, e, _, hc⟩ := Rd.get hr hu
      injection e with e
      subst e
      have ha : (⟨b, off, none⟩ : Addr).add j = ⟨b, off + j, none⟩ := by unfold Addr.add; split <;> simp_all
      rw [ha]
      exact hc
    have := Nat.mul_le_mul_left (n + m) h8
    obtain ⟨v', w', hrun, hown', hg, _, _⟩ := run_append_own_at (P := P) w base t ty e i z 1 bytes ht hi hz hsize hby hzs (by omega) _ n _ hown ad m d (ys.map (Value.int k)) (by simp [hm]) hcells (oneCell_ints k ys) (by simp only [maxLen]; omega) (by omega) hbase
    obtain ⟨A', c', rfl⟩ := own_shape hown'
    exact ⟨A', c', w', hrun, by unfold Oi; rw [List.map_append]; exact hown', hg⟩
theorem step_pushG {ops : Array Oper} {o : Oper} {a : Act} {K : Act → World → Prop} {Q : Exit → Act → World → Prop} {E : Prop} (hgd : o.guard = none) (s x : Operand) (t : TypeId)
    (ho : o.op = .call { callee := .builtin .append, args := #[s, x], argTypes := #[t, t] })
    (base : Nat) (e : TypeId) (i : TypeInfo) (z : Value) (bytes : Nat) (k : IntKind) (ht : P.underlying t = some (.slice e)) (hi : P.info? e = some i) (hz : i.zero = some z)
    (hsize : i.size = 1) (hby : i.bytes = bytes) (hzs : z.cells.size = 1) (h8 : bytes ≤ 8)
    (A : Option Addr) (n c : Nat) (zs : List Int) (hs : a.eval s = .slice A n c) (hown : Oi w base e k A n c zs)
    (X : Option Addr) (m d : Nat) (ys : List Int) (hx : a.eval x = .slice X m d) (hr : Ri w k X m ys) (hn : n + m ≤ 1099511627776) (hbase : base ≤ w.heap.size)
    (h : ∀ A' c' w', Oi w' base e k A' (n + m) c' (zs ++ ys) → w.grownBy w' (Value.slice A n c).ownBlock → K (a.put o.dst (.slice A' (n + m) c')) w') :
    if Region.wanted o (yielded ops a.tmps) = true then Oper.wp P o a w K Q else E := by
  have hw : Region.wanted o (yielded ops a.tmps) = true := by simp [Region.wanted, hgd]
  rw [if_pos hw]
  obtain ⟨A', c', w', hrun, hown', hb⟩ := run_append_intsG (P := P) w base t o.type e i z bytes k ht hi hz hsize hby hzs h8 A n c zs hown X m d ys hr hn hbase
  unfold Oper.wp execOp
  simp only [ho, resolve, invoke, builtin, Sem.run_bind, Sem.run_pure, Result.andThen_ok, List.map_toArray, List.map_cons, List.map_nil, hs, hx, hrun]
  exact h A' c' w' hown' hb
end
section
variable {P : Program} (w : World)
/-- append(out, x), saying where the row lies behind it. -/
theorem wpList_pushAt {ops : Array Oper} {rest : List Oper} {o : Oper} {a : Act} {Q : Exit → Act → World → Prop} (hgd : o.guard = none) (s x : Operand) (t : TypeId)
    (ho : o.op = .call { callee := .builtin .append, args := #[s, x], argTypes := #[t, t] })
    (base : Nat) (e : TypeId) (i : TypeInfo) (z : Value) (bytes : Nat) (k : IntKind) (ht : P.underlying t = some (.slice e)) (hi : P.info? e = some i) (hz : i.zero = some z)
    (hsize : i.size = 1) (hby : i.bytes = bytes) (hzs : z.cells.size = 1) (h8 : bytes ≤ 8)
    (A : Option Addr) (n c : Nat) (zs : List Int) (hs : a.eval s = .slice A n c) (hown : Oi w base e k A n c zs)
    (g : Nat) (x0 : Int) (hx : a.eval x = .slice (some ⟨g, 0, none⟩) 1 1) (hcell : w.cell? ⟨g, 0, none⟩ = some (.int k x0)) (hn : n ≤ 1099511627776) (hbase : base ≤ w.heap.size)
    (h : ∀ A' c' w', Oi w' base e k A' (n + 1) c' (zs ++ [x0]) → w.grownBy w' (Value.slice A n c).ownBlock → ((Value.slice A' (n + 1) c').ownBlock = (Value.slice A n c).ownBlock ∨ (Value.slice A' (n + 1) c').ownBlock = some w.heap.size) → wpList P ops Q rest (a.put o.dst (.slice A' (n + 1) c')) w') : wpList P ops Q (o :: rest) a w := by
  refine wpList_append_own_at w hgd s x t ho base e i z 1 bytes ht hi hz hsize hby hzs (by omega) _ n (zs.map (Value.int k)) hs hown ⟨g, 0, none⟩ 1 1 [.int k x0] hx rfl ?_ ?_ ?_ ?_ hbase ?_
  · intro j u hj
    match j, hj with
    | 0, hj => simp at hj; subst hj; simpa [Addr.add] using hcell
  · intro u hu; simp at hu; subst hu; rfl
  · simp only [maxLen]; omega
  · have := Nat.mul_le_mul_left (n + 1) h8
    omega
  · intro v' w' hown' hg _ hat
    obtain ⟨A', c', rfl⟩ := own_shape hown'
    refine h A' c' w' ?_ hg hat
    unfold Oi
    rw [List.map_append]
    exact hown'
end
theorem Ri.one {w : World} {g : Nat} {k : IntKind} {x : Int} (h : w.cell? ⟨g, 0, none⟩ = some (.int k x)) : Ri w k (some ⟨g, 0, none⟩) 1 [x] :=
  ⟨by simp, fun _ => ⟨g, 0, rfl, World.block_lt_of_cell? w _ h, fun j u hu => by
    match j, hu with
    | 0, hu => simp at hu; subst hu; exact h⟩⟩
/-- Rows stay as they are where another row is written: the other one lies above N, the row itself below it; or the other way round. -/
theorem Ri.farUp {w w' : World} {k : IntKind} {A : Option Addr} {n : Nat} {zs : List Int} {row : Option Nat} (h : Ri w k A n zs) (hg : w.grownBy w' row) (N : Nat) (hb : 0 < n → ∀ b off, A = some ⟨b, off, none⟩ → b < N) (hr : ∀ r, row = some r → N ≤ r) : Ri w' k A n zs := by
  refine ⟨h.1, fun hn => ?_⟩
  obtain ⟨b, off, e, hlt, hc⟩ := h.2 hn
  have hl := h.len
  refine ⟨b, off, e, Nat.lt_of_lt_of_le hlt hg.size, fun j u hu => hg.cell (a := ⟨b, off + j, none⟩) (hc j u hu) fun he => ?_⟩
  have h1 := hb (by simp at hn; omega) b off e
  have h2 := hr b he.symm
  omega
theorem Ri.inB {w : World} {k : IntKind} {A : Option Addr} {n : Nat} {zs : List Int} (h : Ri w k A n zs) : 0 < n → ∀ b off, A = some ⟨b, off, none⟩ → b < w.heap.size := by
  intro hn b off e
  have hl := h.len
  obtain ⟨b', off', e', hlt, _⟩ := h.2 (by simp; omega)
  rw [e] at e'
  injection e' with e'
  injection e' with e1 e2
  omega
theorem Oi.outB {w : World} {base : Nat} {E : TypeId} {k : IntKind} {A : Option Addr} {n c : Nat} {zs : List Int} (h : Oi w base E k A n c zs) : 0 < n → ∀ b off, A = some ⟨b, off, none⟩ → b < w.heap.size := fun _ _ _ e => (h.block e).2
theorem Oi.far {w w' : World} {base : Nat} {E : TypeId} {k : IntKind} {A : Option Addr} {n c : Nat} {zs : List Int} {row : Option Nat} (h : Oi w base E k A n c zs) (hg : w.grownBy w' row) (hr : ∀ r, row = some r → ∀ g, A = some ⟨g, 0, none⟩ → g ≠ r) : Oi w' base E k A n c zs := by
  refine World.ownsRow.kept h hg ?_
  rcases h.2 with ⟨hv, _⟩ | ⟨g, cap, cur, hv, _⟩
  · left; rw [hv]; rfl
  · right
    have hA : A = some ⟨g, 0, none⟩ := by injection hv
    subst hA
    intro he
    exact hr g he.symm g rfl rfl
theorem Oi.farUp {w w' : World} {base : Nat} {E : TypeId} {k : IntKind} {A : Option Addr} {n c : Nat} {zs : List Int} {row : Option Nat} (h : Oi w base E k A n c zs) (hg : w.grownBy w' row) (N : Nat) (hb : ∀ g, (Value.slice A n c).ownBlock = some g → g < N) (hr : ∀ r, row = some r → N ≤ r) : Oi w' base E k A n c zs :=
  h.far hg fun r e g hA => by
    subst hA
    have h1 := hb g rfl
    have h2 := hr r e
    omega
theorem Oi.farDown {w w' : World} {base : Nat} {E : TypeId} {k : IntKind} {A : Option Addr} {n c : Nat} {zs : List Int} {row : Option Nat} (h : Oi w base E k A n c zs) (hg : w.grownBy w' row) (hr : ∀ r, row = some r → r < base) : Oi w' base E k A n c zs :=
  h.far hg fun r e g hA => by
    have h1 := (h.block hA).1
    have h2 := hr r e
    omega
theorem bne_self_bool (b : Bool) : (b != b) = false := by cases b <;> rfl
/-- What the laws write into a row to mark it. -/
def marks (K : IntKind) (k0 : Int) (n : Nat) : List Int := (List.range n).map fun j : Nat => K.wrap (k0 + (j : Int))
theorem marks_len (K : IntKind) (k0 : Int) (n : Nat) : (marks K k0 n).length = n := by simp [marks]
theorem marks_get (K : IntKind) (k0 : Int) (n j : Nat) (h : j < n) : (marks K k0 n)[j]? = some (K.wrap (k0 + (j : Int))) := by
  unfold marks
  rw [List.getElem?_map, List.getElem?_range h]
  rfl
theorem marks_step {K : IntKind} {k0 : Int} {zs : List Int} {n k : Nat} (hl : zs.length = n) (hk : k < n) : (marks K k0 k ++ zs.drop k).set k (K.wrap (k0 + (k : Int))) = marks K k0 (k + 1) ++ zs.drop (k + 1) := by
  have hm := marks_len K k0 k
  rw [List.set_append_right _ _ (by omega), hm, Nat.sub_self, List.drop_eq_getElem_cons (by omega), List.set_cons_zero]
  unfold marks
  rw [List.range_succ, List.map_append, List.append_assoc]
  rfl
/-- The blocks of a slice that is marked. -/
theorem ownBlock_some (g n c : Nat) : (Value.slice (some ⟨g, 0, none⟩) n c).ownBlock = some g := rfl

/-- The fold of a list goes on by one element. -/
theorem foldl_take_succ {α β : Type} (f : β → α → β) (b : β) (l : List α) (i : Nat) (x : α) (h : l[i]? = some x) : (l.take (i + 1)).foldl f b = f ((l.take i).foldl f b) x := by
  rw [List.take_add_one, h, List.foldl_append]
  rfl

/-- What is known of a slice of integers that came in from outside. -/
def InInts (k : IntKind) (w : World) (B : Nat) (A : Option Addr) (n c : Nat) (zs : List Int) : Prop := Ri w k A n zs ∧ n ≤ c ∧ c ≤ maxLen ∧ (∀ x ∈ zs, (Lit.int k x).wf = true) ∧ B = w.heap.size
theorem InInts.of_nil {k : IntKind} {w : World} : InInts k w w.heap.size none 0 0 [] := ⟨Rd.empty, Nat.le_refl _, Nat.zero_le _, by simp, rfl⟩
theorem InInts.of_row {k : IntKind} {w : World} {x : Addr} {n c : Nat} {zs : List Int} (hl : n ≤ c) (hm : c ≤ maxLen) (hz : zs.length = c) (hc : ∀ i, i < zs.length → w.cell? (x.add i) = some (.int k (zs.getD i 0))) (hw : ∀ y ∈ zs, (Lit.int k y).wf = true) :
    InInts k w w.heap.size (some x) n c (zs.take n) := by
  refine ⟨⟨by simp; omega, fun hn => ?_⟩, hl, hm, fun y hy => hw y (List.mem_of_mem_take hy), rfl⟩
  simp at hn
  obtain ⟨b, off, spot⟩ := x
  have h0 := hc 0 (by omega)
  have hspot : spot = none := by simpa [Addr.add] using World.cell?_spot h0
  subst hspot
  refine ⟨b, off, rfl, ?_, fun j u hu => ?_⟩
  · have := World.block_lt_of_cell? w _ h0
    simpa [Addr.add] using this
  · rw [List.getElem?_map] at hu
    obtain ⟨y, hy, rfl⟩ := Option.map_eq_some_iff.1 hu
    rw [List.getElem?_take] at hy
    split at hy
    · have hj : j < zs.length := (List.getElem?_eq_some_iff.1 hy).1
      have := hc j hj
      rw [List.getD_eq_getElem?_getD, hy] at this
      have ha : (⟨b, off, none⟩ : Addr).add j = ⟨b, off + j, none⟩ := by unfold Addr.add; split <;> simp_all
      rw [ha] at this
      simpa using this
    · cases hy
end Go.Proofs.Ytehfcejpoigclaa
