/- The contract of l5Draw: a valid topology of its own. -/
import Derived.Test.YtehfcejpoigclaaRows
import Derived.Test.YtehfcejpoigclaaMem
import Derived.Test.YtehfcejpoigclaaTopoMem
import Derived.Test.YtehfcejpoigclaaTopoPure
import Derived.Test.YtehfcejpoigclaaDrawPure
import Derived.Test.YtehfcejpoigclaaBox
import Derived.Test.YtehfcejpoigclaaAdd
import Derived.Test.YtehfcejpoigclaaValid2
import Derived.Deep.QuietTactic
import Derived.BigQuiet
import Derived.WalkSmall
import Derived.Deep.RegionHeld3
import Derived.Deep.RegionLaw
import Derived.StillTailTactics
import Derived.Outline
namespace Go.Proofs.Ytehfcejpoigclaa
open Go.RowKit
set_option linter.unusedVariables false

/-- The box of the result, as it was made. -/
def Qb (w : World) (q : Nat) : Prop := w.heap[q]? = some (.cells #[.slice none 0 0, .slice none 0 0] 27 (0, 0))
theorem Qb.cells {w : World} {q : Nat} (h : Qb w q) : (w.cell? ⟨q, 0, none⟩ = some (.slice none 0 0) ∧ w.cell? ⟨q, 1, none⟩ = some (.slice none 0 0)) ∧ w.frozen? ⟨q, 0, none⟩ = false ∧ w.frozen? ⟨q, 1, none⟩ = false := by
  have e : w.heap[q]? = _ := h
  refine ⟨⟨?_, ?_⟩, ?_, ?_⟩ <;> simp [World.cell?, World.frozen?, e]
theorem Qb.lt {w : World} {q : Nat} (h : Qb w q) : q < w.heap.size := (Array.getElem?_eq_some_iff.1 h).1
theorem Qb.below {w w' : World} {q B : Nat} (h : Qb w q) (hb : Below B w w') (hq : q < B) : Qb w' q := (hb.block q hq).trans h
/-- The state of the drawing: the topology's box behind the result's, the cursor, what was there as it was. -/
structure Ph (g : Nat) (w wr : World) (N : Nat) (A : Option Addr) (n c : Nat) (xs : List As) (L : Option Addr) (m d : Nat) (ls : List Lk) : Prop where
  st : St wr (w.heap.size + 1) (w.heap.size + 1) N A n c xs L m d ls
  qb : Qb wr w.heap.size
  dr : Dr 70 g w wr
  hg : g < w.heap.size
section
variable {g : Nat} {w wr w1 : World} {N n c m d : Nat} {A L : Option Addr} {xs : List As} {ls : List Lk}
theorem Ph.size (h : Ph g w wr N A n c xs L m d ls) : w.heap.size + 1 < wr.heap.size := h.st.lt
theorem Ph.draw (h : Ph g w wr N A n c xs L m d ls) (hd : Dr 70 g wr w1) : Ph g w w1 N A n c xs L m d ls :=
  ⟨h.st.dr hd (by have := h.hg; omega), (hd.1.block _ h.qb.lt (fun e => by have := h.hg; injection e with e; omega)).trans h.qb, h.dr.trans hd, h.hg⟩
theorem Ph.below (h : Ph g w wr N A n c xs L m d ls) (hb : Below wr.heap.size wr w1) : Ph g w w1 N A n c xs L m d ls :=
  ⟨h.st.below hb, h.qb.below hb h.qb.lt, h.dr.push h.hg (hb.mono h.dr.size), h.hg⟩
theorem Ph.drew (h : Ph g w wr N A n c xs L m d ls) : Ph g w wr.drew N A n c xs L m d ls := h.below (Below.refl _ _).drew
theorem Ph.drewN (h : Ph g w wr N A n c xs L m d ls) (k : Nat) : Ph g w (wr.drewN k) N A n c xs L m d ls := ⟨h.st.drewN k, h.qb, ⟨grown_like h.dr.1 rfl rfl rfl rfl, h.dr.2.drewN k⟩, h.hg⟩
theorem Ph.alloc (h : Ph g w wr N A n c xs L m d ls) (o : Obj) : Ph g w (wr.alloc o) N A n c xs L m d ls := h.below ((Below.refl _ _).alloc (Nat.le_refl _) o)
theorem Ph.next {N' n' c' m' d' : Nat} {A' L' : Option Addr} {xs' : List As} {ls' : List Lk} (h : Ph g w wr N A n c xs L m d ls) (hs : St w1 (w.heap.size + 1) (w.heap.size + 1) N' A' n' c' xs' L' m' d' ls') (hb : Below (w.heap.size + 1) wr w1) : Ph g w w1 N' A' n' c' xs' L' m' d' ls' :=
  ⟨hs, h.qb.below hb (by omega), h.dr.push h.hg (hb.mono (by omega)), h.hg⟩
theorem Ph.cu (h : Ph g w wr N A n c xs L m d ls) : Cu wr 70 g := h.dr.2
theorem Ph.start (hq : Cu w 70 g) : Ph g w ((w.alloc (.cells #[.slice none 0 0, .slice none 0 0] 27)).alloc (.cells #[.slice none 0 0, .slice none 0 0] 27)) (w.heap.size + 2) none 0 0 [] none 0 0 [] := by
  have e1 := heap_new w (.cells #[.slice none 0 0, .slice none 0 0] 27)
  have e2 := heap_new (w.alloc (.cells #[.slice none 0 0, .slice none 0 0] 27)) (.cells #[.slice none 0 0, .slice none 0 0] 27)
  have hs : (w.alloc (.cells #[.slice none 0 0, .slice none 0 0] 27)).heap.size = w.heap.size + 1 := by simp
  rw [hs] at e2
  refine ⟨⟨e2, Ow.nil, Ow.nil, (fun g e => by cases e), (fun g e => by cases e), Nat.le_refl _, by simp, by omega⟩, ?_, ((Dr.refl hq).alloc _).alloc _, hq.lt⟩
  exact (Below.heap_alloc _ _ _ (by simp)).trans e1
end
/-- Links that are laid one after the other. -/
def Lks (ls : List Lk) : Prop := Doors ls ∧ Apart ls
theorem Lks.nil : Lks [] := ⟨Doors.nil, Apart.nil⟩
def AddPh (g : Nat) (w : World) (N : Nat) (A : Option Addr) (n c : Nat) (xs : List As) (m : Nat) (e : Ending) (w' : World) : Prop :=
  ∃ (L' : Option Addr) (m' d' : Nat) (ls' : List Lk), e = .returned (.tuple #[]) ∧ Ph g w w' N A n c xs L' m' d' ls' ∧ Lks ls' ∧ m' ≤ m + 1
theorem addPh_s (g : Nat) (w wr : World) (N : Nat) (A : Option Addr) (n c : Nat) (xs : List As) (L : Option Addr) (m d : Nat) (ls : List Lk) (a b kd : Int) (h : Ph g w wr N A n c xs L m d ls) (hl : Lks ls) (hab : a < b) (hm : m ≤ 1000) :
    Calls Try.prog 67 #[.pointer (some ⟨w.heap.size + 1, 0, none⟩), .int .i64 a, .int .i64 b, .int .i64 kd] wr (AddPh g w N A n c xs m) := by
  refine (add_s _ _ _ _ _ _ _ _ _ _ _ a b kd _ h.st hm).mono ?_
  rintro e w' ⟨L', m', d', ls', rfl, hs, hb, hm', hls⟩
  refine ⟨L', m', d', ls', rfl, h.next hs hb, ?_, hm'⟩
  rcases hls with rfl | rfl
  · exact hl
  · exact ⟨hl.1.add (by omega) kd, hl.2.add hl.1 a b kd⟩
/-- Loop by loop. -/
def L1 (g : Nat) (w : World) (tot : Nat) (v : Value) (wr : World) : Prop :=
  ∃ (k N : Nat) (A : Option Addr) (c : Nat) (xs : List As), k ≤ tot ∧ v = .int .i64 k ∧ Ph g w wr N A k c xs none 0 0 [] ∧ DrAs xs
def L2 (g : Nat) (w : World) (cr N : Nat) (A : Option Addr) (n c : Nat) (xs : List As) (v : Value) (wr : World) : Prop :=
  ∃ (b : Nat) (L : Option Addr) (m d : Nat) (ls : List Lk), 1 ≤ b ∧ b ≤ cr ∧ v = .int .i64 b ∧ Ph g w wr N A n c xs L m d ls ∧ Lks ls ∧ m ≤ 3 * b
def L3 (g : Nat) (w : World) (cr N : Nat) (A : Option Addr) (n c : Nat) (v : Value) (wr : World) : Prop :=
  ∃ (b : Nat) (xs : List As) (L : Option Addr) (m d : Nat) (ls : List Lk), cr ≤ b ∧ b ≤ n ∧ v = .int .i64 b ∧ Ph g w wr N A n c xs L m d ls ∧ DrAs xs ∧ Lks ls ∧ m ≤ 3 * b
def L4 (g : Nat) (w : World) (b N : Nat) (A : Option Addr) (n c : Nat) (v : Value) (wr : World) : Prop :=
  ∃ (j : Nat) (xs : List As) (L : Option Addr) (m d : Nat) (ls : List Lk), j ≤ 2 ∧ v = .int .i64 j ∧ Ph g w wr N A n c xs L m d ls ∧ DrAs xs ∧ Lks ls ∧ m + j ≤ 3 * b + 2
def L5 (w5 : World) (xs : List As) (m : Nat) (ls : List Lk) (v i : Value) (wr : World) : Prop :=
  ∃ (k j : Nat) (F : Option Addr) (f : Nat), k ≤ m ∧ j ≤ k ∧ i = .int .i64 k ∧ v = .slice F j f ∧ Ow wr w5.heap.size 42 5 F j f (((ls.take k).filter (lkOk xs)).flatMap Lk.cells) ∧ Below w5.heap.size w5 wr
theorem filt_yes {xs : List As} {ls : List Lk} {k : Nat} {l : Lk} (hl : ls[k]? = some l) (h : lkOk xs l = true) : ((ls.take (k + 1)).filter (lkOk xs)).flatMap Lk.cells = ((ls.take k).filter (lkOk xs)).flatMap Lk.cells ++ l.cells := by
  rw [List.take_add_one, hl, List.filter_append, List.flatMap_append]
  simp [h]
theorem filt_no {xs : List As} {ls : List Lk} {k : Nat} {l : Lk} (hl : ls[k]? = some l) (h : lkOk xs l = false) : ((ls.take (k + 1)).filter (lkOk xs)).flatMap Lk.cells = ((ls.take k).filter (lkOk xs)).flatMap Lk.cells := by
  rw [List.take_add_one, hl, List.filter_append]
  simp [h]
/-- A topology of the call's own, drawn by a cursor. -/
def DrTopo (g : Nat) (w : World) (V : Tp → Prop) (K : Nat) (e : Ending) (w' : World) : Prop :=
  ∃ (A : Option Addr) (n c : Nat) (L : Option Addr) (m d : Nat) (T : Tp) (N : Nat), e = .returned (.agg #[.slice A n c, .slice L m d]) ∧ V T ∧ n ≤ 8 ∧ m ≤ K ∧
    Ow w' w.heap.size 58 3 A n c (T.ases.flatMap As.cells) ∧ Ow w' N 42 5 L m d (T.links.flatMap Lk.cells) ∧ (∀ b, A = some ⟨b, 0, none⟩ → b < N) ∧ w.heap.size ≤ N ∧ N ≤ w'.heap.size ∧ Dr 70 g w w'
def Vld (T : Tp) : Prop := validT T.ases T.links = true
theorem draw_fin {g : Nat} {w w5 wr : World} {N gA n c : Nat} {xs : List As} {L F : Option Addr} {m d j f : Nat} {ls : List Lk} (h : Ph g w w5 N (some ⟨gA, 0, none⟩) n c xs L m d ls) (hb : Below w5.heap.size w5 wr)
    (ho : Ow wr w5.heap.size 42 5 F j f ((ls.filter (lkOk xs)).flatMap Lk.cells)) (v v0 v1 : Value) (hn1 : 1 ≤ n) (hn : n ≤ 8) (hj : j ≤ 24) (hxs : DrAs xs) (hls : Lks ls) :
    DrTopo g w Vld 24 (.returned (.agg #[.slice (some ⟨gA, 0, none⟩) n c, .slice F j f])) (((wr.setCell ⟨w.heap.size + 1, 1, none⟩ v).setCell ⟨w.heap.size, 0, none⟩ v0).setCell ⟨w.heap.size, 1, none⟩ v1) := by
  have hl := h.st.lenA
  have hs := h.size
  have hN := h.st.hN
  have hB := h.st.hB
  have hgA := h.st.loA gA rfl
  have hgB := (h.st.oA.block rfl).1
  have h' := h.below hb
  have hlF : ∀ b, F = some ⟨b, 0, none⟩ → w5.heap.size ≤ b := fun b e => (ho.block e).1
  refine ⟨_, n, c, F, j, f, ⟨xs, ls.filter (lkOk xs)⟩, w5.heap.size, rfl, valid_draw (xs := xs) (ls := ls) (by omega) (by omega) hxs hls.2, hn, hj, ?_, ?_, ?_, by omega, ?_, ?_⟩
  · have e1 := (h'.st.oA.mono (base' := w.heap.size) (by omega)).far (grown_setC wr (w.heap.size + 1) 1 v) (fun r e a ha => by injection e with e; injection ha with ha; injection ha with ha; omega)
    have e2 := e1.far (grown_setC _ w.heap.size 0 v0) (fun r e a ha => by injection e with e; injection ha with ha; injection ha with ha; omega)
    exact e2.far (grown_setC _ w.heap.size 1 v1) (fun r e a ha => by injection e with e; injection ha with ha; injection ha with ha; omega)
  · have e1 := ho.far (grown_setC wr (w.heap.size + 1) 1 v) (fun r e a ha => by injection e with e; have := hlF a ha; omega)
    have e2 := e1.far (grown_setC _ w.heap.size 0 v0) (fun r e a ha => by injection e with e; have := hlF a ha; omega)
    exact e2.far (grown_setC _ w.heap.size 1 v1) (fun r e a ha => by injection e with e; have := hlF a ha; omega)
  · intro b e
    injection e with e
    injection e with e
    omega
  · have := hb.size
    simp [World.setCell]
    omega
  · refine h'.dr.push h.hg ?_
    exact (((Below.refl w.heap.size wr).setCell (by simp) v).setCell (by simp) v0).setCell (by simp) v1

set_option maxHeartbeats 4000000 in
set_option maxRecDepth 100000 in
theorem draw_s (g : Nat) (w : World) (hq : Cu w 70 g) : Calls Try.prog 45 #[.pointer (some ⟨g, 0, none⟩)] w (DrTopo g w Vld 24) := by
  obtain ⟨i0, hi, hz0, hz1, hz2⟩ := info_parts asD_info
  obtain ⟨i1, hi', hy0, hy1, hy2⟩ := info_parts lkD_info
  have hS := Ph.start hq
  clear hq
  go_enter Try.func45, Try.ntmps45
  go_wp2_with fail
  generalize hw0 : World.alloc (World.alloc w _) _ = w0 at hS ⊢
  clear hw0
  refine (below_s _ _ _ hS.cu (by omega)).mono ?_
  rintro e w1 ⟨x, hx0, hx1, rfl, hd1⟩
  replace hS := hS.draw hd1
  clear hd1
  obtain ⟨cr, hcr0⟩ : ∃ cr : Nat, (cr : Int) = 1 + x := ⟨(1 + x).toNat, by omega⟩
  have hcr1 : 1 ≤ cr := by omega
  have hcr2 : cr ≤ 3 := by omega
  go_wp2_with fail
  rw [← hcr0]
  clear hcr0 hx0 hx1
  refine (below_s _ _ _ hS.cu (by omega)).mono ?_
  rintro e w2 ⟨y, hy0', hy1', rfl, hd1⟩
  replace hS := hS.draw hd1
  clear hd1
  obtain ⟨lv, rfl⟩ := Int.eq_ofNat_of_zero_le hy0'
  have hlv : lv ≤ 5 := by omega
  clear hy0' hy1'
  go_wp2
  go_loopw [6] (L1 g w (cr + lv)) (fun i _ => cr + lv - (intOf i).toNat)
  case atStart => exact ⟨0, _, _, _, _, Nat.zero_le _, rfl, hS, DrAs.nil⟩
  case round =>
    clear hS
    obtain ⟨k, N, A, c, xs, hk, rfl, hS, hxs0⟩ := hrel
    have hxs := Lib.hid hxs0
    clear hxs0
    by_cases hlt : k < cr + lv
    · have hlt' : (k : Int) < (cr : Int) + (lv : Int) := by omega
      obtain ⟨c0, c1⟩ := hS.st.cells
      have hlen := Lib.hid hS.st.lenA
      go_wp2_with fail
      go_region_law (first
        | (have _hX := hdB; refine step_pushW _ rfl (.tmp 28) (.tmp 41) 24 rfl (w.heap.size + 1) 58 i0 _ 3 24 Try.underlying24 hi hz0 hz1 hz2 rfl (by omega) (by omega) A k c _ rfl (hSB.alloc _).st.oA wB.heap.size 1 (As.cells ⟨x, decide (k < cr), 1 + y * 8 + (k : Int)⟩) rfl rfl (new_cells wB _ _) (as_one _) (by omega) (by have := hSB.size; simp; omega) ?_; intro A' c' wC ho hg hat; obtain ⟨k0, k1, kf⟩ := (hSB.alloc _).st.keepA hg)
        | (have _hX := hdA; go_simp; go_at_call 48; refine (below_s _ _ _ hSA.cu (by omega)).mono ?_; rintro e wB ⟨y, hy0, hy1, rfl, hdB⟩; have hSB := hSA.draw hdB; obtain ⟨cB0, cB1⟩ := hSB.st.cells; have ltB := hSB.size; have e1 : IntKind.i64.wrap (y * 8) = y * 8 := IntWalk.i64_in _ (by omega); have e2 : IntKind.i64.wrap (1 + y * 8) = 1 + y * 8 := IntWalk.i64_in _ (by omega); have e3 : IntKind.i64.wrap (1 + y * 8 + (k : Int)) = 1 + y * 8 + (k : Int) := IntWalk.i64_in _ (by omega))
        | (go_simp; go_at_call 48; refine (below_s _ _ _ hS.drew.cu (by omega)).mono ?_; rintro e wA ⟨x, hx0, hx1, rfl, hdA⟩; have hSA := hS.drew.draw hdA; obtain ⟨cA0, cA1⟩ := hSA.st.cells))
      all_goals
        go_wp2
        obtain ⟨s1, s2⟩ := (hSB.alloc _).st.addAs ho hg hat
        go_roundw
        case rel => exact ⟨k + 1, _, A', c', _, by omega, by go_num, (hSB.alloc _).next s1 s2, hxs.out.snoc hx0 (by show x ≤ 1; omega) hy0 (by omega) (by rw [hlen.out])⟩
        case measure => simp [intOf]; omega
    · obtain ⟨n, hn0⟩ : ∃ n, n = cr + lv := ⟨_, rfl⟩
      obtain rfl : k = n := by omega
      have hk1 : cr ≤ k := by omega
      have hk8 : k ≤ 8 := by omega
      clear hn0 hk
      have hlt' : ¬ (k : Int) < (cr : Int) + (lv : Int) := by omega
      clear hlt
      obtain ⟨gA, rfl, hgA, _⟩ := hS.st.head (by omega)
      go_wp2
      go_loopw [7] (L2 g w cr N (some ⟨gA, 0, none⟩) k c xs) (fun i _ => cr - (intOf i).toNat)
      case atStart => exact ⟨1, _, _, _, _, Nat.le_refl _, hcr1, rfl, hS, Lks.nil, by omega⟩
      case round =>
        clear hS
        obtain ⟨b, L, m, d, ls, hb1, hb2, rfl, hS, hls, hm⟩ := hrel
        by_cases hbc : b < cr
        · have hbc' : (b : Int) < (cr : Int) := by omega
          go_wp2_with fail
          refine (below_s _ _ _ hS.cu (by omega)).mono ?_
          rintro e w3 ⟨x, hx0, hx1, rfl, hd⟩
          replace hS := hS.draw hd
          clear hd
          go_wp2_with fail
          refine (addPh_s g w _ N _ k c xs L m d ls _ _ _ hS hls (by omega) (by omega)).mono ?_
          rintro e w4 ⟨L', m', d', ls', rfl, hS', hls', hm'⟩
          clear hS hls
          go_wp2_with fail
          refine (once_s _ _ _ hS'.cu (by omega)).mono ?_
          rintro e w5 ⟨bb, rfl, hd⟩
          replace hS' := hS'.draw hd
          clear hd
          rcases Bool.eq_false_or_eq_true bb with rfl | rfl
          · go_wp2_with fail
            refine (below_s _ _ _ hS'.cu (by omega)).mono ?_
            rintro e w6 ⟨y, hy0, hy1, rfl, hd⟩
            replace hS' := hS'.draw hd
            clear hd
            go_wp2_with fail
            refine (addPh_s g w _ N _ k c xs L' m' d' ls' _ _ _ hS' hls' (by omega) (by omega)).mono ?_
            rintro e w7 ⟨L2, m2, d2, ls2, rfl, hS2, hls2, hm2⟩
            clear hS' hls'
            go_wp2
            go_roundw
            case rel => exact ⟨b + 1, L2, m2, d2, ls2, by omega, by omega, by go_num, hS2, hls2, by omega⟩
            case measure => simp [intOf]; omega
          · go_wp2
            go_roundw
            case rel => exact ⟨b + 1, L', m', d', ls', by omega, by omega, by go_num, hS', hls', by omega⟩
            case measure => simp [intOf]; omega
        · have hbc' : ¬ (b : Int) < (cr : Int) := by omega
          go_wp2
          go_loopw [8] (L3 g w cr N (some ⟨gA, 0, none⟩) k c) (fun i _ => k - (intOf i).toNat)
          case atStart => exact ⟨cr, xs, L, m, d, ls, Nat.le_refl _, hk1, rfl, hS, hxs.out, hls, by omega⟩
          case round =>
            clear hS hls hxs hm hb1 hb2 hbc hbc'
            obtain ⟨b, xs, L, m, d, ls, hb1, hb2, rfl, hS, hxs0, hls, hm⟩ := hrel
            have hxs := Lib.hid hxs0
            clear hxs0
            obtain ⟨c0, c1⟩ := hS.st.cells
            by_cases hbk : b < k
            · have hbk' : (b : Int) < (k : Int) := by omega
              go_wp2_with fail
              refine (below_s _ _ _ hS.cu (by omega)).mono ?_
              rintro e w3 ⟨x, hx0, hx1, rfl, hd⟩
              replace hS := hS.draw hd
              clear hd c0 c1
              obtain ⟨j, hj0⟩ : ∃ j : Nat, (j : Int) = 1 + x := ⟨(1 + x).toNat, by omega⟩
              have hj2 : j ≤ 2 := by omega
              go_wp2_with fail
              rw [← hj0]
              clear hj0 hx0 hx1
              go_wp2
              go_loopw [9] (L4 g w b N (some ⟨gA, 0, none⟩) k c) (fun i _ => (intOf i).toNat)
              case atStart => exact ⟨j, xs, L, m, d, ls, hj2, rfl, hS, hxs.out, hls, by omega⟩
              case round =>
                clear hS hls hxs hm hj2
                obtain ⟨j, xs, L, m, d, ls, hj2, rfl, hS, hxs0, hls, hm⟩ := hrel
                have hxs := Lib.hid hxs0
                clear hxs0
                by_cases hj0 : 0 < j
                · have hj0' : (0 : Int) < (j : Int) := by omega
                  go_wp2_with fail
                  refine (below_s _ _ _ hS.cu (by omega)).mono ?_
                  rintro e w4 ⟨x, hx0, hx1, rfl, hd⟩
                  replace hS := hS.draw hd
                  clear hd
                  obtain ⟨a, rfl⟩ := Int.eq_ofNat_of_zero_le hx0
                  have hab : a < b := by omega
                  clear hx0 hx1
                  go_wp2_with fail
                  refine (once_s _ _ _ hS.cu (by omega)).mono ?_
                  rintro e w5 ⟨bb, rfl, hd⟩
                  replace hS := hS.draw hd
                  clear hd
                  obtain ⟨xa, hxa0⟩ : ∃ x, xs[a]? = some x := ⟨_, List.getElem?_eq_getElem (by have := hS.st.lenA; omega)⟩
                  obtain ⟨xb, hxb0⟩ : ∃ x, xs[b]? = some x := ⟨_, List.getElem?_eq_getElem (by have := hS.st.lenA; omega)⟩
                  have hxa := Lib.hid hxa0
                  have hxb := Lib.hid hxb0
                  clear hxa0 hxb0
                  have i1 : (0 : Int) ≤ (a : Int) := by omega
                  have i2 : (a : Int) < (k : Int) := by omega
                  have i3 : (0 : Int) ≤ (b : Int) := by omega
                  have hab' : (a : Int) < (b : Int) := by omega
                  rcases Bool.eq_false_or_eq_true bb with rfl | rfl
                  · go_wp2_with fail
                    obtain ⟨a0, a1, a2⟩ := hS.st.asCell hxa.out
                    obtain ⟨b0, b1, b2⟩ := hS.st.asCell hxb.out
                    obtain ⟨c0, c1⟩ := hS.st.cells
                    rcases Bool.eq_false_or_eq_true (xa.isd == xb.isd) with q | q
                    · go_quiet (fail)
                      go_wp2_with fail
                      refine (addPh_s g w _ N _ k c xs L m d ls _ _ _ (hS.drewN _) hls (by omega) (by omega)).mono ?_
                      rintro e w8 ⟨L', m', d', ls', rfl, hS', hls', hm'⟩
                      clear a0 a1 a2 b0 b1 b2 c0 c1
                      go_wp2
                      go_roundw
                      case rel => exact ⟨j - 1, xs, L', m', d', ls', by omega, by rw [show ((j - 1 : Nat) : Int) = (j : Int) - 1 by omega], hS', hxs.out, hls', by omega⟩
                      case measure => simp [intOf]; omega
                    · go_quiet (fail)
                      clear a0 a1 a2 b0 b1 b2 c0 c1
                      go_wp2
                      go_roundw
                      case rel => exact ⟨j - 1, xs, L, m, d, ls, by omega, by rw [show ((j - 1 : Nat) : Int) = (j : Int) - 1 by omega], hS.drewN _, hxs.out, hls, by omega⟩
                      case measure => simp [intOf]; omega
                  · have hSd := hS
                    obtain ⟨_, f0, s1, s2⟩ := hSd.st.setAs (u := .int .i64 xa.isd) (z := ⟨xa.isd, xb.core, xb.key⟩) hxb.out (j := 0) (by omega) rfl
                    simp only [Nat.add_zero] at f0 s1 s2
                    have hS6 := (hSd.next s1 s2).drew
                    obtain ⟨a0, a1, a2⟩ := hS.st.asCell hxa.out
                    obtain ⟨b0, b1, b2⟩ := hS.st.asCell hxb.out
                    obtain ⟨c0, c1⟩ := hS.st.cells
                    clear s1 s2 hSd
                    go_wp2_with fail
                    go_still_tail 11, (by kernel_rfl)
                    change wpList _ _ _ _ _ w5.drew
                    go_wp2_with fail
                    clear a0 a1 a2 b0 b1 b2 c0 c1 f0
                    generalize hw6 : World.drew (World.setCell _ _ _) = w6 at hS6 ⊢
                    clear hw6
                    obtain ⟨xs2, xa2, xb2, hS2, hxs20, hxa20, hxb20⟩ : ∃ xs2 xa2 xb2, Ph g w w6 N (some ⟨gA, 0, none⟩) k c xs2 L m d ls ∧ DrAs xs2 ∧ xs2[a]? = some xa2 ∧ xs2[b]? = some xb2 :=
                      ⟨_, xa, ⟨xa.isd, xb.core, xb.key⟩, hS6, hxs.out.isd hxa.out hxb.out, by rw [List.getElem?_set_ne (by omega)]; exact hxa.out, List.getElem?_set_self (List.getElem?_eq_some_iff.1 hxb.out).1⟩
                    have hxs2 := Lib.hid hxs20
                    have hxa2 := Lib.hid hxa20
                    have hxb2 := Lib.hid hxb20
                    clear hxs20 hxa20 hxb20 hxs hxa hxb hS hS6
                    obtain ⟨a0, a1, a2⟩ := hS2.st.asCell hxa2.out
                    obtain ⟨b0, b1, b2⟩ := hS2.st.asCell hxb2.out
                    obtain ⟨c0, c1⟩ := hS2.st.cells
                    rcases Bool.eq_false_or_eq_true (xa2.isd == xb2.isd) with q | q
                    · go_quiet (fail)
                      go_wp2_with fail
                      refine (addPh_s g w _ N _ k c xs2 L m d ls _ _ _ (hS2.drewN _) hls (by omega) (by omega)).mono ?_
                      rintro e w8 ⟨L', m', d', ls', rfl, hS', hls', hm'⟩
                      clear a0 a1 a2 b0 b1 b2 c0 c1
                      go_wp2
                      go_roundw
                      case rel => exact ⟨j - 1, xs2, L', m', d', ls', by omega, by rw [show ((j - 1 : Nat) : Int) = (j : Int) - 1 by omega], hS', hxs2.out, hls', by omega⟩
                      case measure => simp [intOf]; omega
                    · go_quiet (fail)
                      clear a0 a1 a2 b0 b1 b2 c0 c1
                      go_wp2
                      go_roundw
                      case rel => exact ⟨j - 1, xs2, L, m, d, ls, by omega, by rw [show ((j - 1 : Nat) : Int) = (j : Int) - 1 by omega], hS2.drewN _, hxs2.out, hls, by omega⟩
                      case measure => simp [intOf]; omega
                · have hj0' : ¬ (0 : Int) < (j : Int) := by omega
                  go_wp2_with fail
                  refine (below_s _ _ _ hS.cu (by omega)).mono ?_
                  rintro e w4 ⟨x, hx0, hx1, rfl, hd⟩
                  replace hS := hS.draw hd
                  clear hd
                  by_cases hab : (cr : Int) + x < (b : Int)
                  · go_wp2_with fail
                    refine (once_s _ _ _ hS.cu (by omega)).mono ?_
                    rintro e w5 ⟨bb, rfl, hd⟩
                    replace hS := hS.draw hd
                    clear hd
                    rcases Bool.eq_false_or_eq_true bb with rfl | rfl
                    · go_wp2_with fail
                      refine (addPh_s g w _ N _ k c xs L m d ls _ _ _ hS hls (by omega) (by omega)).mono ?_
                      rintro e w6 ⟨L', m', d', ls', rfl, hS', hls', hm'⟩
                      go_wp2
                      go_roundw
                      case rel => exact ⟨b + 1, xs, L', m', d', ls', by omega, by omega, by go_num, hS', hxs.out, hls', by omega⟩
                      case measure => simp [intOf]; omega
                    · go_wp2
                      go_roundw
                      case rel => exact ⟨b + 1, xs, L, m, d, ls, by omega, by omega, by go_num, hS, hxs.out, hls, by omega⟩
                      case measure => simp [intOf]; omega
                  · go_wp2
                    go_roundw
                    case rel => exact ⟨b + 1, xs, L, m, d, ls, by omega, by omega, by go_num, hS, hxs.out, hls, by omega⟩
                    case measure => simp [intOf]; omega
            · have hbk' : ¬ (b : Int) < (k : Int) := by omega
              have hm5 : m ≤ 24 := by omega
              have hlm := Lib.hid hS.st.lenL
              clear hm c0 c1
              rename World => w5
              obtain ⟨c0, c1⟩ := hS.st.cells
              go_wp2
              clear c0 c1
              go_loopw [12, 13] (L5 w5 xs m ls) (fun _ i _ => m - (intOf i).toNat)
              case atStart => exact ⟨0, 0, _, 0, Nat.zero_le _, Nat.le_refl _, rfl, rfl, World.ownsRow_made w5 #[] 0 (Nat.le_refl _) (Nat.zero_le _) rfl, (Below.refl _ _).alloc (Nat.le_refl _) _⟩
              case round =>
                obtain ⟨i, jj, F, f, hi5, hjj, rfl, rfl, ho, hB5⟩ := hrel
                have hSr := hS.below hB5
                have hsr := hB5.size
                obtain ⟨c0, c1⟩ := hSr.st.cells
                by_cases him : i < m
                · have hA' := hSr.st.rt.1
                  obtain ⟨bl, off, l, rfl, hl0, l0, l1, l2, l3, l4⟩ := Rl.get hSr.st.rt.2 him
                  have hl := Lib.hid hl0
                  clear hl0
                  have ic1 : (0 : Int) ≤ (i : Int) := by omega
                  have ic2 : (i : Int) < (m : Int) := by omega
                  rcases Bool.eq_false_or_eq_true (lkOk xs l) with hok | hok
                  · have hok' := Lib.hid hok
                    go_wp2_with fail
                    go_region_held3 (fun w' => w'.cell? ⟨w.heap.size + 1, 0, none⟩ = some (.slice (some ⟨gA, 0, none⟩) k c) ∧ w'.cell? ⟨w.heap.size + 1, 1, none⟩ = some (.slice (some ⟨bl, off, none⟩) m d) ∧ w'.cell? ⟨bl, off + i * 5, none⟩ = some (.int .i64 l.a) ∧ w'.cell? ⟨bl, off + i * 5 + 1, none⟩ = some (.int .i64 l.ai) ∧ w'.cell? ⟨bl, off + i * 5 + 2, none⟩ = some (.int .i64 l.b) ∧ w'.cell? ⟨bl, off + i * 5 + 3, none⟩ = some (.int .i64 l.bi) ∧ w'.cell? ⟨bl, off + i * 5 + 4, none⟩ = some (.int .i64 l.kind)) (first | exact ⟨cell_keepD c0 hbP, cell_keepD c1 hbP, cell_keepD l0 hbP, cell_keepD l1 hbP, cell_keepD l2 hbP, cell_keepD l3 hbP, cell_keepD l4 hbP⟩ | exact ⟨c0, c1, l0, l1, l2, l3, l4⟩) (first | (go_at_call 59; refine (linkOk_s _ _ _ _ _ _ xs l _ ?_ (by omega)).mono ?_; (exact Rd.drew hA'); rintro e w6 ⟨rfl, hbP⟩))
                    have hB6 := below_keepD hB5 hbP
                    have hs6 := hB6.size
                    have ho6 : Ow w6 w5.heap.size 42 5 F jj f (((ls.take i).filter (lkOk xs)).flatMap Lk.cells) := Ow.below (w := wr.drew) ho hbP (Nat.le_refl _)
                    have d0 := cell_keepD c0 hbP
                    have d1 := cell_keepD c1 hbP
                    have e0 := cell_keepD l0 hbP
                    have e1 := cell_keepD l1 hbP
                    have e2 := cell_keepD l2 hbP
                    have e3 := cell_keepD l3 hbP
                    have e4 := cell_keepD l4 hbP
                    clear c0 c1 l0 l1 l2 l3 l4 hbP hA' hSr
                    go_wp2_with (first
                      | (at_builtin; refine wpList_pushW _ rfl _ _ 25 rfl w5.heap.size 42 i1 _ 5 40 Try.underlying25 hi' hy0 hy1 hy2 rfl (by omega) (by omega) F jj f _ rfl (ho6.alloc _) w6.heap.size 1 (Lk.cells l) rfl rfl (new_cells w6 (Lk.cells l) _) (lk_one _) (by omega) (by simp; omega) ?_; intro F' f' w7 ho7 hg7 hat7))
                    go_roundw
                    case rel =>
                      refine ⟨i + 1, jj + 1, F', f', by omega, by omega, by go_num, rfl, ?_, ?_⟩
                      · rw [filt_yes hl.out hok'.out]
                        exact ho7
                      · exact (hB6.alloc hs6 _).grown hg7 (by simp; omega) (fun r e => (ho6.bnd r e).1)
                    case measure => simp [intOf]; omega
                  · have hok' := Lib.hid hok
                    go_wp2_with fail
                    go_region_held3 (fun w' => w'.cell? ⟨w.heap.size + 1, 0, none⟩ = some (.slice (some ⟨gA, 0, none⟩) k c) ∧ w'.cell? ⟨w.heap.size + 1, 1, none⟩ = some (.slice (some ⟨bl, off, none⟩) m d) ∧ w'.cell? ⟨bl, off + i * 5, none⟩ = some (.int .i64 l.a) ∧ w'.cell? ⟨bl, off + i * 5 + 1, none⟩ = some (.int .i64 l.ai) ∧ w'.cell? ⟨bl, off + i * 5 + 2, none⟩ = some (.int .i64 l.b) ∧ w'.cell? ⟨bl, off + i * 5 + 3, none⟩ = some (.int .i64 l.bi) ∧ w'.cell? ⟨bl, off + i * 5 + 4, none⟩ = some (.int .i64 l.kind)) (first | exact ⟨cell_keepD c0 hbP, cell_keepD c1 hbP, cell_keepD l0 hbP, cell_keepD l1 hbP, cell_keepD l2 hbP, cell_keepD l3 hbP, cell_keepD l4 hbP⟩ | exact ⟨c0, c1, l0, l1, l2, l3, l4⟩) (first | (go_at_call 59; refine (linkOk_s _ _ _ _ _ _ xs l _ ?_ (by omega)).mono ?_; (exact Rd.drew hA'); rintro e w6 ⟨rfl, hbP⟩))
                    clear c0 c1 l0 l1 l2 l3 l4 hA' hSr
                    go_wp2
                    go_roundw
                    case rel =>
                      refine ⟨i + 1, jj, F, f, by omega, by omega, by go_num, rfl, ?_, below_keepD hB5 hbP⟩
                      rw [filt_no hl.out hok'.out]
                      exact Ow.below (w := wr.drew) ho hbP (Nat.le_refl _)
                    case measure => simp [intOf]; omega
                · have him' : ¬ (i : Int) < (m : Int) := by omega
                  have ho' : Ow wr w5.heap.size 42 5 F jj f ((ls.filter (lkOk xs)).flatMap Lk.cells) := by
                    have e : ls.take i = ls := List.take_of_length_le (by have := hlm.out; omega)
                    rw [e] at ho
                    exact ho
                  clear ho
                  obtain ⟨⟨q0, q1⟩, qf0, qf1⟩ := hSr.qb.cells
                  have f1 := hSr.st.froz 1
                  go_wp2
                  refine bodyPost_ret (v := .agg #[.slice (some ⟨gA, 0, none⟩) k c, .slice F jj f]) (by simp [results, Try.results45, go_sem]; go_simp) rfl ?_
                  exact draw_fin hS hB5 ho' _ _ _ (by omega) hk8 (by omega) hxs.out hls
end Go.Proofs.Ytehfcejpoigclaa
