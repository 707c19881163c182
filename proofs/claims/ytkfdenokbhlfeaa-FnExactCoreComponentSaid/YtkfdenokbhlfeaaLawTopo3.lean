/- Contracts of the laws' own helpers on topologies: marks. -/
import Derived.Test.YtkfdenokbhlfeaaRows
import Derived.Test.YtkfdenokbhlfeaaMem
import Derived.Test.YtkfdenokbhlfeaaTopoMem
import Derived.Test.YtkfdenokbhlfeaaLawTopo
namespace Go.Proofs.Ytkfdenokbhlfeaa
open Go.RowKit
set_option linter.unusedVariables false

def SomeInt (lo hi : Int) (P : World → Prop) (e : Ending) (w' : World) : Prop := ∃ q : Int, lo ≤ q ∧ q ≤ hi ∧ e = .returned (.int .i64 q) ∧ P w'
def MkRel (w : World) (base : Nat) (E : TypeId) (s : Nat) (A : Option Addr) (n c lo hi : Nat) (k0 : Int) (q i : Value) (wr : World) : Prop :=
  ∃ (k : Nat) (x : Int) (cs : List Value), k ≤ n ∧ i = .int .i64 k ∧ q = .int .i64 x ∧ 0 ≤ x ∧ x ≤ k0 + s * k ∧ Ow wr base E s A n c cs ∧ Btw lo hi w wr

set_option maxHeartbeats 1000000 in
theorem markASS_any (A : Option Addr) (n c : Nat) (cs0 : List Value) (k0 : Int) (w : World) (base lo hi : Nat) (ho : Ow w base 57 3 A n c cs0) (h0 : 0 ≤ k0) (h1 : k0 ≤ 100000000) (hn : n ≤ 1048576) (hlo : lo ≤ base) (hhi : ∀ g, A = some ⟨g, 0, none⟩ → g < hi) :
    Calls Try.prog 56 #[.slice A n c, .int .i64 k0] w (SomeInt 0 (k0 + 3 * n) (Btw lo hi w)) := by
  go_enter Try.func56, Try.ntmps56
  go_wp2
  go_loopw [1, 5] (MkRel w base 57 3 A n c lo hi k0) (fun _ i _ => n - (intOf i).toNat)
  case atStart => exact ⟨0, k0, cs0, Nat.zero_le _, rfl, rfl, h0, by omega, ho, Btw.refl _ _ _⟩
  case round =>
    clear ho
    obtain ⟨k, x, cs, hk, rfl, rfl, hx1, hx2, hown, hb⟩ := hrel
    by_cases hlt : k < n
    · obtain ⟨g, rfl, hg1, hg2⟩ := hown.head (by omega)
      have hgh := hhi g rfl
      have hkn : k * 3 + 3 ≤ n * 3 := by have := Nat.mul_le_mul_right 3 (show k + 1 ≤ n by omega); omega
      have hx3 : x ≤ 200000000 := by omega
      obtain ⟨⟨u0, hu0⟩, hf0, o1, g1⟩ := hown.set (j := k * 3) (by omega) (.int .i64 (x))
      obtain ⟨⟨u1, hu1⟩, hf1, o2, g2⟩ := o1.set (j := k * 3 + 1) (by omega) (.bool ((x + 1) % 3 == 0))
      obtain ⟨⟨u2, hu2⟩, hf2, o3, g3⟩ := o2.set (j := k * 3 + 2) (by omega) (.int .i64 (x + 1 + 1))
      have G1 := Lib.hid (Btw.of_grown (lo := lo) (hi := hi) g1 (by omega) hgh)
      have G2 := Lib.hid (Btw.of_grown (lo := lo) (hi := hi) g2 (by omega) hgh)
      have G3 := Lib.hid (Btw.of_grown (lo := lo) (hi := hi) g3 (by omega) hgh)
      have O := Lib.hid o3
      have Hh := Lib.hid hhi
      clear hkn hhi hown g1 o1 g2 o2 g3 o3
      go_wp2
      go_roundw
      case rel => exact ⟨k + 1, x + 1 + 1 + 1, _, by omega, by go_num, rfl, by omega, by omega, O.out, (((hb).trans G1.out).trans G2.out).trans G3.out⟩
      case measure => simp [intOf]; omega
    · obtain rfl : k = n := by omega
      go_wp2
      go_ret
      exact ⟨x, hx1, by omega, rfl, hb⟩

set_option maxHeartbeats 1000000 in
theorem markLinkS_any (A : Option Addr) (n c : Nat) (cs0 : List Value) (k0 : Int) (w : World) (base lo hi : Nat) (ho : Ow w base 48 5 A n c cs0) (h0 : 0 ≤ k0) (h1 : k0 ≤ 100000000) (hn : n ≤ 1048576) (hlo : lo ≤ base) (hhi : ∀ g, A = some ⟨g, 0, none⟩ → g < hi) :
    Calls Try.prog 57 #[.slice A n c, .int .i64 k0] w (SomeInt 0 (k0 + 5 * n) (Btw lo hi w)) := by
  go_enter Try.func57, Try.ntmps57
  go_wp2
  go_loopw [1, 5] (MkRel w base 48 5 A n c lo hi k0) (fun _ i _ => n - (intOf i).toNat)
  case atStart => exact ⟨0, k0, cs0, Nat.zero_le _, rfl, rfl, h0, by omega, ho, Btw.refl _ _ _⟩
  case round =>
    clear ho
    obtain ⟨k, x, cs, hk, rfl, rfl, hx1, hx2, hown, hb⟩ := hrel
    by_cases hlt : k < n
    · obtain ⟨g, rfl, hg1, hg2⟩ := hown.head (by omega)
      have hgh := hhi g rfl
      have hkn : k * 5 + 5 ≤ n * 5 := by have := Nat.mul_le_mul_right 5 (show k + 1 ≤ n by omega); omega
      have hx3 : x ≤ 200000000 := by omega
      obtain ⟨⟨u0, hu0⟩, hf0, o1, g1⟩ := hown.set (j := k * 5) (by omega) (.int .i64 (x))
      obtain ⟨⟨u1, hu1⟩, hf1, o2, g2⟩ := o1.set (j := k * 5 + 1) (by omega) (.int .i64 (x + 1))
      obtain ⟨⟨u2, hu2⟩, hf2, o3, g3⟩ := o2.set (j := k * 5 + 2) (by omega) (.int .i64 (x + 1 + 1))
      obtain ⟨⟨u3, hu3⟩, hf3, o4, g4⟩ := o3.set (j := k * 5 + 3) (by omega) (.int .i64 (x + 1 + 1 + 1))
      obtain ⟨⟨u4, hu4⟩, hf4, o5, g5⟩ := o4.set (j := k * 5 + 4) (by omega) (.int .i64 (x + 1 + 1 + 1 + 1))
      have G1 := Lib.hid (Btw.of_grown (lo := lo) (hi := hi) g1 (by omega) hgh)
      have G2 := Lib.hid (Btw.of_grown (lo := lo) (hi := hi) g2 (by omega) hgh)
      have G3 := Lib.hid (Btw.of_grown (lo := lo) (hi := hi) g3 (by omega) hgh)
      have G4 := Lib.hid (Btw.of_grown (lo := lo) (hi := hi) g4 (by omega) hgh)
      have G5 := Lib.hid (Btw.of_grown (lo := lo) (hi := hi) g5 (by omega) hgh)
      have O := Lib.hid o5
      have Hh := Lib.hid hhi
      clear hkn hhi hown g1 o1 g2 o2 g3 o3 g4 o4 g5 o5
      go_wp2
      go_roundw
      case rel => exact ⟨k + 1, x + 1 + 1 + 1 + 1 + 1, _, by omega, by go_num, rfl, by omega, by omega, O.out, (((((hb).trans G1.out).trans G2.out).trans G3.out).trans G4.out).trans G5.out⟩
      case measure => simp [intOf]; omega
    · obtain rfl : k = n := by omega
      go_wp2
      go_ret
      exact ⟨x, hx1, by omega, rfl, hb⟩

theorem Ow.raise {w : World} {base : Nat} {E : TypeId} {s : Nat} {g n c : Nat} {cs : List Value} (h : Ow w base E s (some ⟨g, 0, none⟩) n c cs) : Ow w g E s (some ⟨g, 0, none⟩) n c cs := by
  refine ⟨h.1, ?_⟩
  rcases h.2 with ⟨h2, _⟩ | ⟨g', cap, cur, hv, hg, r⟩
  · cases h2
  · have : g = g' := by injection hv with hv; injection hv with hv; injection hv
    subst this
    exact .inr ⟨g, cap, cur, hv, Nat.le_refl _, r⟩
theorem Ow.apart {w : World} {b1 b2 : Nat} {E1 E2 : TypeId} {s1 s2 : Nat} {A L : Option Addr} {n m c d : Nat} {cs ds : List Value} (h1 : Ow w b1 E1 s1 A n c cs) (h2 : Ow w b2 E2 s2 L m d ds) (hne : E1 ≠ E2) : ∀ g h, A = some ⟨g, 0, none⟩ → L = some ⟨h, 0, none⟩ → g ≠ h := by
  rintro g h rfl rfl rfl
  rcases h1.2 with ⟨e, _⟩ | ⟨g1, c1, cur1, e1, _, hr1, _⟩
  · cases e
  rcases h2.2 with ⟨e, _⟩ | ⟨g2, c2, cur2, e2, _, hr2, _⟩
  · cases e
  have : g = g1 := by injection e1 with e; injection e with e; injection e
  subst this
  have : g = g2 := by injection e2 with e; injection e with e; injection e
  subst this
  rw [hr1] at hr2
  injection hr2 with hr2
  injection hr2 with _ ht
  exact hne ht
theorem Btw.wide {lo hi lo' hi' : Nat} {w w' : World} (h : Btw lo hi w w') (h1 : lo' ≤ lo) (h2 : hi ≤ hi') : Btw lo' hi' w w' := ⟨h.os, h.tape, h.output, h.size, fun k hk hh => h.block k hk (by omega)⟩
set_option maxHeartbeats 1000000 in
theorem markTopology_any (A : Option Addr) (n c : Nat) (L : Option Addr) (m d : Nat) (cs ds : List Value) (w : World) (base hi : Nat) (ho : Ow w base 57 3 A n c cs) (hq : Ow w base 48 5 L m d ds) (hn : n ≤ 1048576) (hm : m ≤ 1048576) (hA : ∀ g, A = some ⟨g, 0, none⟩ → g < hi) (hL : ∀ g, L = some ⟨g, 0, none⟩ → g < hi) (hhi : hi ≤ w.heap.size) :
    Calls Try.prog 27 #[.agg #[.slice A n c, .slice L m d], .int .i64 1] w (SomeInt 0 100000000 (Btw base hi w)) := by
  have hap := ho.apart hq (by decide)
  obtain ⟨g0, g1, cs', b0, ho', hlo', hA', hw1, hw2, hfar⟩ : ∃ g0 g1 cs' b0, Ow w b0 57 3 A n c cs' ∧ g0 ≤ b0 ∧ (∀ g, A = some ⟨g, 0, none⟩ → g < g1) ∧ (base ≤ g0 ∨ g1 = 0) ∧ g1 ≤ hi ∧ (∀ h, L = some ⟨h, 0, none⟩ → h < g0 ∨ g1 ≤ h) := by
    rcases ho.2 with ⟨hv, hn0⟩ | ⟨g, cap, cur, hv, hg, r⟩
    · have hA0 : A = none := by injection hv
      subst hA0
      exact ⟨0, 0, cs, base, ho, Nat.zero_le _, (fun g e => by cases e), Or.inr rfl, Nat.zero_le _, fun h _ => Or.inr (Nat.zero_le _)⟩
    · have hA0 : A = some ⟨g, 0, none⟩ := by injection hv
      subst hA0
      refine ⟨g, g + 1, cs, g, ho.raise, Nat.le_refl _, fun g' e => ?_, Or.inl hg, hA g rfl, fun h e => ?_⟩
      · injection e with e; injection e with e; omega
      · have := hap g h rfl e
        omega
  have Hfar := Lib.hid hfar
  have Hap := Lib.hid hap
  have HL := Lib.hid hL
  have HA := Lib.hid hA
  have HA' := Lib.hid hA'
  clear hfar hap hL hA hA'
  go_enter Try.func27, Try.ntmps27
  go_wp2_with fail
  refine (markASS_any _ _ _ _ _ _ _ g0 g1 (ho'.alloc _) (by omega) (by omega) hn hlo' HA'.out).mono ?_
  rintro e w1 ⟨q1, hq1, hq2, rfl, hb1⟩
  have hsz := hb1.size
  have hcell : w1.cell? ⟨w.heap.size, 1, none⟩ = some (.slice L m d) := by
    rw [World.cell?_of_block (a := ⟨w.heap.size, 1, none⟩) (hb1.block w.heap.size (by simp) (by omega))]
    simp
  have hq' := (hq.alloc (.cells #[.slice A n c, .slice L m d] 31)).btwFar hb1 Hfar.out
  have HB : Hid (Btw base hi w w1) := Lib.hid ((Btw.refl _ _ _).alloc _ |>.trans (by
    rcases hw1 with h | h
    · exact hb1.wide h hw2
    · exact ⟨hb1.os, hb1.tape, hb1.output, hb1.size, fun k hk _ => hb1.block k hk (by omega)⟩))
  clear hb1
  go_wp2_with fail
  refine (markLinkS_any _ _ _ _ _ _ _ base hi hq' (by omega) (by omega) hm (Nat.le_refl _) HL.out).mono ?_
  rintro e w2 ⟨q2, hq3, hq4, rfl, hb2⟩
  go_wp2
  go_ret
  exact ⟨q2, hq3, by omega, rfl, HB.out.trans hb2⟩
end Go.Proofs.Ytkfdenokbhlfeaa
