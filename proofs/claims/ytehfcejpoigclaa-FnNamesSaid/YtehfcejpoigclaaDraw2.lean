/- Contracts of l1New, l1Below, l1Once, l1Int and of the numbers drawn by them. -/
import Derived.Test.YtehfcejpoigclaaRows
import Derived.Test.YtehfcejpoigclaaMem
import Derived.Test.YtehfcejpoigclaaSetPure
import Derived.Test.YtehfcejpoigclaaCurMem
import Derived.Test.YtehfcejpoigclaaDraw1
import Derived.Deep.QuietTactic
import Derived.BigQuiet
import Derived.WalkSmall
import Derived.Deep.RegionHeld3
import Derived.Outline
namespace Go.Proofs.Ytehfcejpoigclaa
open Go.RowKit
set_option linter.unusedVariables false

theorem heap_new (w : World) (o : Obj) : (w.alloc o).heap[w.heap.size]? = some o := by
  show (w.heap.push o)[w.heap.size]? = some o
  exact Array.getElem?_push_size
theorem Ri.litA {w : World} {zs : List Int} {E : TypeId} : Ri (w.alloc (.cells (zs.map (Value.int .i64)).toArray E)) .i64 (some ⟨w.heap.size, 0, none⟩) zs.length zs :=
  Ri.lit (cs := (zs.map (Value.int .i64)).toArray) (E := E) (fz := (0, 0)) (heap_new w _) (by simp)
def DrMem (g : Nat) (w : World) (zs : List Int) (e : Ending) (w' : World) : Prop := ∃ x : Int, x ∈ zs ∧ e = .returned (.int .i64 x) ∧ Dr 70 g w w'
/-- Two numbers, and nothing that was there has turned. -/
def Two (w : World) (P : Int → Int → Prop) (e : Ending) (w' : World) : Prop := ∃ x y : Int, P x y ∧ e = .returned (.tuple #[.int .i64 x, .int .i64 y]) ∧ Below w.heap.size w w'
def I64 (x : Int) : Prop := -9223372036854775808 ≤ x ∧ x ≤ 9223372036854775807
/-- The code that is drawn from. -/
def Code8 (w : World) (A : Option Addr) (n : Nat) (bs : List Int) : Prop := Ri w .u8 A n bs ∧ (∀ x ∈ bs, 0 ≤ x ∧ x ≤ 255) ∧ n ≤ 1048576
theorem Code8.below {w w' : World} {A : Option Addr} {n : Nat} {bs : List Int} (h : Code8 w A n bs) (hb : Below w.heap.size w w') : Code8 w' A n bs := ⟨h.1.below hb (Nat.le_refl _), h.2⟩

set_option maxHeartbeats 1000000 in
theorem new_s (A : Option Addr) (n c : Nat) (bs : List Int) (w : World) (h8 : Code8 w A n bs) : Calls Try.prog 44 #[.slice A n c] w (NewCu w) := by
  obtain ⟨hr, hby0, hn⟩ := h8
  have hby := Lib.hid hby0
  clear hby0
  go_enter Try.func44, Try.ntmps44
  go_wp2
  go_loop [3, 4] (fun hv i => ∃ (k : Nat) (h : Int), k ≤ n ∧ i = .int .i64 k ∧ hv = .int .i64 h ∧ 0 ≤ h ∧ h ≤ 2147483647) (fun _ i => n - (intOf i).toNat)
  case atStart => exact ⟨0, _, Nat.zero_le _, rfl, rfl, by omega, by omega⟩
  case round =>
    obtain ⟨k, h, hk, rfl, rfl, hh0, hh1⟩ := hrel
    have fin : ∀ h : Int, 0 ≤ h → h ≤ 2147483647 → NewCu w (.returned (.pointer (some ⟨w.heap.size, 0, none⟩))) (w.alloc (.cells #[.slice A n c, .int .i64 0, .int .i64 h] 70)) := fun h hh0 hh1 =>
      ⟨w.heap.size, Nat.le_refl _, rfl, ⟨A, n, c, 0, h, bs, heap_new w _, by omega, by omega, hn, by omega, by omega, hr.alloc _, hby.out, hr.inB⟩, (Below.refl _ _).alloc (Nat.le_refl _) _⟩
    have FIN := Lib.hid fin
    clear fin
    by_cases hlt : k < n
    · by_cases h4 : (k : Int) < 4000
      · obtain ⟨b, off, x, rfl, hx0, hc⟩ := hr.get hlt
        have hxr := hby.out x (List.mem_of_getElem? hx0)
        have hxl := hxr.1
        have hxh := hxr.2
        clear hx0 hxr
        go_wp2
        go_round
        case rel => exact ⟨k + 1, _, by omega, by go_num, rfl, (and30 _).1, Int.le_trans (and30 _).2 (by omega)⟩
        case measure => simp [intOf]; omega
      · go_wp2
        go_ret
        exact FIN.out h hh0 hh1
    · go_wp2
      go_ret
      exact FIN.out h hh0 hh1
set_option maxHeartbeats 1000000 in
theorem below_s (g : Nat) (n : Int) (w : World) (hq : Cu w 70 g) (hn : 0 < n) : Calls Try.prog 48 #[.pointer (some ⟨g, 0, none⟩), .int .i64 n] w (DrInt g w 0 (n - 1)) := by
  by_cases h1 : n ≤ 256
  · go_enter Try.func48, Try.ntmps48
    go_wp2_with fail
    refine (byte_s _ _ hq).mono ?_
    rintro e w1 ⟨x, hx0, hx1, rfl, hd1⟩
    go_wp2
    go_ret
    exact ⟨_, Int.emod_nonneg _ (by omega), by have := Int.emod_lt_of_pos x hn; omega, rfl, hd1⟩
  · go_enter Try.func48, Try.ntmps48
    go_wp2_with fail
    refine (byte_s _ _ hq).mono ?_
    rintro e w1 ⟨x, hx0, hx1, rfl, hd1⟩
    go_wp2_with fail
    refine (byte_s _ _ hd1.2).mono ?_
    rintro e w2 ⟨y, hy0, hy1, rfl, hd2⟩
    go_wp2_with fail
    refine (byte_s _ _ hd2.2).mono ?_
    rintro e w3 ⟨z, hz0, hz1, rfl, hd3⟩
    go_wp2
    go_ret
    exact ⟨_, Int.emod_nonneg _ (by omega), by have := Int.emod_lt_of_pos (x * 65536 + y * 256 + z) hn; omega, rfl, (hd1.trans hd2).trans hd3⟩
theorem belowLe_s (g : Nat) (n : Int) (w : World) (hq : Cu w 70 g) (hn : n ≤ 0) : Calls Try.prog 48 #[.pointer (some ⟨g, 0, none⟩), .int .i64 n] w (DrInt g w 0 0) := by
  go_enter Try.func48, Try.ntmps48
  go_wp2
  go_ret
  exact ⟨0, by omega, by omega, rfl, Dr.refl hq⟩
theorem once_s (g : Nat) (n : Int) (w : World) (hq : Cu w 70 g) (hn : 0 < n) : Calls Try.prog 60 #[.pointer (some ⟨g, 0, none⟩), .int .i64 n] w (DrBool g w) := by
  go_enter Try.func60, Try.ntmps60
  go_wp2_with fail
  refine (below_s _ _ _ hq hn).mono ?_
  rintro e w1 ⟨x, hx0, hx1, rfl, hd1⟩
  go_wp2
  go_ret
  exact ⟨_, rfl, hd1⟩
set_option maxHeartbeats 1000000 in
theorem int_s (g : Nat) (A : Option Addr) (n c : Nat) (zs : List Int) (w : World) (hq : Cu w 70 g) (hr : Ri w .i64 A n zs) (h0 : 0 < n) (h1 : n ≤ 1000) (hne : ∀ b off, A = some ⟨b, off, none⟩ → b ≠ g) : Calls Try.prog 68 #[.pointer (some ⟨g, 0, none⟩), .slice A n c] w (DrMem g w zs) := by
  have Hne := Lib.hid hne
  clear hne
  go_enter Try.func68, Try.ntmps68
  go_wp2_with fail
  refine (below_s _ _ _ hq (by omega)).mono ?_
  rintro e w1 ⟨x, hx0, hx1, rfl, hd1⟩
  obtain ⟨k, rfl⟩ := Int.eq_ofNat_of_zero_le hx0
  have hk : k < n := by omega
  have hr1 := hr.dr hd1 Hne.out
  obtain ⟨b, off, y, rfl, hy0, hc⟩ := hr1.get hk
  have hy := Lib.hid (List.mem_of_getElem? hy0)
  clear hy0 hr hr1
  have hx2 : (k : Int) < (n : Int) := by omega
  go_wp2
  go_ret
  exact ⟨y, hy.out, rfl, hd1⟩
end Go.Proofs.Ytehfcejpoigclaa
