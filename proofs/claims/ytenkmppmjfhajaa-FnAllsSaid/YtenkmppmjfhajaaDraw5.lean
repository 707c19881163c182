/- Bytes and integers drawn, and the pairs drawn of them. -/
import Derived.Test.YtenkmppmjfhajaaRows
import Derived.Test.YtenkmppmjfhajaaMem
import Derived.Test.YtenkmppmjfhajaaSetPure
import Derived.Test.YtenkmppmjfhajaaCurMem
import Derived.Test.YtenkmppmjfhajaaDraw1
import Derived.Test.YtenkmppmjfhajaaDraw2
import Derived.Test.YtenkmppmjfhajaaLaw6
import Derived.Test.YtenkmppmjfhajaaDraw3
import Derived.Test.YtenkmppmjfhajaaLawInts
import Derived.Test.YtenkmppmjfhajaaLawBytes
import Derived.Test.YtenkmppmjfhajaaVarPure
import Derived.Test.YtenkmppmjfhajaaVarPure2
import Derived.Test.YtenkmppmjfhajaaVar
import Derived.Test.YtenkmppmjfhajaaRead
import Derived.Test.YtenkmppmjfhajaaReadS
import Derived.Test.YtenkmppmjfhajaaBytes2
import Derived.Test.YtenkmppmjfhajaaEnc
import Derived.Test.YtenkmppmjfhajaaSame
import Derived.Deep.QuietTactic
import Derived.BigQuiet
import Derived.WalkSmall
import Derived.Deep.RegionHeld3
import Derived.Outline
namespace Go.Proofs.Ytenkmppmjfhajaa
open Go.RowKit
set_option linter.unusedVariables false

/-- Bytes in a row that is newer than w0. -/
def RowB (w0 w' : World) (A : Option Addr) (n c : Nat) (zs : List Int) : Prop := Ri w' .u8 A n zs ∧ n ≤ c ∧ Bys zs ∧ (∀ b off, A = some ⟨b, off, none⟩ → w0.heap.size ≤ b)
def DrBy (g : Nat) (w : World) (n : Nat) (e : Ending) (w' : World) : Prop := ∃ A c zs, e = .returned (.slice A n c) ∧ RowB w w' A n c zs ∧ Dr 74 g w w'
def DrByLe (g : Nat) (w : World) (N : Nat) (e : Ending) (w' : World) : Prop := ∃ A n c zs, e = .returned (.slice A n c) ∧ n ≤ N ∧ RowB w w' A n c zs ∧ Dr 74 g w w'
def BytRel (g : Nat) (w : World) (k : Nat) (v i : Value) (wr : World) : Prop :=
  ∃ (j : Nat) (A : Option Addr) (c : Nat) (zs : List Int), i = .int .i64 j ∧ v = .slice A j c ∧ j ≤ k ∧ Bys zs ∧ Oi wr w.heap.size 5 .u8 A j c zs ∧ Dr 74 g w wr
theorem RowB.of_oi {w w' : World} {A : Option Addr} {n c : Nat} {zs : List Int} {base : Nat} {E : TypeId} (h : Oi w' base E .u8 A n c zs) (hB : w.heap.size ≤ base) (hb : Bys zs) : RowB w w' A n c zs := ⟨h.rd, h.le, hb, fun b off e => Nat.le_trans hB (h.block e).1⟩
theorem RowB.dr {w0 w w' : World} {A : Option Addr} {n c g : Nat} {zs : List Int} {T : TypeId} (h : RowB w0 w A n c zs) (hd : Dr T g w w') (hg : g < w0.heap.size) : RowB w0 w' A n c zs :=
  ⟨h.1.dr hd (fun b off e => by have := h.2.2.2 b off e; omega), h.2⟩
theorem RowB.below {w0 w w' : World} {A : Option Addr} {n c : Nat} {zs : List Int} (h : RowB w0 w A n c zs) (hb : Below w.heap.size w w') : RowB w0 w' A n c zs := ⟨h.1.below hb (Nat.le_refl _), h.2⟩
theorem RowB.mono {w0 w1 w : World} {A : Option Addr} {n c : Nat} {zs : List Int} (h : RowB w0 w A n c zs) (hs : w1.heap.size ≤ w0.heap.size) : RowB w1 w A n c zs := ⟨h.1, h.2.1, h.2.2.1, fun b off e => Nat.le_trans hs (h.2.2.2 b off e)⟩
theorem RowB.alloc {w0 w : World} {A : Option Addr} {n c : Nat} {zs : List Int} (h : RowB w0 w A n c zs) (o : Obj) : RowB w0 (w.alloc o) A n c zs := ⟨h.1.alloc o, h.2⟩
theorem Bys.nil : Bys [] := fun x hx => by cases hx
theorem Bys.snoc {zs : List Int} {x : Int} (h : Bys zs) (h0 : 0 ≤ x) (h1 : x ≤ 255) : Bys (zs ++ [x]) := h.append (fun y hy => by simp at hy; omega)
set_option maxHeartbeats 1000000 in
theorem bytes_s (g k : Nat) (w : World) (hq : Cu w 74 g) (hk : k ≤ 1000) : Calls Try.prog 92 #[.pointer (some ⟨g, 0, none⟩), .int .i64 (k : Int)] w (DrBy g w k) := by
  obtain ⟨i0, hi, hz0, hz1, hz2⟩ := info_parts bytes_info
  have hgl := hq.lt
  go_enter Try.func92, Try.ntmps92
  go_wp2
  go_loopw [5, 6] (BytRel g w k) (fun _ i _ => k - (intOf i).toNat)
  case atStart => exact ⟨0, _, 0, [], rfl, rfl, by omega, Bys.nil, lit_noneO (Nat.le_refl _), (Dr.refl hq).alloc _⟩
  case round =>
    obtain ⟨j, A, c, zs, rfl, rfl, hj, hby, ho, hdr⟩ := hrel
    by_cases hlt : j < k
    · have hk1 : (j : Int) < (k : Int) := by omega
      go_wp2_with fail
      refine (byte_s _ _ hdr.2).mono ?_
      rintro e w3 ⟨y, hy0, hy1, rfl, hd2⟩
      have ho2 := ho.dr hd2 hgl
      have hdr2 := hdr.trans hd2
      have hsz := hdr2.size
      have hby2 := Lib.hid (hby.snoc hy0 hy1)
      clear ho hdr hd2 hby
      go_wp2_with (first
        | (at_builtin; refine wpList_push _ rfl _ _ 22 rfl w.heap.size 5 i0 (.int .u8 0) 1 .u8 Try.underlying22 hi hz0 hz1 hz2 rfl (by omega) A j c _ rfl (ho2.alloc _) w3.heap.size y rfl (by simp) (by omega) (by simp; omega) ?_; intro A' c' w4 hown' hb'))
      go_roundw
      case rel => exact ⟨j + 1, A', c', _, by go_num, rfl, by omega, hby2.out, hown', (hdr2.alloc _).push hgl hb'⟩
      case measure => simp [intOf]; omega
    · obtain rfl : j = k := by omega
      go_wp2
      go_ret
      exact ⟨A, c, zs, rfl, RowB.of_oi ho (Nat.le_refl _) hby, hdr⟩
set_option maxHeartbeats 2000000 in
theorem bent_s (g : Nat) (B : Option Addr) (m d : Nat) (zs : List Int) (w : World) (hq : Cu w 74 g) (hr : Ri w .u8 B m zs) (hby : Bys zs) (hm : m ≤ 1000) : Calls Try.prog 94 #[.pointer (some ⟨g, 0, none⟩), .slice B m d] w (DrByLe g w (m + 1)) := by
  obtain ⟨i0, hi, hz0, hz1, hz2⟩ := info_parts bytes_info
  have hgl := hq.lt
  go_enter Try.func94, Try.ntmps94
  go_wp2_with (first
    | (at_builtin; refine wpList_pushAll _ rfl _ _ 22 rfl w.heap.size 5 i0 (.int .u8 0) 1 .u8 Try.underlying22 hi hz0 hz1 hz2 rfl (by omega) _ 0 0 _ rfl (lit_noneO (Nat.le_refl _)) B m d zs rfl (hr.alloc _) (by omega) (by simp) ?_; intro A c w1 ho hb'; simp only [Nat.zero_add, List.nil_append] at ho))
  have hdr : Dr 74 g w w1 := ((Dr.refl hq).alloc _).push hgl hb'
  clear hb'
  refine (below_s _ _ _ hdr.2 (by omega)).mono ?_
  rintro e w2 ⟨k, hk0, hk1, rfl, hd2⟩
  have ho2 := ho.dr hd2 hgl
  have hdr2 := hdr.trans hd2
  clear ho hdr hd2
  by_cases e0 : k = 0
  · subst e0
    by_cases hm0 : m = 0
    · subst hm0
      go_wp2
      go_ret
      exact ⟨A, 0, c, zs, rfl, by omega, RowB.of_oi ho2 (Nat.le_refl _) hby, hdr2⟩
    · have hm1 : (0 : Int) < (m : Int) := by omega
      go_wp2_with fail
      refine (below_s _ _ _ hdr2.2 (by omega)).mono ?_
      rintro e w3 ⟨p, hp0, hp1, rfl, hd3⟩
      go_wp2_with fail
      refine (below_s _ _ _ hd3.2 (by omega)).mono ?_
      rintro e w4 ⟨y, hy0, hy1, rfl, hd4⟩
      have ho4 := (ho2.dr hd3 hgl).dr hd4 hgl
      have hdr4 := (hdr2.trans hd3).trans hd4
      have hs4 := hdr4.size
      clear ho2 hdr2 hd3 hd4
      obtain ⟨q, rfl⟩ := Int.eq_ofNat_of_zero_le hp0
      have hpm : (q : Int) < (m : Int) := by omega
      have hl4 := ho4.len
      obtain ⟨r, rfl, hbr, hrl, ⟨u, hu⟩, hf, hown', hg'⟩ := ho4.store (i := q) (by omega) y
      have Ho := Lib.hid hown'
      have Hg := Lib.hid hg'
      have HB : Hid (Bys (zs.set q y)) := Lib.hid fun x hx => by
        rcases List.mem_or_eq_of_mem_set hx with h | h
        · exact hby x h
        · omega
      clear hown' hg' ho4 hby
      go_wp2
      go_ret
      refine ⟨some ⟨r, 0, none⟩, m, c, _, rfl, by omega, RowB.of_oi Ho.out (Nat.le_refl _) HB.out, hdr4.push hgl ?_⟩
      exact (Below.refl w.heap.size w4).grown Hg.out hs4 (fun k e => by injection e with e; omega)
  have q0 : (k == 0) = false := by simpa using e0
  by_cases e1 : k = 1
  · subst e1
    go_wp2_with fail
    refine (below_s _ _ _ hdr2.2 (by omega)).mono ?_
    rintro e w3 ⟨p, hp0, hp1, rfl, hd3⟩
    have ho3 := ho2.dr hd3 hgl
    have hdr3 := hdr2.trans hd3
    have hle := ho3.le
    clear ho2 hdr2 hd3
    obtain ⟨q, rfl⟩ := Int.eq_ofNat_of_zero_le hp0
    have hqc : (q : Int) ≤ (c : Int) := by omega
    have Hr := Lib.hid (ho3.rd.takes (show q ≤ m by omega))
    have HN : Hid (∀ b off, A = some ⟨b, off, none⟩ → w.heap.size ≤ b) := Lib.hid fun b off e => (ho3.block e).1
    have HB : Hid (Bys (zs.take q)) := Lib.hid fun x hx => hby x (List.mem_of_mem_take hx)
    clear ho3 hby
    go_wp2
    go_ret
    exact ⟨A, q, c, _, rfl, by omega, ⟨Hr.out, by omega, HB.out, HN.out⟩, hdr3⟩
  have q1 : (k == 1) = false := by simpa using e1
  by_cases e2 : k = 2
  · subst e2
    go_wp2_with fail
    refine (int_s _ _ _ _ [0, 1, 128, 255] _ (hdr2.2.alloc _) (Ri.litA (zs := [0, 1, 128, 255])) (by decide) (by decide) (fun b off e => by injection e with e; injection e with e; have := hdr2.2.lt; omega)).mono ?_
    rintro e w3 ⟨y, hm0, rfl, hd3⟩
    have hy : 0 ≤ y ∧ y ≤ 255 := by simp at hm0; omega
    obtain ⟨hy0, hy1⟩ := hy
    have ho3 := (ho2.alloc _).dr hd3 hgl
    have hdr3 := (hdr2.alloc _).trans hd3
    have hsz := hdr3.size
    have hby2 := Lib.hid (hby.snoc hy0 hy1)
    clear ho2 hdr2 hd3 hm0 hby
    go_wp2_with (first
      | (at_builtin; refine wpList_push _ rfl _ _ 22 rfl w.heap.size 5 i0 (.int .u8 0) 1 .u8 Try.underlying22 hi hz0 hz1 hz2 rfl (by omega) A m c _ rfl (ho3.alloc _) w3.heap.size y rfl (by simp) (by omega) (by simp; omega) ?_; intro A' c' w4 hown' hb'))
    go_ret
    exact ⟨A', m + 1, c', _, rfl, by omega, RowB.of_oi hown' (Nat.le_refl _) hby2.out, (hdr3.alloc _).push hgl hb'⟩
  have q2 : (k == 2) = false := by simpa using e2
  go_wp2
  go_ret
  exact ⟨A, m, c, zs, rfl, by omega, RowB.of_oi ho2 (Nat.le_refl _) hby, hdr2⟩
def Nums (l : List Int) : Prop := ∀ x ∈ l, 0 ≤ x ∧ x ≤ 1000000000000
def IntsRel (g : Nat) (w : World) (N : Nat) (v i : Value) (wr : World) : Prop :=
  ∃ (k n : Nat) (A : Option Addr) (c : Nat) (zs : List Int), i = .int .i64 k ∧ v = .slice A n c ∧ k + n ≤ N ∧ Nums zs ∧ Oi wr w.heap.size 3 .i64 A n c zs ∧ Dr 74 g w wr
def DrInts (g : Nat) (w : World) (N : Nat) (e : Ending) (w' : World) : Prop := ∃ A n c zs, e = .returned (.slice A n c) ∧ n ≤ N ∧ Nums zs ∧ Oi w' w.heap.size 3 .i64 A n c zs ∧ Dr 74 g w w'
set_option maxHeartbeats 1000000 in
theorem ints2_s (g : Nat) (w : World) (hq : Cu w 74 g) : Calls Try.prog 95 #[.pointer (some ⟨g, 0, none⟩), .int .i64 5] w (DrInts g w 5) := by
  obtain ⟨i0, hi, hz0, hz1, hz2⟩ := info_parts ints_info
  have hgl := hq.lt
  go_enter Try.func95, Try.ntmps95
  go_wp2_with fail
  refine (below_s _ _ _ (hq.alloc _) (by omega)).mono ?_
  rintro e w2 ⟨x, hx0, hx1, rfl, hd1⟩
  obtain ⟨k0, rfl⟩ := Int.eq_ofNat_of_zero_le hx0
  have ho : Oi w2 w.heap.size 3 .i64 (some ⟨w.heap.size, 0, none⟩) 0 0 [] := (lit_noneO (Nat.le_refl _)).dr hd1 hgl
  have hdr : Dr 74 g w w2 := ((Dr.refl hq).alloc _).trans hd1
  clear hd1
  go_wp2
  go_loopw [5, 6] (IntsRel g w 5) (fun _ i _ => (intOf i).toNat)
  case atStart => exact ⟨k0, 0, _, 0, [], rfl, rfl, by omega, fun x hx => (by cases hx), ho, hdr⟩
  case round =>
    clear ho hdr
    obtain ⟨k, m, B, d, zs, rfl, rfl, hkm, hnu, ho, hdr⟩ := hrel
    by_cases hk : 0 < k
    · have hk1 : (0 : Int) < (k : Int) := by omega
      go_wp2_with fail
      refine (num_s _ _ hdr.2).mono ?_
      rintro e w3 ⟨y, hy0, hy1, rfl, hd2⟩
      have ho2 := ho.dr hd2 hgl
      have hdr2 := hdr.trans hd2
      have hsz := hdr2.size
      have hnu2 : Hid (Nums (zs ++ [y])) := Lib.hid fun x hx => by
        rcases List.mem_append.1 hx with h | h
        · exact hnu x h
        · simp at h; omega
      clear ho hdr hd2 hnu
      go_wp2_with (first
        | (at_builtin; refine wpList_push _ rfl _ _ 35 rfl w.heap.size 3 i0 (.int .i64 0) 8 .i64 Try.underlying35 hi hz0 hz1 hz2 rfl (by omega) B m d _ rfl (ho2.alloc _) w3.heap.size y rfl (by simp) (by omega) (by simp; omega) ?_; intro A' c' w4 hown' hb'))
      go_roundw
      case rel => exact ⟨k - 1, m + 1, A', c', _, by go_num, rfl, by omega, hnu2.out, hown', (hdr2.alloc _).push hgl hb'⟩
      case measure => simp [intOf]; omega
    · obtain rfl : k = 0 := by omega
      go_wp2
      go_ret
      exact ⟨B, m, d, zs, rfl, by omega, hnu, ho, hdr⟩
end Go.Proofs.Ytenkmppmjfhajaa
