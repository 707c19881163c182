/- Contracts of ReadBytes, AppendBytes, EncodeInts, DecodeInts. -/
import Derived.Test.YtenkmppmjfhajaaRows
import Derived.Test.YtenkmppmjfhajaaMem
import Derived.Test.YtenkmppmjfhajaaLawBytes
import Derived.Test.YtenkmppmjfhajaaLawInts
import Derived.Test.YtenkmppmjfhajaaVarPure
import Derived.Test.YtenkmppmjfhajaaVar
import Derived.Test.YtenkmppmjfhajaaRead
import Derived.Test.YtenkmppmjfhajaaReadS
import Derived.Outline
namespace Go.Proofs.Ytenkmppmjfhajaa
open Go.RowKit
set_option linter.unusedVariables false

/-- A call that returns a slice in a new row, a position and a bool. -/
def Ret3 (E : TypeId) (K : IntKind) (w : World) (r : Option (List Int × Int)) (e : Ending) (w' : World) : Prop :=
  ∃ A c, e = .returned (.tuple #[.slice A (lL r).length c, .int .i64 (lQ r), .bool (lB r)]) ∧ Oi w' w.heap.size E K A (lL r).length c (lL r) ∧ Below w.heap.size w w'
theorem ret3_no {E : TypeId} {K : IntKind} {w w' : World} {r : Option (List Int × Int)} {A : Option Addr} {c : Nat} (h : r = none) (ho : Oi w' w.heap.size E K A 0 c []) (hb : Below w.heap.size w w') :
    Ret3 E K w r (.returned (.tuple #[.slice A 0 c, .int .i64 0, .bool false])) w' := by subst h; exact ⟨A, c, rfl, ho, hb⟩
theorem ret3_yes {E : TypeId} {K : IntKind} {w w' : World} {r : Option (List Int × Int)} {A : Option Addr} {n c : Nat} {zs : List Int} {q p : Int} (h : r = some (zs, q)) (ho : Oi w' w.heap.size E K A n c zs) (hb : Below w.heap.size w w') (hq : p = q) :
    Ret3 E K w r (.returned (.tuple #[.slice A n c, .int .i64 p, .bool true])) w' := by
  have hl := ho.len
  subst h
  subst hq
  subst hl
  exact ⟨A, c, rfl, ho, hb⟩
set_option maxHeartbeats 400000 in
theorem appendBytes_i (A : Option Addr) (n c : Nat) (zs : List Int) (B : Option Addr) (m d : Nat) (ys : List Int) (w : World) (hr : Ri w .u8 A n zs) (hq : Ri w .u8 B m ys) (hn : n ≤ 1073741824) (hm : m ≤ 1073741824) :
    Calls Try.prog 63 #[.slice A n c, .slice B m d] w (RetByteS w (appB zs ys)) := by
  obtain ⟨i0, hi, hz0, hz1, hz2⟩ := info_parts bytes_info
  have hl := Lib.hid hq.len
  have hl2 := Lib.hid hr.len
  have hal := appV_len zs (m : Int)
  generalize hk : (appV zs (m : Int)).length = k at hal
  have HK := Lib.hid hk
  clear hk
  have hkk : k ≤ 1073741831 := by have := hl2.out; omega
  clear hal
  go_enter Try.func63, Try.ntmps63
  go_wp2_with fail
  refine (appendVarint_i _ _ _ zs _ _ hr hn).mono ?_
  rintro e w1 ⟨A1, c1, rfl, ho1, hb1⟩
  rw [HK.out] at ho1 ⊢
  have hq1 := hq.below hb1 (Nat.le_refl _)
  have hs1 := hb1.size
  go_wp2_with (first
    | (at_builtin; refine wpList_pushAll _ rfl _ _ 22 rfl w.heap.size 5 i0 (.int .u8 0) 1 .u8 Try.underlying22 hi hz0 hz1 hz2 rfl (by omega) A1 k c1 _ rfl ho1 B m d ys rfl hq1 (by omega) (by omega) ?_; intro A2 c2 w2 ho2 hb2))
  go_ret
  refine ret_bytes ho2 (hb1.trans hb2) ?_
  unfold appB
  rw [hl.out]
set_option maxHeartbeats 400000 in
theorem appendBytes_s (A : Option Addr) (n c : Nat) (zs : List Int) (B : Option Addr) (m d : Nat) (ys : List Int) (w : World) (hr : Ri w .u8 A n zs) (hq : Ri w .u8 B m ys) (hn : n ≤ 1073741824) (hm : m ≤ 1073741824) :
    Calls Try.prog 69 #[.slice A n c, .slice B m d] w (RetByteS w (appB zs ys)) := by
  obtain ⟨i0, hi, hz0, hz1, hz2⟩ := info_parts bytes_info
  have hl := Lib.hid hq.len
  have hl2 := Lib.hid hr.len
  have hal := appV_len zs (m : Int)
  generalize hk : (appV zs (m : Int)).length = k at hal
  have HK := Lib.hid hk
  clear hk
  have hkk : k ≤ 1073741831 := by have := hl2.out; omega
  clear hal
  go_enter Try.func69, Try.ntmps69
  go_wp2_with fail
  refine (appendVarint_s _ _ _ zs _ _ hr hn).mono ?_
  rintro e w1 ⟨A1, c1, rfl, ho1, hb1⟩
  rw [HK.out] at ho1 ⊢
  have hq1 := hq.below hb1 (Nat.le_refl _)
  have hs1 := hb1.size
  go_wp2_with (first
    | (at_builtin; refine wpList_pushAll _ rfl _ _ 22 rfl w.heap.size 5 i0 (.int .u8 0) 1 .u8 Try.underlying22 hi hz0 hz1 hz2 rfl (by omega) A1 k c1 _ rfl ho1 B m d ys rfl hq1 (by omega) (by omega) ?_; intro A2 c2 w2 ho2 hb2))
  go_ret
  refine ret_bytes ho2 (hb1.trans hb2) ?_
  unfold appB
  rw [hl.out]
set_option maxHeartbeats 1000000 in
theorem readBytes_i (A : Option Addr) (m c : Nat) (zs : List Int) (a most : Int) (w : World) (hr : Ri w .u8 A m zs) (hby : Bys zs) (hm : m ≤ 1073741824) (hmc : m ≤ c) (ha : a ≤ 9223372036854775807) :
    Calls Try.prog 65 #[.slice A m c, .int .i64 a, .int .i64 most] w (Ret3 5 .u8 w (rdBs zs a most)) := by
  obtain ⟨i0, hi, hz0, hz1, hz2⟩ := info_parts bytes_info
  have HB := Lib.hid hby
  clear hby
  have hl := Lib.hid hr.len
  have HR := Lib.hid (show rdBs zs a most = (match rdV zs a with | none => none | some (v, c) => if most < v ∨ (zs.length : Int) - (a + c) < v then none else some ((zs.drop (a + c).toNat).take v.toNat, a + c + v)) from rfl)
  go_enter Try.func65, Try.ntmps65
  go_wp2_with fail
  refine (readVarint_i _ _ _ zs _ _ hr HB.out hm ha).mono ?_
  rintro e w1 ⟨he, rfl⟩
  unfold RdIs at he
  subst he
  generalize hrv : rdV zs a = rv at HR
  cases rv with
  | none =>
    have hb : rB (none : Option (Int × Nat)) = false := rfl
    rw [hb]
    go_wp2
    go_ret3
    exact ret3_no (by exact HR.out) Oi.nil (Below.refl _ _)
  | some p =>
    obtain ⟨v, k⟩ := p
    have hsome := rdV_some hrv
    have hv1 : 0 ≤ v := hsome.2.1
    have hv2 : v ≤ 1000000000000 := hsome.2.2.1
    have ha0 : 0 ≤ a := hsome.1
    have hk0 : 0 < k := hsome.2.2.2.1
    have hle : a + k ≤ (m : Int) := by rw [← hl.out]; exact hsome.2.2.2.2.1
    clear hsome
    have HV := Lib.hid hrv
    clear hrv
    obtain ⟨a0, rfl⟩ := Int.eq_ofNat_of_zero_le ha0
    obtain ⟨vn, rfl⟩ := Int.eq_ofNat_of_zero_le hv1
    have hrA : rA (a0 : Int) (some ((vn : Int), k)) = ((a0 + k : Nat) : Int) := by show (a0 : Int) + (k : Int) = _; omega
    rw [hrA, show rN (some ((vn : Int), k)) = (vn : Int) from rfl, show rB (some ((vn : Int), k)) = true from rfl]
    clear hrA
    generalize hpp : a0 + k = p
    have HP := Lib.hid hpp
    have hp1 : p ≤ m := by omega
    have hp2 : 0 < p := by omega
    clear hpp hle
    have HZ : Hid (rdBs zs a0 most = if most < (vn : Int) ∨ (m : Int) - (p : Int) < (vn : Int) then none else some ((zs.drop p).take vn, (p : Int) + vn)) := Lib.hid (by
      rw [HR.out, hl.out]
      have e1 : (a0 : Int) + (k : Int) = (p : Int) := by have := HP.out; omega
      simp only [e1, Int.toNat_natCast])
    clear HR
    by_cases hmost : most < (vn : Int)
    · go_wp2
      go_ret3
      exact ret3_no (by rw [HZ.out, if_pos (by omega)]) Oi.nil (Below.refl _ _)
    by_cases hlen : (m : Int) - (p : Int) < (vn : Int)
    · go_wp2
      go_ret3
      exact ret3_no (by rw [HZ.out, if_pos (by omega)]) Oi.nil (Below.refl _ _)
    obtain ⟨b, off, x, rfl, _, _⟩ := hr.get (show 0 < m by omega)
    have hpv : p + vn ≤ m := by omega
    have hfin := Lib.hid (show rdBs zs a0 most = some ((zs.drop p).take vn, (p : Int) + vn) by rw [HZ.out, if_neg (by omega)])
    clear HZ
    by_cases hcp : c = p
    · obtain rfl : vn = 0 := by omega
      have hsrc : Ri w .u8 (some ⟨b, off, none⟩) 0 ((zs.drop p).take 0) := by rw [List.take_zero]; exact Ri.empty
      generalize (zs.drop p).take 0 = ys at hsrc hfin
      have hyl := Lib.hid hsrc.len
      go_wp2_with (first | (go_at_call 93; refine (copyBytes_any _ _ _ ys _ hsrc (by omega)).mono ?_; rintro e w1 ⟨A1, c1, rfl, ho1, hb1⟩; rw [hyl.out] at ho1; rw [hyl.out]))
      go_ret3
      exact ret3_yes hfin.out ho1 hb1 (by omega)
    · have hsrc := hr.sub (p := p) (v := vn) hpv
      generalize (zs.drop p).take vn = ys at hsrc hfin
      have hyl := Lib.hid hsrc.len
      
      go_wp2_with (first | (go_at_call 93; refine (copyBytes_any _ _ _ ys _ hsrc (by omega)).mono ?_; rintro e w1 ⟨A1, c1, rfl, ho1, hb1⟩; rw [hyl.out] at ho1; rw [hyl.out]))
      go_ret3
      exact ret3_yes hfin.out ho1 hb1 (by omega)
set_option maxHeartbeats 1000000 in
theorem readBytes_s (A : Option Addr) (m c : Nat) (zs : List Int) (a most : Int) (w : World) (hr : Ri w .u8 A m zs) (hby : Bys zs) (hm : m ≤ 1073741824) (hmc : m ≤ c) (ha : a ≤ 9223372036854775807) :
    Calls Try.prog 66 #[.slice A m c, .int .i64 a, .int .i64 most] w (Ret3 5 .u8 w (rdBs zs a most)) := by
  obtain ⟨i0, hi, hz0, hz1, hz2⟩ := info_parts bytes_info
  have HB := Lib.hid hby
  clear hby
  have hl := Lib.hid hr.len
  have HR := Lib.hid (show rdBs zs a most = (match rdV zs a with | none => none | some (v, c) => if most < v ∨ (zs.length : Int) - (a + c) < v then none else some ((zs.drop (a + c).toNat).take v.toNat, a + c + v)) from rfl)
  go_enter Try.func66, Try.ntmps66
  go_wp2_with fail
  refine (readVarint_s _ _ _ zs _ _ hr HB.out hm ha).mono ?_
  rintro e w1 ⟨he, rfl⟩
  unfold RdIs at he
  subst he
  generalize hrv : rdV zs a = rv at HR
  cases rv with
  | none =>
    have hb : rB (none : Option (Int × Nat)) = false := rfl
    rw [hb]
    go_wp2
    go_ret3
    exact ret3_no (by exact HR.out) (lit_none (w' := w) (Nat.le_refl _)) ((Below.refl _ _).alloc (Nat.le_refl _) _)
  | some p =>
    obtain ⟨v, k⟩ := p
    have hsome := rdV_some hrv
    have hv1 : 0 ≤ v := hsome.2.1
    have hv2 : v ≤ 1000000000000 := hsome.2.2.1
    have ha0 : 0 ≤ a := hsome.1
    have hk0 : 0 < k := hsome.2.2.2.1
    have hle : a + k ≤ (m : Int) := by rw [← hl.out]; exact hsome.2.2.2.2.1
    clear hsome
    have HV := Lib.hid hrv
    clear hrv
    obtain ⟨a0, rfl⟩ := Int.eq_ofNat_of_zero_le ha0
    obtain ⟨vn, rfl⟩ := Int.eq_ofNat_of_zero_le hv1
    have hrA : rA (a0 : Int) (some ((vn : Int), k)) = ((a0 + k : Nat) : Int) := by show (a0 : Int) + (k : Int) = _; omega
    rw [hrA, show rN (some ((vn : Int), k)) = (vn : Int) from rfl, show rB (some ((vn : Int), k)) = true from rfl]
    clear hrA
    generalize hpp : a0 + k = p
    have HP := Lib.hid hpp
    have hp1 : p ≤ m := by omega
    have hp2 : 0 < p := by omega
    clear hpp hle
    have HZ : Hid (rdBs zs a0 most = if most < (vn : Int) ∨ (m : Int) - (p : Int) < (vn : Int) then none else some ((zs.drop p).take vn, (p : Int) + vn)) := Lib.hid (by
      rw [HR.out, hl.out]
      have e1 : (a0 : Int) + (k : Int) = (p : Int) := by have := HP.out; omega
      simp only [e1, Int.toNat_natCast])
    clear HR
    by_cases hmost : most < (vn : Int)
    · go_wp2
      go_ret3
      exact ret3_no (by rw [HZ.out, if_pos (by omega)]) (lit_none (w' := w) (Nat.le_refl _)) ((Below.refl _ _).alloc (Nat.le_refl _) _)
    by_cases hlen : (m : Int) - (p : Int) < (vn : Int)
    · go_wp2
      go_ret3
      exact ret3_no (by rw [HZ.out, if_pos (by omega)]) (lit_none (w' := w) (Nat.le_refl _)) ((Below.refl _ _).alloc (Nat.le_refl _) _)
    obtain ⟨b, off, x, rfl, _, _⟩ := hr.get (show 0 < m by omega)
    have hpv : p + vn ≤ m := by omega
    have hfin := Lib.hid (show rdBs zs a0 most = some ((zs.drop p).take vn, (p : Int) + vn) by rw [HZ.out, if_neg (by omega)])
    clear HZ
    by_cases hcp : c = p
    · obtain rfl : vn = 0 := by omega
      have hsrc : Ri w .u8 (some ⟨b, off, none⟩) 0 ((zs.drop p).take 0) := by rw [List.take_zero]; exact Ri.empty
      generalize (zs.drop p).take 0 = ys at hsrc hfin
      have hyl := Lib.hid hsrc.len
      go_wp2_with (first | (at_builtin; refine wpList_pushAll _ rfl _ _ 22 rfl w.heap.size 5 i0 (.int .u8 0) 1 .u8 Try.underlying22 hi hz0 hz1 hz2 rfl (by omega) _ 0 0 _ rfl (lit_none (w' := w) (Nat.le_refl _)) (some ⟨b, off, none⟩) 0 _ ys rfl (hsrc.alloc _) (by omega) (by simp) ?_; intro A1 c1 w1 ho1 hb1; simp only [Nat.zero_add, List.nil_append] at ho1))
      go_ret3
      exact ret3_yes hfin.out ho1 (((Below.refl _ _).alloc (Nat.le_refl _) _).trans hb1) (by omega)
    · have hsrc := hr.sub (p := p) (v := vn) hpv
      generalize (zs.drop p).take vn = ys at hsrc hfin
      have hyl := Lib.hid hsrc.len
      have hsrc2 : Ri w .u8 (some ⟨b, off + p, none⟩) (p + vn - p) ys := by rw [Nat.add_sub_cancel_left]; exact hsrc
      go_wp2_with (first | (at_builtin; refine wpList_pushAll _ rfl _ _ 22 rfl w.heap.size 5 i0 (.int .u8 0) 1 .u8 Try.underlying22 hi hz0 hz1 hz2 rfl (by omega) _ 0 0 _ rfl (lit_none (w' := w) (Nat.le_refl _)) (some ⟨b, off + p, none⟩) (p + vn - p) _ ys rfl (hsrc2.alloc _) (by omega) (by simp) ?_; intro A1 c1 w1 ho1 hb1; simp only [Nat.zero_add, List.nil_append, Nat.add_sub_cancel_left] at ho1))
      go_ret3
      exact ret3_yes hfin.out ho1 (((Below.refl _ _).alloc (Nat.le_refl _) _).trans hb1) (by omega)
end Go.Proofs.Ytenkmppmjfhajaa
