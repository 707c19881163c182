/- Contracts of the functions that encode and decode integers and byte slices. -/
import Derived.Test.YtenkmppmjfhajaaRows
import Derived.Test.YtenkmppmjfhajaaMem
import Derived.Test.YtenkmppmjfhajaaLawBytes
import Derived.Test.YtenkmppmjfhajaaVarPure
import Derived.Outline
namespace Go.Proofs.Ytenkmppmjfhajaa
open Go.RowKit
set_option linter.unusedVariables false

def AppRel (w : World) (n : Nat) (zs : List Int) (x0 : Int) (q v : Value) (wr : World) : Prop :=
  ∃ (x : Int) (B : Option Addr) (m d : Nat) (acc : List Int), q = .int .i64 x ∧ v = .slice B m d ∧ 0 ≤ x ∧ x ≤ 1000000000000 ∧ m ≤ n + 7 ∧ Hid (zs ++ enc x0 = acc ++ enc x) ∧ Oi wr w.heap.size 5 .u8 B m d acc ∧ Below w.heap.size w wr
theorem lit_none {w w' : World} {base : Nat} {E : TypeId} {k : IntKind} (h : base ≤ w.heap.size) : Oi (w.alloc (.cells #[] E)) base E k (some ⟨w.heap.size, 0, none⟩) 0 0 [] := World.ownsRow_made w #[] 0 h (Nat.zero_le _) rfl
theorem ret_bytes {w w' : World} {A : Option Addr} {n c : Nat} {zs ys : List Int} (h : Oi w' w.heap.size 5 .u8 A n c zs) (hb : Below w.heap.size w w') (e : ys = zs) : RetByteS w ys (.returned (.slice A n c)) w' := by
  have hl := h.len
  subst e
  subst hl
  exact ⟨A, c, rfl, h, hb⟩
theorem copyBytes_any (A : Option Addr) (n c : Nat) (zs : List Int) (w : World) (hr : Ri w .u8 A n zs) (hn : n ≤ 1073741824) :
    Calls Try.prog 93 #[.slice A n c] w (RetByteS w zs) := by
  obtain ⟨i0, hi, hz0, hz1, hz2⟩ := info_parts bytes_info
  go_enter Try.func93, Try.ntmps93
  go_wp2_with (first
    | (at_builtin; refine wpList_pushAll _ rfl _ _ 22 rfl w.heap.size 5 i0 (.int .u8 0) 1 .u8 Try.underlying22 hi hz0 hz1 hz2 rfl (by omega) _ 0 0 _ rfl (lit_none (w' := w) (Nat.le_refl _)) A n c zs rfl (hr.alloc _) (by omega) (by simp) ?_; intro A' c' w1 hown' hb'; simp only [Nat.zero_add, List.nil_append] at hown'))
  go_ret
  exact ret_bytes hown' (((Below.refl _ _).alloc (Nat.le_refl _) _).trans hb') rfl
set_option maxHeartbeats 1000000 in
theorem appendVarint_i (A : Option Addr) (n c : Nat) (zs : List Int) (x0 : Int) (w : World) (hr : Ri w .u8 A n zs) (hn : n ≤ 1073741824) :
    Calls Try.prog 58 #[.slice A n c, .int .i64 x0] w (RetByteS w (appV zs x0)) := by
  obtain ⟨i0, hi, hz0, hz1, hz2⟩ := info_parts bytes_info
  have hl0 := hr.len
  have hl := Lib.hid hl0
  clear hl0
  by_cases ho : 0 ≤ x0 ∧ x0 ≤ 1000000000000
  · obtain ⟨ho1, ho2⟩ := ho
    go_enter Try.func58, Try.ntmps58
    go_wp2_with (first
      | (go_at_call 93; refine (copyBytes_any _ _ _ zs _ hr (by omega)).mono ?_; rintro e w1 ⟨A', c', rfl, hown', hb'⟩)
      | go_in)
    go_loopw [1, 5] (AppRel w n zs x0) (fun q _ _ => (intOf q).toNat)
    case atStart =>
      have hh := hl.out
      subst hh
      exact ⟨x0, A', _, c', zs, rfl, rfl, ho1, ho2, by omega, Lib.hid rfl, hown', hb'⟩
    case round =>
      clear hown' hb'
      obtain ⟨x, B, m, d, acc, rfl, rfl, hx1, hx2, hm, hd, hown, hb⟩ := hrel
      have hs := hb.size
      by_cases hq : x < 128
      · go_wp2_with (first
          | (at_builtin; refine wpList_push _ rfl _ _ 22 rfl w.heap.size 5 i0 (.int .u8 0) 1 .u8 Try.underlying22 hi hz0 hz1 hz2 rfl (by omega) B m d acc rfl (hown.alloc _) wr.heap.size x rfl (by simp) (by omega) (by simp; omega) ?_; intro A1 c1 w2 hown1 hb1))
        go_ret
        exact ret_bytes hown1 ((hb.alloc hs _).trans hb1) (enc_last hd.out ho1 ho2 hq)
      · go_wp2_with (first
          | (at_builtin; refine wpList_push _ rfl _ _ 22 rfl w.heap.size 5 i0 (.int .u8 0) 1 .u8 Try.underlying22 hi hz0 hz1 hz2 rfl (by omega) B m d acc rfl (hown.alloc _) wr.heap.size (x % 128 + 128) rfl (by simp) (by omega) (by simp; omega) ?_; intro A1 c1 w2 hown1 hb1))
        go_roundw
        case rel =>
          have hst := enc_step hd.out (by omega) hx2
          refine ⟨x / 128, A1, m + 1, c1, _, rfl, rfl, by omega, by omega, ?_, Lib.hid hst, hown1, (hb.alloc hs _).trans hb1⟩
          have h1 := congrArg List.length hst
          have h2 := enc_len x0
          have h3 := hown1.len
          have h4 := hl.out
          rw [List.length_append, List.length_append] at h1
          omega
        case measure => simp [intOf]; omega
  · by_cases ho1 : 0 ≤ x0
    · have ho2 : ¬ x0 ≤ 1000000000000 := by omega
      have hdc : decide (x0 ≤ 1000000000000) = false := decide_eq_false ho2
      go_enter Try.func58, Try.ntmps58
      go_wp2_with (first
        | (go_at_call 93; refine (copyBytes_any _ _ _ zs _ hr (by omega)).mono ?_; rintro e w1 ⟨A', c', rfl, hown', hb'⟩)
        | go_in)
      go_ret
      exact ret_bytes hown' (hb') (appV_out ho)
    · go_enter Try.func58, Try.ntmps58
      go_wp2_with (first
        | (go_at_call 93; refine (copyBytes_any _ _ _ zs _ hr (by omega)).mono ?_; rintro e w1 ⟨A', c', rfl, hown', hb'⟩)
        | go_in)
      go_ret
      exact ret_bytes hown' (hb') (appV_out ho)
set_option maxHeartbeats 1000000 in
theorem appendVarint_s (A : Option Addr) (n c : Nat) (zs : List Int) (x0 : Int) (w : World) (hr : Ri w .u8 A n zs) (hn : n ≤ 1073741824) :
    Calls Try.prog 68 #[.slice A n c, .int .i64 x0] w (RetByteS w (appV zs x0)) := by
  obtain ⟨i0, hi, hz0, hz1, hz2⟩ := info_parts bytes_info
  have hl0 := hr.len
  have hl := Lib.hid hl0
  clear hl0
  by_cases ho : 0 ≤ x0 ∧ x0 ≤ 1000000000000
  · obtain ⟨ho1, ho2⟩ := ho
    go_enter Try.func68, Try.ntmps68
    go_wp2_with (first
      | (at_builtin; refine wpList_pushAll _ rfl _ _ 22 rfl w.heap.size 5 i0 (.int .u8 0) 1 .u8 Try.underlying22 hi hz0 hz1 hz2 rfl (by omega) _ 0 0 _ rfl (lit_none (w' := w) (Nat.le_refl _)) A n c zs rfl (hr.alloc _) (by omega) (by simp) ?_; intro A' c' w1 hown' hb'; simp only [Nat.zero_add, List.nil_append] at hown')
      | go_in)
    go_loopw [1, 5] (AppRel w n zs x0) (fun q _ _ => (intOf q).toNat)
    case atStart =>
      have hh := hl.out
      subst hh
      exact ⟨x0, A', _, c', zs, rfl, rfl, ho1, ho2, by omega, Lib.hid rfl, hown', ((Below.refl _ _).alloc (Nat.le_refl _) _).trans hb'⟩
    case round =>
      clear hown' hb'
      obtain ⟨x, B, m, d, acc, rfl, rfl, hx1, hx2, hm, hd, hown, hb⟩ := hrel
      have hs := hb.size
      have hand := and127 x hx1 hx2
      have hor := or128 x hx1 hx2
      by_cases hq : x < 128
      · go_wp2_with (first
          | (at_builtin; refine wpList_push _ rfl _ _ 22 rfl w.heap.size 5 i0 (.int .u8 0) 1 .u8 Try.underlying22 hi hz0 hz1 hz2 rfl (by omega) B m d acc rfl (hown.alloc _) wr.heap.size x rfl (by simp) (by omega) (by simp; omega) ?_; intro A1 c1 w2 hown1 hb1))
        go_ret
        exact ret_bytes hown1 ((hb.alloc hs _).trans hb1) (enc_last hd.out ho1 ho2 hq)
      · go_wp2_with (first
          | (at_builtin; refine wpList_push _ rfl _ _ 22 rfl w.heap.size 5 i0 (.int .u8 0) 1 .u8 Try.underlying22 hi hz0 hz1 hz2 rfl (by omega) B m d acc rfl (hown.alloc _) wr.heap.size (x % 128 + 128) rfl (by simp) (by omega) (by simp; omega) ?_; intro A1 c1 w2 hown1 hb1))
        go_roundw
        case rel =>
          have hst := enc_step hd.out (by omega) hx2
          refine ⟨x / 128, A1, m + 1, c1, _, by first | rfl | go_num, rfl, by omega, by omega, ?_, Lib.hid hst, hown1, (hb.alloc hs _).trans hb1⟩
          have h1 := congrArg List.length hst
          have h2 := enc_len x0
          have h3 := hown1.len
          have h4 := hl.out
          rw [List.length_append, List.length_append] at h1
          omega
        case measure => simp [intOf]; omega
  · by_cases ho1 : 0 ≤ x0
    · have ho2 : ¬ x0 ≤ 1000000000000 := by omega
      have hdc : decide (x0 ≤ 1000000000000) = false := decide_eq_false ho2
      go_enter Try.func68, Try.ntmps68
      go_wp2_with (first
        | (at_builtin; refine wpList_pushAll _ rfl _ _ 22 rfl w.heap.size 5 i0 (.int .u8 0) 1 .u8 Try.underlying22 hi hz0 hz1 hz2 rfl (by omega) _ 0 0 _ rfl (lit_none (w' := w) (Nat.le_refl _)) A n c zs rfl (hr.alloc _) (by omega) (by simp) ?_; intro A' c' w1 hown' hb'; simp only [Nat.zero_add, List.nil_append] at hown')
        | go_in)
      go_ret
      exact ret_bytes hown' (((Below.refl _ _).alloc (Nat.le_refl _) _).trans hb') (appV_out ho)
    · go_enter Try.func68, Try.ntmps68
      go_wp2_with (first
        | (at_builtin; refine wpList_pushAll _ rfl _ _ 22 rfl w.heap.size 5 i0 (.int .u8 0) 1 .u8 Try.underlying22 hi hz0 hz1 hz2 rfl (by omega) _ 0 0 _ rfl (lit_none (w' := w) (Nat.le_refl _)) A n c zs rfl (hr.alloc _) (by omega) (by simp) ?_; intro A' c' w1 hown' hb'; simp only [Nat.zero_add, List.nil_append] at hown')
        | go_in)
      go_ret
      exact ret_bytes hown' (((Below.refl _ _).alloc (Nat.le_refl _) _).trans hb') (appV_out ho)
end Go.Proofs.Ytenkmppmjfhajaa
