/- Contracts of EncodeInts and DecodeInts. -/
import Derived.Test.YtenkmppmjfhajaaRows
import Derived.Test.YtenkmppmjfhajaaMem
import Derived.Test.YtenkmppmjfhajaaBytes2
namespace Go.Proofs.Ytenkmppmjfhajaa
open Go.RowKit
set_option linter.unusedVariables false

def EncRel (w : World) (n : Nat) (zs : List Int) (v i : Value) (wr : World) : Prop :=
  ∃ (k m : Nat) (B : Option Addr) (d : Nat), k ≤ n ∧ i = .int .i64 k ∧ v = .slice B m d ∧ m ≤ 7 * k ∧ Oi wr w.heap.size 5 .u8 B m d (appL [] (zs.take k)) ∧ Below w.heap.size w wr
def DecRel (w : World) (n len : Nat) (r : Option (List Int × Int)) (bs : List Int) (at_ v kk : Value) (wr : World) : Prop :=
  ∃ (k m : Nat) (a : Int) (B : Option Addr) (d : Nat) (acc : List Int), at_ = .int .i64 a ∧ v = .slice B m d ∧ kk = .int .i64 k ∧ k ≤ n ∧ 0 ≤ a ∧ a ≤ (len : Int) ∧ m ≤ k ∧ Hid (r = (decL (n - k) bs a).map fun p => (acc ++ p.1, p.2)) ∧ Oi wr w.heap.size 3 .i64 B m d acc ∧ Below w.heap.size w wr
set_option maxHeartbeats 400000 in
theorem appendInts_i (A : Option Addr) (n c : Nat) (zs : List Int) (w : World) (hr : Ri w .i64 A n zs) (hn : n ≤ 1048576) :
    Calls Try.prog 97 #[.slice none 0 0, .slice A n c] w (RetByteS w (appL [] zs)) := by
  have hl := Lib.hid hr.len
  go_enter Try.func97, Try.ntmps97
  go_wp2
  go_loopw [0, 9] (EncRel w n zs) (fun _ i _ => n - (intOf i).toNat)
  case atStart => exact ⟨0, 0, none, 0, Nat.zero_le _, rfl, rfl, by omega, Oi.nil, Below.refl _ _⟩
  case round =>
    obtain ⟨k, m, B, d, hk, rfl, rfl, hm, hown, hb⟩ := hrel
    have hs := hb.size
    by_cases hlt : k < n
    · have hr' := hr.below hb (Nat.le_refl _)
      obtain ⟨b1, o1, x, rfl, hx0, hc1⟩ := hr'.get hlt
      have hx := Lib.hid hx0
      clear hx0
      have hal := appV_len (appL [] (zs.take k)) x
      have hml := hown.len
      generalize hk2 : (appV (appL [] (zs.take k)) x).length = m2 at hal
      have HK := Lib.hid hk2
      have hm2 : m2 ≤ m + 7 := by omega
      clear hk2 hal hml
      go_wp2_with (first | (go_at_call 58; refine (appendVarint_i _ _ _ _ _ _ hown.rd (by omega)).mono ?_; rintro e w1 ⟨A1, c1, rfl, ho1, hb1⟩; rw [HK.out] at ho1; rw [HK.out]))
      go_roundw
      case rel =>
        refine ⟨k + 1, m2, A1, c1, by omega, by go_num, rfl, by omega, ?_, hb.trans (hb1.mono hs)⟩
        rw [← appL_succ hx.out]
        exact ho1.mono hs
      case measure => simp [intOf]; omega
    · obtain rfl : k = n := by omega
      go_wp2
      go_ret
      rw [List.take_of_length_le (by rw [hl.out]; omega)] at hown
      exact ret_bytes hown hb rfl
theorem encodeInts_i (A : Option Addr) (n c : Nat) (zs : List Int) (w : World) (hr : Ri w .i64 A n zs) (hn : n ≤ 1048576) :
    Calls Try.prog 75 #[.slice A n c] w (RetByteS w (appL [] zs)) := by
  go_enter Try.func75, Try.ntmps75
  go_wp2_with fail
  refine (appendInts_i _ _ _ zs _ hr hn).mono ?_
  rintro e w1 ⟨A1, c1, rfl, ho1, hb1⟩
  generalize hk : (appL [] zs).length = k at ho1
  have HK := Lib.hid hk
  clear hk
  go_wp2
  go_ret
  exact ret_bytes ho1 hb1 rfl
set_option maxHeartbeats 400000 in
theorem encodeInts_s (A : Option Addr) (n c : Nat) (zs : List Int) (w : World) (hr : Ri w .i64 A n zs) (hn : n ≤ 1048576) :
    Calls Try.prog 76 #[.slice A n c] w (RetByteS w (appL [] zs)) := by
  have hl := Lib.hid hr.len
  go_enter Try.func76, Try.ntmps76
  go_wp2
  go_loopw [3, 4] (EncRel w n zs) (fun _ i _ => n - (intOf i).toNat)
  case atStart => exact ⟨0, 0, some ⟨w.heap.size, 0, none⟩, 0, Nat.zero_le _, rfl, rfl, by omega, lit_none (w' := w) (Nat.le_refl _), (Below.refl _ _).alloc (Nat.le_refl _) _⟩
  case round =>
    obtain ⟨k, m, B, d, hk, rfl, rfl, hm, hown, hb⟩ := hrel
    have hs := hb.size
    by_cases hlt : k < n
    · have hr' := hr.below hb (Nat.le_refl _)
      obtain ⟨b1, o1, x, rfl, hx0, hc1⟩ := hr'.get hlt
      have hx := Lib.hid hx0
      clear hx0
      have hal := appV_len (appL [] (zs.take k)) x
      have hml := hown.len
      generalize hk2 : (appV (appL [] (zs.take k)) x).length = m2 at hal
      have HK := Lib.hid hk2
      have hm2 : m2 ≤ m + 7 := by omega
      clear hk2 hal hml
      go_wp2_with (first | (go_at_call 68; refine (appendVarint_s _ _ _ _ _ _ hown.rd (by omega)).mono ?_; rintro e w1 ⟨A1, c1, rfl, ho1, hb1⟩; rw [HK.out] at ho1; rw [HK.out]))
      go_roundw
      case rel =>
        refine ⟨k + 1, m2, A1, c1, by omega, by go_num, rfl, by omega, ?_, hb.trans (hb1.mono hs)⟩
        rw [← appL_succ hx.out]
        exact ho1.mono hs
      case measure => simp [intOf]; omega
    · obtain rfl : k = n := by omega
      go_wp2
      go_ret
      rw [List.take_of_length_le (by rw [hl.out]; omega)] at hown
      exact ret_bytes hown hb rfl
set_option maxHeartbeats 1000000 in
theorem decodeInts_i (A : Option Addr) (m c : Nat) (zs : List Int) (a n : Int) (w : World) (hr : Ri w .u8 A m zs) (hby : Bys zs) (hm : m ≤ 1073741824) :
    Calls Try.prog 72 #[.slice A m c, .int .i64 a, .int .i64 n] w (Ret3 3 .i64 w (decI zs a n)) := by
  obtain ⟨i0, hi, hz0, hz1, hz2⟩ := info_parts ints_info
  have HB := Lib.hid hby
  clear hby
  have hl := Lib.hid hr.len
  by_cases hn1 : 0 ≤ n
  case neg =>
    go_enter Try.func72, Try.ntmps72
    go_wp2
    go_ret3
    exact ret3_no (by rw [decI, if_neg (by rw [hl.out]; omega)]) Oi.nil (Below.refl _ _)
  by_cases hn2 : n ≤ 100
  case neg =>
    have hd1 : decide (n ≤ 100) = false := decide_eq_false hn2
    go_enter Try.func72, Try.ntmps72
    go_wp2
    go_ret3
    exact ret3_no (by rw [decI, if_neg (by rw [hl.out]; omega)]) Oi.nil (Below.refl _ _)
  by_cases ha1 : 0 ≤ a
  case neg =>
    have hd1 : decide (n ≤ 100) = true := decide_eq_true hn2
    go_enter Try.func72, Try.ntmps72
    go_wp2
    go_ret3
    exact ret3_no (by rw [decI, if_neg (by rw [hl.out]; omega)]) Oi.nil (Below.refl _ _)
  by_cases ha2 : a ≤ (m : Int)
  case neg =>
    have hd1 : decide (n ≤ 100) = true := decide_eq_true hn2
    have hd2 : decide (a ≤ (m : Int)) = false := decide_eq_false ha2
    go_enter Try.func72, Try.ntmps72
    go_wp2
    go_ret3
    exact ret3_no (by rw [decI, if_neg (by rw [hl.out]; omega)]) Oi.nil (Below.refl _ _)
  obtain ⟨n0, rfl⟩ := Int.eq_ofNat_of_zero_le hn1
  have HI := Lib.hid (show decI zs a n0 = decL n0 zs a by rw [decI, if_pos (by rw [hl.out]; omega), Int.toNat_natCast])
  have hd1 : decide ((n0 : Int) ≤ 100) = true := decide_eq_true hn2
  have hd2 : decide (a ≤ (m : Int)) = true := decide_eq_true ha2
  have hd3 : decide ((0 : Int) ≤ a) = true := decide_eq_true ha1
  have hd4 : decide ((0 : Int) ≤ (n0 : Int)) = true := decide_eq_true hn1
  go_enter Try.func72, Try.ntmps72
  go_wp2
  go_loopw [1, 9, 10] (DecRel w n0 m (decI zs a n0) zs) (fun _ _ kk _ => n0 - (intOf kk).toNat)
  case atStart => exact ⟨0, 0, a, none, 0, [], rfl, rfl, rfl, Nat.zero_le _, ha1, ha2, Nat.le_refl _, Lib.hid (by rw [HI.out]; simp), Oi.nil, Below.refl _ _⟩
  case round =>
    obtain ⟨k, q, a', B, d, acc, rfl, rfl, rfl, hk, ha1', ha2', hq, hd, hown, hb⟩ := hrel
    have hs := hb.size
    by_cases hlt : k < n0
    · obtain ⟨j, hj0⟩ : ∃ j, n0 - k = j + 1 := ⟨n0 - k - 1, by omega⟩
      have hj : n0 - (k + 1) = j := by omega
      rw [hj0] at hd
      have HJ := Lib.hid hj
      clear hj hj0
      have hr' := hr.below hb (Nat.le_refl _)
      generalize hrv : rdV zs a' = rv
      cases rv with
      | none =>
        have HV := Lib.hid hrv
        clear hrv
        have hN := Lib.hid (dec_none hd.out HV.out)
        go_wp2_with (first | (go_at_call 60; refine (readVarint_i _ _ _ zs _ _ hr' HB.out hm (by omega)).mono ?_; rintro e w1 ⟨he, rfl⟩; unfold RdIs at he; rw [HV.out] at he; subst he; rw [show rB (none : Option (Int × Nat)) = false from rfl]))
        go_ret3
        exact ret3_no hN.out Oi.nil hb
      | some p =>
        obtain ⟨v, ck⟩ := p
        have hsome := rdV_some hrv
        have hle : a' + ck ≤ (m : Int) := by rw [← hl.out]; exact hsome.2.2.2.2.1
        have HV := Lib.hid hrv
        clear hrv hsome
        have hN := Lib.hid (dec_step hd.out HV.out)
        go_wp2_with (first
          | (go_at_call 60; refine (readVarint_i _ _ _ zs _ _ hr' HB.out hm (by omega)).mono ?_; rintro e w1 ⟨he, rfl⟩; unfold RdIs at he; rw [HV.out] at he; subst he; rw [show rB (some (v, ck)) = true from rfl, show rN (some (v, ck)) = v from rfl, show rA a' (some (v, ck)) = a' + (ck : Int) from rfl])
          | (at_builtin; refine wpList_push _ rfl _ _ 35 rfl w.heap.size 3 i0 (.int .i64 0) 8 .i64 Try.underlying35 hi hz0 hz1 hz2 rfl (by omega) B q d acc rfl (hown.alloc _) wr.heap.size v rfl (by simp) (by omega) (by simp; omega) ?_; intro A1 c1 w2 ho1 hb1))
        go_roundw
        case rel =>
          have hN2 : decI zs a n0 = (decL (n0 - (k + 1)) zs (a' + ck)).map fun p => ((acc ++ [v]) ++ p.1, p.2) := by
            rw [HJ.out]
            exact hN.out
          have hR : DecRel w n0 m (decI zs a n0) zs (.int .i64 (a' + ck)) (.slice A1 (q + 1) c1) (.int .i64 (k + 1)) w2 := ⟨k + 1, q + 1, a' + ck, A1, c1, acc ++ [v], rfl, rfl, by go_num, by omega, by omega, hle, by omega, Lib.hid hN2, ho1, (hb.alloc hs _).trans hb1⟩
          first | exact hR | ((repeat apply Exists.intro); exact ⟨hR, rfl⟩)
        case measure => simp [intOf]; omega
    · obtain rfl : k = n0 := by omega
      have hN := Lib.hid (dec_end hd.out (by omega))
      go_wp2
      go_ret3
      exact ret3_yes hN.out hown hb rfl
set_option maxHeartbeats 1000000 in
theorem decodeInts_s (A : Option Addr) (m c : Nat) (zs : List Int) (a n : Int) (w : World) (hr : Ri w .u8 A m zs) (hby : Bys zs) (hm : m ≤ 1073741824) :
    Calls Try.prog 73 #[.slice A m c, .int .i64 a, .int .i64 n] w (Ret3 3 .i64 w (decI zs a n)) := by
  obtain ⟨i0, hi, hz0, hz1, hz2⟩ := info_parts ints_info
  have HB := Lib.hid hby
  clear hby
  have hl := Lib.hid hr.len
  by_cases hn1 : 0 ≤ n
  case neg =>
    go_enter Try.func73, Try.ntmps73
    go_wp2
    go_ret3
    exact ret3_no (by rw [decI, if_neg (by rw [hl.out]; omega)]) (lit_none (w' := w) (Nat.le_refl _)) ((Below.refl _ _).alloc (Nat.le_refl _) _)
  by_cases hn2 : n ≤ 100
  case neg =>
    have hd1 : decide (n ≤ 100) = false := decide_eq_false hn2
    go_enter Try.func73, Try.ntmps73
    go_wp2
    go_ret3
    exact ret3_no (by rw [decI, if_neg (by rw [hl.out]; omega)]) (lit_none (w' := w) (Nat.le_refl _)) ((Below.refl _ _).alloc (Nat.le_refl _) _)
  by_cases ha1 : 0 ≤ a
  case neg =>
    have hd1 : decide (n ≤ 100) = true := decide_eq_true hn2
    go_enter Try.func73, Try.ntmps73
    go_wp2
    go_ret3
    exact ret3_no (by rw [decI, if_neg (by rw [hl.out]; omega)]) (lit_none (w' := w) (Nat.le_refl _)) ((Below.refl _ _).alloc (Nat.le_refl _) _)
  by_cases ha2 : a ≤ (m : Int)
  case neg =>
    have hd1 : decide (n ≤ 100) = true := decide_eq_true hn2
    have hd2 : decide (a ≤ (m : Int)) = false := decide_eq_false ha2
    go_enter Try.func73, Try.ntmps73
    go_wp2
    go_ret3
    exact ret3_no (by rw [decI, if_neg (by rw [hl.out]; omega)]) (lit_none (w' := w) (Nat.le_refl _)) ((Below.refl _ _).alloc (Nat.le_refl _) _)
  obtain ⟨n0, rfl⟩ := Int.eq_ofNat_of_zero_le hn1
  have HI := Lib.hid (show decI zs a n0 = decL n0 zs a by rw [decI, if_pos (by rw [hl.out]; omega), Int.toNat_natCast])
  have hd1 : decide ((n0 : Int) ≤ 100) = true := decide_eq_true hn2
  have hd2 : decide (a ≤ (m : Int)) = true := decide_eq_true ha2
  have hd3 : decide ((0 : Int) ≤ a) = true := decide_eq_true ha1
  have hd4 : decide ((0 : Int) ≤ (n0 : Int)) = true := decide_eq_true hn1
  go_enter Try.func73, Try.ntmps73
  go_wp2
  go_loopw [1, 9, 10] (DecRel w n0 m (decI zs a n0) zs) (fun _ _ kk _ => n0 - (intOf kk).toNat)
  case atStart => exact ⟨0, 0, a, some ⟨w.heap.size, 0, none⟩, 0, [], rfl, rfl, rfl, Nat.zero_le _, ha1, ha2, Nat.le_refl _, Lib.hid (by rw [HI.out]; simp), lit_none (w' := w) (Nat.le_refl _), (Below.refl _ _).alloc (Nat.le_refl _) _⟩
  case round =>
    obtain ⟨k, q, a', B, d, acc, rfl, rfl, rfl, hk, ha1', ha2', hq, hd, hown, hb⟩ := hrel
    have hs := hb.size
    by_cases hlt : k < n0
    · obtain ⟨j, hj0⟩ : ∃ j, n0 - k = j + 1 := ⟨n0 - k - 1, by omega⟩
      have hj : n0 - (k + 1) = j := by omega
      rw [hj0] at hd
      have HJ := Lib.hid hj
      clear hj hj0
      have hr' := hr.below hb (Nat.le_refl _)
      generalize hrv : rdV zs a' = rv
      cases rv with
      | none =>
        have HV := Lib.hid hrv
        clear hrv
        have hN := Lib.hid (dec_none hd.out HV.out)
        go_wp2_with (first | (go_at_call 61; refine (readVarint_s _ _ _ zs _ _ hr' HB.out hm (by omega)).mono ?_; rintro e w1 ⟨he, rfl⟩; unfold RdIs at he; rw [HV.out] at he; subst he; rw [show rB (none : Option (Int × Nat)) = false from rfl]))
        go_ret3
        exact ret3_no hN.out (lit_none (w' := w) hs) (hb.alloc hs _)
      | some p =>
        obtain ⟨v, ck⟩ := p
        have hsome := rdV_some hrv
        have hle : a' + ck ≤ (m : Int) := by rw [← hl.out]; exact hsome.2.2.2.2.1
        have HV := Lib.hid hrv
        clear hrv hsome
        have hN := Lib.hid (dec_step hd.out HV.out)
        go_wp2_with (first
          | (go_at_call 61; refine (readVarint_s _ _ _ zs _ _ hr' HB.out hm (by omega)).mono ?_; rintro e w1 ⟨he, rfl⟩; unfold RdIs at he; rw [HV.out] at he; subst he; rw [show rB (some (v, ck)) = true from rfl, show rN (some (v, ck)) = v from rfl, show rA a' (some (v, ck)) = a' + (ck : Int) from rfl])
          | (at_builtin; refine wpList_push _ rfl _ _ 35 rfl w.heap.size 3 i0 (.int .i64 0) 8 .i64 Try.underlying35 hi hz0 hz1 hz2 rfl (by omega) B q d acc rfl (hown.alloc _) wr.heap.size v rfl (by simp) (by omega) (by simp; omega) ?_; intro A1 c1 w2 ho1 hb1))
        go_roundw
        case rel =>
          have hN2 : decI zs a n0 = (decL (n0 - (k + 1)) zs (a' + ck)).map fun p => ((acc ++ [v]) ++ p.1, p.2) := by
            rw [HJ.out]
            exact hN.out
          have hR : DecRel w n0 m (decI zs a n0) zs (.int .i64 (a' + ck)) (.slice A1 (q + 1) c1) (.int .i64 (k + 1)) w2 := ⟨k + 1, q + 1, a' + ck, A1, c1, acc ++ [v], rfl, rfl, by go_num, by omega, by omega, hle, by omega, Lib.hid hN2, ho1, (hb.alloc hs _).trans hb1⟩
          first | exact hR | ((repeat apply Exists.intro); exact ⟨hR, rfl⟩)
        case measure => simp [intOf]; omega
    · obtain rfl : k = n0 := by omega
      have hN := Lib.hid (dec_end hd.out (by omega))
      go_wp2
      go_ret3
      exact ret3_yes hN.out hown hb rfl
end Go.Proofs.Ytenkmppmjfhajaa
