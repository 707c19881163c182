/- Contracts of FormatInt: the digits that each call writes. -/
import Derived.Test.YtehfcejpoigclaaRows
import Derived.Test.YtehfcejpoigclaaMem
import Derived.Test.YtehfcejpoigclaaStrPure
import Derived.Outline
namespace Go.Proofs.Ytehfcejpoigclaa
open Go.RowKit
set_option linter.unusedVariables false

attribute [local go_sem] strOfNums_size
theorem byte_info : (Try.prog.info? 5).map (fun i => (i.zero, i.size, i.bytes)) = some (some (.int .u8 0), 1, 1) := by kernel_rfl
theorem lit_row {w w' : World} {base : Nat} {E : TypeId} {k : IntKind} {x : Int} (h : base ≤ w.heap.size) : Oi (w.alloc (.cells #[.int k x] E)) base E k (some ⟨w.heap.size, 0, none⟩) 1 1 [x] := World.ownsRow_lit w #[.int k x] 1 h (by simp [maxLen]) rfl
/-- string(b) of a slice of bytes that reads as zs. -/
theorem conv_str {w : World} {A : Option Addr} {n : Nat} {zs : List Int} (h : Ri w .u8 A n zs) (c : Nat) : (convert 22 9 (.slice A n c)).run Try.prog w = .ok (.string (strOfNums zs)) w := by
  have hl := h.len
  rcases Nat.eq_zero_or_pos n with h0 | h0
  · subst h0
    have hz : zs = [] := List.eq_nil_of_length_eq_zero hl
    subst hz
    rcases A with _ | ad
    · exact run_convert_bytes_nil w _ _ Try.underlying22 Try.underlying5 _ _ _ Try.underlying9
    · rw [run_convert_bytes_string w _ _ _ _ _ _ Try.underlying22 Try.underlying5 Try.underlying9]
      rw [run_bytesToString w ad 0 c [] (by simp [loadCells, loadCellsFrom])]
      rfl
  · obtain ⟨b, off, e, _, _⟩ := Rd.get (j := 0) (u := (zs.map (Value.int .u8))[0]'(by simp; omega)) h (by rw [List.getElem?_eq_getElem])
    subst e
    refine run_convert_bytes_arg w _ _ Try.underlying22 Try.underlying5 b off n c zs hl (fun i hi => ?_) _ Try.underlying9
    obtain ⟨b', off', x, e, hx, hc⟩ := h.get hi
    injection e with e
    injection e with e1 e2
    subst e1
    subst e2
    rw [hc, List.getD_eq_getElem?_getD, hx]
    rfl

set_option maxHeartbeats 1000000 in
theorem fmt_i_pos (n0 : Int) (w : World) (h0 : 0 ≤ n0) (hlo : -9223372036854775808 ≤ n0) (hhi : n0 ≤ 9223372036854775807) :
    Calls Try.prog 63 #[.int .i64 n0] w fun e w' => e = .returned (.string (strOfNums (fmtI n0))) ∧ Below w.heap.size w w' := by
  obtain ⟨i0, hi, hz0, hz1, hz2⟩ := info_parts byte_info
  have hlen := digs_len n0.natAbs
  have HL := Lib.hid hlen
  clear hlen
  have hneg : decide (n0 < 0) = false := by simp; omega
  go_enter Try.func63, Try.ntmps63
  go_wp2
  go_loopw [0, 3] (fun q v wr => ∃ (x : Int) (A : Option Addr) (n c : Nat) (acc : List Int), q = .int .i64 x ∧ v = .slice A n c ∧ 0 ≤ x ∧ x ≤ 9223372036854775807 ∧ n ≤ 20 ∧ Hid (digs n0.natAbs = digs x.natAbs ++ acc) ∧ Oi wr w.heap.size 5 .u8 A n c acc ∧ Below w.heap.size w wr) (fun q _ _ => (intOf q).natAbs)
  case atStart => exact ⟨n0, none, 0, 0, [], rfl, rfl, by omega, by omega, by omega, Lib.hid (by simp), Oi.nil, Below.refl _ _⟩
  case round =>
    obtain ⟨x, A, n, c, acc, rfl, rfl, hx1, hx2, hn, hd, hown, hb⟩ := hrel
    have hs := hb.size
    have hdv := Lib.hid (show x / 10 = x.tdiv 10 from (Int.tdiv_eq_ediv_of_nonneg hx1).symm)
    by_cases hq : x.natAbs < 10
    · have hq0 : (x / 10 == 0) = true := by rw [beq_iff_eq]; omega
      all_goals
        go_wp2_with (first
        | (at_builtin; refine wpList_pushAll _ rfl _ _ 22 rfl w.heap.size 5 i0 (.int .u8 0) 1 .u8 Try.underlying22 hi hz0 hz1 hz2 rfl (by omega) _ 1 1 _ rfl (lit_row (w' := w) hs) A n c acc rfl (hown.rd.alloc _) (by omega) (by simp; omega) ?_; intro A' c' w1 hown' hb'; have hcv := conv_str hown'.rd c'))
        go_ret
        refine ⟨?_, ((hb.alloc hs _).trans hb')⟩
        have h1 := hd.out
        rw [digs_small hq] at h1
        refine congrArg (fun s => Ending.returned (.string s)) ?_
        unfold fmtI
        rw [if_neg (by omega), h1]
        
        
        refine congrArg strOfNums ?_
        simp only [List.cons_append, List.nil_append]
        congr 1
        
        omega
    · have hq0 : (x / 10 == 0) = false := by rw [beq_eq_false_iff_ne]; omega
      all_goals
        go_wp2_with (first
        | (at_builtin; refine wpList_pushAll _ rfl _ _ 22 rfl w.heap.size 5 i0 (.int .u8 0) 1 .u8 Try.underlying22 hi hz0 hz1 hz2 rfl (by omega) _ 1 1 _ rfl (lit_row (w' := w) hs) A n c acc rfl (hown.rd.alloc _) (by omega) (by simp; omega) ?_; intro A' c' w1 hown' hb'; have hcv := conv_str hown'.rd c'))
        go_roundw
        case rel =>
          refine ⟨x / 10, A', 1 + n, c', _, rfl, rfl, by omega, by omega, ?_, Lib.hid ?_, hown', (hb.alloc hs _).trans hb'⟩
          · have h1 := congrArg List.length hd.out
            have h2 := HL.out
            have h3 := hown.len
            have h4 : 1 ≤ (digs x.natAbs).length := by rw [digs_big (by omega) (by omega)]; simp
            have h5 : 2 ≤ (digs x.natAbs).length := by
              rw [digs_big (by omega) (by omega), List.length_append]
              by_cases h6 : x.natAbs / 10 < 10
              · rw [digs_small h6]; simp
              · rw [digs_big (by omega) (by omega)]; simp
            rw [List.length_append] at h1
            omega
          · rw [hd.out, digs_step (by omega) (by omega) (by omega), hdv.out]
            simp only [List.singleton_append]
            congr 2
            omega
        case measure => simp [intOf]; omega

set_option maxHeartbeats 1000000 in
theorem fmt_i_neg (n0 : Int) (w : World) (h0 : n0 < 0) (hlo : -9223372036854775808 ≤ n0) (hhi : n0 ≤ 9223372036854775807) :
    Calls Try.prog 63 #[.int .i64 n0] w fun e w' => e = .returned (.string (strOfNums (fmtI n0))) ∧ Below w.heap.size w w' := by
  obtain ⟨i0, hi, hz0, hz1, hz2⟩ := info_parts byte_info
  have hlen := digs_len n0.natAbs
  have HL := Lib.hid hlen
  clear hlen
  have hneg : decide (n0 < 0) = true := by simpa using h0
  go_enter Try.func63, Try.ntmps63
  go_wp2
  go_loopw [0, 3] (fun q v wr => ∃ (x : Int) (A : Option Addr) (n c : Nat) (acc : List Int), q = .int .i64 x ∧ v = .slice A n c ∧ x ≤ 0 ∧ -9223372036854775808 ≤ x ∧ n ≤ 20 ∧ Hid (digs n0.natAbs = digs x.natAbs ++ acc) ∧ Oi wr w.heap.size 5 .u8 A n c acc ∧ Below w.heap.size w wr) (fun q _ _ => (intOf q).natAbs)
  case atStart => exact ⟨n0, none, 0, 0, [], rfl, rfl, by omega, by omega, by omega, Lib.hid (by simp), Oi.nil, Below.refl _ _⟩
  case round =>
    obtain ⟨x, A, n, c, acc, rfl, rfl, hx1, hx2, hn, hd, hown, hb⟩ := hrel
    have hs := hb.size
    have ht := Lib.hid (tmod_abs x)
    have hv := Lib.hid (tdiv_abs x)
    have ht1 : -9 ≤ x.tmod 10 := by have := ht.out; omega
    have ht2 : x.tmod 10 ≤ 0 := (neg_signs hx1).1
    have hv2 : x.tdiv 10 ≤ 0 := (neg_signs hx1).2
    have hv1 : x ≤ x.tdiv 10 := by have := hv.out; omega
    have hal : acc.length ≤ 20 := by have := hown.len; omega
    by_cases hq : x.natAbs < 10
    · have hq0 : (x.tdiv 10 == 0) = true := by rw [beq_iff_eq]; have := hv.out; omega
      by_cases hsg : x.tmod 10 < 0
      all_goals
        go_wp2_with (first
        | (at_builtin; refine wpList_pushAll _ rfl _ _ 22 rfl w.heap.size 5 i0 (.int .u8 0) 1 .u8 Try.underlying22 hi hz0 hz1 hz2 rfl (by omega) _ 1 1 _ rfl (lit_row (w' := w) hs) A n c acc rfl (hown.rd.alloc _) (by omega) (by simp; omega) ?_; intro A' c' w1 hown' hb'; have hcv := conv_str hown'.rd c'))
        go_ret
        refine ⟨?_, ((hb.alloc hs _).trans hb')⟩
        have h1 := hd.out
        rw [digs_small hq] at h1
        refine congrArg (fun s => Ending.returned (.string s)) ?_
        unfold fmtI
        rw [if_pos h0, h1]
        show strOfNums [45] ++ strOfNums _ = _
        rw [strOf_append]
        refine congrArg strOfNums ?_
        simp only [List.cons_append, List.nil_append]
        congr 1
        congr 1
        have := ht.out; omega
    · have hq0 : (x.tdiv 10 == 0) = false := by rw [beq_eq_false_iff_ne]; have := hv.out; omega
      by_cases hsg : x.tmod 10 < 0
      all_goals
        go_wp2_with (first
        | (at_builtin; refine wpList_pushAll _ rfl _ _ 22 rfl w.heap.size 5 i0 (.int .u8 0) 1 .u8 Try.underlying22 hi hz0 hz1 hz2 rfl (by omega) _ 1 1 _ rfl (lit_row (w' := w) hs) A n c acc rfl (hown.rd.alloc _) (by omega) (by simp; omega) ?_; intro A' c' w1 hown' hb'; have hcv := conv_str hown'.rd c'))
        go_roundw
        case rel =>
          refine ⟨x.tdiv 10, A', 1 + n, c', _, rfl, rfl, by omega, by omega, ?_, Lib.hid ?_, hown', (hb.alloc hs _).trans hb'⟩
          · have h1 := congrArg List.length hd.out
            have h2 := HL.out
            have h3 := hown.len
            have h4 : 1 ≤ (digs x.natAbs).length := by rw [digs_big (by omega) (by omega)]; simp
            have h5 : 2 ≤ (digs x.natAbs).length := by
              rw [digs_big (by omega) (by omega), List.length_append]
              by_cases h6 : x.natAbs / 10 < 10
              · rw [digs_small h6]; simp
              · rw [digs_big (by omega) (by omega)]; simp
            rw [List.length_append] at h1
            omega
          · rw [hd.out, digs_step (by omega) (by omega) (by omega)]
            simp only [List.singleton_append]
            congr 2
            have := ht.out; omega
        case measure => simp only [intOf]; have := hv.out; omega

set_option maxHeartbeats 1000000 in
theorem fmt_s_pos (n0 : Int) (w : World) (h0 : 0 < n0) (hlo : -9223372036854775808 ≤ n0) (hhi : n0 ≤ 9223372036854775807) :
    Calls Try.prog 65 #[.int .i64 n0] w fun e w' => e = .returned (.string (strOfNums (fmtI n0))) ∧ Below w.heap.size w w' := by
  have HL := Lib.hid (digs_len n0.natAbs)
  have hnz : (n0 == 0) = false := by rw [beq_eq_false_iff_ne]; omega
  go_enter Try.func65, Try.ntmps65
  go_wp2
  go_loopw [3, 4] (fun v q wr => ∃ (x : Int) (acc : List Int), q = .int .i64 x ∧ v = .string (strOfNums acc) ∧ 0 ≤ x ∧ x ≤ 9223372036854775807 ∧ acc.length ≤ 20 ∧ Hid (digs n0.natAbs = pre x ++ acc) ∧ Below w.heap.size w wr) (fun _ q _ => (intOf q).natAbs)
  case atStart => exact ⟨n0, [], rfl, rfl, by omega, by omega, by simp, Lib.hid (by rw [pre, if_neg (by omega)]; simp), Below.refl _ _⟩
  case round =>
    obtain ⟨x, acc, rfl, rfl, hx1, hx2, hal, hd, hb⟩ := hrel
    have hs := hb.size
    have hdv := Lib.hid (show x / 10 = x.tdiv 10 from (Int.tdiv_eq_ediv_of_nonneg hx1).symm)
    have hcv := fun d : Int => conv_str (lit_row (w := wr) (w' := w) (k := .u8) (x := d) (base := w.heap.size) (E := 5) hs).rd 1
    by_cases hq : x = 0
    · have hq0 : (x != 0) = false := by simp [hq]
      have Hq := Lib.hid hq
      clear hq hcv
      go_wp2
      go_ret
      refine ⟨?_, hb⟩
      have h1 := hd.out
      rw [pre, if_pos Hq.out, List.nil_append] at h1
      refine congrArg (fun s => Ending.returned (.string s)) ?_
      unfold fmtI
      rw [if_neg (by omega), h1]
      
    · have hq0 : (x != 0) = true := by simpa using hq
      all_goals
        go_wp2
        go_roundw
        case rel =>
          have hstep : digs n0.natAbs = pre (x / 10) ++ ((48 + ((x.natAbs % 10 : Nat) : Int)) :: acc) := by
            rw [hd.out, pre_step (by omega) (by omega) hq, ← hdv.out]
          have hlen : (((48 : Int) + ((x.natAbs % 10 : Nat) : Int)) :: acc).length ≤ 20 := by
            have h1 := congrArg List.length hstep
            have h2 := HL.out
            rw [List.length_append] at h1
            omega
          refine ⟨x / 10, (48 + ((x.natAbs % 10 : Nat) : Int)) :: acc, rfl, ?_, by omega, by omega, hlen, Lib.hid hstep, hb.alloc hs _⟩
          refine congrArg Value.string ?_
          refine (strOf_append _ _).trans (congrArg strOfNums ?_)
          simp only [List.cons_append, List.nil_append]
          congr 1
          omega
        case measure => simp [intOf]; omega

set_option maxHeartbeats 1000000 in
theorem fmt_s_neg (n0 : Int) (w : World) (h0 : n0 < 0) (hlo : -9223372036854775808 ≤ n0) (hhi : n0 ≤ 9223372036854775807) :
    Calls Try.prog 65 #[.int .i64 n0] w fun e w' => e = .returned (.string (strOfNums (fmtI n0))) ∧ Below w.heap.size w w' := by
  have HL := Lib.hid (digs_len n0.natAbs)
  have hnz : (n0 == 0) = false := by rw [beq_eq_false_iff_ne]; omega
  go_enter Try.func65, Try.ntmps65
  go_wp2
  go_loopw [3, 4] (fun v q wr => ∃ (x : Int) (acc : List Int), q = .int .i64 x ∧ v = .string (strOfNums acc) ∧ x ≤ 0 ∧ -9223372036854775808 ≤ x ∧ acc.length ≤ 20 ∧ Hid (digs n0.natAbs = pre x ++ acc) ∧ Below w.heap.size w wr) (fun _ q _ => (intOf q).natAbs)
  case atStart => exact ⟨n0, [], rfl, rfl, by omega, by omega, by simp, Lib.hid (by rw [pre, if_neg (by omega)]; simp), Below.refl _ _⟩
  case round =>
    obtain ⟨x, acc, rfl, rfl, hx1, hx2, hal, hd, hb⟩ := hrel
    have hs := hb.size
    have ht := Lib.hid (tmod_abs x)
    have hv := Lib.hid (tdiv_abs x)
    have ht1 : -9 ≤ x.tmod 10 := by have := ht.out; omega
    have ht2 : x.tmod 10 ≤ 0 := (neg_signs hx1).1
    have hv2 : x.tdiv 10 ≤ 0 := (neg_signs hx1).2
    have hv1 : x ≤ x.tdiv 10 := by have := hv.out; omega
    have hcv := fun d : Int => conv_str (lit_row (w := wr) (w' := w) (k := .u8) (x := d) (base := w.heap.size) (E := 5) hs).rd 1
    by_cases hq : x = 0
    · have hq0 : (x != 0) = false := by simp [hq]
      have Hq := Lib.hid hq
      clear hq hcv
      go_wp2
      go_ret
      refine ⟨?_, hb⟩
      have h1 := hd.out
      rw [pre, if_pos Hq.out, List.nil_append] at h1
      refine congrArg (fun s => Ending.returned (.string s)) ?_
      unfold fmtI
      rw [if_pos h0, h1]
      exact strOf_append [45] acc
    · have hq0 : (x != 0) = true := by simpa using hq
      by_cases hsg : x.tmod 10 < 0
      all_goals
        go_wp2
        go_roundw
        case rel =>
          have hstep : digs n0.natAbs = pre (x.tdiv 10) ++ ((48 + ((x.natAbs % 10 : Nat) : Int)) :: acc) := by
            rw [hd.out, pre_step (by omega) (by omega) hq]
          have hlen : (((48 : Int) + ((x.natAbs % 10 : Nat) : Int)) :: acc).length ≤ 20 := by
            have h1 := congrArg List.length hstep
            have h2 := HL.out
            rw [List.length_append] at h1
            omega
          refine ⟨x.tdiv 10, (48 + ((x.natAbs % 10 : Nat) : Int)) :: acc, rfl, ?_, by omega, by omega, hlen, Lib.hid hstep, hb.alloc hs _⟩
          refine congrArg Value.string ?_
          refine (strOf_append _ _).trans (congrArg strOfNums ?_)
          simp only [List.cons_append, List.nil_append]
          congr 1
          have := ht.out; omega
        case measure => simp only [intOf]; have := hv.out; omega

theorem fmt_i (n0 : Int) (w : World) (hlo : -9223372036854775808 ≤ n0) (hhi : n0 ≤ 9223372036854775807) :
    Calls Try.prog 63 #[.int .i64 n0] w fun e w' => e = .returned (.string (strOfNums (fmtI n0))) ∧ Below w.heap.size w w' := by
  rcases Int.lt_or_le n0 0 with h | h
  · exact fmt_i_neg n0 w h hlo hhi
  · exact fmt_i_pos n0 w h hlo hhi
theorem fmt_s (n0 : Int) (w : World) (hlo : -9223372036854775808 ≤ n0) (hhi : n0 ≤ 9223372036854775807) :
    Calls Try.prog 65 #[.int .i64 n0] w fun e w' => e = .returned (.string (strOfNums (fmtI n0))) ∧ Below w.heap.size w w' := by
  rcases Int.lt_or_le n0 0 with h | h
  · exact fmt_s_neg n0 w h hlo hhi
  · rcases Int.lt_or_le 0 n0 with h1 | h1
    · exact fmt_s_pos n0 w h1 hlo hhi
    · obtain rfl : n0 = 0 := by omega
      go_enter Try.func65, Try.ntmps65
      go_wp2
      go_ret
      exact ⟨rfl, Below.refl _ _⟩
end Go.Proofs.Ytehfcejpoigclaa
