/- Walks of the laws on numbers, texts and encodings: each law's call returns true. -/
import Derived.Test.YtblfophmalofaaaRows
import Derived.Test.YtblfophmalofaaaMem
import Derived.Test.YtblfophmalofaaaLawInts
import Derived.Test.YtblfophmalofaaaLawBytes
import Derived.Test.YtblfophmalofaaaFmt
import Derived.Test.YtblfophmalofaaaParse
import Derived.Test.YtblfophmalofaaaEnc
namespace Go.Proofs.Ytblfophmalofaaa
open Go.RowKit
set_option linter.unusedVariables false

theorem wf64 {n : Int} (h : (Lit.int .i64 n).wf = true) : -9223372036854775808 ≤ n ∧ n ≤ 9223372036854775807 := by
  simp [Lit.wf] at h
  have e1 : IntKind.i64.min = -9223372036854775808 := by decide
  rw [e1] at h
  exact h
theorem bys_of {zs : List Int} (h : ∀ x ∈ zs, (Lit.int .u8 x).wf = true) : Bys zs := by
  intro x hx
  have := h x hx
  simp [Lit.wf] at this
  have e1 : IntKind.u8.min = 0 := by decide
  have e2 : IntKind.u8.max = 255 := by decide
  rw [e1, e2] at this
  exact this
theorem equalBytes_i (A : Option Addr) (n c : Nat) (zs : List Int) (B : Option Addr) (m d : Nat) (ys : List Int) (w : World) (ha : Ri w .u8 A n zs) (hb : Ri w .u8 B m ys) :
    Calls Try.prog 14 #[.slice A n c, .slice B m d] w fun e w' => e = .returned (.bool (decide (strOfNums zs = strOfNums ys))) ∧ w = w' := by
  have h1 := conv_str ha c
  have h2 := conv_str hb d
  go_enter Try.func14, Try.ntmps14
  go_wp2
  go_ret
  exact ⟨congrArg (fun b => Ending.returned (.bool b)) (str_eq_iff _ _), rfl⟩
theorem equalBytes_s (A : Option Addr) (n c : Nat) (zs : List Int) (B : Option Addr) (m d : Nat) (ys : List Int) (w : World) (ha : Ri w .u8 A n zs) (hb : Ri w .u8 B m ys) :
    Calls Try.prog 12 #[.slice A n c, .slice B m d] w fun e w' => e = .returned (.bool (decide (strOfNums zs = strOfNums ys))) ∧ w = w' := by
  have h1 := conv_str ha c
  have h2 := conv_str hb d
  go_enter Try.func12, Try.ntmps12
  go_wp2
  go_ret
  exact ⟨congrArg (fun b => Ending.returned (.bool b)) (str_eq_iff _ _), rfl⟩

set_option maxHeartbeats 1000000 in
theorem FnExactEqualBytes_walk {w : World} (Aa : Option Addr) (na ca : Nat) (za : List Int) (hina : InInts .u8 w w.heap.size Aa na ca za) (Ab : Option Addr) (nb cb : Nat) (zb : List Int) (hinb : InInts .u8 w w.heap.size Ab nb cb zb) :
    Calls Try.prog 3 #[.slice Aa na ca, .slice Ab nb cb] w fun e w' => e = .returned (.bool true) ∧ Below w.heap.size w w' := by
  have ra := hina.1
  have la := Lib.hid ra.len
  have bya := Lib.hid (bys_of hina.2.2.2.1)
  have cca := hina.2.1
  clear hina
  have rb := hinb.1
  have lb := Lib.hid rb.len
  have byb := Lib.hid (bys_of hinb.2.2.2.1)
  have ccb := hinb.2.1
  clear hinb
  by_cases biga : (1048576 : Int) < (na : Int)
  · go_enter Try.func3, Try.ntmps3
    go_wp2
    go_ret
    exact ⟨rfl, Below.refl _ _⟩
  have sma : na ≤ 1048576 := by omega
  by_cases bigb : (1048576 : Int) < (nb : Int)
  · go_enter Try.func3, Try.ntmps3
    go_wp2
    go_ret
    exact ⟨rfl, Below.refl _ _⟩
  have smb : nb ≤ 1048576 := by omega
  go_enter Try.func3, Try.ntmps3
  have ka := ra.inB
  have kb := rb.inB
  go_wp2_with fail
  refine (toByteS_any _ _ _ za _ ra sma).mono ?_
  rintro e w1 ⟨Ap, cp, rfl, op, hb1⟩
  rw [la.out] at op ⊢
  have s1 := hb1.size
  have B1 := hb1
  have S1 := B1.size
  have ra_1 := ra.below hb1 (Nat.le_refl _)
  have rb_1 := rb.below hb1 (Nat.le_refl _)
  have kp := op.lt
  go_wp2_with fail
  refine (toByteS_any _ _ _ zb _ rb_1 smb).mono ?_
  rintro e w2 ⟨Aq, cq, rfl, oq, hb2⟩
  rw [lb.out] at oq ⊢
  have s2 := hb2.size
  have B2 := B1.trans (hb2.mono S1)
  have S2 := B2.size
  have ra_2 := ra_1.below hb2 (Nat.le_refl _)
  have rb_2 := rb_1.below hb2 (Nat.le_refl _)
  have op_2 := op.below hb2 (Nat.le_refl _)
  clear op
  have kq := oq.lt
  go_wp2_with fail
  refine (equalBytes_s _ _ _ za _ _ _ zb _ op_2.rd oq.rd).mono ?_
  rintro e x1 ⟨rfl, rfl⟩
  generalize hdd : decide (strOfNums za = strOfNums zb) = dd
  have HD := Lib.hid hdd
  clear hdd
  go_wp2_with fail
  refine (toByteS_any _ _ _ za _ ra_2 sma).mono ?_
  rintro e w3 ⟨Ap3, cp3, rfl, op3, hb3⟩
  rw [la.out] at op3 ⊢
  have s3 := hb3.size
  have B3 := B2.trans (hb3.mono S2)
  have S3 := B3.size
  have ra_3 := ra_2.below hb3 (Nat.le_refl _)
  have rb_3 := rb_2.below hb3 (Nat.le_refl _)
  have op_3 := op_2.below hb3 (Nat.le_refl _)
  clear op_2
  have oq_3 := oq.below hb3 (Nat.le_refl _)
  clear oq
  have kp3 := op3.lt
  go_wp2_with fail
  refine (toByteS_any _ _ _ zb _ rb_3 smb).mono ?_
  rintro e w4 ⟨Aq4, cq4, rfl, oq4, hb4⟩
  rw [lb.out] at oq4 ⊢
  have s4 := hb4.size
  have B4 := B3.trans (hb4.mono S3)
  have S4 := B4.size
  have ra_4 := ra_3.below hb4 (Nat.le_refl _)
  have rb_4 := rb_3.below hb4 (Nat.le_refl _)
  have op_4 := op_3.below hb4 (Nat.le_refl _)
  clear op_3
  have oq_4 := oq_3.below hb4 (Nat.le_refl _)
  clear oq_3
  have op3_4 := op3.below hb4 (Nat.le_refl _)
  clear op3
  have kq4 := oq4.lt
  go_wp2_with fail
  refine (equalBytes_i _ _ _ za _ _ _ zb _ op3_4.rd oq4.rd).mono ?_
  rintro e x2 ⟨rfl, rfl⟩
  rw [HD.out]
  have hsame := bne_self_bool dd
  go_wp2_with fail
  refine (toByteS_any _ _ _ za _ ra_4 sma).mono ?_
  rintro e w5 ⟨Ap5, cp5, rfl, op5, hb5⟩
  rw [la.out] at op5 ⊢
  have s5 := hb5.size
  have B5 := B4.trans (hb5.mono S4)
  have S5 := B5.size
  have ra_5 := ra_4.below hb5 (Nat.le_refl _)
  have rb_5 := rb_4.below hb5 (Nat.le_refl _)
  have op_5 := op_4.below hb5 (Nat.le_refl _)
  clear op_4
  have oq_5 := oq_4.below hb5 (Nat.le_refl _)
  clear oq_4
  have op3_5 := op3_4.below hb5 (Nat.le_refl _)
  clear op3_4
  have oq4_5 := oq4.below hb5 (Nat.le_refl _)
  clear oq4
  have kp5 := op5.lt
  go_wp2_with fail
  refine (eqByteS_any _ _ _ za _ _ _ za _ op3_5.rd op5.rd (by omega) (by omega)).mono ?_
  rintro e w6 ⟨rfl, hb6⟩
  rw [decide_eq_true rfl]
  have s6 := hb6.size
  have B6 := B5.trans (hb6.mono S5)
  have S6 := B6.size
  have ra_6 := ra_5.below hb6 (Nat.le_refl _)
  have rb_6 := rb_5.below hb6 (Nat.le_refl _)
  have op_6 := op_5.below hb6 (Nat.le_refl _)
  clear op_5
  have oq_6 := oq_5.below hb6 (Nat.le_refl _)
  clear oq_5
  have op3_6 := op3_5.below hb6 (Nat.le_refl _)
  clear op3_5
  have oq4_6 := oq4_5.below hb6 (Nat.le_refl _)
  clear oq4_5
  have op5_6 := op5.below hb6 (Nat.le_refl _)
  clear op5
  go_wp2_with fail
  refine (toByteS_any _ _ _ zb _ rb_6 smb).mono ?_
  rintro e w7 ⟨Aq6, cq6, rfl, oq6, hb7⟩
  rw [lb.out] at oq6 ⊢
  have s7 := hb7.size
  have B7 := B6.trans (hb7.mono S6)
  have S7 := B7.size
  have ra_7 := ra_6.below hb7 (Nat.le_refl _)
  have rb_7 := rb_6.below hb7 (Nat.le_refl _)
  have op_7 := op_6.below hb7 (Nat.le_refl _)
  clear op_6
  have oq_7 := oq_6.below hb7 (Nat.le_refl _)
  clear oq_6
  have op3_7 := op3_6.below hb7 (Nat.le_refl _)
  clear op3_6
  have oq4_7 := oq4_6.below hb7 (Nat.le_refl _)
  clear oq4_6
  have op5_7 := op5_6.below hb7 (Nat.le_refl _)
  clear op5_6
  have kq6 := oq6.lt
  go_wp2_with fail
  refine (eqByteS_any _ _ _ zb _ _ _ zb _ oq4_7.rd oq6.rd (by omega) (by omega)).mono ?_
  rintro e w8 ⟨rfl, hb8⟩
  rw [decide_eq_true rfl]
  have s8 := hb8.size
  have B8 := B7.trans (hb8.mono S7)
  have S8 := B8.size
  have ra_8 := ra_7.below hb8 (Nat.le_refl _)
  have rb_8 := rb_7.below hb8 (Nat.le_refl _)
  have op_8 := op_7.below hb8 (Nat.le_refl _)
  clear op_7
  have oq_8 := oq_7.below hb8 (Nat.le_refl _)
  clear oq_7
  have op3_8 := op3_7.below hb8 (Nat.le_refl _)
  clear op3_7
  have oq4_8 := oq4_7.below hb8 (Nat.le_refl _)
  clear oq4_7
  have op5_8 := op5_7.below hb8 (Nat.le_refl _)
  clear op5_7
  have oq6_8 := oq6.below hb8 (Nat.le_refl _)
  clear oq6
  go_wp2
  go_ret
  exact ⟨rfl, B8⟩

set_option maxHeartbeats 1000000 in
theorem FnExactFormatInt_walk {w : World} (n : Int) (w_n : (Lit.int .i64 n).wf = true) :
    Calls Try.prog 4 #[.int .i64 n] w fun e w' => e = .returned (.bool true) ∧ Below w.heap.size w w' := by
  have hw1_n := (wf64 w_n).1
  have hw2_n := (wf64 w_n).2
  clear w_n
  go_enter Try.func4, Try.ntmps4
  go_wp2_with fail
  refine (fmt_s n _ hw1_n hw2_n).mono ?_
  rintro e w1 ⟨rfl, hb1⟩
  have s1 := hb1.size
  have B1 := hb1
  have S1 := B1.size
  go_wp2_with fail
  refine (fmt_i n _ hw1_n hw2_n).mono ?_
  rintro e w2 ⟨rfl, hb2⟩
  generalize strOfNums (fmtI n) = ss
  have hss : (!ss.toList == ss.toList) = false := by simp
  have s2 := hb2.size
  have B2 := B1.trans (hb2.mono S1)
  have S2 := B2.size
  go_wp2
  go_ret
  exact ⟨rfl, B2⟩

set_option maxHeartbeats 1000000 in
theorem FnExactParseInt_walk {w : World} (s : ByteArray) (hs_s : s.size ≤ maxLen) :
    Calls Try.prog 5 #[.string s] w fun e w' => e = .returned (.bool true) ∧ Below w.heap.size w w' := by
  unfold maxLen at hs_s
  by_cases bigs : (1048576 : Int) < (s.size : Int)
  · go_enter Try.func5, Try.ntmps5
    go_wp2
    go_ret
    exact ⟨rfl, Below.refl _ _⟩
  go_enter Try.func5, Try.ntmps5
  go_wp2_with fail
  refine (parse_s s _ hs_s).mono ?_
  rintro e w1 ⟨rfl, hb1⟩
  have s1 := hb1.size
  have B1 := hb1
  have S1 := B1.size
  generalize hv : parseV (bl s) = v
  generalize hp : parseB (bl s) = p
  have HV := Lib.hid hv
  have HP := Lib.hid hp
  clear hv hp
  go_wp2_with fail
  refine (parse_i s _ hs_s).mono ?_
  rintro e w2 ⟨rfl, hb2⟩
  rw [HV.out, HP.out]
  have hsame := bne_self_bool p
  have s2 := hb2.size
  have B2 := B1.trans (hb2.mono S1)
  have S2 := B2.size
  go_wp2
  go_ret
  exact ⟨rfl, B2⟩

set_option maxHeartbeats 1000000 in
theorem FnExactReadVarint_walk {w : World} (Ab : Option Addr) (nb cb : Nat) (zb : List Int) (hinb : InInts .u8 w w.heap.size Ab nb cb zb) (at_ : Int) (w_at_ : (Lit.int .i64 at_).wf = true) :
    Calls Try.prog 6 #[.slice Ab nb cb, .int .i64 at_] w fun e w' => e = .returned (.bool true) ∧ Below w.heap.size w w' := by
  have rb := hinb.1
  have lb := Lib.hid rb.len
  have byb := Lib.hid (bys_of hinb.2.2.2.1)
  have ccb := hinb.2.1
  clear hinb
  have hw1_at_ := (wf64 w_at_).1
  have hw2_at_ := (wf64 w_at_).2
  clear w_at_
  by_cases bigb : (1048576 : Int) < (nb : Int)
  · go_enter Try.func6, Try.ntmps6
    go_wp2
    go_ret
    exact ⟨rfl, Below.refl _ _⟩
  have smb : nb ≤ 1048576 := by omega
  go_enter Try.func6, Try.ntmps6
  have kb := rb.inB
  obtain ⟨rv, h_rv⟩ : ∃ y_, y_ = rdV zb at_ := ⟨_, rfl⟩
  have HR := Lib.hid h_rv.symm
  clear h_rv
  go_wp2_with fail
  refine (toByteS_any _ _ _ zb _ rb smb).mono ?_
  rintro e w1 ⟨Ap, cp, rfl, op, hb1⟩
  rw [lb.out] at op ⊢
  have s1 := hb1.size
  have B1 := hb1
  have S1 := B1.size
  have rb_1 := rb.below hb1 (Nat.le_refl _)
  have kp := op.lt
  go_wp2_with fail
  refine (readVarint_s _ _ _ zb _ _ op.rd byb.out (by omega) hw2_at_).mono ?_
  rintro e x1 ⟨he, rfl⟩
  rw [HR.out] at he
  unfold RdIs at he
  subst he
  go_wp2_with fail
  refine (toByteS_any _ _ _ zb _ rb_1 smb).mono ?_
  rintro e w2 ⟨Aq, cq, rfl, oq, hb2⟩
  rw [lb.out] at oq ⊢
  have s2 := hb2.size
  have B2 := B1.trans (hb2.mono S1)
  have S2 := B2.size
  have rb_2 := rb_1.below hb2 (Nat.le_refl _)
  have op_2 := op.below hb2 (Nat.le_refl _)
  clear op
  have kq := oq.lt
  generalize h0 : rN rv = v0
  generalize h1 : rA at_ rv = v1
  generalize h2 : rB rv = v2
  have H0 := Lib.hid h0
  have H1 := Lib.hid h1
  have H2 := Lib.hid h2
  clear h0 h1 h2
  go_wp2_with fail
  refine (readVarint_i _ _ _ zb _ _ oq.rd byb.out (by omega) hw2_at_).mono ?_
  rintro e x2 ⟨he, rfl⟩
  rw [HR.out] at he
  unfold RdIs at he
  subst he
  rw [H0.out, H1.out, H2.out]
  have hsame := bne_self_bool v2
  go_wp2_with fail
  refine (toByteS_any _ _ _ zb _ rb_2 smb).mono ?_
  rintro e w3 ⟨Aq3, cq3, rfl, oq3, hb3⟩
  rw [lb.out] at oq3 ⊢
  have s3 := hb3.size
  have B3 := B2.trans (hb3.mono S2)
  have S3 := B3.size
  have rb_3 := rb_2.below hb3 (Nat.le_refl _)
  have op_3 := op_2.below hb3 (Nat.le_refl _)
  clear op_2
  have oq_3 := oq.below hb3 (Nat.le_refl _)
  clear oq
  have kq3 := oq3.lt
  go_wp2_with fail
  refine (eqByteS_any _ _ _ zb _ _ _ zb _ oq_3.rd oq3.rd (by omega) (by omega)).mono ?_
  rintro e w4 ⟨rfl, hb4⟩
  rw [decide_eq_true rfl]
  have s4 := hb4.size
  have B4 := B3.trans (hb4.mono S3)
  have S4 := B4.size
  have rb_4 := rb_3.below hb4 (Nat.le_refl _)
  have op_4 := op_3.below hb4 (Nat.le_refl _)
  clear op_3
  have oq_4 := oq_3.below hb4 (Nat.le_refl _)
  clear oq_3
  have oq3_4 := oq3.below hb4 (Nat.le_refl _)
  clear oq3
  go_wp2
  go_ret
  exact ⟨rfl, B4⟩

set_option maxHeartbeats 1000000 in
theorem FnExactAppendVarint_walk {w : World} (Ab : Option Addr) (nb cb : Nat) (zb : List Int) (hinb : InInts .u8 w w.heap.size Ab nb cb zb) (x : Int) (w_x : (Lit.int .i64 x).wf = true) :
    Calls Try.prog 7 #[.slice Ab nb cb, .int .i64 x] w fun e w' => e = .returned (.bool true) ∧ Below w.heap.size w w' := by
  have rb := hinb.1
  have lb := Lib.hid rb.len
  have byb := Lib.hid (bys_of hinb.2.2.2.1)
  have ccb := hinb.2.1
  clear hinb
  have hw1_x := (wf64 w_x).1
  have hw2_x := (wf64 w_x).2
  clear w_x
  by_cases bigb : (1048576 : Int) < (nb : Int)
  · go_enter Try.func7, Try.ntmps7
    go_wp2
    go_ret
    exact ⟨rfl, Below.refl _ _⟩
  have smb : nb ≤ 1048576 := by omega
  obtain ⟨LL, h_LL⟩ : ∃ y_, y_ = appV zb x := ⟨_, rfl⟩
  have HL := Lib.hid h_LL.symm
  clear h_LL
  obtain ⟨nL, h_nL⟩ : ∃ y_, y_ = LL.length := ⟨_, rfl⟩
  have HN := Lib.hid h_nL.symm
  have hnL : nL ≤ 90000000 := by have h1 := appV_len zb x; have h2 := HL.out; have h3 := lb.out; rw [h2] at h1; omega
  clear h_nL
  go_enter Try.func7, Try.ntmps7
  have kb := rb.inB
  go_wp2_with fail
  refine (toByteS_any _ _ _ zb _ rb smb).mono ?_
  rintro e w1 ⟨Apb, cpb, rfl, opb, hb1⟩
  rw [lb.out] at opb ⊢
  have s1 := hb1.size
  have B1 := hb1
  have S1 := B1.size
  have rb_1 := rb.below hb1 (Nat.le_refl _)
  have kpb := opb.lt
  go_wp2_with fail
  refine (appendVarint_s _ _ _ zb x _ opb.rd (by omega)).mono ?_
  rw [HL.out]
  rintro e w2 ⟨AW, cW, rfl, oW, hb2⟩
  rw [HN.out] at oW ⊢
  have s2 := hb2.size
  have B2 := B1.trans (hb2.mono S1)
  have S2 := B2.size
  have rb_2 := rb_1.below hb2 (Nat.le_refl _)
  have opb_2 := opb.below hb2 (Nat.le_refl _)
  clear opb
  have kW := oW.lt
  clear opb_2 kpb
  go_wp2_with fail
  refine (toByteS_any _ _ _ zb _ rb_2 smb).mono ?_
  rintro e w3 ⟨Aqb, cqb, rfl, oqb, hb3⟩
  rw [lb.out] at oqb ⊢
  have s3 := hb3.size
  have B3 := B2.trans (hb3.mono S2)
  have S3 := B3.size
  have rb_3 := rb_2.below hb3 (Nat.le_refl _)
  have oW_3 := oW.below hb3 (Nat.le_refl _)
  clear oW
  have kqb := oqb.lt
  go_wp2_with fail
  refine (appendVarint_i _ _ _ zb x _ oqb.rd (by omega)).mono ?_
  rw [HL.out]
  rintro e w4 ⟨AG, cG, rfl, oG, hb4⟩
  rw [HN.out] at oG ⊢
  have s4 := hb4.size
  have B4 := B3.trans (hb4.mono S3)
  have S4 := B4.size
  have rb_4 := rb_3.below hb4 (Nat.le_refl _)
  have oW_4 := oW_3.below hb4 (Nat.le_refl _)
  clear oW_3
  have oqb_4 := oqb.below hb4 (Nat.le_refl _)
  clear oqb
  have kG := oG.lt
  go_wp2_with fail
  refine (eqByteS_any _ _ _ LL _ _ _ LL _ oG.rd oW_4.rd (by omega) (by omega)).mono ?_
  rintro e w5 ⟨rfl, hb5⟩
  rw [decide_eq_true rfl]
  have s5 := hb5.size
  have B5 := B4.trans (hb5.mono S4)
  have S5 := B5.size
  have rb_5 := rb_4.below hb5 (Nat.le_refl _)
  have oW_5 := oW_4.below hb5 (Nat.le_refl _)
  clear oW_4
  have oqb_5 := oqb_4.below hb5 (Nat.le_refl _)
  clear oqb_4
  have oG_5 := oG.below hb5 (Nat.le_refl _)
  clear oG
  go_wp2_with fail
  refine (toByteS_any _ _ _ zb _ rb_5 smb).mono ?_
  rintro e w6 ⟨Atb, ctb, rfl, otb, hb6⟩
  rw [lb.out] at otb ⊢
  have s6 := hb6.size
  have B6 := B5.trans (hb6.mono S5)
  have S6 := B6.size
  have rb_6 := rb_5.below hb6 (Nat.le_refl _)
  have oW_6 := oW_5.below hb6 (Nat.le_refl _)
  clear oW_5
  have oqb_6 := oqb_5.below hb6 (Nat.le_refl _)
  clear oqb_5
  have oG_6 := oG_5.below hb6 (Nat.le_refl _)
  clear oG_5
  have ktb := otb.lt
  go_wp2_with fail
  refine (eqByteS_any _ _ _ zb _ _ _ zb _ oqb_6.rd otb.rd (by omega) (by omega)).mono ?_
  rintro e w7 ⟨rfl, hb7⟩
  rw [decide_eq_true rfl]
  have s7 := hb7.size
  have B7 := B6.trans (hb7.mono S6)
  have S7 := B7.size
  have rb_7 := rb_6.below hb7 (Nat.le_refl _)
  have oW_7 := oW_6.below hb7 (Nat.le_refl _)
  clear oW_6
  have oqb_7 := oqb_6.below hb7 (Nat.le_refl _)
  clear oqb_6
  have oG_7 := oG_6.below hb7 (Nat.le_refl _)
  clear oG_6
  have otb_7 := otb.below hb7 (Nat.le_refl _)
  clear otb
  clear otb_7 ktb
  go_wp2_with fail
  refine (markByteS_any _ _ _ _ _ _ _ oqb_7 (by omega) (by omega) (by omega)).mono ?_
  rintro e w8 ⟨rfl, o8m, hg8⟩
  have s8 := hg8.size
  have B8 := B7.trans ((Below.refl w.heap.size _).grown hg8 S7 (fun r hr => by have := (oqb_7.lt r hr).1; omega))
  have S8 := B8.size
  have rb_8 := rb_7.farUp hg8 w2.heap.size (fun hn b off e => by have := kb hn b off e; omega) (fun r hr => (oqb_7.lt r hr).1)
  have oW_8 := oW_7.farUp hg8 w2.heap.size (fun g hg => by have := (kW g hg).2; omega) (fun r hr => (oqb_7.lt r hr).1)
  have oG_8 := oG_7.farDown hg8 (fun r hr => by have := (kqb r hr).2; omega)
  clear o8m kqb
  go_wp2_with fail
  refine (eqByteS_any _ _ _ LL _ _ _ LL _ oG_8.rd oW_8.rd (by omega) (by omega)).mono ?_
  rintro e w9 ⟨rfl, hb9⟩
  rw [decide_eq_true rfl]
  have s9 := hb9.size
  have B9 := B8.trans (hb9.mono S8)
  have S9 := B9.size
  have rb_9 := rb_8.below hb9 (Nat.le_refl _)
  have oW_9 := oW_8.below hb9 (Nat.le_refl _)
  clear oW_8
  have oG_9 := oG_8.below hb9 (Nat.le_refl _)
  clear oG_8
  go_wp2_with fail
  refine (markByteS_any _ _ _ _ _ _ _ oG_9 (by omega) (by omega) (by omega)).mono ?_
  rintro e w10 ⟨rfl, o10m, hg10⟩
  have s10 := hg10.size
  have B10 := B9.trans ((Below.refl w.heap.size _).grown hg10 S9 (fun r hr => by have := (oG_9.lt r hr).1; omega))
  have S10 := B10.size
  have rb_10 := rb_9.farUp hg10 w3.heap.size (fun hn b off e => by have := kb hn b off e; omega) (fun r hr => (oG_9.lt r hr).1)
  have oW_10 := oW_9.farUp hg10 w3.heap.size (fun g hg => by have := (kW g hg).2; omega) (fun r hr => (oG_9.lt r hr).1)
  go_wp2_with fail
  refine (heldByteS_any _ _ _ _ _ o10m.rd (by omega) (by omega) (by omega)).mono ?_
  rintro e x1 ⟨rfl, rfl⟩
  go_wp2_with fail
  refine (toByteS_any _ _ _ zb _ rb_10 smb).mono ?_
  rintro e w11 ⟨Ahb, chb, rfl, ohb, hb11⟩
  rw [lb.out] at ohb ⊢
  have s11 := hb11.size
  have B11 := B10.trans (hb11.mono S10)
  have S11 := B11.size
  have rb_11 := rb_10.below hb11 (Nat.le_refl _)
  have oW_11 := oW_10.below hb11 (Nat.le_refl _)
  clear oW_10
  have oG_11 := o10m.below hb11 (Nat.le_refl _)
  clear o10m
  have khb := ohb.lt
  go_wp2_with fail
  refine (appendVarint_i _ _ _ zb x _ ohb.rd (by omega)).mono ?_
  rw [HL.out]
  rintro e w12 ⟨AH, cH, rfl, oH, hb12⟩
  rw [HN.out] at oH ⊢
  have s12 := hb12.size
  have B12 := B11.trans (hb12.mono S11)
  have S12 := B12.size
  have rb_12 := rb_11.below hb12 (Nat.le_refl _)
  have oW_12 := oW_11.below hb12 (Nat.le_refl _)
  clear oW_11
  have oG_12 := oG_11.below hb12 (Nat.le_refl _)
  clear oG_11
  have ohb_12 := ohb.below hb12 (Nat.le_refl _)
  clear ohb
  have kH := oH.lt
  go_wp2_with fail
  refine (eqByteS_any _ _ _ LL _ _ _ LL _ oH.rd oW_12.rd (by omega) (by omega)).mono ?_
  rintro e w13 ⟨rfl, hb13⟩
  rw [decide_eq_true rfl]
  have s13 := hb13.size
  have B13 := B12.trans (hb13.mono S12)
  have S13 := B13.size
  have rb_13 := rb_12.below hb13 (Nat.le_refl _)
  have oW_13 := oW_12.below hb13 (Nat.le_refl _)
  clear oW_12
  have oG_13 := oG_12.below hb13 (Nat.le_refl _)
  clear oG_12
  have ohb_13 := ohb_12.below hb13 (Nat.le_refl _)
  clear ohb_12
  have oH_13 := oH.below hb13 (Nat.le_refl _)
  clear oH
  go_wp2_with fail
  refine (heldByteS_any _ _ _ _ _ oG_13.rd (by omega) (by omega) (by omega)).mono ?_
  rintro e x2 ⟨rfl, rfl⟩
  go_wp2
  go_ret
  exact ⟨rfl, B13⟩

set_option maxHeartbeats 1000000 in
theorem FnExactAppendBytes_walk {w : World} (Ab : Option Addr) (nb cb : Nat) (zb : List Int) (hinb : InInts .u8 w w.heap.size Ab nb cb zb) (As : Option Addr) (ns cs : Nat) (zs : List Int) (hins : InInts .u8 w w.heap.size As ns cs zs) :
    Calls Try.prog 8 #[.slice Ab nb cb, .slice As ns cs] w fun e w' => e = .returned (.bool true) ∧ Below w.heap.size w w' := by
  have rb := hinb.1
  have lb := Lib.hid rb.len
  have byb := Lib.hid (bys_of hinb.2.2.2.1)
  have ccb := hinb.2.1
  clear hinb
  have rs := hins.1
  have ls := Lib.hid rs.len
  have bys := Lib.hid (bys_of hins.2.2.2.1)
  have ccs := hins.2.1
  clear hins
  by_cases bigb : (1048576 : Int) < (nb : Int)
  · go_enter Try.func8, Try.ntmps8
    go_wp2
    go_ret
    exact ⟨rfl, Below.refl _ _⟩
  have smb : nb ≤ 1048576 := by omega
  by_cases bigs : (1048576 : Int) < (ns : Int)
  · go_enter Try.func8, Try.ntmps8
    go_wp2
    go_ret
    exact ⟨rfl, Below.refl _ _⟩
  have sms : ns ≤ 1048576 := by omega
  obtain ⟨LL, h_LL⟩ : ∃ y_, y_ = appB zb zs := ⟨_, rfl⟩
  have HL := Lib.hid h_LL.symm
  clear h_LL
  obtain ⟨nL, h_nL⟩ : ∃ y_, y_ = LL.length := ⟨_, rfl⟩
  have HN := Lib.hid h_nL.symm
  have hnL : nL ≤ 90000000 := by have h1 := appV_len zb (zs.length : Int); have h2 := congrArg List.length HL.out; have h3 := lb.out; have h4 := ls.out; unfold appB at h2; rw [List.length_append] at h2; omega
  clear h_nL
  go_enter Try.func8, Try.ntmps8
  have kb := rb.inB
  have ks := rs.inB
  go_wp2_with fail
  refine (toByteS_any _ _ _ zb _ rb smb).mono ?_
  rintro e w1 ⟨Apb, cpb, rfl, opb, hb1⟩
  rw [lb.out] at opb ⊢
  have s1 := hb1.size
  have B1 := hb1
  have S1 := B1.size
  have rb_1 := rb.below hb1 (Nat.le_refl _)
  have rs_1 := rs.below hb1 (Nat.le_refl _)
  have kpb := opb.lt
  go_wp2_with fail
  refine (toByteS_any _ _ _ zs _ rs_1 sms).mono ?_
  rintro e w2 ⟨Aps, cps, rfl, ops, hb2⟩
  rw [ls.out] at ops ⊢
  have s2 := hb2.size
  have B2 := B1.trans (hb2.mono S1)
  have S2 := B2.size
  have rb_2 := rb_1.below hb2 (Nat.le_refl _)
  have rs_2 := rs_1.below hb2 (Nat.le_refl _)
  have opb_2 := opb.below hb2 (Nat.le_refl _)
  clear opb
  have kps := ops.lt
  go_wp2_with fail
  refine (appendBytes_s _ _ _ zb _ _ _ zs _ opb_2.rd ops.rd (by omega) (by omega)).mono ?_
  rw [HL.out]
  rintro e w3 ⟨AW, cW, rfl, oW, hb3⟩
  rw [HN.out] at oW ⊢
  have s3 := hb3.size
  have B3 := B2.trans (hb3.mono S2)
  have S3 := B3.size
  have rb_3 := rb_2.below hb3 (Nat.le_refl _)
  have rs_3 := rs_2.below hb3 (Nat.le_refl _)
  have opb_3 := opb_2.below hb3 (Nat.le_refl _)
  clear opb_2
  have ops_3 := ops.below hb3 (Nat.le_refl _)
  clear ops
  have kW := oW.lt
  clear opb_3 kpb
  clear ops_3 kps
  go_wp2_with fail
  refine (toByteS_any _ _ _ zb _ rb_3 smb).mono ?_
  rintro e w4 ⟨Aqb, cqb, rfl, oqb, hb4⟩
  rw [lb.out] at oqb ⊢
  have s4 := hb4.size
  have B4 := B3.trans (hb4.mono S3)
  have S4 := B4.size
  have rb_4 := rb_3.below hb4 (Nat.le_refl _)
  have rs_4 := rs_3.below hb4 (Nat.le_refl _)
  have oW_4 := oW.below hb4 (Nat.le_refl _)
  clear oW
  have kqb := oqb.lt
  go_wp2_with fail
  refine (toByteS_any _ _ _ zs _ rs_4 sms).mono ?_
  rintro e w5 ⟨Aqs, cqs, rfl, oqs, hb5⟩
  rw [ls.out] at oqs ⊢
  have s5 := hb5.size
  have B5 := B4.trans (hb5.mono S4)
  have S5 := B5.size
  have rb_5 := rb_4.below hb5 (Nat.le_refl _)
  have rs_5 := rs_4.below hb5 (Nat.le_refl _)
  have oW_5 := oW_4.below hb5 (Nat.le_refl _)
  clear oW_4
  have oqb_5 := oqb.below hb5 (Nat.le_refl _)
  clear oqb
  have kqs := oqs.lt
  go_wp2_with fail
  refine (appendBytes_i _ _ _ zb _ _ _ zs _ oqb_5.rd oqs.rd (by omega) (by omega)).mono ?_
  rw [HL.out]
  rintro e w6 ⟨AG, cG, rfl, oG, hb6⟩
  rw [HN.out] at oG ⊢
  have s6 := hb6.size
  have B6 := B5.trans (hb6.mono S5)
  have S6 := B6.size
  have rb_6 := rb_5.below hb6 (Nat.le_refl _)
  have rs_6 := rs_5.below hb6 (Nat.le_refl _)
  have oW_6 := oW_5.below hb6 (Nat.le_refl _)
  clear oW_5
  have oqb_6 := oqb_5.below hb6 (Nat.le_refl _)
  clear oqb_5
  have oqs_6 := oqs.below hb6 (Nat.le_refl _)
  clear oqs
  have kG := oG.lt
  go_wp2_with fail
  refine (eqByteS_any _ _ _ LL _ _ _ LL _ oG.rd oW_6.rd (by omega) (by omega)).mono ?_
  rintro e w7 ⟨rfl, hb7⟩
  rw [decide_eq_true rfl]
  have s7 := hb7.size
  have B7 := B6.trans (hb7.mono S6)
  have S7 := B7.size
  have rb_7 := rb_6.below hb7 (Nat.le_refl _)
  have rs_7 := rs_6.below hb7 (Nat.le_refl _)
  have oW_7 := oW_6.below hb7 (Nat.le_refl _)
  clear oW_6
  have oqb_7 := oqb_6.below hb7 (Nat.le_refl _)
  clear oqb_6
  have oqs_7 := oqs_6.below hb7 (Nat.le_refl _)
  clear oqs_6
  have oG_7 := oG.below hb7 (Nat.le_refl _)
  clear oG
  go_wp2_with fail
  refine (toByteS_any _ _ _ zb _ rb_7 smb).mono ?_
  rintro e w8 ⟨Atb, ctb, rfl, otb, hb8⟩
  rw [lb.out] at otb ⊢
  have s8 := hb8.size
  have B8 := B7.trans (hb8.mono S7)
  have S8 := B8.size
  have rb_8 := rb_7.below hb8 (Nat.le_refl _)
  have rs_8 := rs_7.below hb8 (Nat.le_refl _)
  have oW_8 := oW_7.below hb8 (Nat.le_refl _)
  clear oW_7
  have oqb_8 := oqb_7.below hb8 (Nat.le_refl _)
  clear oqb_7
  have oqs_8 := oqs_7.below hb8 (Nat.le_refl _)
  clear oqs_7
  have oG_8 := oG_7.below hb8 (Nat.le_refl _)
  clear oG_7
  have ktb := otb.lt
  go_wp2_with fail
  refine (eqByteS_any _ _ _ zb _ _ _ zb _ oqb_8.rd otb.rd (by omega) (by omega)).mono ?_
  rintro e w9 ⟨rfl, hb9⟩
  rw [decide_eq_true rfl]
  have s9 := hb9.size
  have B9 := B8.trans (hb9.mono S8)
  have S9 := B9.size
  have rb_9 := rb_8.below hb9 (Nat.le_refl _)
  have rs_9 := rs_8.below hb9 (Nat.le_refl _)
  have oW_9 := oW_8.below hb9 (Nat.le_refl _)
  clear oW_8
  have oqb_9 := oqb_8.below hb9 (Nat.le_refl _)
  clear oqb_8
  have oqs_9 := oqs_8.below hb9 (Nat.le_refl _)
  clear oqs_8
  have oG_9 := oG_8.below hb9 (Nat.le_refl _)
  clear oG_8
  have otb_9 := otb.below hb9 (Nat.le_refl _)
  clear otb
  clear otb_9 ktb
  go_wp2_with fail
  refine (toByteS_any _ _ _ zs _ rs_9 sms).mono ?_
  rintro e w10 ⟨Ats, cts, rfl, ots, hb10⟩
  rw [ls.out] at ots ⊢
  have s10 := hb10.size
  have B10 := B9.trans (hb10.mono S9)
  have S10 := B10.size
  have rb_10 := rb_9.below hb10 (Nat.le_refl _)
  have rs_10 := rs_9.below hb10 (Nat.le_refl _)
  have oW_10 := oW_9.below hb10 (Nat.le_refl _)
  clear oW_9
  have oqb_10 := oqb_9.below hb10 (Nat.le_refl _)
  clear oqb_9
  have oqs_10 := oqs_9.below hb10 (Nat.le_refl _)
  clear oqs_9
  have oG_10 := oG_9.below hb10 (Nat.le_refl _)
  clear oG_9
  have kts := ots.lt
  go_wp2_with fail
  refine (eqByteS_any _ _ _ zs _ _ _ zs _ oqs_10.rd ots.rd (by omega) (by omega)).mono ?_
  rintro e w11 ⟨rfl, hb11⟩
  rw [decide_eq_true rfl]
  have s11 := hb11.size
  have B11 := B10.trans (hb11.mono S10)
  have S11 := B11.size
  have rb_11 := rb_10.below hb11 (Nat.le_refl _)
  have rs_11 := rs_10.below hb11 (Nat.le_refl _)
  have oW_11 := oW_10.below hb11 (Nat.le_refl _)
  clear oW_10
  have oqb_11 := oqb_10.below hb11 (Nat.le_refl _)
  clear oqb_10
  have oqs_11 := oqs_10.below hb11 (Nat.le_refl _)
  clear oqs_10
  have oG_11 := oG_10.below hb11 (Nat.le_refl _)
  clear oG_10
  have ots_11 := ots.below hb11 (Nat.le_refl _)
  clear ots
  clear ots_11 kts
  go_wp2_with fail
  refine (markByteS_any _ _ _ _ _ _ _ oqb_11 (by omega) (by omega) (by omega)).mono ?_
  rintro e w12 ⟨rfl, o12m, hg12⟩
  have s12 := hg12.size
  have B12 := B11.trans ((Below.refl w.heap.size _).grown hg12 S11 (fun r hr => by have := (oqb_11.lt r hr).1; omega))
  have S12 := B12.size
  have rb_12 := rb_11.farUp hg12 w3.heap.size (fun hn b off e => by have := kb hn b off e; omega) (fun r hr => (oqb_11.lt r hr).1)
  have rs_12 := rs_11.farUp hg12 w3.heap.size (fun hn b off e => by have := ks hn b off e; omega) (fun r hr => (oqb_11.lt r hr).1)
  have oW_12 := oW_11.farUp hg12 w3.heap.size (fun g hg => by have := (kW g hg).2; omega) (fun r hr => (oqb_11.lt r hr).1)
  have oqs_12 := oqs_11.farDown hg12 (fun r hr => by have := (kqb r hr).2; omega)
  have oG_12 := oG_11.farDown hg12 (fun r hr => by have := (kqb r hr).2; omega)
  go_wp2_with fail
  refine (markByteS_any _ _ _ _ _ _ _ oqs_12 (by omega) (by omega) (by omega)).mono ?_
  rintro e w13 ⟨rfl, o13m, hg13⟩
  have s13 := hg13.size
  have B13 := B12.trans ((Below.refl w.heap.size _).grown hg13 S12 (fun r hr => by have := (oqs_12.lt r hr).1; omega))
  have S13 := B13.size
  have rb_13 := rb_12.farUp hg13 w4.heap.size (fun hn b off e => by have := kb hn b off e; omega) (fun r hr => (oqs_12.lt r hr).1)
  have rs_13 := rs_12.farUp hg13 w4.heap.size (fun hn b off e => by have := ks hn b off e; omega) (fun r hr => (oqs_12.lt r hr).1)
  have oW_13 := oW_12.farUp hg13 w4.heap.size (fun g hg => by have := (kW g hg).2; omega) (fun r hr => (oqs_12.lt r hr).1)
  have oqb_13 := o12m.farUp hg13 w4.heap.size (fun g hg => by have := (kqb g hg).2; omega) (fun r hr => (oqs_12.lt r hr).1)
  have oG_13 := oG_12.farDown hg13 (fun r hr => by have := (kqs r hr).2; omega)
  clear oqb_13 kqb
  clear o13m kqs
  go_wp2_with fail
  refine (eqByteS_any _ _ _ LL _ _ _ LL _ oG_13.rd oW_13.rd (by omega) (by omega)).mono ?_
  rintro e w14 ⟨rfl, hb14⟩
  rw [decide_eq_true rfl]
  have s14 := hb14.size
  have B14 := B13.trans (hb14.mono S13)
  have S14 := B14.size
  have rb_14 := rb_13.below hb14 (Nat.le_refl _)
  have rs_14 := rs_13.below hb14 (Nat.le_refl _)
  have oW_14 := oW_13.below hb14 (Nat.le_refl _)
  clear oW_13
  have oG_14 := oG_13.below hb14 (Nat.le_refl _)
  clear oG_13
  go_wp2_with fail
  refine (markByteS_any _ _ _ _ _ _ _ oG_14 (by omega) (by omega) (by omega)).mono ?_
  rintro e w15 ⟨rfl, o15m, hg15⟩
  have s15 := hg15.size
  have B15 := B14.trans ((Below.refl w.heap.size _).grown hg15 S14 (fun r hr => by have := (oG_14.lt r hr).1; omega))
  have S15 := B15.size
  have rb_15 := rb_14.farUp hg15 w5.heap.size (fun hn b off e => by have := kb hn b off e; omega) (fun r hr => (oG_14.lt r hr).1)
  have rs_15 := rs_14.farUp hg15 w5.heap.size (fun hn b off e => by have := ks hn b off e; omega) (fun r hr => (oG_14.lt r hr).1)
  have oW_15 := oW_14.farUp hg15 w5.heap.size (fun g hg => by have := (kW g hg).2; omega) (fun r hr => (oG_14.lt r hr).1)
  go_wp2_with fail
  refine (heldByteS_any _ _ _ _ _ o15m.rd (by omega) (by omega) (by omega)).mono ?_
  rintro e x1 ⟨rfl, rfl⟩
  go_wp2_with fail
  refine (toByteS_any _ _ _ zb _ rb_15 smb).mono ?_
  rintro e w16 ⟨Ahb, chb, rfl, ohb, hb16⟩
  rw [lb.out] at ohb ⊢
  have s16 := hb16.size
  have B16 := B15.trans (hb16.mono S15)
  have S16 := B16.size
  have rb_16 := rb_15.below hb16 (Nat.le_refl _)
  have rs_16 := rs_15.below hb16 (Nat.le_refl _)
  have oW_16 := oW_15.below hb16 (Nat.le_refl _)
  clear oW_15
  have oG_16 := o15m.below hb16 (Nat.le_refl _)
  clear o15m
  have khb := ohb.lt
  go_wp2_with fail
  refine (toByteS_any _ _ _ zs _ rs_16 sms).mono ?_
  rintro e w17 ⟨Ahs, chs, rfl, ohs, hb17⟩
  rw [ls.out] at ohs ⊢
  have s17 := hb17.size
  have B17 := B16.trans (hb17.mono S16)
  have S17 := B17.size
  have rb_17 := rb_16.below hb17 (Nat.le_refl _)
  have rs_17 := rs_16.below hb17 (Nat.le_refl _)
  have oW_17 := oW_16.below hb17 (Nat.le_refl _)
  clear oW_16
  have oG_17 := oG_16.below hb17 (Nat.le_refl _)
  clear oG_16
  have ohb_17 := ohb.below hb17 (Nat.le_refl _)
  clear ohb
  have khs := ohs.lt
  go_wp2_with fail
  refine (appendBytes_i _ _ _ zb _ _ _ zs _ ohb_17.rd ohs.rd (by omega) (by omega)).mono ?_
  rw [HL.out]
  rintro e w18 ⟨AH, cH, rfl, oH, hb18⟩
  rw [HN.out] at oH ⊢
  have s18 := hb18.size
  have B18 := B17.trans (hb18.mono S17)
  have S18 := B18.size
  have rb_18 := rb_17.below hb18 (Nat.le_refl _)
  have rs_18 := rs_17.below hb18 (Nat.le_refl _)
  have oW_18 := oW_17.below hb18 (Nat.le_refl _)
  clear oW_17
  have oG_18 := oG_17.below hb18 (Nat.le_refl _)
  clear oG_17
  have ohb_18 := ohb_17.below hb18 (Nat.le_refl _)
  clear ohb_17
  have ohs_18 := ohs.below hb18 (Nat.le_refl _)
  clear ohs
  have kH := oH.lt
  go_wp2_with fail
  refine (eqByteS_any _ _ _ LL _ _ _ LL _ oH.rd oW_18.rd (by omega) (by omega)).mono ?_
  rintro e w19 ⟨rfl, hb19⟩
  rw [decide_eq_true rfl]
  have s19 := hb19.size
  have B19 := B18.trans (hb19.mono S18)
  have S19 := B19.size
  have rb_19 := rb_18.below hb19 (Nat.le_refl _)
  have rs_19 := rs_18.below hb19 (Nat.le_refl _)
  have oW_19 := oW_18.below hb19 (Nat.le_refl _)
  clear oW_18
  have oG_19 := oG_18.below hb19 (Nat.le_refl _)
  clear oG_18
  have ohb_19 := ohb_18.below hb19 (Nat.le_refl _)
  clear ohb_18
  have ohs_19 := ohs_18.below hb19 (Nat.le_refl _)
  clear ohs_18
  have oH_19 := oH.below hb19 (Nat.le_refl _)
  clear oH
  go_wp2_with fail
  refine (heldByteS_any _ _ _ _ _ oG_19.rd (by omega) (by omega) (by omega)).mono ?_
  rintro e x2 ⟨rfl, rfl⟩
  go_wp2
  go_ret
  exact ⟨rfl, B19⟩

set_option maxHeartbeats 1000000 in
theorem FnExactEncodeInts_walk {w : World} (Al : Option Addr) (nl cl : Nat) (zl : List Int) (hinl : InInts .i64 w w.heap.size Al nl cl zl) :
    Calls Try.prog 10 #[.slice Al nl cl] w fun e w' => e = .returned (.bool true) ∧ Below w.heap.size w w' := by
  have rl := hinl.1
  have ll := Lib.hid rl.len
  have ccl := hinl.2.1
  clear hinl
  by_cases bigl : (1048576 : Int) < (nl : Int)
  · go_enter Try.func10, Try.ntmps10
    go_wp2
    go_ret
    exact ⟨rfl, Below.refl _ _⟩
  have sml : nl ≤ 1048576 := by omega
  obtain ⟨LL, h_LL⟩ : ∃ y_, y_ = appL [] zl := ⟨_, rfl⟩
  have HL := Lib.hid h_LL.symm
  clear h_LL
  obtain ⟨nL, h_nL⟩ : ∃ y_, y_ = LL.length := ⟨_, rfl⟩
  have HN := Lib.hid h_nL.symm
  have hnL : nL ≤ 90000000 := by have h1 := appL_len [] zl; have h2 := HL.out; have h3 := ll.out; rw [h2] at h1; simp at h1; omega
  clear h_nL
  go_enter Try.func10, Try.ntmps10
  have kl := rl.inB
  go_wp2_with fail
  refine (toIntS_any _ _ _ zl _ rl sml).mono ?_
  rintro e w1 ⟨Apl, cpl, rfl, opl, hb1⟩
  rw [ll.out] at opl ⊢
  have s1 := hb1.size
  have B1 := hb1
  have S1 := B1.size
  have rl_1 := rl.below hb1 (Nat.le_refl _)
  have kpl := opl.lt
  go_wp2_with fail
  refine (encodeInts_s _ _ _ zl _ opl.rd (by omega)).mono ?_
  rw [HL.out]
  rintro e w2 ⟨AW, cW, rfl, oW, hb2⟩
  rw [HN.out] at oW ⊢
  have s2 := hb2.size
  have B2 := B1.trans (hb2.mono S1)
  have S2 := B2.size
  have rl_2 := rl_1.below hb2 (Nat.le_refl _)
  have opl_2 := opl.below hb2 (Nat.le_refl _)
  clear opl
  have kW := oW.lt
  clear opl_2 kpl
  go_wp2_with fail
  refine (toIntS_any _ _ _ zl _ rl_2 sml).mono ?_
  rintro e w3 ⟨Aql, cql, rfl, oql, hb3⟩
  rw [ll.out] at oql ⊢
  have s3 := hb3.size
  have B3 := B2.trans (hb3.mono S2)
  have S3 := B3.size
  have rl_3 := rl_2.below hb3 (Nat.le_refl _)
  have oW_3 := oW.below hb3 (Nat.le_refl _)
  clear oW
  have kql := oql.lt
  go_wp2_with fail
  refine (encodeInts_i _ _ _ zl _ oql.rd (by omega)).mono ?_
  rw [HL.out]
  rintro e w4 ⟨AG, cG, rfl, oG, hb4⟩
  rw [HN.out] at oG ⊢
  have s4 := hb4.size
  have B4 := B3.trans (hb4.mono S3)
  have S4 := B4.size
  have rl_4 := rl_3.below hb4 (Nat.le_refl _)
  have oW_4 := oW_3.below hb4 (Nat.le_refl _)
  clear oW_3
  have oql_4 := oql.below hb4 (Nat.le_refl _)
  clear oql
  have kG := oG.lt
  go_wp2_with fail
  refine (eqByteS_any _ _ _ LL _ _ _ LL _ oG.rd oW_4.rd (by omega) (by omega)).mono ?_
  rintro e w5 ⟨rfl, hb5⟩
  rw [decide_eq_true rfl]
  have s5 := hb5.size
  have B5 := B4.trans (hb5.mono S4)
  have S5 := B5.size
  have rl_5 := rl_4.below hb5 (Nat.le_refl _)
  have oW_5 := oW_4.below hb5 (Nat.le_refl _)
  clear oW_4
  have oql_5 := oql_4.below hb5 (Nat.le_refl _)
  clear oql_4
  have oG_5 := oG.below hb5 (Nat.le_refl _)
  clear oG
  go_wp2_with fail
  refine (toIntS_any _ _ _ zl _ rl_5 sml).mono ?_
  rintro e w6 ⟨Atl, ctl, rfl, otl, hb6⟩
  rw [ll.out] at otl ⊢
  have s6 := hb6.size
  have B6 := B5.trans (hb6.mono S5)
  have S6 := B6.size
  have rl_6 := rl_5.below hb6 (Nat.le_refl _)
  have oW_6 := oW_5.below hb6 (Nat.le_refl _)
  clear oW_5
  have oql_6 := oql_5.below hb6 (Nat.le_refl _)
  clear oql_5
  have oG_6 := oG_5.below hb6 (Nat.le_refl _)
  clear oG_5
  have ktl := otl.lt
  go_wp2_with fail
  refine (eqIntS_any _ _ _ zl _ _ _ zl _ oql_6.rd otl.rd (by omega) (by omega)).mono ?_
  rintro e w7 ⟨rfl, hb7⟩
  rw [decide_eq_true rfl]
  have s7 := hb7.size
  have B7 := B6.trans (hb7.mono S6)
  have S7 := B7.size
  have rl_7 := rl_6.below hb7 (Nat.le_refl _)
  have oW_7 := oW_6.below hb7 (Nat.le_refl _)
  clear oW_6
  have oql_7 := oql_6.below hb7 (Nat.le_refl _)
  clear oql_6
  have oG_7 := oG_6.below hb7 (Nat.le_refl _)
  clear oG_6
  have otl_7 := otl.below hb7 (Nat.le_refl _)
  clear otl
  clear otl_7 ktl
  go_wp2_with fail
  refine (markIntS_any _ _ _ _ _ _ _ oql_7 (by omega) (by omega) (by omega)).mono ?_
  rintro e w8 ⟨rfl, o8m, hg8⟩
  have s8 := hg8.size
  have B8 := B7.trans ((Below.refl w.heap.size _).grown hg8 S7 (fun r hr => by have := (oql_7.lt r hr).1; omega))
  have S8 := B8.size
  have rl_8 := rl_7.farUp hg8 w2.heap.size (fun hn b off e => by have := kl hn b off e; omega) (fun r hr => (oql_7.lt r hr).1)
  have oW_8 := oW_7.farUp hg8 w2.heap.size (fun g hg => by have := (kW g hg).2; omega) (fun r hr => (oql_7.lt r hr).1)
  have oG_8 := oG_7.farDown hg8 (fun r hr => by have := (kql r hr).2; omega)
  clear o8m kql
  go_wp2_with fail
  refine (eqByteS_any _ _ _ LL _ _ _ LL _ oG_8.rd oW_8.rd (by omega) (by omega)).mono ?_
  rintro e w9 ⟨rfl, hb9⟩
  rw [decide_eq_true rfl]
  have s9 := hb9.size
  have B9 := B8.trans (hb9.mono S8)
  have S9 := B9.size
  have rl_9 := rl_8.below hb9 (Nat.le_refl _)
  have oW_9 := oW_8.below hb9 (Nat.le_refl _)
  clear oW_8
  have oG_9 := oG_8.below hb9 (Nat.le_refl _)
  clear oG_8
  go_wp2_with fail
  refine (markByteS_any _ _ _ _ _ _ _ oG_9 (by omega) (by omega) (by omega)).mono ?_
  rintro e w10 ⟨rfl, o10m, hg10⟩
  have s10 := hg10.size
  have B10 := B9.trans ((Below.refl w.heap.size _).grown hg10 S9 (fun r hr => by have := (oG_9.lt r hr).1; omega))
  have S10 := B10.size
  have rl_10 := rl_9.farUp hg10 w3.heap.size (fun hn b off e => by have := kl hn b off e; omega) (fun r hr => (oG_9.lt r hr).1)
  have oW_10 := oW_9.farUp hg10 w3.heap.size (fun g hg => by have := (kW g hg).2; omega) (fun r hr => (oG_9.lt r hr).1)
  go_wp2_with fail
  refine (heldByteS_any _ _ _ _ _ o10m.rd (by omega) (by omega) (by omega)).mono ?_
  rintro e x1 ⟨rfl, rfl⟩
  go_wp2_with fail
  refine (toIntS_any _ _ _ zl _ rl_10 sml).mono ?_
  rintro e w11 ⟨Ahl, chl, rfl, ohl, hb11⟩
  rw [ll.out] at ohl ⊢
  have s11 := hb11.size
  have B11 := B10.trans (hb11.mono S10)
  have S11 := B11.size
  have rl_11 := rl_10.below hb11 (Nat.le_refl _)
  have oW_11 := oW_10.below hb11 (Nat.le_refl _)
  clear oW_10
  have oG_11 := o10m.below hb11 (Nat.le_refl _)
  clear o10m
  have khl := ohl.lt
  go_wp2_with fail
  refine (encodeInts_i _ _ _ zl _ ohl.rd (by omega)).mono ?_
  rw [HL.out]
  rintro e w12 ⟨AH, cH, rfl, oH, hb12⟩
  rw [HN.out] at oH ⊢
  have s12 := hb12.size
  have B12 := B11.trans (hb12.mono S11)
  have S12 := B12.size
  have rl_12 := rl_11.below hb12 (Nat.le_refl _)
  have oW_12 := oW_11.below hb12 (Nat.le_refl _)
  clear oW_11
  have oG_12 := oG_11.below hb12 (Nat.le_refl _)
  clear oG_11
  have ohl_12 := ohl.below hb12 (Nat.le_refl _)
  clear ohl
  have kH := oH.lt
  go_wp2_with fail
  refine (eqByteS_any _ _ _ LL _ _ _ LL _ oH.rd oW_12.rd (by omega) (by omega)).mono ?_
  rintro e w13 ⟨rfl, hb13⟩
  rw [decide_eq_true rfl]
  have s13 := hb13.size
  have B13 := B12.trans (hb13.mono S12)
  have S13 := B13.size
  have rl_13 := rl_12.below hb13 (Nat.le_refl _)
  have oW_13 := oW_12.below hb13 (Nat.le_refl _)
  clear oW_12
  have oG_13 := oG_12.below hb13 (Nat.le_refl _)
  clear oG_12
  have ohl_13 := ohl_12.below hb13 (Nat.le_refl _)
  clear ohl_12
  have oH_13 := oH.below hb13 (Nat.le_refl _)
  clear oH
  go_wp2_with fail
  refine (heldByteS_any _ _ _ _ _ oG_13.rd (by omega) (by omega) (by omega)).mono ?_
  rintro e x2 ⟨rfl, rfl⟩
  go_wp2
  go_ret
  exact ⟨rfl, B13⟩

set_option maxHeartbeats 1000000 in
theorem FnExactReadBytes_walk {w : World} (Ab : Option Addr) (nb cb : Nat) (zb : List Int) (hinb : InInts .u8 w w.heap.size Ab nb cb zb) (a : Int) (w_a : (Lit.int .i64 a).wf = true) (m : Int) (w_m : (Lit.int .i64 m).wf = true) :
    Calls Try.prog 9 #[.slice Ab nb cb, .int .i64 a, .int .i64 m] w fun e w' => e = .returned (.bool true) ∧ Below w.heap.size w w' := by
  have rb := hinb.1
  have lb := Lib.hid rb.len
  have byb := Lib.hid (bys_of hinb.2.2.2.1)
  have ccb := hinb.2.1
  clear hinb
  have hw1_a := (wf64 w_a).1
  have hw2_a := (wf64 w_a).2
  clear w_a
  have hw1_m := (wf64 w_m).1
  have hw2_m := (wf64 w_m).2
  clear w_m
  by_cases bigb : (1048576 : Int) < (nb : Int)
  · go_enter Try.func9, Try.ntmps9
    go_wp2
    go_ret
    exact ⟨rfl, Below.refl _ _⟩
  have smb : nb ≤ 1048576 := by omega
  obtain ⟨RR, h_RR⟩ : ∃ y_, y_ = rdBs zb a m := ⟨_, rfl⟩
  have HR := Lib.hid h_RR.symm
  clear h_RR
  obtain ⟨LL, h_LL⟩ : ∃ y_, y_ = lL RR := ⟨_, rfl⟩
  have HL := Lib.hid h_LL.symm
  obtain ⟨nL, h_nL⟩ : ∃ y_, y_ = LL.length := ⟨_, rfl⟩
  have HN := Lib.hid h_nL.symm
  have hnL : nL ≤ 90000000 := by have h1 := rdBs_len zb a m; have h2 := HL.out; have h3 := lb.out; rw [HR.out, h2] at h1; omega
  obtain ⟨qq, h_qq⟩ : ∃ y_, y_ = lQ RR := ⟨_, rfl⟩
  have HQ := Lib.hid h_qq.symm
  obtain ⟨bb, h_bb⟩ : ∃ y_, y_ = lB RR := ⟨_, rfl⟩
  have HB := Lib.hid h_bb.symm
  have hsame := bne_self_bool bb
  clear h_LL h_nL h_qq h_bb
  go_enter Try.func9, Try.ntmps9
  have kb := rb.inB
  go_wp2_with fail
  refine (toByteS_any _ _ _ zb _ rb smb).mono ?_
  rintro e w1 ⟨Ap, cp, rfl, op, hb1⟩
  rw [lb.out] at op ⊢
  have s1 := hb1.size
  have B1 := hb1
  have S1 := B1.size
  have rb_1 := rb.below hb1 (Nat.le_refl _)
  have kp := op.lt
  go_wp2_with fail
  refine (readBytes_s _ _ _ zb a m _ op.rd byb.out (by omega) op.le hw2_a).mono ?_
  rw [HR.out]
  rintro e w2 ⟨AW, cW, rfl, oW, hb2⟩
  rw [HL.out, HN.out] at oW
  rw [HL.out, HN.out, HQ.out, HB.out]
  have s2 := hb2.size
  have B2 := B1.trans (hb2.mono S1)
  have S2 := B2.size
  have rb_2 := rb_1.below hb2 (Nat.le_refl _)
  have op_2 := op.below hb2 (Nat.le_refl _)
  clear op
  have kW := oW.lt
  clear op_2 kp
  go_wp2_with fail
  refine (toByteS_any _ _ _ zb _ rb_2 smb).mono ?_
  rintro e w3 ⟨Aq, cq, rfl, oq, hb3⟩
  rw [lb.out] at oq ⊢
  have s3 := hb3.size
  have B3 := B2.trans (hb3.mono S2)
  have S3 := B3.size
  have rb_3 := rb_2.below hb3 (Nat.le_refl _)
  have oW_3 := oW.below hb3 (Nat.le_refl _)
  clear oW
  have kq := oq.lt
  go_wp2_with fail
  refine (readBytes_i _ _ _ zb a m _ oq.rd byb.out (by omega) oq.le hw2_a).mono ?_
  rw [HR.out]
  rintro e w4 ⟨AG, cG, rfl, oG, hb4⟩
  rw [HL.out, HN.out] at oG
  rw [HL.out, HN.out, HQ.out, HB.out]
  have s4 := hb4.size
  have B4 := B3.trans (hb4.mono S3)
  have S4 := B4.size
  have rb_4 := rb_3.below hb4 (Nat.le_refl _)
  have oW_4 := oW_3.below hb4 (Nat.le_refl _)
  clear oW_3
  have oq_4 := oq.below hb4 (Nat.le_refl _)
  clear oq
  have kG := oG.lt
  go_wp2_with fail
  refine (eqByteS_any _ _ _ LL _ _ _ LL _ oG.rd oW_4.rd (by omega) (by omega)).mono ?_
  rintro e w5 ⟨rfl, hb5⟩
  rw [decide_eq_true rfl]
  have s5 := hb5.size
  have B5 := B4.trans (hb5.mono S4)
  have S5 := B5.size
  have rb_5 := rb_4.below hb5 (Nat.le_refl _)
  have oW_5 := oW_4.below hb5 (Nat.le_refl _)
  clear oW_4
  have oq_5 := oq_4.below hb5 (Nat.le_refl _)
  clear oq_4
  have oG_5 := oG.below hb5 (Nat.le_refl _)
  clear oG
  go_wp2_with fail
  refine (toByteS_any _ _ _ zb _ rb_5 smb).mono ?_
  rintro e w6 ⟨At, ct, rfl, ot, hb6⟩
  rw [lb.out] at ot ⊢
  have s6 := hb6.size
  have B6 := B5.trans (hb6.mono S5)
  have S6 := B6.size
  have rb_6 := rb_5.below hb6 (Nat.le_refl _)
  have oW_6 := oW_5.below hb6 (Nat.le_refl _)
  clear oW_5
  have oq_6 := oq_5.below hb6 (Nat.le_refl _)
  clear oq_5
  have oG_6 := oG_5.below hb6 (Nat.le_refl _)
  clear oG_5
  have kt := ot.lt
  go_wp2_with fail
  refine (eqByteS_any _ _ _ zb _ _ _ zb _ oq_6.rd ot.rd (by omega) (by omega)).mono ?_
  rintro e w7 ⟨rfl, hb7⟩
  rw [decide_eq_true rfl]
  have s7 := hb7.size
  have B7 := B6.trans (hb7.mono S6)
  have S7 := B7.size
  have rb_7 := rb_6.below hb7 (Nat.le_refl _)
  have oW_7 := oW_6.below hb7 (Nat.le_refl _)
  clear oW_6
  have oq_7 := oq_6.below hb7 (Nat.le_refl _)
  clear oq_6
  have oG_7 := oG_6.below hb7 (Nat.le_refl _)
  clear oG_6
  have ot_7 := ot.below hb7 (Nat.le_refl _)
  clear ot
  clear ot_7 kt
  go_wp2_with fail
  refine (markByteS_any _ _ _ _ _ _ _ oq_7 (by omega) (by omega) (by omega)).mono ?_
  rintro e w8 ⟨rfl, o8m, hg8⟩
  have s8 := hg8.size
  have B8 := B7.trans ((Below.refl w.heap.size _).grown hg8 S7 (fun r hr => by have := (oq_7.lt r hr).1; omega))
  have S8 := B8.size
  have rb_8 := rb_7.farUp hg8 w2.heap.size (fun hn b off e => by have := kb hn b off e; omega) (fun r hr => (oq_7.lt r hr).1)
  have oW_8 := oW_7.farUp hg8 w2.heap.size (fun g hg => by have := (kW g hg).2; omega) (fun r hr => (oq_7.lt r hr).1)
  have oG_8 := oG_7.farDown hg8 (fun r hr => by have := (kq r hr).2; omega)
  clear o8m kq
  go_wp2_with fail
  refine (eqByteS_any _ _ _ LL _ _ _ LL _ oG_8.rd oW_8.rd (by omega) (by omega)).mono ?_
  rintro e w9 ⟨rfl, hb9⟩
  rw [decide_eq_true rfl]
  have s9 := hb9.size
  have B9 := B8.trans (hb9.mono S8)
  have S9 := B9.size
  have rb_9 := rb_8.below hb9 (Nat.le_refl _)
  have oW_9 := oW_8.below hb9 (Nat.le_refl _)
  clear oW_8
  have oG_9 := oG_8.below hb9 (Nat.le_refl _)
  clear oG_8
  go_wp2_with fail
  refine (markByteS_any _ _ _ _ _ _ _ oG_9 (by omega) (by omega) (by omega)).mono ?_
  rintro e w10 ⟨rfl, o10m, hg10⟩
  have s10 := hg10.size
  have B10 := B9.trans ((Below.refl w.heap.size _).grown hg10 S9 (fun r hr => by have := (oG_9.lt r hr).1; omega))
  have S10 := B10.size
  have rb_10 := rb_9.farUp hg10 w3.heap.size (fun hn b off e => by have := kb hn b off e; omega) (fun r hr => (oG_9.lt r hr).1)
  have oW_10 := oW_9.farUp hg10 w3.heap.size (fun g hg => by have := (kW g hg).2; omega) (fun r hr => (oG_9.lt r hr).1)
  go_wp2_with fail
  refine (heldByteS_any _ _ _ _ _ o10m.rd (by omega) (by omega) (by omega)).mono ?_
  rintro e x1 ⟨rfl, rfl⟩
  go_wp2_with fail
  refine (toByteS_any _ _ _ zb _ rb_10 smb).mono ?_
  rintro e w11 ⟨Ah, ch, rfl, oh, hb11⟩
  rw [lb.out] at oh ⊢
  have s11 := hb11.size
  have B11 := B10.trans (hb11.mono S10)
  have S11 := B11.size
  have rb_11 := rb_10.below hb11 (Nat.le_refl _)
  have oW_11 := oW_10.below hb11 (Nat.le_refl _)
  clear oW_10
  have oG_11 := o10m.below hb11 (Nat.le_refl _)
  clear o10m
  have kh := oh.lt
  go_wp2_with fail
  refine (readBytes_i _ _ _ zb a m _ oh.rd byb.out (by omega) oh.le hw2_a).mono ?_
  rw [HR.out]
  rintro e w12 ⟨AH, cH, rfl, oH, hb12⟩
  rw [HL.out, HN.out] at oH
  rw [HL.out, HN.out, HQ.out, HB.out]
  have s12 := hb12.size
  have B12 := B11.trans (hb12.mono S11)
  have S12 := B12.size
  have rb_12 := rb_11.below hb12 (Nat.le_refl _)
  have oW_12 := oW_11.below hb12 (Nat.le_refl _)
  clear oW_11
  have oG_12 := oG_11.below hb12 (Nat.le_refl _)
  clear oG_11
  have oh_12 := oh.below hb12 (Nat.le_refl _)
  clear oh
  have kH := oH.lt
  go_wp2_with fail
  refine (eqByteS_any _ _ _ LL _ _ _ LL _ oH.rd oW_12.rd (by omega) (by omega)).mono ?_
  rintro e w13 ⟨rfl, hb13⟩
  rw [decide_eq_true rfl]
  have s13 := hb13.size
  have B13 := B12.trans (hb13.mono S12)
  have S13 := B13.size
  have rb_13 := rb_12.below hb13 (Nat.le_refl _)
  have oW_13 := oW_12.below hb13 (Nat.le_refl _)
  clear oW_12
  have oG_13 := oG_12.below hb13 (Nat.le_refl _)
  clear oG_12
  have oh_13 := oh_12.below hb13 (Nat.le_refl _)
  clear oh_12
  have oH_13 := oH.below hb13 (Nat.le_refl _)
  clear oH
  go_wp2_with fail
  refine (heldByteS_any _ _ _ _ _ oG_13.rd (by omega) (by omega) (by omega)).mono ?_
  rintro e x2 ⟨rfl, rfl⟩
  go_wp2
  go_ret
  exact ⟨rfl, B13⟩

set_option maxHeartbeats 1000000 in
theorem FnExactDecodeInts_walk {w : World} (Ab : Option Addr) (nb cb : Nat) (zb : List Int) (hinb : InInts .u8 w w.heap.size Ab nb cb zb) (a : Int) (w_a : (Lit.int .i64 a).wf = true) (m : Int) (w_m : (Lit.int .i64 m).wf = true) :
    Calls Try.prog 11 #[.slice Ab nb cb, .int .i64 a, .int .i64 m] w fun e w' => e = .returned (.bool true) ∧ Below w.heap.size w w' := by
  have rb := hinb.1
  have lb := Lib.hid rb.len
  have byb := Lib.hid (bys_of hinb.2.2.2.1)
  have ccb := hinb.2.1
  clear hinb
  have hw1_a := (wf64 w_a).1
  have hw2_a := (wf64 w_a).2
  clear w_a
  have hw1_m := (wf64 w_m).1
  have hw2_m := (wf64 w_m).2
  clear w_m
  by_cases bigb : (1048576 : Int) < (nb : Int)
  · go_enter Try.func11, Try.ntmps11
    go_wp2
    go_ret
    exact ⟨rfl, Below.refl _ _⟩
  have smb : nb ≤ 1048576 := by omega
  obtain ⟨RR, h_RR⟩ : ∃ y_, y_ = decI zb a m := ⟨_, rfl⟩
  have HR := Lib.hid h_RR.symm
  clear h_RR
  obtain ⟨LL, h_LL⟩ : ∃ y_, y_ = lL RR := ⟨_, rfl⟩
  have HL := Lib.hid h_LL.symm
  obtain ⟨nL, h_nL⟩ : ∃ y_, y_ = LL.length := ⟨_, rfl⟩
  have HN := Lib.hid h_nL.symm
  have hnL : nL ≤ 90000000 := by have h1 := decI_len zb a m; have h2 := HL.out; rw [HR.out, h2] at h1; omega
  obtain ⟨qq, h_qq⟩ : ∃ y_, y_ = lQ RR := ⟨_, rfl⟩
  have HQ := Lib.hid h_qq.symm
  obtain ⟨bb, h_bb⟩ : ∃ y_, y_ = lB RR := ⟨_, rfl⟩
  have HB := Lib.hid h_bb.symm
  have hsame := bne_self_bool bb
  clear h_LL h_nL h_qq h_bb
  go_enter Try.func11, Try.ntmps11
  have kb := rb.inB
  go_wp2_with fail
  refine (toByteS_any _ _ _ zb _ rb smb).mono ?_
  rintro e w1 ⟨Ap, cp, rfl, op, hb1⟩
  rw [lb.out] at op ⊢
  have s1 := hb1.size
  have B1 := hb1
  have S1 := B1.size
  have rb_1 := rb.below hb1 (Nat.le_refl _)
  have kp := op.lt
  go_wp2_with fail
  refine (decodeInts_s _ _ _ zb a m _ op.rd byb.out (by omega)).mono ?_
  rw [HR.out]
  rintro e w2 ⟨AW, cW, rfl, oW, hb2⟩
  rw [HL.out, HN.out] at oW
  rw [HL.out, HN.out, HQ.out, HB.out]
  have s2 := hb2.size
  have B2 := B1.trans (hb2.mono S1)
  have S2 := B2.size
  have rb_2 := rb_1.below hb2 (Nat.le_refl _)
  have op_2 := op.below hb2 (Nat.le_refl _)
  clear op
  have kW := oW.lt
  clear op_2 kp
  go_wp2_with fail
  refine (toByteS_any _ _ _ zb _ rb_2 smb).mono ?_
  rintro e w3 ⟨Aq, cq, rfl, oq, hb3⟩
  rw [lb.out] at oq ⊢
  have s3 := hb3.size
  have B3 := B2.trans (hb3.mono S2)
  have S3 := B3.size
  have rb_3 := rb_2.below hb3 (Nat.le_refl _)
  have oW_3 := oW.below hb3 (Nat.le_refl _)
  clear oW
  have kq := oq.lt
  go_wp2_with fail
  refine (decodeInts_i _ _ _ zb a m _ oq.rd byb.out (by omega)).mono ?_
  rw [HR.out]
  rintro e w4 ⟨AG, cG, rfl, oG, hb4⟩
  rw [HL.out, HN.out] at oG
  rw [HL.out, HN.out, HQ.out, HB.out]
  have s4 := hb4.size
  have B4 := B3.trans (hb4.mono S3)
  have S4 := B4.size
  have rb_4 := rb_3.below hb4 (Nat.le_refl _)
  have oW_4 := oW_3.below hb4 (Nat.le_refl _)
  clear oW_3
  have oq_4 := oq.below hb4 (Nat.le_refl _)
  clear oq
  have kG := oG.lt
  go_wp2_with fail
  refine (eqIntS_any _ _ _ LL _ _ _ LL _ oG.rd oW_4.rd (by omega) (by omega)).mono ?_
  rintro e w5 ⟨rfl, hb5⟩
  rw [decide_eq_true rfl]
  have s5 := hb5.size
  have B5 := B4.trans (hb5.mono S4)
  have S5 := B5.size
  have rb_5 := rb_4.below hb5 (Nat.le_refl _)
  have oW_5 := oW_4.below hb5 (Nat.le_refl _)
  clear oW_4
  have oq_5 := oq_4.below hb5 (Nat.le_refl _)
  clear oq_4
  have oG_5 := oG.below hb5 (Nat.le_refl _)
  clear oG
  go_wp2_with fail
  refine (toByteS_any _ _ _ zb _ rb_5 smb).mono ?_
  rintro e w6 ⟨At, ct, rfl, ot, hb6⟩
  rw [lb.out] at ot ⊢
  have s6 := hb6.size
  have B6 := B5.trans (hb6.mono S5)
  have S6 := B6.size
  have rb_6 := rb_5.below hb6 (Nat.le_refl _)
  have oW_6 := oW_5.below hb6 (Nat.le_refl _)
  clear oW_5
  have oq_6 := oq_5.below hb6 (Nat.le_refl _)
  clear oq_5
  have oG_6 := oG_5.below hb6 (Nat.le_refl _)
  clear oG_5
  have kt := ot.lt
  go_wp2_with fail
  refine (eqByteS_any _ _ _ zb _ _ _ zb _ oq_6.rd ot.rd (by omega) (by omega)).mono ?_
  rintro e w7 ⟨rfl, hb7⟩
  rw [decide_eq_true rfl]
  have s7 := hb7.size
  have B7 := B6.trans (hb7.mono S6)
  have S7 := B7.size
  have rb_7 := rb_6.below hb7 (Nat.le_refl _)
  have oW_7 := oW_6.below hb7 (Nat.le_refl _)
  clear oW_6
  have oq_7 := oq_6.below hb7 (Nat.le_refl _)
  clear oq_6
  have oG_7 := oG_6.below hb7 (Nat.le_refl _)
  clear oG_6
  have ot_7 := ot.below hb7 (Nat.le_refl _)
  clear ot
  clear ot_7 kt
  go_wp2_with fail
  refine (markByteS_any _ _ _ _ _ _ _ oq_7 (by omega) (by omega) (by omega)).mono ?_
  rintro e w8 ⟨rfl, o8m, hg8⟩
  have s8 := hg8.size
  have B8 := B7.trans ((Below.refl w.heap.size _).grown hg8 S7 (fun r hr => by have := (oq_7.lt r hr).1; omega))
  have S8 := B8.size
  have rb_8 := rb_7.farUp hg8 w2.heap.size (fun hn b off e => by have := kb hn b off e; omega) (fun r hr => (oq_7.lt r hr).1)
  have oW_8 := oW_7.farUp hg8 w2.heap.size (fun g hg => by have := (kW g hg).2; omega) (fun r hr => (oq_7.lt r hr).1)
  have oG_8 := oG_7.farDown hg8 (fun r hr => by have := (kq r hr).2; omega)
  clear o8m kq
  go_wp2_with fail
  refine (eqIntS_any _ _ _ LL _ _ _ LL _ oG_8.rd oW_8.rd (by omega) (by omega)).mono ?_
  rintro e w9 ⟨rfl, hb9⟩
  rw [decide_eq_true rfl]
  have s9 := hb9.size
  have B9 := B8.trans (hb9.mono S8)
  have S9 := B9.size
  have rb_9 := rb_8.below hb9 (Nat.le_refl _)
  have oW_9 := oW_8.below hb9 (Nat.le_refl _)
  clear oW_8
  have oG_9 := oG_8.below hb9 (Nat.le_refl _)
  clear oG_8
  go_wp2_with fail
  refine (markIntS_any _ _ _ _ _ _ _ oG_9 (by omega) (by omega) (by omega)).mono ?_
  rintro e w10 ⟨rfl, o10m, hg10⟩
  have s10 := hg10.size
  have B10 := B9.trans ((Below.refl w.heap.size _).grown hg10 S9 (fun r hr => by have := (oG_9.lt r hr).1; omega))
  have S10 := B10.size
  have rb_10 := rb_9.farUp hg10 w3.heap.size (fun hn b off e => by have := kb hn b off e; omega) (fun r hr => (oG_9.lt r hr).1)
  have oW_10 := oW_9.farUp hg10 w3.heap.size (fun g hg => by have := (kW g hg).2; omega) (fun r hr => (oG_9.lt r hr).1)
  go_wp2_with fail
  refine (heldIntS_any _ _ _ _ _ o10m.rd (by omega) (by omega) (by omega)).mono ?_
  rintro e x1 ⟨rfl, rfl⟩
  go_wp2_with fail
  refine (toByteS_any _ _ _ zb _ rb_10 smb).mono ?_
  rintro e w11 ⟨Ah, ch, rfl, oh, hb11⟩
  rw [lb.out] at oh ⊢
  have s11 := hb11.size
  have B11 := B10.trans (hb11.mono S10)
  have S11 := B11.size
  have rb_11 := rb_10.below hb11 (Nat.le_refl _)
  have oW_11 := oW_10.below hb11 (Nat.le_refl _)
  clear oW_10
  have oG_11 := o10m.below hb11 (Nat.le_refl _)
  clear o10m
  have kh := oh.lt
  go_wp2_with fail
  refine (decodeInts_i _ _ _ zb a m _ oh.rd byb.out (by omega)).mono ?_
  rw [HR.out]
  rintro e w12 ⟨AH, cH, rfl, oH, hb12⟩
  rw [HL.out, HN.out] at oH
  rw [HL.out, HN.out, HQ.out, HB.out]
  have s12 := hb12.size
  have B12 := B11.trans (hb12.mono S11)
  have S12 := B12.size
  have rb_12 := rb_11.below hb12 (Nat.le_refl _)
  have oW_12 := oW_11.below hb12 (Nat.le_refl _)
  clear oW_11
  have oG_12 := oG_11.below hb12 (Nat.le_refl _)
  clear oG_11
  have oh_12 := oh.below hb12 (Nat.le_refl _)
  clear oh
  have kH := oH.lt
  go_wp2_with fail
  refine (eqIntS_any _ _ _ LL _ _ _ LL _ oH.rd oW_12.rd (by omega) (by omega)).mono ?_
  rintro e w13 ⟨rfl, hb13⟩
  rw [decide_eq_true rfl]
  have s13 := hb13.size
  have B13 := B12.trans (hb13.mono S12)
  have S13 := B13.size
  have rb_13 := rb_12.below hb13 (Nat.le_refl _)
  have oW_13 := oW_12.below hb13 (Nat.le_refl _)
  clear oW_12
  have oG_13 := oG_12.below hb13 (Nat.le_refl _)
  clear oG_12
  have oh_13 := oh_12.below hb13 (Nat.le_refl _)
  clear oh_12
  have oH_13 := oH.below hb13 (Nat.le_refl _)
  clear oH
  go_wp2_with fail
  refine (heldIntS_any _ _ _ _ _ oG_13.rd (by omega) (by omega) (by omega)).mono ?_
  rintro e x2 ⟨rfl, rfl⟩
  go_wp2
  go_ret
  exact ⟨rfl, B13⟩
end Go.Proofs.Ytblfophmalofaaa
