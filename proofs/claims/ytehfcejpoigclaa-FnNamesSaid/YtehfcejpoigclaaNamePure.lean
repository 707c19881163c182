/- Names of ASes in plain Lean: every AS of a small topology is found by its name. And the contracts of KindName. -/
import Derived.Test.YtehfcejpoigclaaRows
import Derived.Test.YtehfcejpoigclaaMem
import Derived.Test.YtehfcejpoigclaaSetPure
import Derived.Test.YtehfcejpoigclaaRng
import Derived.Test.YtehfcejpoigclaaName1
import Derived.Test.YtehfcejpoigclaaName2
import Derived.Deep.QuietTactic
import Derived.BigQuiet
import Derived.WalkSmall
namespace Go.Proofs.Ytehfcejpoigclaa
open Go.RowKit
set_option linter.unusedVariables false

theorem strN_eq_iff (a b : ByteArray) : (a.toList == b.toList) = decide (a = b) := by
  rw [Bool.eq_iff_iff, beq_iff_eq, decide_eq_true_eq]
  constructor
  · intro h
    apply ByteArray.ext
    apply Array.toList_inj.1
    rw [← Go.ByteArray.toList_eq, ← Go.ByteArray.toList_eq]; exact h
  · rintro rfl
    rfl
theorem asT_last {xs : List As} {k : Nat} {x : As} (hx : xs[k]? = some x) (hk : k < 10) : asT xs (k : Int) = fmtI x.isd ++ [45] ++ [48 + (k : Int)] := by
  have h0 : (0 : Int) ≤ (k : Int) := by omega
  have h1 : fmtI (k : Int) = [48 + (k : Int)] := by
    unfold fmtI
    rw [if_neg (by omega), Int.natAbs_natCast, digs_small hk]
  unfold asT
  rw [if_pos h0, Int.toNat_natCast, hx]
  simp [h1]
theorem asT_inj {xs : List As} {j k : Nat} (hn : xs.length ≤ 8) (hj : j < xs.length) (hk : k < xs.length) (h : asT xs (j : Int) = asT xs (k : Int)) : j = k := by
  obtain ⟨x, hx⟩ : ∃ x, xs[j]? = some x := ⟨_, List.getElem?_eq_getElem hj⟩
  obtain ⟨y, hy⟩ : ∃ y, xs[k]? = some y := ⟨_, List.getElem?_eq_getElem hk⟩
  rw [asT_last hx (by omega), asT_last hy (by omega)] at h
  have := (List.append_inj' h rfl).2
  injection this with this
  omega
theorem hit_eq {xs : List As} {j k : Nat} (hn : xs.length ≤ 8) (hj : j < xs.length) (hk : k < xs.length) : hit xs (strOfNums (asT xs (k : Int))) j = decide (j = k) := by
  unfold hit
  rw [strN_eq_iff, decide_eq_decide]
  constructor
  · intro h
    have h' := congrArg bl h
    rw [bl_strOf _ (asT_range xs _), bl_strOf _ (asT_range xs _)] at h'
    exact asT_inj hn hj hk h'
  · rintro rfl
    rfl
theorem par_back {xs : List As} {k : Nat} (hn : xs.length ≤ 8) (hk : k < xs.length) : parK xs (strOfNums (asT xs (k : Int))) = some k := by
  refine par_hit (fun j hj => ?_) hk ?_
  · rw [hit_eq hn (by omega) hk]
    exact decide_eq_false (by omega)
  · rw [hit_eq hn hk hk]
    exact decide_eq_true rfl
theorem parA_back {xs : List As} {k : Nat} (hn : xs.length ≤ 8) (hk : k < xs.length) : parA xs (strOfNums (asT xs (k : Int))) = (k : Int) := by simp [parA, par_back hn hk]
theorem parB_back {xs : List As} {k : Nat} (hn : xs.length ≤ 8) (hk : k < xs.length) : parB xs (strOfNums (asT xs (k : Int))) = true := by simp [parB, par_back hn hk]
theorem par_ok (xs : List As) (s : ByteArray) : (parB xs s == decide (0 ≤ parA xs s)) = true := by
  unfold parA parB
  cases parK xs s with
  | none => simp
  | some k => simp

def kinds6 : List ByteArray := [⟨#[110, 111, 110, 101]⟩, ⟨#[99, 111, 114, 101]⟩, ⟨#[99, 104, 105, 108, 100]⟩, ⟨#[112, 97, 114, 101, 110, 116]⟩, ⟨#[112, 101, 101, 114]⟩, ⟨#[115, 101, 108, 102]⟩]
def kindT (k : Int) : ByteArray := if 0 ≤ k ∧ k ≤ 5 then kinds6.getD k.toNat ⟨#[]⟩ else ⟨#[]⟩
theorem kindT_out {k : Int} (h : ¬ (0 ≤ k ∧ k ≤ 5)) : kindT k = ⟨#[]⟩ := by rw [kindT, if_neg h]
set_option maxHeartbeats 1000000 in
theorem kindName_i (k : Int) (w : World) : Calls Try.prog 42 #[.int .i64 k] w fun e w' => e = .returned (.string (kindT k)) ∧ Below w.heap.size w w' := by
  by_cases h : 0 ≤ k ∧ k ≤ 5
  · rcases (show k = 0 ∨ k = 1 ∨ k = 2 ∨ k = 3 ∨ k = 4 ∨ k = 5 from by omega) with rfl | rfl | rfl | rfl | rfl | rfl
    · have v : inR 0 0 5 = true := by decide
      have hi : ∀ W, (Instr.index 68 (.agg #[.string ⟨#[110, 111, 110, 101]⟩, .string ⟨#[99, 111, 114, 101]⟩, .string ⟨#[99, 104, 105, 108, 100]⟩, .string ⟨#[112, 97, 114, 101, 110, 116]⟩, .string ⟨#[112, 101, 101, 114]⟩, .string ⟨#[115, 101, 108, 102]⟩]) (.int .i64 0)).run Try.prog W = .ok (.string ⟨#[110, 111, 110, 101]⟩) W := fun _ => by kernel_rfl
      go_enter Try.func42, Try.ntmps42
      go_wp2_with (first | (go_at_call 54; refine (inRg_i _ _ _ _).mono ?_; rintro e w' ⟨rfl, rfl⟩))
      go_ret
      exact ⟨rfl, by repeat (first | exact Below.refl _ _ | exact Nat.le_refl _ | apply Below.drew | apply Below.alloc)⟩
    · have v : inR 1 0 5 = true := by decide
      have hi : ∀ W, (Instr.index 68 (.agg #[.string ⟨#[110, 111, 110, 101]⟩, .string ⟨#[99, 111, 114, 101]⟩, .string ⟨#[99, 104, 105, 108, 100]⟩, .string ⟨#[112, 97, 114, 101, 110, 116]⟩, .string ⟨#[112, 101, 101, 114]⟩, .string ⟨#[115, 101, 108, 102]⟩]) (.int .i64 1)).run Try.prog W = .ok (.string ⟨#[99, 111, 114, 101]⟩) W := fun _ => by kernel_rfl
      go_enter Try.func42, Try.ntmps42
      go_wp2_with (first | (go_at_call 54; refine (inRg_i _ _ _ _).mono ?_; rintro e w' ⟨rfl, rfl⟩))
      go_ret
      exact ⟨rfl, by repeat (first | exact Below.refl _ _ | exact Nat.le_refl _ | apply Below.drew | apply Below.alloc)⟩
    · have v : inR 2 0 5 = true := by decide
      have hi : ∀ W, (Instr.index 68 (.agg #[.string ⟨#[110, 111, 110, 101]⟩, .string ⟨#[99, 111, 114, 101]⟩, .string ⟨#[99, 104, 105, 108, 100]⟩, .string ⟨#[112, 97, 114, 101, 110, 116]⟩, .string ⟨#[112, 101, 101, 114]⟩, .string ⟨#[115, 101, 108, 102]⟩]) (.int .i64 2)).run Try.prog W = .ok (.string ⟨#[99, 104, 105, 108, 100]⟩) W := fun _ => by kernel_rfl
      go_enter Try.func42, Try.ntmps42
      go_wp2_with (first | (go_at_call 54; refine (inRg_i _ _ _ _).mono ?_; rintro e w' ⟨rfl, rfl⟩))
      go_ret
      exact ⟨rfl, by repeat (first | exact Below.refl _ _ | exact Nat.le_refl _ | apply Below.drew | apply Below.alloc)⟩
    · have v : inR 3 0 5 = true := by decide
      have hi : ∀ W, (Instr.index 68 (.agg #[.string ⟨#[110, 111, 110, 101]⟩, .string ⟨#[99, 111, 114, 101]⟩, .string ⟨#[99, 104, 105, 108, 100]⟩, .string ⟨#[112, 97, 114, 101, 110, 116]⟩, .string ⟨#[112, 101, 101, 114]⟩, .string ⟨#[115, 101, 108, 102]⟩]) (.int .i64 3)).run Try.prog W = .ok (.string ⟨#[112, 97, 114, 101, 110, 116]⟩) W := fun _ => by kernel_rfl
      go_enter Try.func42, Try.ntmps42
      go_wp2_with (first | (go_at_call 54; refine (inRg_i _ _ _ _).mono ?_; rintro e w' ⟨rfl, rfl⟩))
      go_ret
      exact ⟨rfl, by repeat (first | exact Below.refl _ _ | exact Nat.le_refl _ | apply Below.drew | apply Below.alloc)⟩
    · have v : inR 4 0 5 = true := by decide
      have hi : ∀ W, (Instr.index 68 (.agg #[.string ⟨#[110, 111, 110, 101]⟩, .string ⟨#[99, 111, 114, 101]⟩, .string ⟨#[99, 104, 105, 108, 100]⟩, .string ⟨#[112, 97, 114, 101, 110, 116]⟩, .string ⟨#[112, 101, 101, 114]⟩, .string ⟨#[115, 101, 108, 102]⟩]) (.int .i64 4)).run Try.prog W = .ok (.string ⟨#[112, 101, 101, 114]⟩) W := fun _ => by kernel_rfl
      go_enter Try.func42, Try.ntmps42
      go_wp2_with (first | (go_at_call 54; refine (inRg_i _ _ _ _).mono ?_; rintro e w' ⟨rfl, rfl⟩))
      go_ret
      exact ⟨rfl, by repeat (first | exact Below.refl _ _ | exact Nat.le_refl _ | apply Below.drew | apply Below.alloc)⟩
    · have v : inR 5 0 5 = true := by decide
      have hi : ∀ W, (Instr.index 68 (.agg #[.string ⟨#[110, 111, 110, 101]⟩, .string ⟨#[99, 111, 114, 101]⟩, .string ⟨#[99, 104, 105, 108, 100]⟩, .string ⟨#[112, 97, 114, 101, 110, 116]⟩, .string ⟨#[112, 101, 101, 114]⟩, .string ⟨#[115, 101, 108, 102]⟩]) (.int .i64 5)).run Try.prog W = .ok (.string ⟨#[115, 101, 108, 102]⟩) W := fun _ => by kernel_rfl
      go_enter Try.func42, Try.ntmps42
      go_wp2_with (first | (go_at_call 54; refine (inRg_i _ _ _ _).mono ?_; rintro e w' ⟨rfl, rfl⟩))
      go_ret
      exact ⟨rfl, by repeat (first | exact Below.refl _ _ | exact Nat.le_refl _ | apply Below.drew | apply Below.alloc)⟩
  · have v : inR k 0 5 = false := by rw [Bool.eq_false_iff]; intro hh; exact h (inR_iff.1 hh)
    rw [kindT_out h]
    go_enter Try.func42, Try.ntmps42
    go_wp2_with (first | (go_at_call 54; refine (inRg_i _ _ _ _).mono ?_; rintro e w' ⟨rfl, rfl⟩))
    go_ret
    exact ⟨rfl, by repeat (first | exact Below.refl _ _ | exact Nat.le_refl _ | apply Below.drew | apply Below.alloc)⟩
set_option maxHeartbeats 1000000 in
theorem kindName_s (k : Int) (w : World) : Calls Try.prog 43 #[.int .i64 k] w fun e w' => e = .returned (.string (kindT k)) ∧ Below w.heap.size w w' := by
  by_cases h : 0 ≤ k ∧ k ≤ 5
  · rcases (show k = 0 ∨ k = 1 ∨ k = 2 ∨ k = 3 ∨ k = 4 ∨ k = 5 from by omega) with rfl | rfl | rfl | rfl | rfl | rfl
    · have v : inR 0 0 5 = true := by decide
      go_enter Try.func43, Try.ntmps43
      go_wp2_with (first | (go_at_call 57; refine (inRg_s _ _ _ _).mono ?_; rintro e w' ⟨rfl, rfl⟩))
      go_ret
      exact ⟨rfl, by repeat (first | exact Below.refl _ _ | exact Nat.le_refl _ | apply Below.drew | apply Below.alloc)⟩
    · have v : inR 1 0 5 = true := by decide
      go_enter Try.func43, Try.ntmps43
      go_wp2_with (first | (go_at_call 57; refine (inRg_s _ _ _ _).mono ?_; rintro e w' ⟨rfl, rfl⟩))
      go_ret
      exact ⟨rfl, by repeat (first | exact Below.refl _ _ | exact Nat.le_refl _ | apply Below.drew | apply Below.alloc)⟩
    · have v : inR 2 0 5 = true := by decide
      go_enter Try.func43, Try.ntmps43
      go_wp2_with (first | (go_at_call 57; refine (inRg_s _ _ _ _).mono ?_; rintro e w' ⟨rfl, rfl⟩))
      go_ret
      exact ⟨rfl, by repeat (first | exact Below.refl _ _ | exact Nat.le_refl _ | apply Below.drew | apply Below.alloc)⟩
    · have v : inR 3 0 5 = true := by decide
      go_enter Try.func43, Try.ntmps43
      go_wp2_with (first | (go_at_call 57; refine (inRg_s _ _ _ _).mono ?_; rintro e w' ⟨rfl, rfl⟩))
      go_ret
      exact ⟨rfl, by repeat (first | exact Below.refl _ _ | exact Nat.le_refl _ | apply Below.drew | apply Below.alloc)⟩
    · have v : inR 4 0 5 = true := by decide
      go_enter Try.func43, Try.ntmps43
      go_wp2_with (first | (go_at_call 57; refine (inRg_s _ _ _ _).mono ?_; rintro e w' ⟨rfl, rfl⟩))
      go_ret
      exact ⟨rfl, by repeat (first | exact Below.refl _ _ | exact Nat.le_refl _ | apply Below.drew | apply Below.alloc)⟩
    · have v : inR 5 0 5 = true := by decide
      go_enter Try.func43, Try.ntmps43
      go_wp2_with (first | (go_at_call 57; refine (inRg_s _ _ _ _).mono ?_; rintro e w' ⟨rfl, rfl⟩))
      go_ret
      exact ⟨rfl, by repeat (first | exact Below.refl _ _ | exact Nat.le_refl _ | apply Below.drew | apply Below.alloc)⟩
  · have v : inR k 0 5 = false := by rw [Bool.eq_false_iff]; intro hh; exact h (inR_iff.1 hh)
    rw [kindT_out h]
    go_enter Try.func43, Try.ntmps43
    go_wp2_with (first | (go_at_call 57; refine (inRg_s _ _ _ _).mono ?_; rintro e w' ⟨rfl, rfl⟩))
    go_ret
    exact ⟨rfl, by repeat (first | exact Below.refl _ _ | exact Nat.le_refl _ | apply Below.drew | apply Below.alloc)⟩
end Go.Proofs.Ytehfcejpoigclaa
