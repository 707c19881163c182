/- Contracts of isAS/l5Realm, linkOk/l5LinkOk, ValidKey. -/
import Derived.Test.YtehfcejpoigclaaRows
import Derived.Test.YtehfcejpoigclaaMem
import Derived.Test.YtehfcejpoigclaaTopoMem
import Derived.Test.YtehfcejpoigclaaTopoPure
import Derived.Test.YtehfcejpoigclaaSetPure
import Derived.Test.YtehfcejpoigclaaRng
import Derived.Test.YtehfcejpoigclaaValidPure
import Derived.Deep.QuietTactic
import Derived.BigQuiet
import Derived.WalkSmall
import Derived.Deep.RegionHeld3
import Derived.StillTailTactics
import Derived.Outline
namespace Go.Proofs.Ytehfcejpoigclaa
open Go.RowKit
set_option linter.unusedVariables false

theorem ret_boolV {a b : Bool} (h : a = b) : Ending.returned (.bool a) = .returned (.bool b) := by rw [h]
theorem isasV_i (A : Option Addr) (n c : Nat) (L : Option Addr) (m d : Nat) (r : Int) (w : World) (hn : n ≤ 1048576) :
    Calls Try.prog 62 #[.agg #[.slice A n c, .slice L m d], .int .i64 r] w fun e w' => e = .returned (.bool (inR r 0 ((n : Int) - 1))) ∧ Below w.heap.size w w' := by
  go_enter Try.func62, Try.ntmps62
  go_wp2_with (first | (go_at_call 54; refine (inRg_i _ _ _ _).mono ?_; rintro e w' ⟨rfl, rfl⟩))
  go_ret
  exact ⟨rfl, by repeat (first | exact Below.refl _ _ | exact Nat.le_refl _ | apply Below.drew | apply Below.alloc)⟩
theorem vkey_i (x : Int) (w : World) : Calls Try.prog 55 #[.int .i64 x] w fun e w' => e = .returned (.bool (inR x 1 2147483646)) ∧ w = w' := by
  go_enter Try.func55, Try.ntmps55
  go_wp2_with (first | (go_at_call 54; refine (inRg_i _ _ _ _).mono ?_; rintro e w' ⟨rfl, rfl⟩))
  go_ret
  exact ⟨rfl, rfl⟩
theorem isasV_s (A : Option Addr) (n c : Nat) (L : Option Addr) (m d : Nat) (r : Int) (w : World) (hn : n ≤ 1048576) :
    Calls Try.prog 64 #[.agg #[.slice A n c, .slice L m d], .int .i64 r] w fun e w' => e = .returned (.bool (inR r 0 ((n : Int) - 1))) ∧ Below w.heap.size w w' := by
  go_enter Try.func64, Try.ntmps64
  go_wp2_with (first | (go_at_call 57; refine (inRg_s _ _ _ _).mono ?_; rintro e w' ⟨rfl, rfl⟩))
  go_ret
  exact ⟨rfl, by repeat (first | exact Below.refl _ _ | exact Nat.le_refl _ | apply Below.drew | apply Below.alloc)⟩
theorem vkey_s (x : Int) (w : World) : Calls Try.prog 58 #[.int .i64 x] w fun e w' => e = .returned (.bool (inR x 1 2147483646)) ∧ w = w' := by
  go_enter Try.func58, Try.ntmps58
  go_wp2_with (first | (go_at_call 57; refine (inRg_s _ _ _ _).mono ?_; rintro e w' ⟨rfl, rfl⟩))
  go_ret
  exact ⟨rfl, rfl⟩
end Go.Proofs.Ytehfcejpoigclaa
