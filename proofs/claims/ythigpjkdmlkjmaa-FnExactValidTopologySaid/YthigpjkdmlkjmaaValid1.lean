/- Contracts of isAS/l5Realm, linkOk/l5LinkOk, ValidKey. -/
import Derived.Test.YthigpjkdmlkjmaaRows
import Derived.Test.YthigpjkdmlkjmaaMem
import Derived.Test.YthigpjkdmlkjmaaTopoMem
import Derived.Test.YthigpjkdmlkjmaaTopoPure
import Derived.Test.YthigpjkdmlkjmaaSetPure
import Derived.Test.YthigpjkdmlkjmaaRng
import Derived.Test.YthigpjkdmlkjmaaValidPure
import Derived.Deep.QuietTactic
import Derived.BigQuiet
import Derived.WalkSmall
import Derived.Deep.RegionHeld3
import Derived.StillTailTactics
import Derived.Outline
namespace Go.Proofs.Ythigpjkdmlkjmaa
open Go.RowKit
set_option linter.unusedVariables false

theorem ret_boolV {a b : Bool} (h : a = b) : Ending.returned (.bool a) = .returned (.bool b) := by rw [h]
theorem isasV_i (A : Option Addr) (n c : Nat) (L : Option Addr) (m d : Nat) (r : Int) (w : World) (hn : n ≤ 1048576) :
    Calls Try.prog 30 #[.agg #[.slice A n c, .slice L m d], .int .i64 r] w fun e w' => e = .returned (.bool (inR r 0 ((n : Int) - 1))) ∧ Below w.heap.size w w' := by
  go_enter Try.func30, Try.ntmps30
  go_wp2_with (first | (go_at_call 35; refine (inRg_i _ _ _ _).mono ?_; rintro e w' ⟨rfl, rfl⟩))
  go_ret
  exact ⟨rfl, by repeat (first | exact Below.refl _ _ | exact Nat.le_refl _ | apply Below.drew | apply Below.alloc)⟩
theorem vkey_i (x : Int) (w : World) : Calls Try.prog 40 #[.int .i64 x] w fun e w' => e = .returned (.bool (inR x 1 2147483646)) ∧ w = w' := by
  go_enter Try.func40, Try.ntmps40
  go_wp2_with (first | (go_at_call 35; refine (inRg_i _ _ _ _).mono ?_; rintro e w' ⟨rfl, rfl⟩))
  go_ret
  exact ⟨rfl, rfl⟩
theorem isasV_s (A : Option Addr) (n c : Nat) (L : Option Addr) (m d : Nat) (r : Int) (w : World) (hn : n ≤ 1048576) :
    Calls Try.prog 26 #[.agg #[.slice A n c, .slice L m d], .int .i64 r] w fun e w' => e = .returned (.bool (inR r 0 ((n : Int) - 1))) ∧ Below w.heap.size w w' := by
  go_enter Try.func26, Try.ntmps26
  go_wp2_with (first | (go_at_call 34; refine (inRg_s _ _ _ _).mono ?_; rintro e w' ⟨rfl, rfl⟩))
  go_ret
  exact ⟨rfl, by repeat (first | exact Below.refl _ _ | exact Nat.le_refl _ | apply Below.drew | apply Below.alloc)⟩
theorem vkey_s (x : Int) (w : World) : Calls Try.prog 37 #[.int .i64 x] w fun e w' => e = .returned (.bool (inR x 1 2147483646)) ∧ w = w' := by
  go_enter Try.func37, Try.ntmps37
  go_wp2_with (first | (go_at_call 34; refine (inRg_s _ _ _ _).mono ?_; rintro e w' ⟨rfl, rfl⟩))
  go_ret
  exact ⟨rfl, rfl⟩
end Go.Proofs.Ythigpjkdmlkjmaa
