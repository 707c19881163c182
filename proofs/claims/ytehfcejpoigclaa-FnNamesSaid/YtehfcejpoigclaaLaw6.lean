/- What the laws over a code share: the bound, the bytes. -/
import Derived.Test.YtehfcejpoigclaaRows
import Derived.Test.YtehfcejpoigclaaMem
import Derived.Test.YtehfcejpoigclaaCurMem
import Derived.Test.YtehfcejpoigclaaDraw1
import Derived.Test.YtehfcejpoigclaaDraw2
namespace Go.Proofs.Ytehfcejpoigclaa
open Go.RowKit
set_option linter.unusedVariables false

theorem wf8 {n : Int} (h : (Lit.int .u8 n).wf = true) : 0 ≤ n ∧ n ≤ 255 := by
  simp [Lit.wf] at h
  have e1 : IntKind.u8.min = 0 := by decide
  have e2 : IntKind.u8.max = 255 := by decide
  rw [e1, e2] at h
  exact h
theorem code8_of {w : World} {A : Option Addr} {n c : Nat} {bs : List Int} (h : InInts .u8 w w.heap.size A n c bs) (hn : n ≤ 1048576) : Code8 w A n bs := ⟨h.1, fun x hx => wf8 (h.2.2.2.1 x hx), hn⟩
theorem big_no (A : Option Addr) (n c : Nat) (w : World) (hn : n ≤ 1048576) : Calls Try.prog 6 #[.slice A n c] w fun e w' => e = .returned (.bool false) ∧ w = w' := by
  have h : ¬ (1048576 < n) := by omega
  go_enter Try.func6, Try.ntmps6
  go_wp2
  go_ret
  exact ⟨by simp; omega, rfl⟩
theorem big_yes (A : Option Addr) (n c : Nat) (w : World) (hn : 1048576 < n) : Calls Try.prog 6 #[.slice A n c] w fun e w' => e = .returned (.bool true) ∧ w = w' := by
  go_enter Try.func6, Try.ntmps6
  go_wp2
  go_ret
  exact ⟨by simp; omega, rfl⟩
theorem below_keep00 {w wr w1 : World} (h : Below w.heap.size w wr) (hb : Below wr.heap.size wr w1) : Below w.heap.size w w1 := h.trans (hb.mono h.size)
end Go.Proofs.Ytehfcejpoigclaa
