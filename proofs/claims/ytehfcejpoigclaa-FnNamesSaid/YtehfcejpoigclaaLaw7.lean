/- What the laws over drawn topologies share. -/
import Derived.Test.YtehfcejpoigclaaRows
import Derived.Test.YtehfcejpoigclaaMem
import Derived.Test.YtehfcejpoigclaaTopoMem
import Derived.Test.YtehfcejpoigclaaTopoPure
import Derived.Test.YtehfcejpoigclaaDrawPure
import Derived.Test.YtehfcejpoigclaaBox
import Derived.Test.YtehfcejpoigclaaDrawT
import Derived.Test.YtehfcejpoigclaaAnyT
import Derived.Test.YtehfcejpoigclaaDraws
import Derived.Test.YtehfcejpoigclaaLaw6
import Derived.Deep.QuietTactic
import Derived.BigQuiet
import Derived.WalkSmall
import Derived.Deep.RegionHeld3
import Derived.StillTailTactics
import Derived.Outline
namespace Go.Proofs.Ytehfcejpoigclaa
open Go.RowKit
set_option linter.unusedVariables false

theorem TopR.drew {B : Nat} {w : World} {A L : Option Addr} {n c m d : Nat} {T : Tp} (h : TopR B w A n c L m d T) : TopR B w.drew A n c L m d T := h.below (Below.refl _ _).drew
theorem TopR.zero {B : Nat} {w : World} {A L : Option Addr} {n c m d : Nat} {T : Tp} (h : TopR B w A n c L m d T) : TopR 0 w A n c L m d T := h.mono (Nat.zero_le _)
theorem newBox (w : World) (A : Option Addr) (n c : Nat) (L : Option Addr) (m d : Nat) : (w.alloc (.cells #[.slice A n c, .slice L m d] 27)).cell? ⟨w.heap.size, 0, none⟩ = some (.slice A n c) ∧ (w.alloc (.cells #[.slice A n c, .slice L m d] 27)).cell? ⟨w.heap.size, 1, none⟩ = some (.slice L m d) := ⟨by simp, by simp⟩
theorem newBelow (w : World) (o : Obj) : Below w.heap.size w (w.alloc o) := (Below.refl _ _).alloc (Nat.le_refl _) o
end Go.Proofs.Ytehfcejpoigclaa
