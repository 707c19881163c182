/- Contracts of the laws' own helpers on slices of int: copy, compare, mark, look at the marks. -/
import Derived.Test.YtehfcejpoigclaaRows
import Derived.Test.YtehfcejpoigclaaMem
import Derived.Deep.QuietTactic
import Derived.BigQuiet
import Derived.WalkSmall
namespace Go.Proofs.Ytehfcejpoigclaa
open Go.RowKit
set_option linter.unusedVariables false

theorem ints_info : (Try.prog.info? 3).map (fun i => (i.zero, i.size, i.bytes)) = some (some (.int .i64 0), 1, 8) := by kernel_rfl
/-- A call that returns the integers zs in a new row, and turns nothing that was there. -/
def RetIntS (w : World) (zs : List Int) (e : Ending) (w' : World) : Prop :=
  ∃ A c, e = .returned (.slice A zs.length c) ∧ Oi w' w.heap.size 3 .i64 A zs.length c zs ∧ Below w.heap.size w w'

end Go.Proofs.Ytehfcejpoigclaa
