/- Contracts of the laws' own helpers on slices of uint8: copy, compare, mark, look at the marks. -/
import Derived.Test.YtenkmppmjfhajaaRows
import Derived.Test.YtenkmppmjfhajaaMem
import Derived.Deep.QuietTactic
import Derived.BigQuiet
import Derived.WalkSmall
namespace Go.Proofs.Ytenkmppmjfhajaa
open Go.RowKit
set_option linter.unusedVariables false

theorem bytes_info : (Try.prog.info? 5).map (fun i => (i.zero, i.size, i.bytes)) = some (some (.int .u8 0), 1, 1) := by kernel_rfl
/-- A call that returns the integers zs in a new row, and turns nothing that was there. -/
def RetByteS (w : World) (zs : List Int) (e : Ending) (w' : World) : Prop :=
  ∃ A c, e = .returned (.slice A zs.length c) ∧ Oi w' w.heap.size 5 .u8 A zs.length c zs ∧ Below w.heap.size w w'

end Go.Proofs.Ytenkmppmjfhajaa
