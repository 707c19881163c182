/-
  No cell of these rows narrows 'for every input' (looked for: loops, veiled, ifaces, maps, wideKeys, modest, calm, conditions, laid).
  DERIVED. THE GIVEN ROWS OF THIS SEAT. 6 by the template 'for every input the law returns true; each argument reads behind the call as it read before'; 0 by the template 'total and deterministic' (their statements: YthigpjkdmlkjmaaTotals.lean).
  GIVEN WITH THE SEED: the statements are not yours to turn. If you find one false, say at which input.
  Laid BY PROGRAM, IN A SANDBOX (cutbox-rows.mjs): the forced cells as the released guide's own fill.sh prints them over the translation b1732485044b3e3f… (all of the seat's roots in one cut). By AI agents, Wed Nov 11 2026. No macro, syntax, notation, axiom, sorry.
-/
import Derived.Test.YthigpjkdmlkjmaaChecked
import GoSem.Claim
import GoSem.ClaimJoined
import GoSem.ClaimMapViews
import Derived.JoinedTies
import Derived.KernelRfl
namespace Go.Proofs.Ythigpjkdmlkjmaa
/- THE CELL 'sum', in the pinned program and in every row, IS THE sha256 OF THE DUMP (.gsa) THAT YthigpjkdmlkjmaaProg.lean LOADS. Nothing in Lean hashes anything: it is a label: what it is worth is what the hold of that sum in a sandbox is worth. -/
noncomputable def Try.pinned : Pinned := { name := "ythigpjkdmlkjmaa", sum := "b1732485044b3e3f0ddd0956c0118c12ea8fc7f2283bc858ce30658e6e014b3f", checked := Try.checked }
namespace Rows
def none {H : Type} : Left H := { results := [], args := [] }

/-- 'laws.FnExactFormatAS': WHATEVER THE INPUT: true; the input reads as it did. -/
def fnExactFormatASSpec : ChangeSpec := { name := "fnExactFormatAS", fn := fun _ => fun
  | [d1, d2] => { results := [.lit (.bool true)], args := [d1, d2] }
  | _ => none }
def fnExactFormatASRow : OpenClaim := { program := "ythigpjkdmlkjmaa", sum := "b1732485044b3e3f0ddd0956c0118c12ea8fc7f2283bc858ce30658e6e014b3f", func := "loop.example/g00505/laws.FnExactFormatAS", spec := "fnExactFormatAS", apart := false }
def FnExactFormatASSaid : Prop := fnExactFormatASRow.holds Try.pinned (OpenSpec.ofChange fnExactFormatASSpec)

/-- ITS FALSE NEIGHBOUR: 'it returns false'. Refute it at one input. -/
def fnExactFormatASWrong : ChangeSpec := { name := "fnExactFormatAS", fn := fun _ => fun
  | [d1, d2] => { results := [.lit (.bool false)], args := [d1, d2] }
  | _ => none }
def FnExactFormatASWrongFalsely : Prop := fnExactFormatASRow.holds Try.pinned (OpenSpec.ofChange fnExactFormatASWrong)

/-- 'laws.FnExactFormatInterface': WHATEVER THE INPUT: true; the input reads as it did. -/
def fnExactFormatInterfaceSpec : ChangeSpec := { name := "fnExactFormatInterface", fn := fun _ => fun
  | [d1, d2, d3] => { results := [.lit (.bool true)], args := [d1, d2, d3] }
  | _ => none }
def fnExactFormatInterfaceRow : OpenClaim := { program := "ythigpjkdmlkjmaa", sum := "b1732485044b3e3f0ddd0956c0118c12ea8fc7f2283bc858ce30658e6e014b3f", func := "loop.example/g00505/laws.FnExactFormatInterface", spec := "fnExactFormatInterface", apart := false }
def FnExactFormatInterfaceSaid : Prop := fnExactFormatInterfaceRow.holds Try.pinned (OpenSpec.ofChange fnExactFormatInterfaceSpec)

/-- ITS FALSE NEIGHBOUR: 'it returns false'. Refute it at one input. -/
def fnExactFormatInterfaceWrong : ChangeSpec := { name := "fnExactFormatInterface", fn := fun _ => fun
  | [d1, d2, d3] => { results := [.lit (.bool false)], args := [d1, d2, d3] }
  | _ => none }
def FnExactFormatInterfaceWrongFalsely : Prop := fnExactFormatInterfaceRow.holds Try.pinned (OpenSpec.ofChange fnExactFormatInterfaceWrong)

/-- 'laws.FnExactParseAS': WHATEVER THE INPUT: true; the input reads as it did. -/
def fnExactParseASSpec : ChangeSpec := { name := "fnExactParseAS", fn := fun _ => fun
  | [d1, d2] => { results := [.lit (.bool true)], args := [d1, d2] }
  | _ => none }
def fnExactParseASRow : OpenClaim := { program := "ythigpjkdmlkjmaa", sum := "b1732485044b3e3f0ddd0956c0118c12ea8fc7f2283bc858ce30658e6e014b3f", func := "loop.example/g00505/laws.FnExactParseAS", spec := "fnExactParseAS", apart := false }
def FnExactParseASSaid : Prop := fnExactParseASRow.holds Try.pinned (OpenSpec.ofChange fnExactParseASSpec)

/-- ITS FALSE NEIGHBOUR: 'it returns false'. Refute it at one input. -/
def fnExactParseASWrong : ChangeSpec := { name := "fnExactParseAS", fn := fun _ => fun
  | [d1, d2] => { results := [.lit (.bool false)], args := [d1, d2] }
  | _ => none }
def FnExactParseASWrongFalsely : Prop := fnExactParseASRow.holds Try.pinned (OpenSpec.ofChange fnExactParseASWrong)

/-- 'laws.FnExactFormatLink': WHATEVER THE INPUT: true; the input reads as it did. -/
def fnExactFormatLinkSpec : ChangeSpec := { name := "fnExactFormatLink", fn := fun _ => fun
  | [d1, d2] => { results := [.lit (.bool true)], args := [d1, d2] }
  | _ => none }
def fnExactFormatLinkRow : OpenClaim := { program := "ythigpjkdmlkjmaa", sum := "b1732485044b3e3f0ddd0956c0118c12ea8fc7f2283bc858ce30658e6e014b3f", func := "loop.example/g00505/laws.FnExactFormatLink", spec := "fnExactFormatLink", apart := false }
def FnExactFormatLinkSaid : Prop := fnExactFormatLinkRow.holds Try.pinned (OpenSpec.ofChange fnExactFormatLinkSpec)

/-- ITS FALSE NEIGHBOUR: 'it returns false'. Refute it at one input. -/
def fnExactFormatLinkWrong : ChangeSpec := { name := "fnExactFormatLink", fn := fun _ => fun
  | [d1, d2] => { results := [.lit (.bool false)], args := [d1, d2] }
  | _ => none }
def FnExactFormatLinkWrongFalsely : Prop := fnExactFormatLinkRow.holds Try.pinned (OpenSpec.ofChange fnExactFormatLinkWrong)

/-- 'laws.FnExactFormatTopology': WHATEVER THE INPUT: true; the input reads as it did. -/
def fnExactFormatTopologySpec : ChangeSpec := { name := "fnExactFormatTopology", fn := fun _ => fun
  | [d] => { results := [.lit (.bool true)], args := [d] }
  | _ => none }
def fnExactFormatTopologyRow : OpenClaim := { program := "ythigpjkdmlkjmaa", sum := "b1732485044b3e3f0ddd0956c0118c12ea8fc7f2283bc858ce30658e6e014b3f", func := "loop.example/g00505/laws.FnExactFormatTopology", spec := "fnExactFormatTopology", apart := false }
def FnExactFormatTopologySaid : Prop := fnExactFormatTopologyRow.holds Try.pinned (OpenSpec.ofChange fnExactFormatTopologySpec)

/-- ITS FALSE NEIGHBOUR: 'it returns false'. Refute it at one input. -/
def fnExactFormatTopologyWrong : ChangeSpec := { name := "fnExactFormatTopology", fn := fun _ => fun
  | [d] => { results := [.lit (.bool false)], args := [d] }
  | _ => none }
def FnExactFormatTopologyWrongFalsely : Prop := fnExactFormatTopologyRow.holds Try.pinned (OpenSpec.ofChange fnExactFormatTopologyWrong)

/-- 'laws.FnExactValidTopology': WHATEVER THE INPUT: true; the input reads as it did. -/
def fnExactValidTopologySpec : ChangeSpec := { name := "fnExactValidTopology", fn := fun _ => fun
  | [d] => { results := [.lit (.bool true)], args := [d] }
  | _ => none }
def fnExactValidTopologyRow : OpenClaim := { program := "ythigpjkdmlkjmaa", sum := "b1732485044b3e3f0ddd0956c0118c12ea8fc7f2283bc858ce30658e6e014b3f", func := "loop.example/g00505/laws.FnExactValidTopology", spec := "fnExactValidTopology", apart := false }
def FnExactValidTopologySaid : Prop := fnExactValidTopologyRow.holds Try.pinned (OpenSpec.ofChange fnExactValidTopologySpec)

/-- ITS FALSE NEIGHBOUR: 'it returns false'. Refute it at one input. -/
def fnExactValidTopologyWrong : ChangeSpec := { name := "fnExactValidTopology", fn := fun _ => fun
  | [d] => { results := [.lit (.bool false)], args := [d] }
  | _ => none }
def FnExactValidTopologyWrongFalsely : Prop := fnExactValidTopologyRow.holds Try.pinned (OpenSpec.ofChange fnExactValidTopologyWrong)

/- THE SECOND FORM. 'bulk': how many values and letters a reading holds, each counted each time it is reached (what is shared counts as often as it is met; a slice's spare places count too). A statement '..UptoSaid' is the law's where the arguments, and the package variables that the reading takes, are together of bulk at most 1048576: NARROWER than '..Said'. Prove '..Said' where nothing that the law and all that it calls make is longer than what came in: it says more and counts as full. Else prove '..UptoSaid'. A law counts once. -/
mutual
def uptoBulk {H : Type} : DataW H → Nat
  | .lit (.string bytes) => bytes.length + 1
  | .lit _ => 1
  | .nil => 1
  | .ptr d => uptoBulk d + 1
  | .slice elems spare => uptoBulkAll elems + uptoBulkAll spare + 1
  | .agg parts => uptoBulkAll parts + 1
  | .iface _ d => uptoBulk d + 1
  | .map entries => uptoBulkEntries entries + 1
  | .held _ => 1
def uptoBulkAll {H : Type} : List (DataW H) → Nat
  | [] => 0
  | d :: r => uptoBulk d + uptoBulkAll r
def uptoBulkEntries {H : Type} : List (Lit × DataW H) → Nat
  | [] => 0
  | x :: r => uptoBulkEntry x + uptoBulkEntries r
def uptoBulkEntry {H : Type} : Lit × DataW H → Nat
  | (.string bytes, d) => bytes.length + uptoBulk d + 1
  | (_, d) => uptoBulk d + 1
 end
def uptoSmall : (H : Type) → List (DataW H) → Bool := fun _ ds => decide (uptoBulkAll ds ≤ 1048576)
def OpenSpec.upto (s : _root_.Go.ChangeSpec) : _root_.Go.OpenSpec := { _root_.Go.OpenSpec.ofChange s with cond := some uptoSmall }

/-- 'laws.FnExactFormatAS', WHERE WHAT IT READS IS OF BULK AT MOST 1048576: true; the input reads as it did. -/
def fnExactFormatASUptoRow : OpenClaim := { program := "ythigpjkdmlkjmaa", sum := "b1732485044b3e3f0ddd0956c0118c12ea8fc7f2283bc858ce30658e6e014b3f", func := "loop.example/g00505/laws.FnExactFormatAS", spec := "fnExactFormatAS", apart := false, narrowed := true }
def FnExactFormatASUptoSaid : Prop := fnExactFormatASUptoRow.holds Try.pinned (OpenSpec.upto fnExactFormatASSpec)

/-- 'laws.FnExactFormatInterface', WHERE WHAT IT READS IS OF BULK AT MOST 1048576: true; the input reads as it did. -/
def fnExactFormatInterfaceUptoRow : OpenClaim := { program := "ythigpjkdmlkjmaa", sum := "b1732485044b3e3f0ddd0956c0118c12ea8fc7f2283bc858ce30658e6e014b3f", func := "loop.example/g00505/laws.FnExactFormatInterface", spec := "fnExactFormatInterface", apart := false, narrowed := true }
def FnExactFormatInterfaceUptoSaid : Prop := fnExactFormatInterfaceUptoRow.holds Try.pinned (OpenSpec.upto fnExactFormatInterfaceSpec)

/-- 'laws.FnExactParseAS', WHERE WHAT IT READS IS OF BULK AT MOST 1048576: true; the input reads as it did. -/
def fnExactParseASUptoRow : OpenClaim := { program := "ythigpjkdmlkjmaa", sum := "b1732485044b3e3f0ddd0956c0118c12ea8fc7f2283bc858ce30658e6e014b3f", func := "loop.example/g00505/laws.FnExactParseAS", spec := "fnExactParseAS", apart := false, narrowed := true }
def FnExactParseASUptoSaid : Prop := fnExactParseASUptoRow.holds Try.pinned (OpenSpec.upto fnExactParseASSpec)

/-- 'laws.FnExactFormatLink', WHERE WHAT IT READS IS OF BULK AT MOST 1048576: true; the input reads as it did. -/
def fnExactFormatLinkUptoRow : OpenClaim := { program := "ythigpjkdmlkjmaa", sum := "b1732485044b3e3f0ddd0956c0118c12ea8fc7f2283bc858ce30658e6e014b3f", func := "loop.example/g00505/laws.FnExactFormatLink", spec := "fnExactFormatLink", apart := false, narrowed := true }
def FnExactFormatLinkUptoSaid : Prop := fnExactFormatLinkUptoRow.holds Try.pinned (OpenSpec.upto fnExactFormatLinkSpec)

/-- 'laws.FnExactFormatTopology', WHERE WHAT IT READS IS OF BULK AT MOST 1048576: true; the input reads as it did. -/
def fnExactFormatTopologyUptoRow : OpenClaim := { program := "ythigpjkdmlkjmaa", sum := "b1732485044b3e3f0ddd0956c0118c12ea8fc7f2283bc858ce30658e6e014b3f", func := "loop.example/g00505/laws.FnExactFormatTopology", spec := "fnExactFormatTopology", apart := false, narrowed := true }
def FnExactFormatTopologyUptoSaid : Prop := fnExactFormatTopologyUptoRow.holds Try.pinned (OpenSpec.upto fnExactFormatTopologySpec)

/-- 'laws.FnExactValidTopology', WHERE WHAT IT READS IS OF BULK AT MOST 1048576: true; the input reads as it did. -/
def fnExactValidTopologyUptoRow : OpenClaim := { program := "ythigpjkdmlkjmaa", sum := "b1732485044b3e3f0ddd0956c0118c12ea8fc7f2283bc858ce30658e6e014b3f", func := "loop.example/g00505/laws.FnExactValidTopology", spec := "fnExactValidTopology", apart := false, narrowed := true }
def FnExactValidTopologyUptoSaid : Prop := fnExactValidTopologyUptoRow.holds Try.pinned (OpenSpec.upto fnExactValidTopologySpec)

end Rows
end Go.Proofs.Ythigpjkdmlkjmaa
