/-
  No cell of these rows narrows 'for every input' (looked for: loops, veiled, ifaces, maps, wideKeys, modest, calm, conditions, laid).
  DERIVED. THE GIVEN ROWS OF THIS SEAT. 12 by the template 'for every input the law returns true; each argument reads behind the call as it read before'; 0 by the template 'total and deterministic' (their statements: YtkfdenokbhlfeaaTotals.lean).
  GIVEN WITH THE SEED: the statements are not yours to turn. If you find one false, say at which input.
  Laid BY PROGRAM, IN A SANDBOX (cutbox-rows.mjs): the forced cells as the released guide's own fill.sh prints them over the translation 4562f05e3977a501… (all of the seat's roots in one cut). By AI agents, Wed Nov 11 2026. No macro, syntax, notation, axiom, sorry.
-/
import Derived.Test.YtkfdenokbhlfeaaChecked
import GoSem.Claim
import GoSem.ClaimJoined
import GoSem.ClaimMapViews
import Derived.JoinedTies
import Derived.KernelRfl
namespace Go.Proofs.Ytkfdenokbhlfeaa
/- THE CELL 'sum', in the pinned program and in every row, IS THE sha256 OF THE DUMP (.gsa) THAT YtkfdenokbhlfeaaProg.lean LOADS. Nothing in Lean hashes anything: it is a label: what it is worth is what the hold of that sum in a sandbox is worth. -/
noncomputable def Try.pinned : Pinned := { name := "ytkfdenokbhlfeaa", sum := "4562f05e3977a50134bbe7e246b5ff9ff6df08f547ef4b4c64dd4144afe1adfe", checked := Try.checked }
namespace Rows
def none {H : Type} : Left H := { results := [], args := [] }

/-- 'laws.FnExactLinkIndex': WHATEVER THE INPUT: true; the input reads as it did. -/
def fnExactLinkIndexSpec : ChangeSpec := { name := "fnExactLinkIndex", fn := fun _ => fun
  | [d1, d2, d3] => { results := [.lit (.bool true)], args := [d1, d2, d3] }
  | _ => none }
def fnExactLinkIndexRow : OpenClaim := { program := "ytkfdenokbhlfeaa", sum := "4562f05e3977a50134bbe7e246b5ff9ff6df08f547ef4b4c64dd4144afe1adfe", func := "loop.example/g00505/laws.FnExactLinkIndex", spec := "fnExactLinkIndex", apart := false }
def FnExactLinkIndexSaid : Prop := fnExactLinkIndexRow.holds Try.pinned (OpenSpec.ofChange fnExactLinkIndexSpec)

/-- ITS FALSE NEIGHBOUR: 'it returns false'. Refute it at one input. -/
def fnExactLinkIndexWrong : ChangeSpec := { name := "fnExactLinkIndex", fn := fun _ => fun
  | [d1, d2, d3] => { results := [.lit (.bool false)], args := [d1, d2, d3] }
  | _ => none }
def FnExactLinkIndexWrongFalsely : Prop := fnExactLinkIndexRow.holds Try.pinned (OpenSpec.ofChange fnExactLinkIndexWrong)

/-- 'laws.FnExactRemoteEnd': WHATEVER THE INPUT: true; the input reads as it did. -/
def fnExactRemoteEndSpec : ChangeSpec := { name := "fnExactRemoteEnd", fn := fun _ => fun
  | [d1, d2, d3] => { results := [.lit (.bool true)], args := [d1, d2, d3] }
  | _ => none }
def fnExactRemoteEndRow : OpenClaim := { program := "ytkfdenokbhlfeaa", sum := "4562f05e3977a50134bbe7e246b5ff9ff6df08f547ef4b4c64dd4144afe1adfe", func := "loop.example/g00505/laws.FnExactRemoteEnd", spec := "fnExactRemoteEnd", apart := false }
def FnExactRemoteEndSaid : Prop := fnExactRemoteEndRow.holds Try.pinned (OpenSpec.ofChange fnExactRemoteEndSpec)

/-- ITS FALSE NEIGHBOUR: 'it returns false'. Refute it at one input. -/
def fnExactRemoteEndWrong : ChangeSpec := { name := "fnExactRemoteEnd", fn := fun _ => fun
  | [d1, d2, d3] => { results := [.lit (.bool false)], args := [d1, d2, d3] }
  | _ => none }
def FnExactRemoteEndWrongFalsely : Prop := fnExactRemoteEndRow.holds Try.pinned (OpenSpec.ofChange fnExactRemoteEndWrong)

/-- 'laws.FnExactInterfaceKind': WHATEVER THE INPUT: true; the input reads as it did. -/
def fnExactInterfaceKindSpec : ChangeSpec := { name := "fnExactInterfaceKind", fn := fun _ => fun
  | [d1, d2, d3] => { results := [.lit (.bool true)], args := [d1, d2, d3] }
  | _ => none }
def fnExactInterfaceKindRow : OpenClaim := { program := "ytkfdenokbhlfeaa", sum := "4562f05e3977a50134bbe7e246b5ff9ff6df08f547ef4b4c64dd4144afe1adfe", func := "loop.example/g00505/laws.FnExactInterfaceKind", spec := "fnExactInterfaceKind", apart := false }
def FnExactInterfaceKindSaid : Prop := fnExactInterfaceKindRow.holds Try.pinned (OpenSpec.ofChange fnExactInterfaceKindSpec)

/-- ITS FALSE NEIGHBOUR: 'it returns false'. Refute it at one input. -/
def fnExactInterfaceKindWrong : ChangeSpec := { name := "fnExactInterfaceKind", fn := fun _ => fun
  | [d1, d2, d3] => { results := [.lit (.bool false)], args := [d1, d2, d3] }
  | _ => none }
def FnExactInterfaceKindWrongFalsely : Prop := fnExactInterfaceKindRow.holds Try.pinned (OpenSpec.ofChange fnExactInterfaceKindWrong)

/-- 'laws.FnExactInterfaces': WHATEVER THE INPUT: true; the input reads as it did. -/
def fnExactInterfacesSpec : ChangeSpec := { name := "fnExactInterfaces", fn := fun _ => fun
  | [d1, d2] => { results := [.lit (.bool true)], args := [d1, d2] }
  | _ => none }
def fnExactInterfacesRow : OpenClaim := { program := "ytkfdenokbhlfeaa", sum := "4562f05e3977a50134bbe7e246b5ff9ff6df08f547ef4b4c64dd4144afe1adfe", func := "loop.example/g00505/laws.FnExactInterfaces", spec := "fnExactInterfaces", apart := false }
def FnExactInterfacesSaid : Prop := fnExactInterfacesRow.holds Try.pinned (OpenSpec.ofChange fnExactInterfacesSpec)

/-- ITS FALSE NEIGHBOUR: 'it returns false'. Refute it at one input. -/
def fnExactInterfacesWrong : ChangeSpec := { name := "fnExactInterfaces", fn := fun _ => fun
  | [d1, d2] => { results := [.lit (.bool false)], args := [d1, d2] }
  | _ => none }
def FnExactInterfacesWrongFalsely : Prop := fnExactInterfacesRow.holds Try.pinned (OpenSpec.ofChange fnExactInterfacesWrong)

/-- 'laws.FnExactInterfacesOfKind': WHATEVER THE INPUT: true; the input reads as it did. -/
def fnExactInterfacesOfKindSpec : ChangeSpec := { name := "fnExactInterfacesOfKind", fn := fun _ => fun
  | [d1, d2, d3] => { results := [.lit (.bool true)], args := [d1, d2, d3] }
  | _ => none }
def fnExactInterfacesOfKindRow : OpenClaim := { program := "ytkfdenokbhlfeaa", sum := "4562f05e3977a50134bbe7e246b5ff9ff6df08f547ef4b4c64dd4144afe1adfe", func := "loop.example/g00505/laws.FnExactInterfacesOfKind", spec := "fnExactInterfacesOfKind", apart := false }
def FnExactInterfacesOfKindSaid : Prop := fnExactInterfacesOfKindRow.holds Try.pinned (OpenSpec.ofChange fnExactInterfacesOfKindSpec)

/-- ITS FALSE NEIGHBOUR: 'it returns false'. Refute it at one input. -/
def fnExactInterfacesOfKindWrong : ChangeSpec := { name := "fnExactInterfacesOfKind", fn := fun _ => fun
  | [d1, d2, d3] => { results := [.lit (.bool false)], args := [d1, d2, d3] }
  | _ => none }
def FnExactInterfacesOfKindWrongFalsely : Prop := fnExactInterfacesOfKindRow.holds Try.pinned (OpenSpec.ofChange fnExactInterfacesOfKindWrong)

/-- 'laws.FnExactCoreASes': WHATEVER THE INPUT: true; the input reads as it did. -/
def fnExactCoreASesSpec : ChangeSpec := { name := "fnExactCoreASes", fn := fun _ => fun
  | [d1, d2] => { results := [.lit (.bool true)], args := [d1, d2] }
  | _ => none }
def fnExactCoreASesRow : OpenClaim := { program := "ytkfdenokbhlfeaa", sum := "4562f05e3977a50134bbe7e246b5ff9ff6df08f547ef4b4c64dd4144afe1adfe", func := "loop.example/g00505/laws.FnExactCoreASes", spec := "fnExactCoreASes", apart := false }
def FnExactCoreASesSaid : Prop := fnExactCoreASesRow.holds Try.pinned (OpenSpec.ofChange fnExactCoreASesSpec)

/-- ITS FALSE NEIGHBOUR: 'it returns false'. Refute it at one input. -/
def fnExactCoreASesWrong : ChangeSpec := { name := "fnExactCoreASes", fn := fun _ => fun
  | [d1, d2] => { results := [.lit (.bool false)], args := [d1, d2] }
  | _ => none }
def FnExactCoreASesWrongFalsely : Prop := fnExactCoreASesRow.holds Try.pinned (OpenSpec.ofChange fnExactCoreASesWrong)

/-- 'laws.FnExactChildren': WHATEVER THE INPUT: true; the input reads as it did. -/
def fnExactChildrenSpec : ChangeSpec := { name := "fnExactChildren", fn := fun _ => fun
  | [d1, d2] => { results := [.lit (.bool true)], args := [d1, d2] }
  | _ => none }
def fnExactChildrenRow : OpenClaim := { program := "ytkfdenokbhlfeaa", sum := "4562f05e3977a50134bbe7e246b5ff9ff6df08f547ef4b4c64dd4144afe1adfe", func := "loop.example/g00505/laws.FnExactChildren", spec := "fnExactChildren", apart := false }
def FnExactChildrenSaid : Prop := fnExactChildrenRow.holds Try.pinned (OpenSpec.ofChange fnExactChildrenSpec)

/-- ITS FALSE NEIGHBOUR: 'it returns false'. Refute it at one input. -/
def fnExactChildrenWrong : ChangeSpec := { name := "fnExactChildren", fn := fun _ => fun
  | [d1, d2] => { results := [.lit (.bool false)], args := [d1, d2] }
  | _ => none }
def FnExactChildrenWrongFalsely : Prop := fnExactChildrenRow.holds Try.pinned (OpenSpec.ofChange fnExactChildrenWrong)

/-- 'laws.FnExactParents': WHATEVER THE INPUT: true; the input reads as it did. -/
def fnExactParentsSpec : ChangeSpec := { name := "fnExactParents", fn := fun _ => fun
  | [d1, d2] => { results := [.lit (.bool true)], args := [d1, d2] }
  | _ => none }
def fnExactParentsRow : OpenClaim := { program := "ytkfdenokbhlfeaa", sum := "4562f05e3977a50134bbe7e246b5ff9ff6df08f547ef4b4c64dd4144afe1adfe", func := "loop.example/g00505/laws.FnExactParents", spec := "fnExactParents", apart := false }
def FnExactParentsSaid : Prop := fnExactParentsRow.holds Try.pinned (OpenSpec.ofChange fnExactParentsSpec)

/-- ITS FALSE NEIGHBOUR: 'it returns false'. Refute it at one input. -/
def fnExactParentsWrong : ChangeSpec := { name := "fnExactParents", fn := fun _ => fun
  | [d1, d2] => { results := [.lit (.bool false)], args := [d1, d2] }
  | _ => none }
def FnExactParentsWrongFalsely : Prop := fnExactParentsRow.holds Try.pinned (OpenSpec.ofChange fnExactParentsWrong)

/-- 'laws.FnExactAncestors': WHATEVER THE INPUT: true; the input reads as it did. -/
def fnExactAncestorsSpec : ChangeSpec := { name := "fnExactAncestors", fn := fun _ => fun
  | [d1, d2] => { results := [.lit (.bool true)], args := [d1, d2] }
  | _ => none }
def fnExactAncestorsRow : OpenClaim := { program := "ytkfdenokbhlfeaa", sum := "4562f05e3977a50134bbe7e246b5ff9ff6df08f547ef4b4c64dd4144afe1adfe", func := "loop.example/g00505/laws.FnExactAncestors", spec := "fnExactAncestors", apart := false }
def FnExactAncestorsSaid : Prop := fnExactAncestorsRow.holds Try.pinned (OpenSpec.ofChange fnExactAncestorsSpec)

/-- ITS FALSE NEIGHBOUR: 'it returns false'. Refute it at one input. -/
def fnExactAncestorsWrong : ChangeSpec := { name := "fnExactAncestors", fn := fun _ => fun
  | [d1, d2] => { results := [.lit (.bool false)], args := [d1, d2] }
  | _ => none }
def FnExactAncestorsWrongFalsely : Prop := fnExactAncestorsRow.holds Try.pinned (OpenSpec.ofChange fnExactAncestorsWrong)

/-- 'laws.FnExactDescendants': WHATEVER THE INPUT: true; the input reads as it did. -/
def fnExactDescendantsSpec : ChangeSpec := { name := "fnExactDescendants", fn := fun _ => fun
  | [d1, d2] => { results := [.lit (.bool true)], args := [d1, d2] }
  | _ => none }
def fnExactDescendantsRow : OpenClaim := { program := "ytkfdenokbhlfeaa", sum := "4562f05e3977a50134bbe7e246b5ff9ff6df08f547ef4b4c64dd4144afe1adfe", func := "loop.example/g00505/laws.FnExactDescendants", spec := "fnExactDescendants", apart := false }
def FnExactDescendantsSaid : Prop := fnExactDescendantsRow.holds Try.pinned (OpenSpec.ofChange fnExactDescendantsSpec)

/-- ITS FALSE NEIGHBOUR: 'it returns false'. Refute it at one input. -/
def fnExactDescendantsWrong : ChangeSpec := { name := "fnExactDescendants", fn := fun _ => fun
  | [d1, d2] => { results := [.lit (.bool false)], args := [d1, d2] }
  | _ => none }
def FnExactDescendantsWrongFalsely : Prop := fnExactDescendantsRow.holds Try.pinned (OpenSpec.ofChange fnExactDescendantsWrong)

/-- 'laws.FnExactDepth': WHATEVER THE INPUT: true; the input reads as it did. -/
def fnExactDepthSpec : ChangeSpec := { name := "fnExactDepth", fn := fun _ => fun
  | [d1, d2] => { results := [.lit (.bool true)], args := [d1, d2] }
  | _ => none }
def fnExactDepthRow : OpenClaim := { program := "ytkfdenokbhlfeaa", sum := "4562f05e3977a50134bbe7e246b5ff9ff6df08f547ef4b4c64dd4144afe1adfe", func := "loop.example/g00505/laws.FnExactDepth", spec := "fnExactDepth", apart := false }
def FnExactDepthSaid : Prop := fnExactDepthRow.holds Try.pinned (OpenSpec.ofChange fnExactDepthSpec)

/-- ITS FALSE NEIGHBOUR: 'it returns false'. Refute it at one input. -/
def fnExactDepthWrong : ChangeSpec := { name := "fnExactDepth", fn := fun _ => fun
  | [d1, d2] => { results := [.lit (.bool false)], args := [d1, d2] }
  | _ => none }
def FnExactDepthWrongFalsely : Prop := fnExactDepthRow.holds Try.pinned (OpenSpec.ofChange fnExactDepthWrong)

/-- 'laws.FnExactCoreComponent': WHATEVER THE INPUT: true; the input reads as it did. -/
def fnExactCoreComponentSpec : ChangeSpec := { name := "fnExactCoreComponent", fn := fun _ => fun
  | [d1, d2] => { results := [.lit (.bool true)], args := [d1, d2] }
  | _ => none }
def fnExactCoreComponentRow : OpenClaim := { program := "ytkfdenokbhlfeaa", sum := "4562f05e3977a50134bbe7e246b5ff9ff6df08f547ef4b4c64dd4144afe1adfe", func := "loop.example/g00505/laws.FnExactCoreComponent", spec := "fnExactCoreComponent", apart := false }
def FnExactCoreComponentSaid : Prop := fnExactCoreComponentRow.holds Try.pinned (OpenSpec.ofChange fnExactCoreComponentSpec)

/-- ITS FALSE NEIGHBOUR: 'it returns false'. Refute it at one input. -/
def fnExactCoreComponentWrong : ChangeSpec := { name := "fnExactCoreComponent", fn := fun _ => fun
  | [d1, d2] => { results := [.lit (.bool false)], args := [d1, d2] }
  | _ => none }
def FnExactCoreComponentWrongFalsely : Prop := fnExactCoreComponentRow.holds Try.pinned (OpenSpec.ofChange fnExactCoreComponentWrong)

/- THE SECOND FORM. 'bulk': how many values and letters a reading holds, each counted each time it is reached (what is shared counts as often as it is met; a slice's spare places count too). A statement '..UptoSaid' is the law's where the arguments, and the package variables that the reading takes, are together of bulk at most 1048576: NARROWER than '..Said'. Prove '..Said' where nothing that the law and all that it calls make is longer than what came in: it says more and counts as full. Else prove '..UptoSaid'. A law counts once. -/
mutual
def uptoBulk {H : Type} : DataW H → Nat
  | .lit (.string bytes) => bytes.length + 1
  | .lit _ => 1
  | .nil => 1
  | .ptr d => uptoBulk d + 1
  | .slice elems spare => uptoBulkAll elems + uptoBulkAll spare + 1
  | .agg parts => uptoBulkAll parts + 1
  | .iface _ d => uptoBulk d + 1
  | .map entries => uptoBulkEntries entries + 1
  | .held _ => 1
def uptoBulkAll {H : Type} : List (DataW H) → Nat
  | [] => 0
  | d :: r => uptoBulk d + uptoBulkAll r
def uptoBulkEntries {H : Type} : List (Lit × DataW H) → Nat
  | [] => 0
  | x :: r => uptoBulkEntry x + uptoBulkEntries r
def uptoBulkEntry {H : Type} : Lit × DataW H → Nat
  | (.string bytes, d) => bytes.length + uptoBulk d + 1
  | (_, d) => uptoBulk d + 1
 end
def uptoSmall : (H : Type) → List (DataW H) → Bool := fun _ ds => decide (uptoBulkAll ds ≤ 1048576)
def OpenSpec.upto (s : _root_.Go.ChangeSpec) : _root_.Go.OpenSpec := { _root_.Go.OpenSpec.ofChange s with cond := some uptoSmall }

/-- 'laws.FnExactLinkIndex', WHERE WHAT IT READS IS OF BULK AT MOST 1048576: true; the input reads as it did. -/
def fnExactLinkIndexUptoRow : OpenClaim := { program := "ytkfdenokbhlfeaa", sum := "4562f05e3977a50134bbe7e246b5ff9ff6df08f547ef4b4c64dd4144afe1adfe", func := "loop.example/g00505/laws.FnExactLinkIndex", spec := "fnExactLinkIndex", apart := false, narrowed := true }
def FnExactLinkIndexUptoSaid : Prop := fnExactLinkIndexUptoRow.holds Try.pinned (OpenSpec.upto fnExactLinkIndexSpec)

/-- 'laws.FnExactRemoteEnd', WHERE WHAT IT READS IS OF BULK AT MOST 1048576: true; the input reads as it did. -/
def fnExactRemoteEndUptoRow : OpenClaim := { program := "ytkfdenokbhlfeaa", sum := "4562f05e3977a50134bbe7e246b5ff9ff6df08f547ef4b4c64dd4144afe1adfe", func := "loop.example/g00505/laws.FnExactRemoteEnd", spec := "fnExactRemoteEnd", apart := false, narrowed := true }
def FnExactRemoteEndUptoSaid : Prop := fnExactRemoteEndUptoRow.holds Try.pinned (OpenSpec.upto fnExactRemoteEndSpec)

/-- 'laws.FnExactInterfaceKind', WHERE WHAT IT READS IS OF BULK AT MOST 1048576: true; the input reads as it did. -/
def fnExactInterfaceKindUptoRow : OpenClaim := { program := "ytkfdenokbhlfeaa", sum := "4562f05e3977a50134bbe7e246b5ff9ff6df08f547ef4b4c64dd4144afe1adfe", func := "loop.example/g00505/laws.FnExactInterfaceKind", spec := "fnExactInterfaceKind", apart := false, narrowed := true }
def FnExactInterfaceKindUptoSaid : Prop := fnExactInterfaceKindUptoRow.holds Try.pinned (OpenSpec.upto fnExactInterfaceKindSpec)

/-- 'laws.FnExactInterfaces', WHERE WHAT IT READS IS OF BULK AT MOST 1048576: true; the input reads as it did. -/
def fnExactInterfacesUptoRow : OpenClaim := { program := "ytkfdenokbhlfeaa", sum := "4562f05e3977a50134bbe7e246b5ff9ff6df08f547ef4b4c64dd4144afe1adfe", func := "loop.example/g00505/laws.FnExactInterfaces", spec := "fnExactInterfaces", apart := false, narrowed := true }
def FnExactInterfacesUptoSaid : Prop := fnExactInterfacesUptoRow.holds Try.pinned (OpenSpec.upto fnExactInterfacesSpec)

/-- 'laws.FnExactInterfacesOfKind', WHERE WHAT IT READS IS OF BULK AT MOST 1048576: true; the input reads as it did. -/
def fnExactInterfacesOfKindUptoRow : OpenClaim := { program := "ytkfdenokbhlfeaa", sum := "4562f05e3977a50134bbe7e246b5ff9ff6df08f547ef4b4c64dd4144afe1adfe", func := "loop.example/g00505/laws.FnExactInterfacesOfKind", spec := "fnExactInterfacesOfKind", apart := false, narrowed := true }
def FnExactInterfacesOfKindUptoSaid : Prop := fnExactInterfacesOfKindUptoRow.holds Try.pinned (OpenSpec.upto fnExactInterfacesOfKindSpec)

/-- 'laws.FnExactCoreASes', WHERE WHAT IT READS IS OF BULK AT MOST 1048576: true; the input reads as it did. -/
def fnExactCoreASesUptoRow : OpenClaim := { program := "ytkfdenokbhlfeaa", sum := "4562f05e3977a50134bbe7e246b5ff9ff6df08f547ef4b4c64dd4144afe1adfe", func := "loop.example/g00505/laws.FnExactCoreASes", spec := "fnExactCoreASes", apart := false, narrowed := true }
def FnExactCoreASesUptoSaid : Prop := fnExactCoreASesUptoRow.holds Try.pinned (OpenSpec.upto fnExactCoreASesSpec)

/-- 'laws.FnExactChildren', WHERE WHAT IT READS IS OF BULK AT MOST 1048576: true; the input reads as it did. -/
def fnExactChildrenUptoRow : OpenClaim := { program := "ytkfdenokbhlfeaa", sum := "4562f05e3977a50134bbe7e246b5ff9ff6df08f547ef4b4c64dd4144afe1adfe", func := "loop.example/g00505/laws.FnExactChildren", spec := "fnExactChildren", apart := false, narrowed := true }
def FnExactChildrenUptoSaid : Prop := fnExactChildrenUptoRow.holds Try.pinned (OpenSpec.upto fnExactChildrenSpec)

/-- 'laws.FnExactParents', WHERE WHAT IT READS IS OF BULK AT MOST 1048576: true; the input reads as it did. -/
def fnExactParentsUptoRow : OpenClaim := { program := "ytkfdenokbhlfeaa", sum := "4562f05e3977a50134bbe7e246b5ff9ff6df08f547ef4b4c64dd4144afe1adfe", func := "loop.example/g00505/laws.FnExactParents", spec := "fnExactParents", apart := false, narrowed := true }
def FnExactParentsUptoSaid : Prop := fnExactParentsUptoRow.holds Try.pinned (OpenSpec.upto fnExactParentsSpec)

/-- 'laws.FnExactAncestors', WHERE WHAT IT READS IS OF BULK AT MOST 1048576: true; the input reads as it did. -/
def fnExactAncestorsUptoRow : OpenClaim := { program := "ytkfdenokbhlfeaa", sum := "4562f05e3977a50134bbe7e246b5ff9ff6df08f547ef4b4c64dd4144afe1adfe", func := "loop.example/g00505/laws.FnExactAncestors", spec := "fnExactAncestors", apart := false, narrowed := true }
def FnExactAncestorsUptoSaid : Prop := fnExactAncestorsUptoRow.holds Try.pinned (OpenSpec.upto fnExactAncestorsSpec)

/-- 'laws.FnExactDescendants', WHERE WHAT IT READS IS OF BULK AT MOST 1048576: true; the input reads as it did. -/
def fnExactDescendantsUptoRow : OpenClaim := { program := "ytkfdenokbhlfeaa", sum := "4562f05e3977a50134bbe7e246b5ff9ff6df08f547ef4b4c64dd4144afe1adfe", func := "loop.example/g00505/laws.FnExactDescendants", spec := "fnExactDescendants", apart := false, narrowed := true }
def FnExactDescendantsUptoSaid : Prop := fnExactDescendantsUptoRow.holds Try.pinned (OpenSpec.upto fnExactDescendantsSpec)

/-- 'laws.FnExactDepth', WHERE WHAT IT READS IS OF BULK AT MOST 1048576: true; the input reads as it did. -/
def fnExactDepthUptoRow : OpenClaim := { program := "ytkfdenokbhlfeaa", sum := "4562f05e3977a50134bbe7e246b5ff9ff6df08f547ef4b4c64dd4144afe1adfe", func := "loop.example/g00505/laws.FnExactDepth", spec := "fnExactDepth", apart := false, narrowed := true }
def FnExactDepthUptoSaid : Prop := fnExactDepthUptoRow.holds Try.pinned (OpenSpec.upto fnExactDepthSpec)

/-- 'laws.FnExactCoreComponent', WHERE WHAT IT READS IS OF BULK AT MOST 1048576: true; the input reads as it did. -/
def fnExactCoreComponentUptoRow : OpenClaim := { program := "ytkfdenokbhlfeaa", sum := "4562f05e3977a50134bbe7e246b5ff9ff6df08f547ef4b4c64dd4144afe1adfe", func := "loop.example/g00505/laws.FnExactCoreComponent", spec := "fnExactCoreComponent", apart := false, narrowed := true }
def FnExactCoreComponentUptoSaid : Prop := fnExactCoreComponentUptoRow.holds Try.pinned (OpenSpec.upto fnExactCoreComponentSpec)

end Rows
end Go.Proofs.Ytkfdenokbhlfeaa
