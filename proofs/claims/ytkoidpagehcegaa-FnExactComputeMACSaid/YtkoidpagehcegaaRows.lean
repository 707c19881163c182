/-
  No cell of these rows narrows 'for every input' (looked for: loops, veiled, ifaces, maps, wideKeys, modest, calm, conditions, laid).
  DERIVED. THE GIVEN ROWS OF THIS SEAT. 12 by the template 'for every input the law returns true; each argument reads behind the call as it read before'; 0 by the template 'total and deterministic' (their statements: YtkoidpagehcegaaTotals.lean).
  GIVEN WITH THE SEED: the statements are not yours to turn. If you find one false, say at which input.
  Laid BY PROGRAM, IN A SANDBOX (cutbox-rows.mjs): the forced cells as the released guide's own fill.sh prints them over the translation 22763f4a9abc81bf… (all of the seat's roots in one cut). By AI agents, Wed Nov 11 2026. No macro, syntax, notation, axiom, sorry.
-/
import Derived.Test.YtkoidpagehcegaaChecked
import GoSem.Claim
import GoSem.ClaimJoined
import GoSem.ClaimMapViews
import Derived.JoinedTies
import Derived.KernelRfl
namespace Go.Proofs.Ytkoidpagehcegaa
/- THE CELL 'sum', in the pinned program and in every row, IS THE sha256 OF THE DUMP (.gsa) THAT YtkoidpagehcegaaProg.lean LOADS. Nothing in Lean hashes anything: it is a label: what it is worth is what the hold of that sum in a sandbox is worth. -/
noncomputable def Try.pinned : Pinned := { name := "ytkoidpagehcegaa", sum := "22763f4a9abc81bfcf35a9828386a5d6f87cc4541a762fa0f5b0bf00e3af68bf", checked := Try.checked }
namespace Rows
def none {H : Type} : Left H := { results := [], args := [] }

/-- 'laws.FnExactIntersection': WHATEVER THE INPUT: true; the input reads as it did. -/
def fnExactIntersectionSpec : ChangeSpec := { name := "fnExactIntersection", fn := fun _ => fun
  | [d1, d2] => { results := [.lit (.bool true)], args := [d1, d2] }
  | _ => none }
def fnExactIntersectionRow : OpenClaim := { program := "ytkoidpagehcegaa", sum := "22763f4a9abc81bfcf35a9828386a5d6f87cc4541a762fa0f5b0bf00e3af68bf", func := "loop.example/g00505/laws.FnExactIntersection", spec := "fnExactIntersection", apart := false }
def FnExactIntersectionSaid : Prop := fnExactIntersectionRow.holds Try.pinned (OpenSpec.ofChange fnExactIntersectionSpec)

/-- ITS FALSE NEIGHBOUR: 'it returns false'. Refute it at one input. -/
def fnExactIntersectionWrong : ChangeSpec := { name := "fnExactIntersection", fn := fun _ => fun
  | [d1, d2] => { results := [.lit (.bool false)], args := [d1, d2] }
  | _ => none }
def FnExactIntersectionWrongFalsely : Prop := fnExactIntersectionRow.holds Try.pinned (OpenSpec.ofChange fnExactIntersectionWrong)

/-- 'laws.FnExactUnion': WHATEVER THE INPUT: true; the input reads as it did. -/
def fnExactUnionSpec : ChangeSpec := { name := "fnExactUnion", fn := fun _ => fun
  | [d1, d2] => { results := [.lit (.bool true)], args := [d1, d2] }
  | _ => none }
def fnExactUnionRow : OpenClaim := { program := "ytkoidpagehcegaa", sum := "22763f4a9abc81bfcf35a9828386a5d6f87cc4541a762fa0f5b0bf00e3af68bf", func := "loop.example/g00505/laws.FnExactUnion", spec := "fnExactUnion", apart := false }
def FnExactUnionSaid : Prop := fnExactUnionRow.holds Try.pinned (OpenSpec.ofChange fnExactUnionSpec)

/-- ITS FALSE NEIGHBOUR: 'it returns false'. Refute it at one input. -/
def fnExactUnionWrong : ChangeSpec := { name := "fnExactUnion", fn := fun _ => fun
  | [d1, d2] => { results := [.lit (.bool false)], args := [d1, d2] }
  | _ => none }
def FnExactUnionWrongFalsely : Prop := fnExactUnionRow.holds Try.pinned (OpenSpec.ofChange fnExactUnionWrong)

/-- 'laws.FnExactAddElement': WHATEVER THE INPUT: true; the input reads as it did. -/
def fnExactAddElementSpec : ChangeSpec := { name := "fnExactAddElement", fn := fun _ => fun
  | [d1, d2] => { results := [.lit (.bool true)], args := [d1, d2] }
  | _ => none }
def fnExactAddElementRow : OpenClaim := { program := "ytkoidpagehcegaa", sum := "22763f4a9abc81bfcf35a9828386a5d6f87cc4541a762fa0f5b0bf00e3af68bf", func := "loop.example/g00505/laws.FnExactAddElement", spec := "fnExactAddElement", apart := false }
def FnExactAddElementSaid : Prop := fnExactAddElementRow.holds Try.pinned (OpenSpec.ofChange fnExactAddElementSpec)

/-- ITS FALSE NEIGHBOUR: 'it returns false'. Refute it at one input. -/
def fnExactAddElementWrong : ChangeSpec := { name := "fnExactAddElement", fn := fun _ => fun
  | [d1, d2] => { results := [.lit (.bool false)], args := [d1, d2] }
  | _ => none }
def FnExactAddElementWrongFalsely : Prop := fnExactAddElementRow.holds Try.pinned (OpenSpec.ofChange fnExactAddElementWrong)

/-- 'laws.FnExactRemoveElement': WHATEVER THE INPUT: true; the input reads as it did. -/
def fnExactRemoveElementSpec : ChangeSpec := { name := "fnExactRemoveElement", fn := fun _ => fun
  | [d1, d2] => { results := [.lit (.bool true)], args := [d1, d2] }
  | _ => none }
def fnExactRemoveElementRow : OpenClaim := { program := "ytkoidpagehcegaa", sum := "22763f4a9abc81bfcf35a9828386a5d6f87cc4541a762fa0f5b0bf00e3af68bf", func := "loop.example/g00505/laws.FnExactRemoveElement", spec := "fnExactRemoveElement", apart := false }
def FnExactRemoveElementSaid : Prop := fnExactRemoveElementRow.holds Try.pinned (OpenSpec.ofChange fnExactRemoveElementSpec)

/-- ITS FALSE NEIGHBOUR: 'it returns false'. Refute it at one input. -/
def fnExactRemoveElementWrong : ChangeSpec := { name := "fnExactRemoveElement", fn := fun _ => fun
  | [d1, d2] => { results := [.lit (.bool false)], args := [d1, d2] }
  | _ => none }
def FnExactRemoveElementWrongFalsely : Prop := fnExactRemoveElementRow.holds Try.pinned (OpenSpec.ofChange fnExactRemoveElementWrong)

/-- 'laws.FnExactSetSize': WHATEVER THE INPUT: true; the input reads as it did. -/
def fnExactSetSizeSpec : ChangeSpec := { name := "fnExactSetSize", fn := fun _ => fun
  | [d] => { results := [.lit (.bool true)], args := [d] }
  | _ => none }
def fnExactSetSizeRow : OpenClaim := { program := "ytkoidpagehcegaa", sum := "22763f4a9abc81bfcf35a9828386a5d6f87cc4541a762fa0f5b0bf00e3af68bf", func := "loop.example/g00505/laws.FnExactSetSize", spec := "fnExactSetSize", apart := false }
def FnExactSetSizeSaid : Prop := fnExactSetSizeRow.holds Try.pinned (OpenSpec.ofChange fnExactSetSizeSpec)

/-- ITS FALSE NEIGHBOUR: 'it returns false'. Refute it at one input. -/
def fnExactSetSizeWrong : ChangeSpec := { name := "fnExactSetSize", fn := fun _ => fun
  | [d] => { results := [.lit (.bool false)], args := [d] }
  | _ => none }
def FnExactSetSizeWrongFalsely : Prop := fnExactSetSizeRow.holds Try.pinned (OpenSpec.ofChange fnExactSetSizeWrong)

/-- 'laws.FnExactElements': WHATEVER THE INPUT: true; the input reads as it did. -/
def fnExactElementsSpec : ChangeSpec := { name := "fnExactElements", fn := fun _ => fun
  | [d] => { results := [.lit (.bool true)], args := [d] }
  | _ => none }
def fnExactElementsRow : OpenClaim := { program := "ytkoidpagehcegaa", sum := "22763f4a9abc81bfcf35a9828386a5d6f87cc4541a762fa0f5b0bf00e3af68bf", func := "loop.example/g00505/laws.FnExactElements", spec := "fnExactElements", apart := false }
def FnExactElementsSaid : Prop := fnExactElementsRow.holds Try.pinned (OpenSpec.ofChange fnExactElementsSpec)

/-- ITS FALSE NEIGHBOUR: 'it returns false'. Refute it at one input. -/
def fnExactElementsWrong : ChangeSpec := { name := "fnExactElements", fn := fun _ => fun
  | [d] => { results := [.lit (.bool false)], args := [d] }
  | _ => none }
def FnExactElementsWrongFalsely : Prop := fnExactElementsRow.holds Try.pinned (OpenSpec.ofChange fnExactElementsWrong)

/-- 'laws.FnExactMakeSet': WHATEVER THE INPUT: true; the input reads as it did. -/
def fnExactMakeSetSpec : ChangeSpec := { name := "fnExactMakeSet", fn := fun _ => fun
  | [d] => { results := [.lit (.bool true)], args := [d] }
  | _ => none }
def fnExactMakeSetRow : OpenClaim := { program := "ytkoidpagehcegaa", sum := "22763f4a9abc81bfcf35a9828386a5d6f87cc4541a762fa0f5b0bf00e3af68bf", func := "loop.example/g00505/laws.FnExactMakeSet", spec := "fnExactMakeSet", apart := false }
def FnExactMakeSetSaid : Prop := fnExactMakeSetRow.holds Try.pinned (OpenSpec.ofChange fnExactMakeSetSpec)

/-- ITS FALSE NEIGHBOUR: 'it returns false'. Refute it at one input. -/
def fnExactMakeSetWrong : ChangeSpec := { name := "fnExactMakeSet", fn := fun _ => fun
  | [d] => { results := [.lit (.bool false)], args := [d] }
  | _ => none }
def FnExactMakeSetWrongFalsely : Prop := fnExactMakeSetRow.holds Try.pinned (OpenSpec.ofChange fnExactMakeSetWrong)

/-- 'laws.FnExactEqualInts': WHATEVER THE INPUT: true; the input reads as it did. -/
def fnExactEqualIntsSpec : ChangeSpec := { name := "fnExactEqualInts", fn := fun _ => fun
  | [d1, d2] => { results := [.lit (.bool true)], args := [d1, d2] }
  | _ => none }
def fnExactEqualIntsRow : OpenClaim := { program := "ytkoidpagehcegaa", sum := "22763f4a9abc81bfcf35a9828386a5d6f87cc4541a762fa0f5b0bf00e3af68bf", func := "loop.example/g00505/laws.FnExactEqualInts", spec := "fnExactEqualInts", apart := false }
def FnExactEqualIntsSaid : Prop := fnExactEqualIntsRow.holds Try.pinned (OpenSpec.ofChange fnExactEqualIntsSpec)

/-- ITS FALSE NEIGHBOUR: 'it returns false'. Refute it at one input. -/
def fnExactEqualIntsWrong : ChangeSpec := { name := "fnExactEqualInts", fn := fun _ => fun
  | [d1, d2] => { results := [.lit (.bool false)], args := [d1, d2] }
  | _ => none }
def FnExactEqualIntsWrongFalsely : Prop := fnExactEqualIntsRow.holds Try.pinned (OpenSpec.ofChange fnExactEqualIntsWrong)

/-- 'laws.FnExactDigest': WHATEVER THE INPUT: true; the input reads as it did. -/
def fnExactDigestSpec : ChangeSpec := { name := "fnExactDigest", fn := fun _ => fun
  | [d] => { results := [.lit (.bool true)], args := [d] }
  | _ => none }
def fnExactDigestRow : OpenClaim := { program := "ytkoidpagehcegaa", sum := "22763f4a9abc81bfcf35a9828386a5d6f87cc4541a762fa0f5b0bf00e3af68bf", func := "loop.example/g00505/laws.FnExactDigest", spec := "fnExactDigest", apart := false }
def FnExactDigestSaid : Prop := fnExactDigestRow.holds Try.pinned (OpenSpec.ofChange fnExactDigestSpec)

/-- ITS FALSE NEIGHBOUR: 'it returns false'. Refute it at one input. -/
def fnExactDigestWrong : ChangeSpec := { name := "fnExactDigest", fn := fun _ => fun
  | [d] => { results := [.lit (.bool false)], args := [d] }
  | _ => none }
def FnExactDigestWrongFalsely : Prop := fnExactDigestRow.holds Try.pinned (OpenSpec.ofChange fnExactDigestWrong)

/-- 'laws.FnExactChainAdd': WHATEVER THE INPUT: true; the input reads as it did. -/
def fnExactChainAddSpec : ChangeSpec := { name := "fnExactChainAdd", fn := fun _ => fun
  | [d1, d2] => { results := [.lit (.bool true)], args := [d1, d2] }
  | _ => none }
def fnExactChainAddRow : OpenClaim := { program := "ytkoidpagehcegaa", sum := "22763f4a9abc81bfcf35a9828386a5d6f87cc4541a762fa0f5b0bf00e3af68bf", func := "loop.example/g00505/laws.FnExactChainAdd", spec := "fnExactChainAdd", apart := false }
def FnExactChainAddSaid : Prop := fnExactChainAddRow.holds Try.pinned (OpenSpec.ofChange fnExactChainAddSpec)

/-- ITS FALSE NEIGHBOUR: 'it returns false'. Refute it at one input. -/
def fnExactChainAddWrong : ChangeSpec := { name := "fnExactChainAdd", fn := fun _ => fun
  | [d1, d2] => { results := [.lit (.bool false)], args := [d1, d2] }
  | _ => none }
def FnExactChainAddWrongFalsely : Prop := fnExactChainAddRow.holds Try.pinned (OpenSpec.ofChange fnExactChainAddWrong)

/-- 'laws.FnExactChainSub': WHATEVER THE INPUT: true; the input reads as it did. -/
def fnExactChainSubSpec : ChangeSpec := { name := "fnExactChainSub", fn := fun _ => fun
  | [d1, d2] => { results := [.lit (.bool true)], args := [d1, d2] }
  | _ => none }
def fnExactChainSubRow : OpenClaim := { program := "ytkoidpagehcegaa", sum := "22763f4a9abc81bfcf35a9828386a5d6f87cc4541a762fa0f5b0bf00e3af68bf", func := "loop.example/g00505/laws.FnExactChainSub", spec := "fnExactChainSub", apart := false }
def FnExactChainSubSaid : Prop := fnExactChainSubRow.holds Try.pinned (OpenSpec.ofChange fnExactChainSubSpec)

/-- ITS FALSE NEIGHBOUR: 'it returns false'. Refute it at one input. -/
def fnExactChainSubWrong : ChangeSpec := { name := "fnExactChainSub", fn := fun _ => fun
  | [d1, d2] => { results := [.lit (.bool false)], args := [d1, d2] }
  | _ => none }
def FnExactChainSubWrongFalsely : Prop := fnExactChainSubRow.holds Try.pinned (OpenSpec.ofChange fnExactChainSubWrong)

/-- 'laws.FnExactComputeMAC': WHATEVER THE INPUT: true; the input reads as it did. -/
def fnExactComputeMACSpec : ChangeSpec := { name := "fnExactComputeMAC", fn := fun _ => fun
  | [d1, d2] => { results := [.lit (.bool true)], args := [d1, d2] }
  | _ => none }
def fnExactComputeMACRow : OpenClaim := { program := "ytkoidpagehcegaa", sum := "22763f4a9abc81bfcf35a9828386a5d6f87cc4541a762fa0f5b0bf00e3af68bf", func := "loop.example/g00505/laws.FnExactComputeMAC", spec := "fnExactComputeMAC", apart := false }
def FnExactComputeMACSaid : Prop := fnExactComputeMACRow.holds Try.pinned (OpenSpec.ofChange fnExactComputeMACSpec)

/-- ITS FALSE NEIGHBOUR: 'it returns false'. Refute it at one input. -/
def fnExactComputeMACWrong : ChangeSpec := { name := "fnExactComputeMAC", fn := fun _ => fun
  | [d1, d2] => { results := [.lit (.bool false)], args := [d1, d2] }
  | _ => none }
def FnExactComputeMACWrongFalsely : Prop := fnExactComputeMACRow.holds Try.pinned (OpenSpec.ofChange fnExactComputeMACWrong)

/- THE SECOND FORM. 'bulk': how many values and letters a reading holds, each counted each time it is reached (what is shared counts as often as it is met; a slice's spare places count too). A statement '..UptoSaid' is the law's where the arguments, and the package variables that the reading takes, are together of bulk at most 1048576: NARROWER than '..Said'. Prove '..Said' where nothing that the law and all that it calls make is longer than what came in: it says more and counts as full. Else prove '..UptoSaid'. A law counts once. -/
mutual
def uptoBulk {H : Type} : DataW H → Nat
  | .lit (.string bytes) => bytes.length + 1
  | .lit _ => 1
  | .nil => 1
  | .ptr d => uptoBulk d + 1
  | .slice elems spare => uptoBulkAll elems + uptoBulkAll spare + 1
  | .agg parts => uptoBulkAll parts + 1
  | .iface _ d => uptoBulk d + 1
  | .map entries => uptoBulkEntries entries + 1
  | .held _ => 1
def uptoBulkAll {H : Type} : List (DataW H) → Nat
  | [] => 0
  | d :: r => uptoBulk d + uptoBulkAll r
def uptoBulkEntries {H : Type} : List (Lit × DataW H) → Nat
  | [] => 0
  | x :: r => uptoBulkEntry x + uptoBulkEntries r
def uptoBulkEntry {H : Type} : Lit × DataW H → Nat
  | (.string bytes, d) => bytes.length + uptoBulk d + 1
  | (_, d) => uptoBulk d + 1
 end
def uptoSmall : (H : Type) → List (DataW H) → Bool := fun _ ds => decide (uptoBulkAll ds ≤ 1048576)
def OpenSpec.upto (s : _root_.Go.ChangeSpec) : _root_.Go.OpenSpec := { _root_.Go.OpenSpec.ofChange s with cond := some uptoSmall }

/-- 'laws.FnExactIntersection', WHERE WHAT IT READS IS OF BULK AT MOST 1048576: true; the input reads as it did. -/
def fnExactIntersectionUptoRow : OpenClaim := { program := "ytkoidpagehcegaa", sum := "22763f4a9abc81bfcf35a9828386a5d6f87cc4541a762fa0f5b0bf00e3af68bf", func := "loop.example/g00505/laws.FnExactIntersection", spec := "fnExactIntersection", apart := false, narrowed := true }
def FnExactIntersectionUptoSaid : Prop := fnExactIntersectionUptoRow.holds Try.pinned (OpenSpec.upto fnExactIntersectionSpec)

/-- 'laws.FnExactUnion', WHERE WHAT IT READS IS OF BULK AT MOST 1048576: true; the input reads as it did. -/
def fnExactUnionUptoRow : OpenClaim := { program := "ytkoidpagehcegaa", sum := "22763f4a9abc81bfcf35a9828386a5d6f87cc4541a762fa0f5b0bf00e3af68bf", func := "loop.example/g00505/laws.FnExactUnion", spec := "fnExactUnion", apart := false, narrowed := true }
def FnExactUnionUptoSaid : Prop := fnExactUnionUptoRow.holds Try.pinned (OpenSpec.upto fnExactUnionSpec)

/-- 'laws.FnExactAddElement', WHERE WHAT IT READS IS OF BULK AT MOST 1048576: true; the input reads as it did. -/
def fnExactAddElementUptoRow : OpenClaim := { program := "ytkoidpagehcegaa", sum := "22763f4a9abc81bfcf35a9828386a5d6f87cc4541a762fa0f5b0bf00e3af68bf", func := "loop.example/g00505/laws.FnExactAddElement", spec := "fnExactAddElement", apart := false, narrowed := true }
def FnExactAddElementUptoSaid : Prop := fnExactAddElementUptoRow.holds Try.pinned (OpenSpec.upto fnExactAddElementSpec)

/-- 'laws.FnExactRemoveElement', WHERE WHAT IT READS IS OF BULK AT MOST 1048576: true; the input reads as it did. -/
def fnExactRemoveElementUptoRow : OpenClaim := { program := "ytkoidpagehcegaa", sum := "22763f4a9abc81bfcf35a9828386a5d6f87cc4541a762fa0f5b0bf00e3af68bf", func := "loop.example/g00505/laws.FnExactRemoveElement", spec := "fnExactRemoveElement", apart := false, narrowed := true }
def FnExactRemoveElementUptoSaid : Prop := fnExactRemoveElementUptoRow.holds Try.pinned (OpenSpec.upto fnExactRemoveElementSpec)

/-- 'laws.FnExactSetSize', WHERE WHAT IT READS IS OF BULK AT MOST 1048576: true; the input reads as it did. -/
def fnExactSetSizeUptoRow : OpenClaim := { program := "ytkoidpagehcegaa", sum := "22763f4a9abc81bfcf35a9828386a5d6f87cc4541a762fa0f5b0bf00e3af68bf", func := "loop.example/g00505/laws.FnExactSetSize", spec := "fnExactSetSize", apart := false, narrowed := true }
def FnExactSetSizeUptoSaid : Prop := fnExactSetSizeUptoRow.holds Try.pinned (OpenSpec.upto fnExactSetSizeSpec)

/-- 'laws.FnExactElements', WHERE WHAT IT READS IS OF BULK AT MOST 1048576: true; the input reads as it did. -/
def fnExactElementsUptoRow : OpenClaim := { program := "ytkoidpagehcegaa", sum := "22763f4a9abc81bfcf35a9828386a5d6f87cc4541a762fa0f5b0bf00e3af68bf", func := "loop.example/g00505/laws.FnExactElements", spec := "fnExactElements", apart := false, narrowed := true }
def FnExactElementsUptoSaid : Prop := fnExactElementsUptoRow.holds Try.pinned (OpenSpec.upto fnExactElementsSpec)

/-- 'laws.FnExactMakeSet', WHERE WHAT IT READS IS OF BULK AT MOST 1048576: true; the input reads as it did. -/
def fnExactMakeSetUptoRow : OpenClaim := { program := "ytkoidpagehcegaa", sum := "22763f4a9abc81bfcf35a9828386a5d6f87cc4541a762fa0f5b0bf00e3af68bf", func := "loop.example/g00505/laws.FnExactMakeSet", spec := "fnExactMakeSet", apart := false, narrowed := true }
def FnExactMakeSetUptoSaid : Prop := fnExactMakeSetUptoRow.holds Try.pinned (OpenSpec.upto fnExactMakeSetSpec)

/-- 'laws.FnExactEqualInts', WHERE WHAT IT READS IS OF BULK AT MOST 1048576: true; the input reads as it did. -/
def fnExactEqualIntsUptoRow : OpenClaim := { program := "ytkoidpagehcegaa", sum := "22763f4a9abc81bfcf35a9828386a5d6f87cc4541a762fa0f5b0bf00e3af68bf", func := "loop.example/g00505/laws.FnExactEqualInts", spec := "fnExactEqualInts", apart := false, narrowed := true }
def FnExactEqualIntsUptoSaid : Prop := fnExactEqualIntsUptoRow.holds Try.pinned (OpenSpec.upto fnExactEqualIntsSpec)

/-- 'laws.FnExactDigest', WHERE WHAT IT READS IS OF BULK AT MOST 1048576: true; the input reads as it did. -/
def fnExactDigestUptoRow : OpenClaim := { program := "ytkoidpagehcegaa", sum := "22763f4a9abc81bfcf35a9828386a5d6f87cc4541a762fa0f5b0bf00e3af68bf", func := "loop.example/g00505/laws.FnExactDigest", spec := "fnExactDigest", apart := false, narrowed := true }
def FnExactDigestUptoSaid : Prop := fnExactDigestUptoRow.holds Try.pinned (OpenSpec.upto fnExactDigestSpec)

/-- 'laws.FnExactChainAdd', WHERE WHAT IT READS IS OF BULK AT MOST 1048576: true; the input reads as it did. -/
def fnExactChainAddUptoRow : OpenClaim := { program := "ytkoidpagehcegaa", sum := "22763f4a9abc81bfcf35a9828386a5d6f87cc4541a762fa0f5b0bf00e3af68bf", func := "loop.example/g00505/laws.FnExactChainAdd", spec := "fnExactChainAdd", apart := false, narrowed := true }
def FnExactChainAddUptoSaid : Prop := fnExactChainAddUptoRow.holds Try.pinned (OpenSpec.upto fnExactChainAddSpec)

/-- 'laws.FnExactChainSub', WHERE WHAT IT READS IS OF BULK AT MOST 1048576: true; the input reads as it did. -/
def fnExactChainSubUptoRow : OpenClaim := { program := "ytkoidpagehcegaa", sum := "22763f4a9abc81bfcf35a9828386a5d6f87cc4541a762fa0f5b0bf00e3af68bf", func := "loop.example/g00505/laws.FnExactChainSub", spec := "fnExactChainSub", apart := false, narrowed := true }
def FnExactChainSubUptoSaid : Prop := fnExactChainSubUptoRow.holds Try.pinned (OpenSpec.upto fnExactChainSubSpec)

/-- 'laws.FnExactComputeMAC', WHERE WHAT IT READS IS OF BULK AT MOST 1048576: true; the input reads as it did. -/
def fnExactComputeMACUptoRow : OpenClaim := { program := "ytkoidpagehcegaa", sum := "22763f4a9abc81bfcf35a9828386a5d6f87cc4541a762fa0f5b0bf00e3af68bf", func := "loop.example/g00505/laws.FnExactComputeMAC", spec := "fnExactComputeMAC", apart := false, narrowed := true }
def FnExactComputeMACUptoSaid : Prop := fnExactComputeMACUptoRow.holds Try.pinned (OpenSpec.upto fnExactComputeMACSpec)

end Rows
end Go.Proofs.Ytkoidpagehcegaa
