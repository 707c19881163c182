/-
  No cell of these rows narrows 'for every input' (looked for: loops, veiled, ifaces, maps, wideKeys, modest, calm, conditions, laid).
  DERIVED. THE GIVEN ROWS OF THIS SEAT. 12 by the template 'for every input the law returns true; each argument reads behind the call as it read before'; 0 by the template 'total and deterministic' (their statements: YtihlgdjkocjncaaTotals.lean).
  GIVEN WITH THE SEED: the statements are not yours to turn. If you find one false, say at which input.
  Laid BY PROGRAM, IN A SANDBOX (cutbox-rows.mjs): the forced cells as the released guide's own fill.sh prints them over the translation a995398cac87747d… (all of the seat's roots in one cut). By AI agents, Wed Nov 11 2026. No macro, syntax, notation, axiom, sorry.
-/
import Derived.Test.YtihlgdjkocjncaaChecked
import GoSem.Claim
import GoSem.ClaimJoined
import GoSem.ClaimMapViews
import Derived.JoinedTies
import Derived.KernelRfl
namespace Go.Proofs.Ytihlgdjkocjncaa
/- THE CELL 'sum', in the pinned program and in every row, IS THE sha256 OF THE DUMP (.gsa) THAT YtihlgdjkocjncaaProg.lean LOADS. Nothing in Lean hashes anything: it is a label: what it is worth is what the hold of that sum in a sandbox is worth. -/
noncomputable def Try.pinned : Pinned := { name := "ytihlgdjkocjncaa", sum := "a995398cac87747d80439e56e50bbeee622626ab66d9614c8fca072cc85cca88", checked := Try.checked }
namespace Rows
def none {H : Type} : Left H := { results := [], args := [] }

/-- 'laws.FnExactConstants': WHATEVER THE INPUT: true; the input reads as it did. -/
def fnExactConstantsSpec : ChangeSpec := { name := "fnExactConstants", fn := fun _ => fun
  | [] => { results := [.lit (.bool true)], args := [] }
  | _ => none }
def fnExactConstantsRow : OpenClaim := { program := "ytihlgdjkocjncaa", sum := "a995398cac87747d80439e56e50bbeee622626ab66d9614c8fca072cc85cca88", func := "loop.example/g00505/laws.FnExactConstants", spec := "fnExactConstants", apart := false }
def FnExactConstantsSaid : Prop := fnExactConstantsRow.holds Try.pinned (OpenSpec.ofChange fnExactConstantsSpec)

/-- ITS FALSE NEIGHBOUR: 'it returns false'. Refute it at one input. -/
def fnExactConstantsWrong : ChangeSpec := { name := "fnExactConstants", fn := fun _ => fun
  | [] => { results := [.lit (.bool false)], args := [] }
  | _ => none }
def FnExactConstantsWrongFalsely : Prop := fnExactConstantsRow.holds Try.pinned (OpenSpec.ofChange fnExactConstantsWrong)

/-- 'laws.FnExactInRange': WHATEVER THE INPUT: true; the input reads as it did. -/
def fnExactInRangeSpec : ChangeSpec := { name := "fnExactInRange", fn := fun _ => fun
  | [d1, d2, d3] => { results := [.lit (.bool true)], args := [d1, d2, d3] }
  | _ => none }
def fnExactInRangeRow : OpenClaim := { program := "ytihlgdjkocjncaa", sum := "a995398cac87747d80439e56e50bbeee622626ab66d9614c8fca072cc85cca88", func := "loop.example/g00505/laws.FnExactInRange", spec := "fnExactInRange", apart := false }
def FnExactInRangeSaid : Prop := fnExactInRangeRow.holds Try.pinned (OpenSpec.ofChange fnExactInRangeSpec)

/-- ITS FALSE NEIGHBOUR: 'it returns false'. Refute it at one input. -/
def fnExactInRangeWrong : ChangeSpec := { name := "fnExactInRange", fn := fun _ => fun
  | [d1, d2, d3] => { results := [.lit (.bool false)], args := [d1, d2, d3] }
  | _ => none }
def FnExactInRangeWrongFalsely : Prop := fnExactInRangeRow.holds Try.pinned (OpenSpec.ofChange fnExactInRangeWrong)

/-- 'laws.FnExactValidKey': WHATEVER THE INPUT: true; the input reads as it did. -/
def fnExactValidKeySpec : ChangeSpec := { name := "fnExactValidKey", fn := fun _ => fun
  | [d] => { results := [.lit (.bool true)], args := [d] }
  | _ => none }
def fnExactValidKeyRow : OpenClaim := { program := "ytihlgdjkocjncaa", sum := "a995398cac87747d80439e56e50bbeee622626ab66d9614c8fca072cc85cca88", func := "loop.example/g00505/laws.FnExactValidKey", spec := "fnExactValidKey", apart := false }
def FnExactValidKeySaid : Prop := fnExactValidKeyRow.holds Try.pinned (OpenSpec.ofChange fnExactValidKeySpec)

/-- ITS FALSE NEIGHBOUR: 'it returns false'. Refute it at one input. -/
def fnExactValidKeyWrong : ChangeSpec := { name := "fnExactValidKey", fn := fun _ => fun
  | [d] => { results := [.lit (.bool false)], args := [d] }
  | _ => none }
def FnExactValidKeyWrongFalsely : Prop := fnExactValidKeyRow.holds Try.pinned (OpenSpec.ofChange fnExactValidKeyWrong)

/-- 'laws.FnExactValidSet': WHATEVER THE INPUT: true; the input reads as it did. -/
def fnExactValidSetSpec : ChangeSpec := { name := "fnExactValidSet", fn := fun _ => fun
  | [d] => { results := [.lit (.bool true)], args := [d] }
  | _ => none }
def fnExactValidSetRow : OpenClaim := { program := "ytihlgdjkocjncaa", sum := "a995398cac87747d80439e56e50bbeee622626ab66d9614c8fca072cc85cca88", func := "loop.example/g00505/laws.FnExactValidSet", spec := "fnExactValidSet", apart := false }
def FnExactValidSetSaid : Prop := fnExactValidSetRow.holds Try.pinned (OpenSpec.ofChange fnExactValidSetSpec)

/-- ITS FALSE NEIGHBOUR: 'it returns false'. Refute it at one input. -/
def fnExactValidSetWrong : ChangeSpec := { name := "fnExactValidSet", fn := fun _ => fun
  | [d] => { results := [.lit (.bool false)], args := [d] }
  | _ => none }
def FnExactValidSetWrongFalsely : Prop := fnExactValidSetRow.holds Try.pinned (OpenSpec.ofChange fnExactValidSetWrong)

/-- 'laws.FnExactMax': WHATEVER THE INPUT: true; the input reads as it did. -/
def fnExactMaxSpec : ChangeSpec := { name := "fnExactMax", fn := fun _ => fun
  | [d1, d2] => { results := [.lit (.bool true)], args := [d1, d2] }
  | _ => none }
def fnExactMaxRow : OpenClaim := { program := "ytihlgdjkocjncaa", sum := "a995398cac87747d80439e56e50bbeee622626ab66d9614c8fca072cc85cca88", func := "loop.example/g00505/laws.FnExactMax", spec := "fnExactMax", apart := false }
def FnExactMaxSaid : Prop := fnExactMaxRow.holds Try.pinned (OpenSpec.ofChange fnExactMaxSpec)

/-- ITS FALSE NEIGHBOUR: 'it returns false'. Refute it at one input. -/
def fnExactMaxWrong : ChangeSpec := { name := "fnExactMax", fn := fun _ => fun
  | [d1, d2] => { results := [.lit (.bool false)], args := [d1, d2] }
  | _ => none }
def FnExactMaxWrongFalsely : Prop := fnExactMaxRow.holds Try.pinned (OpenSpec.ofChange fnExactMaxWrong)

/-- 'laws.FnExactMin': WHATEVER THE INPUT: true; the input reads as it did. -/
def fnExactMinSpec : ChangeSpec := { name := "fnExactMin", fn := fun _ => fun
  | [d1, d2] => { results := [.lit (.bool true)], args := [d1, d2] }
  | _ => none }
def fnExactMinRow : OpenClaim := { program := "ytihlgdjkocjncaa", sum := "a995398cac87747d80439e56e50bbeee622626ab66d9614c8fca072cc85cca88", func := "loop.example/g00505/laws.FnExactMin", spec := "fnExactMin", apart := false }
def FnExactMinSaid : Prop := fnExactMinRow.holds Try.pinned (OpenSpec.ofChange fnExactMinSpec)

/-- ITS FALSE NEIGHBOUR: 'it returns false'. Refute it at one input. -/
def fnExactMinWrong : ChangeSpec := { name := "fnExactMin", fn := fun _ => fun
  | [d1, d2] => { results := [.lit (.bool false)], args := [d1, d2] }
  | _ => none }
def FnExactMinWrongFalsely : Prop := fnExactMinRow.holds Try.pinned (OpenSpec.ofChange fnExactMinWrong)

/-- 'laws.FnExactContains': WHATEVER THE INPUT: true; the input reads as it did. -/
def fnExactContainsSpec : ChangeSpec := { name := "fnExactContains", fn := fun _ => fun
  | [d1, d2] => { results := [.lit (.bool true)], args := [d1, d2] }
  | _ => none }
def fnExactContainsRow : OpenClaim := { program := "ytihlgdjkocjncaa", sum := "a995398cac87747d80439e56e50bbeee622626ab66d9614c8fca072cc85cca88", func := "loop.example/g00505/laws.FnExactContains", spec := "fnExactContains", apart := false }
def FnExactContainsSaid : Prop := fnExactContainsRow.holds Try.pinned (OpenSpec.ofChange fnExactContainsSpec)

/-- ITS FALSE NEIGHBOUR: 'it returns false'. Refute it at one input. -/
def fnExactContainsWrong : ChangeSpec := { name := "fnExactContains", fn := fun _ => fun
  | [d1, d2] => { results := [.lit (.bool false)], args := [d1, d2] }
  | _ => none }
def FnExactContainsWrongFalsely : Prop := fnExactContainsRow.holds Try.pinned (OpenSpec.ofChange fnExactContainsWrong)

/-- 'laws.FnExactCeilDiv': WHATEVER THE INPUT: true; the input reads as it did. -/
def fnExactCeilDivSpec : ChangeSpec := { name := "fnExactCeilDiv", fn := fun _ => fun
  | [d1, d2] => { results := [.lit (.bool true)], args := [d1, d2] }
  | _ => none }
def fnExactCeilDivRow : OpenClaim := { program := "ytihlgdjkocjncaa", sum := "a995398cac87747d80439e56e50bbeee622626ab66d9614c8fca072cc85cca88", func := "loop.example/g00505/laws.FnExactCeilDiv", spec := "fnExactCeilDiv", apart := false }
def FnExactCeilDivSaid : Prop := fnExactCeilDivRow.holds Try.pinned (OpenSpec.ofChange fnExactCeilDivSpec)

/-- ITS FALSE NEIGHBOUR: 'it returns false'. Refute it at one input. -/
def fnExactCeilDivWrong : ChangeSpec := { name := "fnExactCeilDiv", fn := fun _ => fun
  | [d1, d2] => { results := [.lit (.bool false)], args := [d1, d2] }
  | _ => none }
def FnExactCeilDivWrongFalsely : Prop := fnExactCeilDivRow.holds Try.pinned (OpenSpec.ofChange fnExactCeilDivWrong)

/-- 'laws.FnExactMod': WHATEVER THE INPUT: true; the input reads as it did. -/
def fnExactModSpec : ChangeSpec := { name := "fnExactMod", fn := fun _ => fun
  | [d1, d2] => { results := [.lit (.bool true)], args := [d1, d2] }
  | _ => none }
def fnExactModRow : OpenClaim := { program := "ytihlgdjkocjncaa", sum := "a995398cac87747d80439e56e50bbeee622626ab66d9614c8fca072cc85cca88", func := "loop.example/g00505/laws.FnExactMod", spec := "fnExactMod", apart := false }
def FnExactModSaid : Prop := fnExactModRow.holds Try.pinned (OpenSpec.ofChange fnExactModSpec)

/-- ITS FALSE NEIGHBOUR: 'it returns false'. Refute it at one input. -/
def fnExactModWrong : ChangeSpec := { name := "fnExactMod", fn := fun _ => fun
  | [d1, d2] => { results := [.lit (.bool false)], args := [d1, d2] }
  | _ => none }
def FnExactModWrongFalsely : Prop := fnExactModRow.holds Try.pinned (OpenSpec.ofChange fnExactModWrong)

/-- 'laws.FnExactKindName': WHATEVER THE INPUT: true; the input reads as it did. -/
def fnExactKindNameSpec : ChangeSpec := { name := "fnExactKindName", fn := fun _ => fun
  | [d] => { results := [.lit (.bool true)], args := [d] }
  | _ => none }
def fnExactKindNameRow : OpenClaim := { program := "ytihlgdjkocjncaa", sum := "a995398cac87747d80439e56e50bbeee622626ab66d9614c8fca072cc85cca88", func := "loop.example/g00505/laws.FnExactKindName", spec := "fnExactKindName", apart := false }
def FnExactKindNameSaid : Prop := fnExactKindNameRow.holds Try.pinned (OpenSpec.ofChange fnExactKindNameSpec)

/-- ITS FALSE NEIGHBOUR: 'it returns false'. Refute it at one input. -/
def fnExactKindNameWrong : ChangeSpec := { name := "fnExactKindName", fn := fun _ => fun
  | [d] => { results := [.lit (.bool false)], args := [d] }
  | _ => none }
def FnExactKindNameWrongFalsely : Prop := fnExactKindNameRow.holds Try.pinned (OpenSpec.ofChange fnExactKindNameWrong)

/-- 'laws.FnExactAddMod': WHATEVER THE INPUT: true; the input reads as it did. -/
def fnExactAddModSpec : ChangeSpec := { name := "fnExactAddMod", fn := fun _ => fun
  | [d1, d2] => { results := [.lit (.bool true)], args := [d1, d2] }
  | _ => none }
def fnExactAddModRow : OpenClaim := { program := "ytihlgdjkocjncaa", sum := "a995398cac87747d80439e56e50bbeee622626ab66d9614c8fca072cc85cca88", func := "loop.example/g00505/laws.FnExactAddMod", spec := "fnExactAddMod", apart := false }
def FnExactAddModSaid : Prop := fnExactAddModRow.holds Try.pinned (OpenSpec.ofChange fnExactAddModSpec)

/-- ITS FALSE NEIGHBOUR: 'it returns false'. Refute it at one input. -/
def fnExactAddModWrong : ChangeSpec := { name := "fnExactAddMod", fn := fun _ => fun
  | [d1, d2] => { results := [.lit (.bool false)], args := [d1, d2] }
  | _ => none }
def FnExactAddModWrongFalsely : Prop := fnExactAddModRow.holds Try.pinned (OpenSpec.ofChange fnExactAddModWrong)

/-- 'laws.FnExactSubMod': WHATEVER THE INPUT: true; the input reads as it did. -/
def fnExactSubModSpec : ChangeSpec := { name := "fnExactSubMod", fn := fun _ => fun
  | [d1, d2] => { results := [.lit (.bool true)], args := [d1, d2] }
  | _ => none }
def fnExactSubModRow : OpenClaim := { program := "ytihlgdjkocjncaa", sum := "a995398cac87747d80439e56e50bbeee622626ab66d9614c8fca072cc85cca88", func := "loop.example/g00505/laws.FnExactSubMod", spec := "fnExactSubMod", apart := false }
def FnExactSubModSaid : Prop := fnExactSubModRow.holds Try.pinned (OpenSpec.ofChange fnExactSubModSpec)

/-- ITS FALSE NEIGHBOUR: 'it returns false'. Refute it at one input. -/
def fnExactSubModWrong : ChangeSpec := { name := "fnExactSubMod", fn := fun _ => fun
  | [d1, d2] => { results := [.lit (.bool false)], args := [d1, d2] }
  | _ => none }
def FnExactSubModWrongFalsely : Prop := fnExactSubModRow.holds Try.pinned (OpenSpec.ofChange fnExactSubModWrong)

/- THE SECOND FORM. 'bulk': how many values and letters a reading holds, each counted each time it is reached (what is shared counts as often as it is met; a slice's spare places count too). A statement '..UptoSaid' is the law's where the arguments, and the package variables that the reading takes, are together of bulk at most 1048576: NARROWER than '..Said'. Prove '..Said' where nothing that the law and all that it calls make is longer than what came in: it says more and counts as full. Else prove '..UptoSaid'. A law counts once. -/
mutual
def uptoBulk {H : Type} : DataW H → Nat
  | .lit (.string bytes) => bytes.length + 1
  | .lit _ => 1
  | .nil => 1
  | .ptr d => uptoBulk d + 1
  | .slice elems spare => uptoBulkAll elems + uptoBulkAll spare + 1
  | .agg parts => uptoBulkAll parts + 1
  | .iface _ d => uptoBulk d + 1
  | .map entries => uptoBulkEntries entries + 1
  | .held _ => 1
def uptoBulkAll {H : Type} : List (DataW H) → Nat
  | [] => 0
  | d :: r => uptoBulk d + uptoBulkAll r
def uptoBulkEntries {H : Type} : List (Lit × DataW H) → Nat
  | [] => 0
  | x :: r => uptoBulkEntry x + uptoBulkEntries r
def uptoBulkEntry {H : Type} : Lit × DataW H → Nat
  | (.string bytes, d) => bytes.length + uptoBulk d + 1
  | (_, d) => uptoBulk d + 1
 end
def uptoSmall : (H : Type) → List (DataW H) → Bool := fun _ ds => decide (uptoBulkAll ds ≤ 1048576)
def OpenSpec.upto (s : _root_.Go.ChangeSpec) : _root_.Go.OpenSpec := { _root_.Go.OpenSpec.ofChange s with cond := some uptoSmall }

/-- 'laws.FnExactConstants', WHERE WHAT IT READS IS OF BULK AT MOST 1048576: true; the input reads as it did. -/
def fnExactConstantsUptoRow : OpenClaim := { program := "ytihlgdjkocjncaa", sum := "a995398cac87747d80439e56e50bbeee622626ab66d9614c8fca072cc85cca88", func := "loop.example/g00505/laws.FnExactConstants", spec := "fnExactConstants", apart := false, narrowed := true }
def FnExactConstantsUptoSaid : Prop := fnExactConstantsUptoRow.holds Try.pinned (OpenSpec.upto fnExactConstantsSpec)

/-- 'laws.FnExactInRange', WHERE WHAT IT READS IS OF BULK AT MOST 1048576: true; the input reads as it did. -/
def fnExactInRangeUptoRow : OpenClaim := { program := "ytihlgdjkocjncaa", sum := "a995398cac87747d80439e56e50bbeee622626ab66d9614c8fca072cc85cca88", func := "loop.example/g00505/laws.FnExactInRange", spec := "fnExactInRange", apart := false, narrowed := true }
def FnExactInRangeUptoSaid : Prop := fnExactInRangeUptoRow.holds Try.pinned (OpenSpec.upto fnExactInRangeSpec)

/-- 'laws.FnExactValidKey', WHERE WHAT IT READS IS OF BULK AT MOST 1048576: true; the input reads as it did. -/
def fnExactValidKeyUptoRow : OpenClaim := { program := "ytihlgdjkocjncaa", sum := "a995398cac87747d80439e56e50bbeee622626ab66d9614c8fca072cc85cca88", func := "loop.example/g00505/laws.FnExactValidKey", spec := "fnExactValidKey", apart := false, narrowed := true }
def FnExactValidKeyUptoSaid : Prop := fnExactValidKeyUptoRow.holds Try.pinned (OpenSpec.upto fnExactValidKeySpec)

/-- 'laws.FnExactValidSet', WHERE WHAT IT READS IS OF BULK AT MOST 1048576: true; the input reads as it did. -/
def fnExactValidSetUptoRow : OpenClaim := { program := "ytihlgdjkocjncaa", sum := "a995398cac87747d80439e56e50bbeee622626ab66d9614c8fca072cc85cca88", func := "loop.example/g00505/laws.FnExactValidSet", spec := "fnExactValidSet", apart := false, narrowed := true }
def FnExactValidSetUptoSaid : Prop := fnExactValidSetUptoRow.holds Try.pinned (OpenSpec.upto fnExactValidSetSpec)

/-- 'laws.FnExactMax', WHERE WHAT IT READS IS OF BULK AT MOST 1048576: true; the input reads as it did. -/
def fnExactMaxUptoRow : OpenClaim := { program := "ytihlgdjkocjncaa", sum := "a995398cac87747d80439e56e50bbeee622626ab66d9614c8fca072cc85cca88", func := "loop.example/g00505/laws.FnExactMax", spec := "fnExactMax", apart := false, narrowed := true }
def FnExactMaxUptoSaid : Prop := fnExactMaxUptoRow.holds Try.pinned (OpenSpec.upto fnExactMaxSpec)

/-- 'laws.FnExactMin', WHERE WHAT IT READS IS OF BULK AT MOST 1048576: true; the input reads as it did. -/
def fnExactMinUptoRow : OpenClaim := { program := "ytihlgdjkocjncaa", sum := "a995398cac87747d80439e56e50bbeee622626ab66d9614c8fca072cc85cca88", func := "loop.example/g00505/laws.FnExactMin", spec := "fnExactMin", apart := false, narrowed := true }
def FnExactMinUptoSaid : Prop := fnExactMinUptoRow.holds Try.pinned (OpenSpec.upto fnExactMinSpec)

/-- 'laws.FnExactContains', WHERE WHAT IT READS IS OF BULK AT MOST 1048576: true; the input reads as it did. -/
def fnExactContainsUptoRow : OpenClaim := { program := "ytihlgdjkocjncaa", sum := "a995398cac87747d80439e56e50bbeee622626ab66d9614c8fca072cc85cca88", func := "loop.example/g00505/laws.FnExactContains", spec := "fnExactContains", apart := false, narrowed := true }
def FnExactContainsUptoSaid : Prop := fnExactContainsUptoRow.holds Try.pinned (OpenSpec.upto fnExactContainsSpec)

/-- 'laws.FnExactCeilDiv', WHERE WHAT IT READS IS OF BULK AT MOST 1048576: true; the input reads as it did. -/
def fnExactCeilDivUptoRow : OpenClaim := { program := "ytihlgdjkocjncaa", sum := "a995398cac87747d80439e56e50bbeee622626ab66d9614c8fca072cc85cca88", func := "loop.example/g00505/laws.FnExactCeilDiv", spec := "fnExactCeilDiv", apart := false, narrowed := true }
def FnExactCeilDivUptoSaid : Prop := fnExactCeilDivUptoRow.holds Try.pinned (OpenSpec.upto fnExactCeilDivSpec)

/-- 'laws.FnExactMod', WHERE WHAT IT READS IS OF BULK AT MOST 1048576: true; the input reads as it did. -/
def fnExactModUptoRow : OpenClaim := { program := "ytihlgdjkocjncaa", sum := "a995398cac87747d80439e56e50bbeee622626ab66d9614c8fca072cc85cca88", func := "loop.example/g00505/laws.FnExactMod", spec := "fnExactMod", apart := false, narrowed := true }
def FnExactModUptoSaid : Prop := fnExactModUptoRow.holds Try.pinned (OpenSpec.upto fnExactModSpec)

/-- 'laws.FnExactKindName', WHERE WHAT IT READS IS OF BULK AT MOST 1048576: true; the input reads as it did. -/
def fnExactKindNameUptoRow : OpenClaim := { program := "ytihlgdjkocjncaa", sum := "a995398cac87747d80439e56e50bbeee622626ab66d9614c8fca072cc85cca88", func := "loop.example/g00505/laws.FnExactKindName", spec := "fnExactKindName", apart := false, narrowed := true }
def FnExactKindNameUptoSaid : Prop := fnExactKindNameUptoRow.holds Try.pinned (OpenSpec.upto fnExactKindNameSpec)

/-- 'laws.FnExactAddMod', WHERE WHAT IT READS IS OF BULK AT MOST 1048576: true; the input reads as it did. -/
def fnExactAddModUptoRow : OpenClaim := { program := "ytihlgdjkocjncaa", sum := "a995398cac87747d80439e56e50bbeee622626ab66d9614c8fca072cc85cca88", func := "loop.example/g00505/laws.FnExactAddMod", spec := "fnExactAddMod", apart := false, narrowed := true }
def FnExactAddModUptoSaid : Prop := fnExactAddModUptoRow.holds Try.pinned (OpenSpec.upto fnExactAddModSpec)

/-- 'laws.FnExactSubMod', WHERE WHAT IT READS IS OF BULK AT MOST 1048576: true; the input reads as it did. -/
def fnExactSubModUptoRow : OpenClaim := { program := "ytihlgdjkocjncaa", sum := "a995398cac87747d80439e56e50bbeee622626ab66d9614c8fca072cc85cca88", func := "loop.example/g00505/laws.FnExactSubMod", spec := "fnExactSubMod", apart := false, narrowed := true }
def FnExactSubModUptoSaid : Prop := fnExactSubModUptoRow.holds Try.pinned (OpenSpec.upto fnExactSubModSpec)

end Rows
end Go.Proofs.Ytihlgdjkocjncaa
