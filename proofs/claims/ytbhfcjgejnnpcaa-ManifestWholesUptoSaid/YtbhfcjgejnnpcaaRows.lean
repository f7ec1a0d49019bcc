/-
  No cell of these rows narrows 'for every input' (looked for: loops, veiled, ifaces, maps, wideKeys, modest, calm, conditions, laid).
  DERIVED. THE GIVEN ROWS OF THIS SEAT. 7 by the template 'for every input the law returns true; each argument reads behind the call as it read before'; 0 by the template 'total and deterministic' (their statements: YtbhfcjgejnnpcaaTotals.lean).
  GIVEN WITH THE SEED: the statements are not yours to turn. If you find one false, say at which input.
  Laid BY PROGRAM, IN A SANDBOX (cutbox-rows.mjs): the forced cells as the released guide's own fill.sh prints them over the translation 9d88b6ac4d47ec1e… (all of the seat's roots in one cut). By AI agents, Wed Nov 11 2026. No macro, syntax, notation, axiom, sorry.
-/
import Derived.Test.YtbhfcjgejnnpcaaChecked
import GoSem.Claim
import GoSem.ClaimJoined
import GoSem.ClaimMapViews
import Derived.JoinedTies
import Derived.KernelRfl
namespace Go.Proofs.Ytbhfcjgejnnpcaa
/- THE CELL 'sum', in the pinned program and in every row, IS THE sha256 OF THE DUMP (.gsa) THAT YtbhfcjgejnnpcaaProg.lean LOADS. Nothing in Lean hashes anything: it is a label: what it is worth is what the hold of that sum in a sandbox is worth. -/
noncomputable def Try.pinned : Pinned := { name := "ytbhfcjgejnnpcaa", sum := "9d88b6ac4d47ec1e5d5cb6e118b71e0f8634ab685a1566cd8fe5549436a796af", checked := Try.checked }
namespace Rows
def none {H : Type} : Left H := { results := [], args := [] }

/-- 'atriumlaw11.ManifestWholes': WHATEVER THE INPUT: true; the input reads as it did. -/
def manifestWholesSpec : ChangeSpec := { name := "manifestWholes", fn := fun _ => fun
  | [d] => { results := [.lit (.bool true)], args := [d] }
  | _ => none }
def manifestWholesRow : OpenClaim := { program := "ytbhfcjgejnnpcaa", sum := "9d88b6ac4d47ec1e5d5cb6e118b71e0f8634ab685a1566cd8fe5549436a796af", func := "atrium/atriumlaw11.ManifestWholes", spec := "manifestWholes", unfollowed := true, recurses := true, apart := false }
def ManifestWholesSaid : Prop := manifestWholesRow.holds Try.pinned (OpenSpec.ofChange manifestWholesSpec)

/-- ITS FALSE NEIGHBOUR: 'it returns false'. Refute it at one input. -/
def manifestWholesWrong : ChangeSpec := { name := "manifestWholes", fn := fun _ => fun
  | [d] => { results := [.lit (.bool false)], args := [d] }
  | _ => none }
def ManifestWholesWrongFalsely : Prop := manifestWholesRow.holds Try.pinned (OpenSpec.ofChange manifestWholesWrong)

/-- 'atriumlaw11.ManifestApart': WHATEVER THE INPUT: true; the input reads as it did. -/
def manifestApartSpec : ChangeSpec := { name := "manifestApart", fn := fun _ => fun
  | [d1, d2] => { results := [.lit (.bool true)], args := [d1, d2] }
  | _ => none }
def manifestApartRow : OpenClaim := { program := "ytbhfcjgejnnpcaa", sum := "9d88b6ac4d47ec1e5d5cb6e118b71e0f8634ab685a1566cd8fe5549436a796af", func := "atrium/atriumlaw11.ManifestApart", spec := "manifestApart", unfollowed := true, recurses := true, apart := false }
def ManifestApartSaid : Prop := manifestApartRow.holds Try.pinned (OpenSpec.ofChange manifestApartSpec)

/-- ITS FALSE NEIGHBOUR: 'it returns false'. Refute it at one input. -/
def manifestApartWrong : ChangeSpec := { name := "manifestApart", fn := fun _ => fun
  | [d1, d2] => { results := [.lit (.bool false)], args := [d1, d2] }
  | _ => none }
def ManifestApartWrongFalsely : Prop := manifestApartRow.holds Try.pinned (OpenSpec.ofChange manifestApartWrong)

/-- 'atriumlaw11.ManifestCodes': WHATEVER THE INPUT: true; the input reads as it did. -/
def manifestCodesSpec : ChangeSpec := { name := "manifestCodes", fn := fun _ => fun
  | [d] => { results := [.lit (.bool true)], args := [d] }
  | _ => none }
def manifestCodesRow : OpenClaim := { program := "ytbhfcjgejnnpcaa", sum := "9d88b6ac4d47ec1e5d5cb6e118b71e0f8634ab685a1566cd8fe5549436a796af", func := "atrium/atriumlaw11.ManifestCodes", spec := "manifestCodes", unfollowed := true, recurses := true, apart := false }
def ManifestCodesSaid : Prop := manifestCodesRow.holds Try.pinned (OpenSpec.ofChange manifestCodesSpec)

/-- ITS FALSE NEIGHBOUR: 'it returns false'. Refute it at one input. -/
def manifestCodesWrong : ChangeSpec := { name := "manifestCodes", fn := fun _ => fun
  | [d] => { results := [.lit (.bool false)], args := [d] }
  | _ => none }
def ManifestCodesWrongFalsely : Prop := manifestCodesRow.holds Try.pinned (OpenSpec.ofChange manifestCodesWrong)

/-- 'atriumlaw11.ManifestDecodes': WHATEVER THE INPUT: true; the input reads as it did. -/
def manifestDecodesSpec : ChangeSpec := { name := "manifestDecodes", fn := fun _ => fun
  | [d] => { results := [.lit (.bool true)], args := [d] }
  | _ => none }
def manifestDecodesRow : OpenClaim := { program := "ytbhfcjgejnnpcaa", sum := "9d88b6ac4d47ec1e5d5cb6e118b71e0f8634ab685a1566cd8fe5549436a796af", func := "atrium/atriumlaw11.ManifestDecodes", spec := "manifestDecodes", unfollowed := true, recurses := true, apart := false }
def ManifestDecodesSaid : Prop := manifestDecodesRow.holds Try.pinned (OpenSpec.ofChange manifestDecodesSpec)

/-- ITS FALSE NEIGHBOUR: 'it returns false'. Refute it at one input. -/
def manifestDecodesWrong : ChangeSpec := { name := "manifestDecodes", fn := fun _ => fun
  | [d] => { results := [.lit (.bool false)], args := [d] }
  | _ => none }
def ManifestDecodesWrongFalsely : Prop := manifestDecodesRow.holds Try.pinned (OpenSpec.ofChange manifestDecodesWrong)

/-- 'atriumlaw11.ManifestLoads': WHATEVER THE INPUT: true; the input reads as it did. -/
def manifestLoadsSpec : ChangeSpec := { name := "manifestLoads", fn := fun _ => fun
  | [d] => { results := [.lit (.bool true)], args := [d] }
  | _ => none }
def manifestLoadsRow : OpenClaim := { program := "ytbhfcjgejnnpcaa", sum := "9d88b6ac4d47ec1e5d5cb6e118b71e0f8634ab685a1566cd8fe5549436a796af", func := "atrium/atriumlaw11.ManifestLoads", spec := "manifestLoads", unfollowed := true, recurses := true, apart := false }
def ManifestLoadsSaid : Prop := manifestLoadsRow.holds Try.pinned (OpenSpec.ofChange manifestLoadsSpec)

/-- ITS FALSE NEIGHBOUR: 'it returns false'. Refute it at one input. -/
def manifestLoadsWrong : ChangeSpec := { name := "manifestLoads", fn := fun _ => fun
  | [d] => { results := [.lit (.bool false)], args := [d] }
  | _ => none }
def ManifestLoadsWrongFalsely : Prop := manifestLoadsRow.holds Try.pinned (OpenSpec.ofChange manifestLoadsWrong)

/-- 'atriumlaw11.ManifestReplays': WHATEVER THE INPUT: true; the input reads as it did. -/
def manifestReplaysSpec : ChangeSpec := { name := "manifestReplays", fn := fun _ => fun
  | [d1, d2] => { results := [.lit (.bool true)], args := [d1, d2] }
  | _ => none }
def manifestReplaysRow : OpenClaim := { program := "ytbhfcjgejnnpcaa", sum := "9d88b6ac4d47ec1e5d5cb6e118b71e0f8634ab685a1566cd8fe5549436a796af", func := "atrium/atriumlaw11.ManifestReplays", spec := "manifestReplays", unfollowed := true, recurses := true, apart := false }
def ManifestReplaysSaid : Prop := manifestReplaysRow.holds Try.pinned (OpenSpec.ofChange manifestReplaysSpec)

/-- ITS FALSE NEIGHBOUR: 'it returns false'. Refute it at one input. -/
def manifestReplaysWrong : ChangeSpec := { name := "manifestReplays", fn := fun _ => fun
  | [d1, d2] => { results := [.lit (.bool false)], args := [d1, d2] }
  | _ => none }
def ManifestReplaysWrongFalsely : Prop := manifestReplaysRow.holds Try.pinned (OpenSpec.ofChange manifestReplaysWrong)

/-- 'atriumlaw11.ManifestApplies': WHATEVER THE INPUT: true; the input reads as it did. -/
def manifestAppliesSpec : ChangeSpec := { name := "manifestApplies", fn := fun _ => fun
  | [d1, d2, d3, d4, d5] => { results := [.lit (.bool true)], args := [d1, d2, d3, d4, d5] }
  | _ => none }
def manifestAppliesRow : OpenClaim := { program := "ytbhfcjgejnnpcaa", sum := "9d88b6ac4d47ec1e5d5cb6e118b71e0f8634ab685a1566cd8fe5549436a796af", func := "atrium/atriumlaw11.ManifestApplies", spec := "manifestApplies", unfollowed := true, recurses := true, apart := false }
def ManifestAppliesSaid : Prop := manifestAppliesRow.holds Try.pinned (OpenSpec.ofChange manifestAppliesSpec)

/-- ITS FALSE NEIGHBOUR: 'it returns false'. Refute it at one input. -/
def manifestAppliesWrong : ChangeSpec := { name := "manifestApplies", fn := fun _ => fun
  | [d1, d2, d3, d4, d5] => { results := [.lit (.bool false)], args := [d1, d2, d3, d4, d5] }
  | _ => none }
def ManifestAppliesWrongFalsely : Prop := manifestAppliesRow.holds Try.pinned (OpenSpec.ofChange manifestAppliesWrong)

/- THE SECOND FORM. 'bulk': how many values and letters a reading holds, each counted each time it is reached (what is shared counts as often as it is met; a slice's spare places count too). A statement '..UptoSaid' is the law's where the arguments, and the package variables that the reading takes, are together of bulk at most 1048576: NARROWER than '..Said'. Prove '..Said' where nothing that the law and all that it calls make is longer than what came in: it says more and counts as full. Else prove '..UptoSaid'. A law counts once. -/
mutual
def uptoBulk {H : Type} : DataW H → Nat
  | .lit (.string bytes) => bytes.length + 1
  | .lit _ => 1
  | .nil => 1
  | .ptr d => uptoBulk d + 1
  | .slice elems spare => uptoBulkAll elems + uptoBulkAll spare + 1
  | .agg parts => uptoBulkAll parts + 1
  | .iface _ d => uptoBulk d + 1
  | .map entries => uptoBulkEntries entries + 1
  | .held _ => 1
def uptoBulkAll {H : Type} : List (DataW H) → Nat
  | [] => 0
  | d :: r => uptoBulk d + uptoBulkAll r
def uptoBulkEntries {H : Type} : List (Lit × DataW H) → Nat
  | [] => 0
  | x :: r => uptoBulkEntry x + uptoBulkEntries r
def uptoBulkEntry {H : Type} : Lit × DataW H → Nat
  | (.string bytes, d) => bytes.length + uptoBulk d + 1
  | (_, d) => uptoBulk d + 1
 end
def uptoSmall : (H : Type) → List (DataW H) → Bool := fun _ ds => decide (uptoBulkAll ds ≤ 1048576)
def OpenSpec.upto (s : _root_.Go.ChangeSpec) : _root_.Go.OpenSpec := { _root_.Go.OpenSpec.ofChange s with cond := some uptoSmall }

/-- 'atriumlaw11.ManifestWholes', WHERE WHAT IT READS IS OF BULK AT MOST 1048576: true; the input reads as it did. -/
def manifestWholesUptoRow : OpenClaim := { program := "ytbhfcjgejnnpcaa", sum := "9d88b6ac4d47ec1e5d5cb6e118b71e0f8634ab685a1566cd8fe5549436a796af", func := "atrium/atriumlaw11.ManifestWholes", spec := "manifestWholes", unfollowed := true, recurses := true, apart := false, narrowed := true }
def ManifestWholesUptoSaid : Prop := manifestWholesUptoRow.holds Try.pinned (OpenSpec.upto manifestWholesSpec)

/-- 'atriumlaw11.ManifestApart', WHERE WHAT IT READS IS OF BULK AT MOST 1048576: true; the input reads as it did. -/
def manifestApartUptoRow : OpenClaim := { program := "ytbhfcjgejnnpcaa", sum := "9d88b6ac4d47ec1e5d5cb6e118b71e0f8634ab685a1566cd8fe5549436a796af", func := "atrium/atriumlaw11.ManifestApart", spec := "manifestApart", unfollowed := true, recurses := true, apart := false, narrowed := true }
def ManifestApartUptoSaid : Prop := manifestApartUptoRow.holds Try.pinned (OpenSpec.upto manifestApartSpec)

/-- 'atriumlaw11.ManifestCodes', WHERE WHAT IT READS IS OF BULK AT MOST 1048576: true; the input reads as it did. -/
def manifestCodesUptoRow : OpenClaim := { program := "ytbhfcjgejnnpcaa", sum := "9d88b6ac4d47ec1e5d5cb6e118b71e0f8634ab685a1566cd8fe5549436a796af", func := "atrium/atriumlaw11.ManifestCodes", spec := "manifestCodes", unfollowed := true, recurses := true, apart := false, narrowed := true }
def ManifestCodesUptoSaid : Prop := manifestCodesUptoRow.holds Try.pinned (OpenSpec.upto manifestCodesSpec)

/-- 'atriumlaw11.ManifestDecodes', WHERE WHAT IT READS IS OF BULK AT MOST 1048576: true; the input reads as it did. -/
def manifestDecodesUptoRow : OpenClaim := { program := "ytbhfcjgejnnpcaa", sum := "9d88b6ac4d47ec1e5d5cb6e118b71e0f8634ab685a1566cd8fe5549436a796af", func := "atrium/atriumlaw11.ManifestDecodes", spec := "manifestDecodes", unfollowed := true, recurses := true, apart := false, narrowed := true }
def ManifestDecodesUptoSaid : Prop := manifestDecodesUptoRow.holds Try.pinned (OpenSpec.upto manifestDecodesSpec)

/-- 'atriumlaw11.ManifestLoads', WHERE WHAT IT READS IS OF BULK AT MOST 1048576: true; the input reads as it did. -/
def manifestLoadsUptoRow : OpenClaim := { program := "ytbhfcjgejnnpcaa", sum := "9d88b6ac4d47ec1e5d5cb6e118b71e0f8634ab685a1566cd8fe5549436a796af", func := "atrium/atriumlaw11.ManifestLoads", spec := "manifestLoads", unfollowed := true, recurses := true, apart := false, narrowed := true }
def ManifestLoadsUptoSaid : Prop := manifestLoadsUptoRow.holds Try.pinned (OpenSpec.upto manifestLoadsSpec)

/-- 'atriumlaw11.ManifestReplays', WHERE WHAT IT READS IS OF BULK AT MOST 1048576: true; the input reads as it did. -/
def manifestReplaysUptoRow : OpenClaim := { program := "ytbhfcjgejnnpcaa", sum := "9d88b6ac4d47ec1e5d5cb6e118b71e0f8634ab685a1566cd8fe5549436a796af", func := "atrium/atriumlaw11.ManifestReplays", spec := "manifestReplays", unfollowed := true, recurses := true, apart := false, narrowed := true }
def ManifestReplaysUptoSaid : Prop := manifestReplaysUptoRow.holds Try.pinned (OpenSpec.upto manifestReplaysSpec)

/-- 'atriumlaw11.ManifestApplies', WHERE WHAT IT READS IS OF BULK AT MOST 1048576: true; the input reads as it did. -/
def manifestAppliesUptoRow : OpenClaim := { program := "ytbhfcjgejnnpcaa", sum := "9d88b6ac4d47ec1e5d5cb6e118b71e0f8634ab685a1566cd8fe5549436a796af", func := "atrium/atriumlaw11.ManifestApplies", spec := "manifestApplies", unfollowed := true, recurses := true, apart := false, narrowed := true }
def ManifestAppliesUptoSaid : Prop := manifestAppliesUptoRow.holds Try.pinned (OpenSpec.upto manifestAppliesSpec)

end Rows
end Go.Proofs.Ytbhfcjgejnnpcaa
