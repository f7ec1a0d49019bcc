/-
  No cell of these rows narrows 'for every input' (looked for: loops, veiled, ifaces, maps, wideKeys, modest, calm, conditions, laid).
  DERIVED. THE GIVEN ROWS OF THIS SEAT. 4 by the template 'for every input the law returns true; each argument reads behind the call as it read before'; 0 by the template 'total and deterministic' (their statements: YtlmlkamgpmnmgaaTotals.lean).
  GIVEN WITH THE SEED: the statements are not yours to turn. If you find one false, say at which input.
  Laid BY PROGRAM, IN A SANDBOX (cutbox-rows.mjs): the forced cells as the released guide's own fill.sh prints them over the translation bc53fd3f9aa7ef68… (all of the seat's roots in one cut). By AI agents, Wed Nov 11 2026. No macro, syntax, notation, axiom, sorry.
-/
import Derived.Test.YtlmlkamgpmnmgaaChecked
import GoSem.Claim
import GoSem.ClaimJoined
import GoSem.ClaimMapViews
import Derived.JoinedTies
import Derived.KernelRfl
namespace Go.Proofs.Ytlmlkamgpmnmgaa
/- THE CELL 'sum', in the pinned program and in every row, IS THE sha256 OF THE DUMP (.gsa) THAT YtlmlkamgpmnmgaaProg.lean LOADS. Nothing in Lean hashes anything: it is a label: what it is worth is what the hold of that sum in a sandbox is worth. -/
noncomputable def Try.pinned : Pinned := { name := "ytlmlkamgpmnmgaa", sum := "bc53fd3f9aa7ef684f4aa67174a28b07e544394def11551c4129bec33510230c", checked := Try.checked }
namespace Rows
def none {H : Type} : Left H := { results := [], args := [] }

/-- 'atriumlaw05.WalLays': WHATEVER THE INPUT: true; the input reads as it did. -/
def walLaysSpec : ChangeSpec := { name := "walLays", fn := fun _ => fun
  | [d1, d2, d3, d4] => { results := [.lit (.bool true)], args := [d1, d2, d3, d4] }
  | _ => none }
def walLaysRow : OpenClaim := { program := "ytlmlkamgpmnmgaa", sum := "bc53fd3f9aa7ef684f4aa67174a28b07e544394def11551c4129bec33510230c", func := "atrium/atriumlaw05.WalLays", spec := "walLays", unfollowed := true, recurses := true, apart := false }
def WalLaysSaid : Prop := walLaysRow.holds Try.pinned (OpenSpec.ofChange walLaysSpec)

/-- ITS FALSE NEIGHBOUR: 'it returns false'. Refute it at one input. -/
def walLaysWrong : ChangeSpec := { name := "walLays", fn := fun _ => fun
  | [d1, d2, d3, d4] => { results := [.lit (.bool false)], args := [d1, d2, d3, d4] }
  | _ => none }
def WalLaysWrongFalsely : Prop := walLaysRow.holds Try.pinned (OpenSpec.ofChange walLaysWrong)

/-- 'atriumlaw05.WalCuts': WHATEVER THE INPUT: true; the input reads as it did. -/
def walCutsSpec : ChangeSpec := { name := "walCuts", fn := fun _ => fun
  | [d1, d2] => { results := [.lit (.bool true)], args := [d1, d2] }
  | _ => none }
def walCutsRow : OpenClaim := { program := "ytlmlkamgpmnmgaa", sum := "bc53fd3f9aa7ef684f4aa67174a28b07e544394def11551c4129bec33510230c", func := "atrium/atriumlaw05.WalCuts", spec := "walCuts", unfollowed := true, recurses := true, apart := false }
def WalCutsSaid : Prop := walCutsRow.holds Try.pinned (OpenSpec.ofChange walCutsSpec)

/-- ITS FALSE NEIGHBOUR: 'it returns false'. Refute it at one input. -/
def walCutsWrong : ChangeSpec := { name := "walCuts", fn := fun _ => fun
  | [d1, d2] => { results := [.lit (.bool false)], args := [d1, d2] }
  | _ => none }
def WalCutsWrongFalsely : Prop := walCutsRow.holds Try.pinned (OpenSpec.ofChange walCutsWrong)

/-- 'atriumlaw05.WalLonger': WHATEVER THE INPUT: true; the input reads as it did. -/
def walLongerSpec : ChangeSpec := { name := "walLonger", fn := fun _ => fun
  | [d1, d2] => { results := [.lit (.bool true)], args := [d1, d2] }
  | _ => none }
def walLongerRow : OpenClaim := { program := "ytlmlkamgpmnmgaa", sum := "bc53fd3f9aa7ef684f4aa67174a28b07e544394def11551c4129bec33510230c", func := "atrium/atriumlaw05.WalLonger", spec := "walLonger", unfollowed := true, recurses := true, apart := false }
def WalLongerSaid : Prop := walLongerRow.holds Try.pinned (OpenSpec.ofChange walLongerSpec)

/-- ITS FALSE NEIGHBOUR: 'it returns false'. Refute it at one input. -/
def walLongerWrong : ChangeSpec := { name := "walLonger", fn := fun _ => fun
  | [d1, d2] => { results := [.lit (.bool false)], args := [d1, d2] }
  | _ => none }
def WalLongerWrongFalsely : Prop := walLongerRow.holds Try.pinned (OpenSpec.ofChange walLongerWrong)

/-- 'atriumlaw05.WalTurned': WHATEVER THE INPUT: true; the input reads as it did. -/
def walTurnedSpec : ChangeSpec := { name := "walTurned", fn := fun _ => fun
  | [d1, d2, d3] => { results := [.lit (.bool true)], args := [d1, d2, d3] }
  | _ => none }
def walTurnedRow : OpenClaim := { program := "ytlmlkamgpmnmgaa", sum := "bc53fd3f9aa7ef684f4aa67174a28b07e544394def11551c4129bec33510230c", func := "atrium/atriumlaw05.WalTurned", spec := "walTurned", unfollowed := true, recurses := true, apart := false }
def WalTurnedSaid : Prop := walTurnedRow.holds Try.pinned (OpenSpec.ofChange walTurnedSpec)

/-- ITS FALSE NEIGHBOUR: 'it returns false'. Refute it at one input. -/
def walTurnedWrong : ChangeSpec := { name := "walTurned", fn := fun _ => fun
  | [d1, d2, d3] => { results := [.lit (.bool false)], args := [d1, d2, d3] }
  | _ => none }
def WalTurnedWrongFalsely : Prop := walTurnedRow.holds Try.pinned (OpenSpec.ofChange walTurnedWrong)

/- THE SECOND FORM. 'bulk': how many values and letters a reading holds, each counted each time it is reached (what is shared counts as often as it is met; a slice's spare places count too). A statement '..UptoSaid' is the law's where the arguments, and the package variables that the reading takes, are together of bulk at most 1048576: NARROWER than '..Said'. Prove '..Said' where nothing that the law and all that it calls make is longer than what came in: it says more and counts as full. Else prove '..UptoSaid'. A law counts once. -/
mutual
def uptoBulk {H : Type} : DataW H → Nat
  | .lit (.string bytes) => bytes.length + 1
  | .lit _ => 1
  | .nil => 1
  | .ptr d => uptoBulk d + 1
  | .slice elems spare => uptoBulkAll elems + uptoBulkAll spare + 1
  | .agg parts => uptoBulkAll parts + 1
  | .iface _ d => uptoBulk d + 1
  | .map entries => uptoBulkEntries entries + 1
  | .held _ => 1
def uptoBulkAll {H : Type} : List (DataW H) → Nat
  | [] => 0
  | d :: r => uptoBulk d + uptoBulkAll r
def uptoBulkEntries {H : Type} : List (Lit × DataW H) → Nat
  | [] => 0
  | x :: r => uptoBulkEntry x + uptoBulkEntries r
def uptoBulkEntry {H : Type} : Lit × DataW H → Nat
  | (.string bytes, d) => bytes.length + uptoBulk d + 1
  | (_, d) => uptoBulk d + 1
 end
def uptoSmall : (H : Type) → List (DataW H) → Bool := fun _ ds => decide (uptoBulkAll ds ≤ 1048576)
def OpenSpec.upto (s : _root_.Go.ChangeSpec) : _root_.Go.OpenSpec := { _root_.Go.OpenSpec.ofChange s with cond := some uptoSmall }

/-- 'atriumlaw05.WalLays', WHERE WHAT IT READS IS OF BULK AT MOST 1048576: true; the input reads as it did. -/
def walLaysUptoRow : OpenClaim := { program := "ytlmlkamgpmnmgaa", sum := "bc53fd3f9aa7ef684f4aa67174a28b07e544394def11551c4129bec33510230c", func := "atrium/atriumlaw05.WalLays", spec := "walLays", unfollowed := true, recurses := true, apart := false, narrowed := true }
def WalLaysUptoSaid : Prop := walLaysUptoRow.holds Try.pinned (OpenSpec.upto walLaysSpec)

/-- 'atriumlaw05.WalCuts', WHERE WHAT IT READS IS OF BULK AT MOST 1048576: true; the input reads as it did. -/
def walCutsUptoRow : OpenClaim := { program := "ytlmlkamgpmnmgaa", sum := "bc53fd3f9aa7ef684f4aa67174a28b07e544394def11551c4129bec33510230c", func := "atrium/atriumlaw05.WalCuts", spec := "walCuts", unfollowed := true, recurses := true, apart := false, narrowed := true }
def WalCutsUptoSaid : Prop := walCutsUptoRow.holds Try.pinned (OpenSpec.upto walCutsSpec)

/-- 'atriumlaw05.WalLonger', WHERE WHAT IT READS IS OF BULK AT MOST 1048576: true; the input reads as it did. -/
def walLongerUptoRow : OpenClaim := { program := "ytlmlkamgpmnmgaa", sum := "bc53fd3f9aa7ef684f4aa67174a28b07e544394def11551c4129bec33510230c", func := "atrium/atriumlaw05.WalLonger", spec := "walLonger", unfollowed := true, recurses := true, apart := false, narrowed := true }
def WalLongerUptoSaid : Prop := walLongerUptoRow.holds Try.pinned (OpenSpec.upto walLongerSpec)

/-- 'atriumlaw05.WalTurned', WHERE WHAT IT READS IS OF BULK AT MOST 1048576: true; the input reads as it did. -/
def walTurnedUptoRow : OpenClaim := { program := "ytlmlkamgpmnmgaa", sum := "bc53fd3f9aa7ef684f4aa67174a28b07e544394def11551c4129bec33510230c", func := "atrium/atriumlaw05.WalTurned", spec := "walTurned", unfollowed := true, recurses := true, apart := false, narrowed := true }
def WalTurnedUptoSaid : Prop := walTurnedUptoRow.holds Try.pinned (OpenSpec.upto walTurnedSpec)

end Rows
end Go.Proofs.Ytlmlkamgpmnmgaa
