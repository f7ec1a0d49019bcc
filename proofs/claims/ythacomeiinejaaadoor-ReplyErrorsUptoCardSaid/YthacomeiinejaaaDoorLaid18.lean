/-
  The rows' frame of chapter 18: the listed tables, a world that holds them, the bound.
-/
import Derived.Test.YthacomeiinejaaaDoorCards
import Derived.Test.YthacomeiinejaaaDoorTie
import Derived.Test.YthacomeiinejaaaDoorSs
import Derived.Test.YthacomeiinejaaaDoorSk
import Derived.WalkKit
import Derived.ProofKit
import Derived.OpenShut
import Derived.Deep.DeepHandedRow
import Derived.Lib.LaidTab
set_option linter.unusedVariables false
namespace Go.Proofs.YthacomeiinejaaaDoor
open Go.ChangeShapes Go.WideShapes Go.ChangeAt Go.RowKit
theorem ownNone : ownKnob Tryd.prog.godebug = none := by kernel_rfl
theorem bulk_of {H : Type} {l : List (DataW H)} (h : Rows.uptoSmall H l = true) : Rows.uptoBulkAll l ≤ 1048576 := of_decide_eq_true h
theorem tab_third {P : Program} {W : World} {a b : String × DataW Unit} {name : String} {k : IntKind} {zs : List Int} {rest : List (String × DataW Unit)} {g : Nat} {t e : TypeId} {n : Nat}
    (hg : P.globalNamed name = some g) (hty : (P.globals[g]?).map (·.type) = some t) (ht : P.underlying t = some (.array n e)) (he : P.underlying e = some (.int k)) (hce : P.cellsOf e = 1) (hct : P.cellsOf t = n)
    (h : laidMet P (a :: b :: (name, Lib.tabData k zs) :: rest) W) : Lib.TabIs P W name k zs := by
  obtain ⟨ps, ⟨_, _, _, _, _, q, _, _, _, _, ⟨_, _, _, _, _, q2, _, _, _, _, ⟨g', t', cs, fuel, p, q3, hg', ht', hvar, hd, _, _⟩, _⟩, _⟩, _⟩ := h
  obtain rfl := Option.some.inj (hg.symm.trans hg')
  obtain rfl := Option.some.inj (hty.symm.trans ht')
  unfold Lib.TabIs
  rw [hvar, ← Lib.cells_of_tab ht he hce hct hd]
theorem tab_of {W : World} (h : laidMetH Tryd.prog Rows.replyErrorsUptoRow.laid W) : Tab W :=
  tab_third (g := (Tryd.prog.globalNamed "internal/strconv.uint64pow10").getD 0) (rest := []) (by kernel_rfl) (by kernel_rfl) Tryd.underlying76 Tryd.underlying69 (by kernel_rfl) (by kernel_rfl) h
def numsOf : List (DataW Unit) → List Value
  | [] => []
  | .lit (.int k n) :: l => .int k n :: numsOf l
  | _ :: l => numsOf l
/-- A world that holds the listed tables. -/
noncomputable def laidWorld (os : Os) : World :=
  Rows.replyErrorsUptoRow.laid.foldl (fun W nd => match Tryd.prog.globalNamed nd.1, nd.2 with
    | some g, .agg parts => { W with heap := W.heap.modify g fun | .cells _ t frozen => .cells (numsOf parts).toArray t frozen | o => o }
    | _, _ => W) (World.holding Tryd.prog os ⟨#[], #[], []⟩)
end Go.Proofs.YthacomeiinejaaaDoor
