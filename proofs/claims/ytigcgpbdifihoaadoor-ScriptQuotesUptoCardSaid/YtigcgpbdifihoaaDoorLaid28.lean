/-
  The rows' frame of chapter 28: the listed tables, a world that holds them, what the library's variable holds; a cookie by value.
-/
import Derived.Test.YtigcgpbdifihoaaDoorCards
import Derived.Test.YtigcgpbdifihoaaDoorTie
import Derived.Test.YtigcgpbdifihoaaDoorOpC
import Derived.Test.YtigcgpbdifihoaaDoorNl
import Derived.Deep.DeepHandedRow
import Derived.Lib.LaidTab
import Derived.ChangeArms
import Derived.Shelf.Vars
set_option linter.unusedVariables false
namespace Go.Proofs.YtigcgpbdifihoaaDoor
open Go.ChangeShapes Go.WideShapes Go.ChangeAt Go.RowKit
theorem tab_third {P : Program} {W : World} {a b : String × DataW Unit} {name : String} {k : IntKind} {zs : List Int} {rest : List (String × DataW Unit)} {g : Nat} {t e : TypeId} {n : Nat}
    (hg : P.globalNamed name = some g) (hty : (P.globals[g]?).map (·.type) = some t) (ht : P.underlying t = some (.array n e)) (he : P.underlying e = some (.int k)) (hce : P.cellsOf e = 1) (hct : P.cellsOf t = n)
    (h : laidMet P (a :: b :: (name, Lib.tabData k zs) :: rest) W) : Lib.TabIs P W name k zs := by
  obtain ⟨ps, ⟨_, _, _, _, _, q, _, _, _, _, ⟨_, _, _, _, _, q2, _, _, _, _, ⟨g', t', cs, fuel, p, q3, hg', ht', hvar, hd, _, _⟩, _⟩, _⟩, _⟩ := h
  obtain rfl := Option.some.inj (hg.symm.trans hg')
  obtain rfl := Option.some.inj (hty.symm.trans ht')
  unfold Lib.TabIs
  rw [hvar, ← Lib.cells_of_tab ht he hce hct hd]
theorem tab_of {W : World} (h : laidMetH Tryd.prog Rows.scriptNamesUptoRow.laid W) : Tab W :=
  tab_third (g := (Tryd.prog.globalNamed "internal/strconv.uint64pow10").getD 0) (rest := []) (by kernel_rfl) (by kernel_rfl) Tryd.underlying136 Tryd.underlying91 (by kernel_rfl) (by kernel_rfl) h
mutual
def numsOf : DataW Unit → List Value
  | .lit (.int k n) => [.int k n]
  | .agg parts => numsAll parts
  | _ => []
def numsAll : List (DataW Unit) → List Value
  | [] => []
  | d :: l => numsOf d ++ numsAll l
 end
/-- A world that holds the listed tables. -/
noncomputable def laidWorld (os : Os) : World :=
  Rows.scriptNamesUptoRow.laid.foldl (fun W nd => match Tryd.prog.globalNamed nd.1 with
    | some g => { W with heap := W.heap.modify g fun | .cells _ t frozen => .cells (numsOf nd.2).toArray t frozen | o => o }
    | _ => W) (World.holding Tryd.prog os ⟨#[], #[], []⟩)
end Go.Proofs.YtigcgpbdifihoaaDoor
