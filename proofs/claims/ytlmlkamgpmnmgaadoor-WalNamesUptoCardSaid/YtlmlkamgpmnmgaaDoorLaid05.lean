/-
  The rows' frame of WalNames: the listed tables and errors, a world that holds them.
-/
import Derived.Test.YtlmlkamgpmnmgaaDoorCards
import Derived.Test.YtlmlkamgpmnmgaaDoorTie
import Derived.Test.YtlmlkamgpmnmgaaDoorOpG
import Derived.Test.YtlmlkamgpmnmgaaDoorWq
import Derived.Deep.DeepHandedRow
import Derived.Lib.LaidTab
import Derived.ChangeArms
import Derived.Shelf.Vars
import Derived.Stop.LaidErr
import Derived.LaidLaws
set_option linter.unusedVariables false
namespace Go.Proofs.YtlmlkamgpmnmgaaDoor
open Go.ChangeShapes Go.WideShapes Go.ChangeAt Go.RowKit Go.Stop
theorem tab_third {P : Program} {W : World} {a b : String × DataW Unit} {name : String} {k : IntKind} {zs : List Int} {rest : List (String × DataW Unit)} {g : Nat} {t e : TypeId} {n : Nat}
    (hg : P.globalNamed name = some g) (hty : (P.globals[g]?).map (·.type) = some t) (ht : P.underlying t = some (.array n e)) (he : P.underlying e = some (.int k)) (hce : P.cellsOf e = 1) (hct : P.cellsOf t = n)
    (h : laidMet P (a :: b :: (name, Lib.tabData k zs) :: rest) W) : Lib.TabIs P W name k zs := by
  obtain ⟨ps, ⟨_, _, _, _, _, q, _, _, _, _, ⟨_, _, _, _, _, q2, _, _, _, _, ⟨g', t', cs, fuel, p, q3, hg', ht', hvar, hd, _, _⟩, _⟩, _⟩, _⟩ := h
  obtain rfl := Option.some.inj (hg.symm.trans hg')
  obtain rfl := Option.some.inj (hty.symm.trans ht')
  unfold Lib.TabIs
  rw [hvar, ← Lib.cells_of_tab ht he hce hct hd]
theorem star : "*" ++ "errors.errorString" = "*errors.errorString" := by decide
theorem row_err (u : TypeId) (h : Tryd.prog.typeName? 3 u = some "*errors.errorString") : u = 114 :=
  typeName_ptr_named (nm := "errors.errorString") (by rw [star]; kernel_rfl) (by kernel_rfl) (by decide) u (by rw [star]; exact h)
theorem nt_of {W : World} (h : laidMetH Tryd.prog Rows.walNamesUptoRow.laid W) : NT W := by
  have hs : laidMet Tryd.prog Rows.walNamesUptoRow.laid W := h
  refine ⟨tab_third (g := (Tryd.prog.globalNamed "internal/strconv.uint64pow10").getD 0) (by kernel_rfl) (by kernel_rfl) Tryd.underlying130 Tryd.underlying95 (by kernel_rfl) (by kernel_rfl) hs, ?_, ?_⟩
  · obtain ⟨a, s, hv, _⟩ := laid_sentinel (g := 0) (te := 116) (ts := 9) hs.tail.tail.tail.tail (by kernel_rfl) (by kernel_rfl) Tryd.underlying45 row_err Tryd.underlying114 Tryd.underlying116 rfl rfl Tryd.underlying9 (by kernel_rfl) (by kernel_rfl)
    exact ⟨_, _, hv⟩
  · obtain ⟨a, s, hv, _⟩ := laid_sentinel (g := 1) (te := 116) (ts := 9) hs.tail.tail.tail (by kernel_rfl) (by kernel_rfl) Tryd.underlying45 row_err Tryd.underlying114 Tryd.underlying116 rfl rfl Tryd.underlying9 (by kernel_rfl) (by kernel_rfl)
    exact ⟨_, _, hv⟩
mutual
def numsOf : DataW Unit → List Value
  | .lit (.int k n) => [.int k n]
  | .agg parts => numsAll parts
  | _ => []
def numsAll : List (DataW Unit) → List Value
  | [] => []
  | d :: l => numsOf d ++ numsAll l
 end
/-- A world that holds the listed tables and errors. -/
noncomputable def laidWorld (os : Os) : World :=
  let w0 := World.holding Tryd.prog os ⟨#[.cells #[.string ⟨#[118, 97, 108, 117, 101, 32, 111, 117, 116, 32, 111, 102, 32, 114, 97, 110, 103, 101]⟩] 116, .cells #[.string ⟨#[105, 110, 118, 97, 108, 105, 100, 32, 115, 121, 110, 116, 97, 120]⟩] 116], #[], []⟩
  let low := w0.heap.size - 2
  Rows.walNamesUptoRow.laid.foldl (fun W nd => match Tryd.prog.globalNamed nd.1 with
    | some g => { W with heap := W.heap.modify g fun
      | .cells _ t frozen => .cells (if nd.1 == "strconv.ErrRange" then #[.iface 114 (.pointer (some ⟨low, 0, none⟩))] else if nd.1 == "strconv.ErrSyntax" then #[.iface 114 (.pointer (some ⟨low + 1, 0, none⟩))] else (numsOf nd.2).toArray) t frozen
      | o => o }
    | _ => W) w0
end Go.Proofs.YtlmlkamgpmnmgaaDoor
