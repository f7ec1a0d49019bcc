/-
  The rows' frame of chapter 19: the listed tables, a world that holds them, what the library's variable holds; a cookie by value.
-/
import Derived.Test.YtgnibfideghklaaDoorCards
import Derived.Test.YtgnibfideghklaaDoorTie
import Derived.Test.YtgnibfideghklaaDoorOpC
import Derived.Test.YtgnibfideghklaaDoorKn
import Derived.Deep.DeepHandedRow
import Derived.Lib.LaidTab
import Derived.ChangeArms
import Derived.Shelf.Vars
set_option linter.unusedVariables false
namespace Go.Proofs.YtgnibfideghklaaDoor
open Go.ChangeShapes Go.WideShapes Go.ChangeAt Go.RowKit
theorem tab_third {P : Program} {W : World} {a b : String × DataW Unit} {name : String} {k : IntKind} {zs : List Int} {rest : List (String × DataW Unit)} {g : Nat} {t e : TypeId} {n : Nat}
    (hg : P.globalNamed name = some g) (hty : (P.globals[g]?).map (·.type) = some t) (ht : P.underlying t = some (.array n e)) (he : P.underlying e = some (.int k)) (hce : P.cellsOf e = 1) (hct : P.cellsOf t = n)
    (h : laidMet P (a :: b :: (name, Lib.tabData k zs) :: rest) W) : Lib.TabIs P W name k zs := by
  obtain ⟨ps, ⟨_, _, _, _, _, q, _, _, _, _, ⟨_, _, _, _, _, q2, _, _, _, _, ⟨g', t', cs, fuel, p, q3, hg', ht', hvar, hd, _, _⟩, _⟩, _⟩, _⟩ := h
  obtain rfl := Option.some.inj (hg.symm.trans hg')
  obtain rfl := Option.some.inj (hty.symm.trans ht')
  unfold Lib.TabIs
  rw [hvar, ← Lib.cells_of_tab ht he hce hct hd]
theorem tab_of {W : World} (h : laidMetH Tryd.prog Rows.cookieFindsUptoRow.laid W) : Tab W :=
  tab_third (g := (Tryd.prog.globalNamed "internal/strconv.uint64pow10").getD 0) (rest := [("unicode/utf8.acceptRanges", Rows.laid_unicode_utf8_acceptRanges), ("unicode/utf8.first", Rows.laid_unicode_utf8_first)]) (by kernel_rfl) (by kernel_rfl) Tryd.underlying92 Tryd.underlying83 (by kernel_rfl) (by kernel_rfl) h
theorem max_of {W : World} (h : W.ShapedOpen Tryd.prog) : MaxL W :=
  cell_of_shapedOpen_int (P := Tryd.prog) (g := 0) (t := 3) (zero := #[.int .i64 0]) h (of_decide_eq_true (by kernel_rfl)) (by kernel_rfl) rfl (by kernel_rfl) (by kernel_rfl) Tryd.underlying3
mutual
def numsOf : DataW Unit → List Value
  | .lit (.int k n) => [.int k n]
  | .agg parts => numsAll parts
  | _ => []
def numsAll : List (DataW Unit) → List Value
  | [] => []
  | d :: l => numsOf d ++ numsAll l
 end
/-- A world that holds the listed tables. -/
noncomputable def laidWorld (os : Os) : World :=
  Rows.cookieFindsUptoRow.laid.foldl (fun W nd => match Tryd.prog.globalNamed nd.1 with
    | some g => { W with heap := W.heap.modify g fun | .cells _ t frozen => .cells (numsOf nd.2).toArray t frozen | o => o }
    | _ => W) (World.holding Tryd.prog os ⟨#[], #[], []⟩)
section
variable {H : Type} {enc : TypeId × Value → H} {w : World} {base : Nat} {spare : Nat → Bool} {held : Bool}
theorem array8 {α : Type} {cs : Array α} (h : cs.size = 8) : ∃ c0 c1 c2 c3 c4 c5 c6 c7, cs = #[c0, c1, c2, c3, c4, c5, c6, c7] := by
  obtain ⟨l⟩ := cs
  match l, h with
  | [c0, c1, c2, c3, c4, c5, c6, c7], _ => exact ⟨c0, c1, c2, c3, c4, c5, c6, c7, rfl⟩
end
end Go.Proofs.YtgnibfideghklaaDoor
