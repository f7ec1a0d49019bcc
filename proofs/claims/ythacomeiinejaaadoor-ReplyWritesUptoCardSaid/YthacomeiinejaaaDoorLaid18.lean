/-
  The rows' frame of chapter 18: the listed tables, a world that holds them, the bound.
-/
import Derived.Test.YthacomeiinejaaaDoorCards
import Derived.Test.YthacomeiinejaaaDoorTie
import Derived.Test.YthacomeiinejaaaDoorSs
import Derived.Test.YthacomeiinejaaaDoorSk
import Derived.WalkKit
import Derived.ProofKit
import Derived.OpenShut
import Derived.Deep.DeepHandedRow
import Derived.Lib.LaidTab
import Derived.Lib.SmallJoins
import Derived.ChangeArms
set_option linter.unusedVariables false
namespace Go.Proofs.YthacomeiinejaaaDoor
open Go.ChangeShapes Go.WideShapes Go.ChangeAt Go.RowKit
theorem ownNone : ownKnob Tryd.prog.godebug = none := by kernel_rfl
theorem bulk_of {H : Type} {l : List (DataW H)} (h : Rows.uptoSmall H l = true) : Rows.uptoBulkAll l ≤ 1048576 := of_decide_eq_true h
theorem tab_third {P : Program} {W : World} {a b : String × DataW Unit} {name : String} {k : IntKind} {zs : List Int} {rest : List (String × DataW Unit)} {g : Nat} {t e : TypeId} {n : Nat}
    (hg : P.globalNamed name = some g) (hty : (P.globals[g]?).map (·.type) = some t) (ht : P.underlying t = some (.array n e)) (he : P.underlying e = some (.int k)) (hce : P.cellsOf e = 1) (hct : P.cellsOf t = n)
    (h : laidMet P (a :: b :: (name, Lib.tabData k zs) :: rest) W) : Lib.TabIs P W name k zs := by
  obtain ⟨ps, ⟨_, _, _, _, _, q, _, _, _, _, ⟨_, _, _, _, _, q2, _, _, _, _, ⟨g', t', cs, fuel, p, q3, hg', ht', hvar, hd, _, _⟩, _⟩, _⟩, _⟩ := h
  obtain rfl := Option.some.inj (hg.symm.trans hg')
  obtain rfl := Option.some.inj (hty.symm.trans ht')
  unfold Lib.TabIs
  rw [hvar, ← Lib.cells_of_tab ht he hce hct hd]
theorem tab_of {W : World} (h : laidMetH Tryd.prog Rows.replyErrorsUptoRow.laid W) : Tab W :=
  tab_third (g := (Tryd.prog.globalNamed "internal/strconv.uint64pow10").getD 0) (rest := []) (by kernel_rfl) (by kernel_rfl) Tryd.underlying76 Tryd.underlying69 (by kernel_rfl) (by kernel_rfl) h
def numsOf : List (DataW Unit) → List Value
  | [] => []
  | .lit (.int k n) :: l => .int k n :: numsOf l
  | _ :: l => numsOf l
/-- A world that holds the listed tables. -/
noncomputable def laidWorld (os : Os) : World :=
  Rows.replyErrorsUptoRow.laid.foldl (fun W nd => match Tryd.prog.globalNamed nd.1, nd.2 with
    | some g, .agg parts => { W with heap := W.heap.modify g fun | .cells _ t frozen => .cells (numsOf parts).toArray t frozen | o => o }
    | _, _ => W) (World.holding Tryd.prog os ⟨#[], #[], []⟩)
section
variable {H : Type} {enc : TypeId × Value → H} {w : World} {base : Nat} {spare : Nat → Bool} {held : Bool}
/-- A reply by value, opened. -/
theorem open_rep {r : Reach} {b0 : Nat} {v : Value} {d : DataW H} {p : List MemPlace} (hv : Value.okWide Tryd.prog w r b0 23 v) (h : DataW.Trod enc Tryd.prog w base spare held 23 v d p) :
    ∃ (a : Int) (b c : ByteArray) (e : Bool), v = .agg #[.int .i64 a, .string b, .string c, .bool e] ∧ d = .agg [.lit (.int .i64 a), .lit (.string b.data.toList), .lit (.string c.data.toList), .lit (.bool e)] ∧ p = [] ∧ (Lit.int .i64 a).wf = true ∧ b.size ≤ maxLen ∧ c.size ≤ maxLen := by
  obtain ⟨v0, v1, v2, v3, y0, y1, y2, y3, n, rfl, rfl, rfl, h0, h1, h2, h3⟩ := Go.Joins.open_agg4 Tryd.underlying23 (by kernel_rfl) (by kernel_rfl) hv h
  obtain ⟨a, ha, rfl, hw⟩ := DataW.trod_int Tryd.underlying3 h0
  obtain ⟨b, hb, rfl, hb2⟩ := DataW.trod_string Tryd.underlying9 h1
  obtain ⟨c, hc, rfl, hc2⟩ := DataW.trod_string Tryd.underlying9 h2
  obtain ⟨e, he, rfl⟩ := DataW.trod_bool Tryd.underlying4 h3
  obtain rfl : v0 = .int .i64 a := by simpa using ha
  obtain rfl : v1 = .string b := by simpa using hb
  obtain rfl : v2 = .string c := by simpa using hc
  obtain rfl : v3 = .bool e := by simpa using he
  exact ⟨a, b, c, e, rfl, rfl, rfl, hw, hb2, hc2⟩
theorem shut_rep {a : Int} {b c : ByteArray} {e : Bool} (hw : (Lit.int .i64 a).wf = true) (hb : b.size ≤ maxLen) (hc : c.size ≤ maxLen) :
    DataW.Trod enc Tryd.prog w base spare held 23 (.agg #[.int .i64 a, .string b, .string c, .bool e]) (.agg [.lit (.int .i64 a), .lit (.string b.data.toList), .lit (.string c.data.toList), .lit (.bool e)]) [] := by
  have h0 := Go.ChangeShapes.shut_int (enc := enc) (w := w) (base := base) (spare := spare) (held := held) Tryd.underlying3 hw
  have h1 := Go.ChangeMaps.shut_string (enc := enc) (w := w) (base := base) (sp := spare) (held := held) Tryd.underlying9 hb
  have h2 := Go.ChangeMaps.shut_string (enc := enc) (w := w) (base := base) (sp := spare) (held := held) Tryd.underlying9 hc
  have h3 := Go.RowKit.shut_bool (enc := enc) (w := w) (base := base) (spare := spare) (held := held) Tryd.underlying4 e
  exact Go.Joins.shut_agg4 Tryd.underlying23 (by kernel_rfl) (by kernel_rfl) h0 h1 h2 h3
end
end Go.Proofs.YthacomeiinejaaaDoor
