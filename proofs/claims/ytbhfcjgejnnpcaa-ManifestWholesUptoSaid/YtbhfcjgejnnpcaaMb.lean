/-
  Chapter 11: the program's Check: the numbers that are known (a map), what is wrong.
-/
import Derived.Test.YtbhfcjgejnnpcaaMa
import Derived.Maps.Own
import Derived.Maps.OwnSet
import Derived.Maps.OwnOps
import Derived.WalkKit
import Derived.Deep.LoopGhost
import Derived.Deep.QuietTactic
import Derived.BigQuiet
set_option linter.unusedVariables false
set_option linter.unusedSimpArgs false
namespace Go.Proofs.Ytbhfcjgejnnpcaa
open Go.RowKit Go.Proofs.YtbhfcjgejnnpcaaW.PrintWords Go.Proofs.Ytbhfcjgejnnpcaa.PManifest Go.Maps
theorem keyI : Keyed Try.prog 3 := int_keyed Try.underlying3
theorem keyI_of (k : Int) (hk : (Lit.int .i64 k).wf = true) : keyOf Try.prog 3 (.int .i64 k) = some (.int .i64 k) := keyOf_int_mk Try.underlying3 hk
theorem zeroB (w : World) : (zeroValue 4).run Try.prog w = .ok (.bool false) w := by kernel_rfl
theorem isKeyI (k : Int) : WideAt.IsKeyLit (.int .i64 k) := trivial
theorem plain_bool {P : Program} {e : TypeId} (he : P.underlying e = some .bool) {v : Value} {x : Bool} {ps : List MemPlace} (h : plainElem (H := Unit) P e v = some (.lit (.bool x), ps)) : v = .bool x := by
  unfold plainElem at h
  rw [he] at h
  cases v <;> simp at h
  rw [h.1]
/-- Block b is a map of the numbers ns. -/
def KM (W : World) (b : Nat) (ns : List Int) : Prop := ∃ D : DataW Unit, W.ownsMap Try.prog 3 (plainElem Try.prog 4) b ns.length D ∧ Tidy D ∧ (∀ k : Int, D.atKey (.int .i64 k) (.lit (.bool false)) = .lit (.bool (ns.contains k))) ∧ (∀ k : Int, has D (.int .i64 k) = ns.contains k) ∧ (ns.Nodup → size D = ns.length)
theorem KM.new (w : World) : KM (w.alloc (.map #[] 0)) w.heap.size [] := ⟨.map [], World.ownsMap_made w _ _ _, tidy_empty, fun k => rfl, fun k => rfl, fun _ => rfl⟩
theorem KM.kept {W W' : World} {b : Nat} {ns : List Int} (h : KM W b ns) {row : Option Nat} (hg : W.grownBy W' row) (hne : some b ≠ row) : KM W' b ns := by
  obtain ⟨D, h1, h2⟩ := h
  exact ⟨D, h1.kept hg hne, h2⟩
theorem KM.below {W W' : World} {b : Nat} {ns : List Int} (h : KM W b ns) (hb : Below W.heap.size W W') : KM W' b ns := h.kept (grown_of_below hb none) (by simp)
theorem KM.lt {W : World} {b : Nat} {ns : List Int} (h : KM W b ns) : b < W.heap.size := by
  obtain ⟨D, h1, _⟩ := h
  exact h1.lt
theorem KM.look {W : World} {b : Nat} {ns : List Int} (h : KM W b ns) (k : Int) (hk : (Lit.int .i64 k).wf = true) : (Instr.lookup 81 (.map (some b)) (.int .i64 k) false).run Try.prog W = .ok (.bool (ns.contains k)) W := by
  obtain ⟨D, h1, _, h3, _⟩ := h
  obtain ⟨v, ps, hrun, hv⟩ := h1.lookup keyI Try.underlying81 (zeroB W) (plainElem_bool Try.underlying4 false) (keyI_of k hk)
  rw [h3] at hv
  rw [hrun, plain_bool Try.underlying4 hv]
theorem KM.put {W : World} {b : Nat} {ns : List Int} (h : KM W b ns) (hn : ns.length < 1000000000) (k : Int) (hk : (Lit.int .i64 k).wf = true) : ∃ W', (Instr.mapUpdate 81 (.map (some b)) (.int .i64 k) (.bool true)).run Try.prog W = .ok () W' ∧ KM W' b (ns ++ [k]) ∧ W.grownBy W' (some b) := by
  obtain ⟨D, h1, h2, h3, h4, h5⟩ := h
  obtain ⟨W', hr, ho, hg⟩ := h1.update keyI Try.underlying81 (by unfold maxLen; omega) (keyI_of k hk) (plainElem_bool Try.underlying4 true)
  refine ⟨W', hr, ⟨_, by rw [List.length_append]; exact ho, h2.put (isKeyI k) _, fun j => ?_, fun j => ?_, fun hnd => ?_⟩, hg⟩
  · by_cases e : j = k
    · subst e
      rw [atKey_put_same h2.isMap (isKeyI j)]
      simp
    · rw [atKey_put_other (by simpa using e), h3]
      simp [e]
  · by_cases e : j = k
    · subst e
      rw [has_put_same h2.isMap (isKeyI j)]
      simp
    · rw [has_put_other (by simpa using e), h4]
      simp [e]
  · have hnd2 := List.nodup_append.1 hnd
    have hnk : ns.contains k = false := by
      rw [Bool.eq_false_iff]
      intro hc
      exact hnd2.2.2 k (by simpa using hc) k (by simp) rfl
    rw [size_put h2, h4, hnk, h5 hnd2.1, List.length_append]
    rfl
theorem KM.len {W : World} {b : Nat} {ns : List Int} (h : KM W b ns) : ∃ n : Nat, n ≤ ns.length ∧ (ns.Nodup → n = ns.length) ∧ ∀ ty, (Builtin.len_ #[81] ty #[.map (some b)]).run Try.prog W = .ok (.int .i64 (n : Int)) W := by
  obtain ⟨D, h1, h2, h3, h4, h5⟩ := h
  exact ⟨size D, h1.size_le, h5, fun ty => h1.len Try.underlying81 ty⟩
/-- What is right of the tables, one behind the other, their count aside. -/
def allP (next : Int) : List Int → List S44 → Bool
  | _, [] => true
  | ns, t :: r => fileB t && (!ns.contains t.f0 && (decide (t.f0 < next) && allP next (ns ++ [t.f0]) r))
theorem allOk_allP (next : Int) : ∀ (l : List S44) (ns : List Int), allOk next ns l = (allP next ns l && decide (l = [] ∨ ns.length + l.length ≤ 1024))
  | [], ns => by simp [allOk, allP]
  | t :: r, ns => by
    rw [allOk, allP, allOk_allP next r]
    have e : decide (t :: r = [] ∨ ns.length + (t :: r).length ≤ 1024) = (decide (ns.length < 1024) && decide (r = [] ∨ (ns ++ [t.f0]).length + r.length ≤ 1024)) := by
      rw [Bool.eq_iff_iff]
      simp only [decide_eq_true_eq, Bool.and_eq_true, List.length_append, List.length_cons, List.length_nil, reduceCtorEq, false_or]
      constructor
      · intro h; exact ⟨by omega, Or.inr (by omega)⟩
      · rintro ⟨h1, rfl | h2⟩
        · simp; omega
        · omega
    rw [e]
    cases fileB t <;> cases ns.contains t.f0 <;> cases decide (t.f0 < next) <;> cases decide (ns.length < 1024) <;> simp
theorem allP_nodup (next : Int) : ∀ (l : List S44) (ns : List Int), allP next ns l = true → ns.Nodup → (ns ++ l.map (·.f0)).Nodup
  | [], ns, _, h => by simpa using h
  | t :: r, ns, h, hn => by
    rw [allP] at h
    simp only [Bool.and_eq_true] at h
    have hc : ¬ t.f0 ∈ ns := fun hm => by
      have := h.2.1
      rw [show ns.contains t.f0 = true by simpa using hm] at this
      cases this
    have := allP_nodup next r (ns ++ [t.f0]) h.2.2.2 (by
      rw [List.nodup_append]
      exact ⟨hn, by simp, fun a ha b hb e => hc (by simp at hb; rw [← hb, ← e]; exact ha)⟩)
    simpa using this
def total (L : List (List S44)) (log next seq : Int) : Bool := (!w0 L && !w1 log next seq) && (ordFrom 0 L && allP next [] L.flatten)
theorem chk_total (L : List (List S44)) (log next seq : Int) : chkB L log next seq = (total L log next seq && decide (L.flatten.length ≤ 1024)) := by
  unfold chkB total
  rw [allOk_allP]
  have e : decide (L.flatten = [] ∨ ([] : List Int).length + L.flatten.length ≤ 1024) = decide (L.flatten.length ≤ 1024) := by
    rw [Bool.eq_iff_iff]
    simp only [decide_eq_true_eq, List.length_nil, Nat.zero_add]
    constructor
    · rintro (h | h)
      · rw [h]; simp
      · exact h
    · exact Or.inr
  rw [e]
  cases w0 L <;> cases w1 log next seq <;> cases ordFrom 0 L <;> cases allP next [] L.flatten <;> simp
end Go.Proofs.Ytbhfcjgejnnpcaa
