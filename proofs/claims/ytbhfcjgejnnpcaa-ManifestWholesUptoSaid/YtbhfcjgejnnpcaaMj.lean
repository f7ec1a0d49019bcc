/-
  Chapter 11: what Apply does, plain; its memory: the boxes, the levels' rows.
-/
import Derived.Test.YtbhfcjgejnnpcaaMi
set_option linter.unusedVariables false
set_option linter.unusedSimpArgs false
namespace Go.Proofs.Ytbhfcjgejnnpcaa
open Go.RowKit Go.Proofs.YtbhfcjgejnnpcaaW.PrintWords Go.Proofs.Ytbhfcjgejnnpcaa.PManifest
/-- Files that are gone. -/
def goneL : List (List S44) → List S73 → Option (List (List S44))
  | LL, [] => some LL
  | LL, g :: r => if g.f0 < 0 ∨ g.f0 ≥ 7 then none else if ixI g.f1 (LL.getD g.f0.toNat []) < 0 then none else goneL (LL.set g.f0.toNat ((LL.getD g.f0.toNat []).eraseIdx (ixI g.f1 (LL.getD g.f0.toNat [])).toNat)) r
/-- Files that come. -/
def addL : List (List S44) → List S71 → Option (List (List S44))
  | LL, [] => some LL
  | LL, a :: r => if a.f0 < 0 ∨ a.f0 ≥ 7 then none else addL (LL.set a.f0.toNat (LL.getD a.f0.toNat [] ++ [a.f1])) r
def pad7 (L : List (List S44)) : List (List S44) := L ++ List.replicate (7 - L.length) []
/-- The levels, each put in order. -/
def Srt (LL OL : List (List S44)) : Prop := OL.length = LL.length ∧ ∀ i, i < LL.length → (OL.getD i []).Perm (LL.getD i []) ∧ InOrd i (OL.getD i [])
def gdB (L : List (List S44)) (log next seq log2 next2 seq2 : Int) : Bool := !chkB L log next seq || (decide (log2 < log) || (decide (next2 < next) || decide (seq2 < seq)))
/-- What Apply may answer: none (it may not be), or the levels. -/
def App (L : List (List S44)) (log next seq log2 next2 seq2 : Int) (added : List S71) (gone : List S73) (o : Option (List (List S44))) : Prop :=
  if gdB L log next seq log2 next2 seq2 = true then o = none
  else match goneL (pad7 L) gone with
    | none => o = none
    | some L1 => match addL L1 added with
      | none => o = none
      | some L2 => ∃ OL, Srt L2 OL ∧ o = if chkB (trimL OL) log2 next2 seq2 = true then some (trimL OL) else none
def nilV : Value := .slice none 0 0
/-- The array of levels: block g, its rows above it. -/
structure LV (g : Nat) (vs : List Value) (LL : List (List S44)) (W : World) : Prop where
  blk : W.heap[g]? = some (.cells vs.toArray 74 (0, 0))
  vlen : vs.length = 7
  llen : LL.length = 7
  rows : ∀ i, i < 7 → Rw W (g + 1) (vs.getD i nilV) (LL.getD i [])
  far : ∀ i j, i < 7 → j < 7 → i ≠ j → ∀ k, (vs.getD i nilV).ownBlock = some k → (vs.getD j nilV).ownBlock ≠ some k
theorem LV.next {g : Nat} {vs : List Value} {LL : List (List S44)} {W W2 : World} (h : LV g vs LL W) (hb : Below W.heap.size W W2) : LV g vs LL W2 :=
  ⟨(hb.block _ (Array.getElem?_eq_some_iff.1 h.blk).1).trans h.blk, h.vlen, h.llen, fun i hi => (h.rows i hi).below hb, h.far⟩
theorem LV.lt {g : Nat} {vs : List Value} {LL : List (List S44)} {W : World} (h : LV g vs LL W) : g < W.heap.size := (Array.getElem?_eq_some_iff.1 h.blk).1
theorem LV.cell {g : Nat} {vs : List Value} {LL : List (List S44)} {W : World} (h : LV g vs LL W) (i : Nat) (hi : i < 7) : W.cell? ⟨g, i, none⟩ = some (vs.getD i nilV) := by
  rw [blk_cell h.blk]
  have : i < vs.length := by rw [h.vlen]; exact hi
  simp [List.getD_eq_getElem?_getD, this]
/-- One level's row has turned, and is stored anew. -/
theorem LV.set {g : Nat} {vs : List Value} {LL : List (List S44)} {W W2 : World} (h : LV g vs LL W) (i : Nat) (hi : i < 7) (v : Value) (l : List S44) (hg : W.grownBy W2 (vs.getD i nilV).ownBlock) (hv : Rw W2 (g + 1) v l) (ho : v.ownBlock = (vs.getD i nilV).ownBlock ∨ ∀ k, v.ownBlock = some k → W.heap.size ≤ k) : LV g (vs.set i v) (LL.set i l) (W2.setCell ⟨g, i, none⟩ v) := by
  have hb2 : W2.heap[g]? = some (.cells vs.toArray 74 (0, 0)) := (hg.block g h.lt (by
    intro e
    have := ((h.rows i hi).ge g e.symm).1
    omega)).trans h.blk
  have hne : ∀ {u : Value} {l2 : List S44}, Rw W2 (g + 1) u l2 → Rw (W2.setCell ⟨g, i, none⟩ v) (g + 1) u l2 := fun hu => hu.move fun k hk => by
    have := (hu.ge k hk).1
    exact Below.heap_setCell _ _ _ _ (by show k ≠ g; omega)
  refine ⟨by rw [blk_set hb2]; simp, by simp [h.vlen], by simp [h.llen], fun j hj => ?_, fun j k hj hk hjk b hb => ?_⟩
  · by_cases e : i = j
    · subst e
      rw [List.getD_eq_getElem?_getD, List.getD_eq_getElem?_getD, List.getElem?_set_self (by rw [h.vlen]; exact hi), List.getElem?_set_self (by rw [h.llen]; exact hi)]
      exact hne hv
    · rw [List.getD_eq_getElem?_getD, List.getD_eq_getElem?_getD, List.getElem?_set_ne e, List.getElem?_set_ne e, ← List.getD_eq_getElem?_getD, ← List.getD_eq_getElem?_getD]
      refine hne ((h.rows j hj).move fun k hk => hg.block k ((h.rows j hj).ge k hk).2 (fun e2 => h.far i j hi hj e k e2.symm hk))
  · have old : ∀ m, m < 7 → ∀ b, (vs.getD m nilV).ownBlock = some b → b < W.heap.size := fun m hm b hb => ((h.rows m hm).ge b hb).2
    have gd : ∀ m, (vs.set i v).getD m nilV = if i = m ∧ i < 7 then v else vs.getD m nilV := fun m => by
      by_cases e : i = m
      · subst e
        rw [List.getD_eq_getElem?_getD, List.getElem?_set_self (by rw [h.vlen]; exact hi), if_pos ⟨rfl, hi⟩]
        rfl
      · rw [List.getD_eq_getElem?_getD, List.getElem?_set_ne e, ← List.getD_eq_getElem?_getD, if_neg (fun h => e h.1)]
    rw [gd] at hb ⊢
    by_cases e1 : i = j
    · subst e1
      rw [if_pos ⟨rfl, hi⟩] at hb
      rw [if_neg (fun h => hjk h.1)]
      rcases ho with ho | ho
      · exact h.far i k hi hk hjk b (by rw [← ho]; exact hb)
      · intro hk2
        have := ho b hb
        have := old k hk b hk2
        omega
    · rw [if_neg (fun h => e1 h.1)] at hb
      by_cases e2 : i = k
      · subst e2
        rw [if_pos ⟨rfl, hi⟩]
        rcases ho with ho | ho
        · rw [ho]
          exact h.far j i hj hi hjk b hb
        · intro hk2
          have := ho b hk2
          have := old j hj b hb
          omega
      · rw [if_neg (fun h => e2 h.1)]
        exact h.far j k hj hk hjk b hb
theorem getD_rep {α : Type} (x d : α) (i : Nat) (hi : i < 7) : (List.replicate 7 x).getD i d = x := by
  rw [List.getD_eq_getElem?_getD, List.getElem?_replicate, if_pos hi]
  rfl
theorem LV.new (W : World) : LV W.heap.size (List.replicate 7 nilV) (List.replicate 7 []) (W.alloc (.cells (List.replicate 7 nilV).toArray 74)) := by
  refine ⟨heap_alloc_new W _, by simp, by simp, fun i hi => ?_, fun i j hi hj _ k hk => ?_⟩
  · rw [getD_rep _ _ i hi, getD_rep _ _ i hi]
    exact Rw.nil _ _
  · rw [getD_rep _ _ i hi] at hk
    simp [nilV, Value.ownBlock] at hk
end Go.Proofs.Ytbhfcjgejnnpcaa
