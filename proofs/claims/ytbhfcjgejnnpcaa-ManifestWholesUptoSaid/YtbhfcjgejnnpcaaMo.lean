/-
  Chapter 11: Apply's boxes, its last loop, plain facts on its levels.
-/
import Derived.Test.YtbhfcjgejnnpcaaMj
set_option linter.unusedVariables false
set_option linter.unusedSimpArgs false
namespace Go.Proofs.Ytbhfcjgejnnpcaa
open Go.RowKit Go.Proofs.YtbhfcjgejnnpcaaW.PrintWords Go.Proofs.Ytbhfcjgejnnpcaa.PManifest
def zs : List Value := [.slice none 0 0, .int .i64 0, .int .i64 0, .int .u64 0]
/-- Apply's boxes: the state, the edit, the result, the state that is none. -/
structure AW (w : World) (sc ec : List Value) (W : World) : Prop where
  s : W.heap[w.heap.size]? = some (.cells sc.toArray 27 (0, 0))
  e : W.heap[w.heap.size + 1]? = some (.cells ec.toArray 31 (0, 0))
  r : W.heap[w.heap.size + 2]? = some (.cells zs.toArray 27 (0, 0))
  z : W.heap[w.heap.size + 3]? = some (.cells zs.toArray 27 (0, 0))
  bel : Below w.heap.size w W
theorem AW.lt {w : World} {sc ec : List Value} {W : World} (h : AW w sc ec W) : w.heap.size + 3 < W.heap.size := (Array.getElem?_eq_some_iff.1 h.z).1
theorem AW.next {w : World} {sc ec : List Value} {W W2 : World} (h : AW w sc ec W) (hb : Below W.heap.size W W2) : AW w sc ec W2 :=
  have hl := h.lt
  ⟨(hb.block _ (by omega)).trans h.s, (hb.block _ (by omega)).trans h.e, (hb.block _ (by omega)).trans h.r, (hb.block _ (by omega)).trans h.z, h.bel.trans (hb.mono h.bel.size)⟩
theorem AW.turn {w : World} {sc ec : List Value} {W W2 : World} (h : AW w sc ec W) {row : Option Nat} (hg : W.grownBy W2 row) (hr : ∀ k, row = some k → w.heap.size + 4 ≤ k) : AW w sc ec W2 := by
  have hl := h.lt
  have hne : ∀ j, j < 4 → some (w.heap.size + j) ≠ row := fun j hj e => by
    have := hr _ e.symm
    omega
  exact ⟨(hg.block _ (by omega) (hne 0 (by omega))).trans h.s, (hg.block _ (by omega) (hne 1 (by omega))).trans h.e, (hg.block _ (by omega) (hne 2 (by omega))).trans h.r, (hg.block _ (by omega) (hne 3 (by omega))).trans h.z, h.bel.grown hg h.bel.size (fun k hk => by have := hr k hk; omega)⟩
theorem AW.set {w : World} {sc ec : List Value} {W : World} (h : AW w sc ec W) (g i : Nat) (hg : w.heap.size + 4 ≤ g) (u : Value) : AW w sc ec (W.setCell ⟨g, i, none⟩ u) :=
  have hk : ∀ j, j < 4 → (W.setCell ⟨g, i, none⟩ u).heap[w.heap.size + j]? = W.heap[w.heap.size + j]? := fun j hj => Below.heap_setCell _ _ _ _ (by show w.heap.size + j ≠ g; omega)
  ⟨(hk 0 (by omega)).trans h.s, (hk 1 (by omega)).trans h.e, (hk 2 (by omega)).trans h.r, (hk 3 (by omega)).trans h.z, h.bel.setCell (by show w.heap.size ≤ g; omega) _⟩
theorem AW.cells {w : World} {sc ec : List Value} {W : World} (h : AW w sc ec W) : (∀ i v, sc[i]? = some v → W.cell? ⟨w.heap.size, i, none⟩ = some v) ∧ (∀ i v, ec[i]? = some v → W.cell? ⟨w.heap.size + 1, i, none⟩ = some v) ∧ (∀ i v, zs[i]? = some v → W.cell? ⟨w.heap.size + 2, i, none⟩ = some v) ∧ (∀ i v, zs[i]? = some v → W.cell? ⟨w.heap.size + 3, i, none⟩ = some v) :=
  ⟨fun i v hi => by rw [blk_cell h.s]; simpa using hi, fun i v hi => by rw [blk_cell h.e]; simpa using hi, fun i v hi => by rw [blk_cell h.r]; simpa using hi, fun i v hi => by rw [blk_cell h.z]; simpa using hi⟩
theorem AW.new (w : World) (sc ec : List Value) : AW w sc ec ((((w.alloc (.cells sc.toArray 27)).alloc (.cells ec.toArray 31)).alloc (.cells zs.toArray 27)).alloc (.cells zs.toArray 27)) := by
  have h0 := heap_alloc_new w (.cells sc.toArray 27)
  have h1 := heap_alloc_new (w.alloc (.cells sc.toArray 27)) (.cells ec.toArray 31)
  have h2 := heap_alloc_new ((w.alloc (.cells sc.toArray 27)).alloc (.cells ec.toArray 31)) (.cells zs.toArray 27)
  have h3 := heap_alloc_new (((w.alloc (.cells sc.toArray 27)).alloc (.cells ec.toArray 31)).alloc (.cells zs.toArray 27)) (.cells zs.toArray 27)
  have e1 : (w.alloc (.cells sc.toArray 27)).heap.size = w.heap.size + 1 := by simp
  have e2 : ((w.alloc (.cells sc.toArray 27)).alloc (.cells ec.toArray 31)).heap.size = w.heap.size + 2 := by simp
  have e3 : (((w.alloc (.cells sc.toArray 27)).alloc (.cells ec.toArray 31)).alloc (.cells zs.toArray 27)).heap.size = w.heap.size + 3 := by simp
  rw [e1] at h1
  rw [e2] at h2
  rw [e3] at h3
  exact ⟨blk_alloc (blk_alloc (blk_alloc h0 _) _) _, blk_alloc (blk_alloc h1 _) _, blk_alloc h2 _, h3, (below_alloc (below_alloc (below_alloc (below_alloc (Below.refl _ _) _) _) _) _)⟩
/-- What is asked of a state that is handed in. -/
structure StOk (L : List (List S44)) (log next seq : Int) : Prop where
  n : L.length < 1000000000
  each : ∀ l ∈ L, l.length < 100000000
  all : L.flatten.length < 50000000
  wf : ∀ t ∈ L.flatten, (Lit.int .i64 t.f0).wf = true
  log : -9223372036854775808 ≤ log ∧ log ≤ 9223372036854775807
  next : -9223372036854775808 ≤ next ∧ next ≤ 9223372036854775807
  seq : 0 ≤ seq ∧ seq ≤ 18446744073709551615
theorem stcheck_any {L : List (List S44)} {log next seq : Int} (h : StOk L log next seq) (A : Option Addr) (c : Nat) (w : World) (hr : Kd.C (Kd.slice 44 k44) w A L.length L) (hc : L.length ≤ c) :
    Calls Try.prog 17 #[.agg #[.slice A L.length c, .int .i64 log, .int .i64 next, .int .u64 seq]] w fun e w' => e = .returned (.int .i64 (c110 (chkB L log next seq))) ∧ Below w.heap.size w w' :=
  check_any L log next seq h.n h.each (by have := h.all; omega) h.wf h.log h.next h.seq A c w hr hc
theorem chk_seven {L : List (List S44)} {log next seq : Int} (h : chkB L log next seq = true) : L.length ≤ 7 := by
  unfold chkB w0 at h
  simp only [Bool.and_eq_true, Bool.not_eq_true', Bool.or_eq_false_iff, decide_eq_false_iff_not] at h
  omega
theorem pad_set (P : List (List S44)) (l : List S44) (h : P.length < 7) : (pad7 P).set P.length l = pad7 (P ++ [l]) := by
  unfold pad7
  obtain ⟨m, hm⟩ : ∃ m, 7 - P.length = m + 1 := ⟨6 - P.length, by omega⟩
  rw [List.set_append_right _ _ (Nat.le_refl _), Nat.sub_self, hm, List.replicate_succ, List.set_cons_zero, List.append_assoc, List.length_append, List.length_singleton, show 7 - (P.length + 1) = m by omega]
  rfl
theorem len_flat {α : Type} : ∀ (LL : List (List α)) (l : List α), l ∈ LL → l.length ≤ LL.flatten.length
  | [], _, h => by cases h
  | x :: r, l, h => by
    rw [List.flatten_cons, List.length_append]
    rcases List.mem_cons.1 h with rfl | h
    · omega
    · have := len_flat r l h
      omega
theorem flat_set {α : Type} : ∀ (LL : List (List α)) (n : Nat) (l l0 : List α), LL.getD n [] = l0 → l.length ≤ l0.length → (LL.set n l).flatten.length ≤ LL.flatten.length
  | [], n, l, l0, h, hl => by simp
  | x :: r, 0, l, l0, h, hl => by
    simp at h
    subst h
    rw [List.set_cons_zero, List.flatten_cons, List.flatten_cons, List.length_append, List.length_append]
    omega
  | x :: r, n + 1, l, l0, h, hl => by
    have := flat_set r n l l0 (by simpa using h) hl
    rw [List.set_cons_succ, List.flatten_cons, List.flatten_cons, List.length_append, List.length_append]
    omega
theorem flat_add {α : Type} : ∀ (LL : List (List α)) (n : Nat) (x : α), (LL.set n (LL.getD n [] ++ [x])).flatten.length ≤ LL.flatten.length + 1
  | [], n, x => by simp
  | y :: r, 0, x => by
    rw [List.set_cons_zero, List.flatten_cons, List.flatten_cons, List.length_append, List.length_append]
    simp
    omega
  | y :: r, n + 1, x => by
    have := flat_add r n x
    rw [List.set_cons_succ, List.flatten_cons, List.flatten_cons, List.length_append, List.length_append]
    have e : (y :: r).getD (n + 1) [] = r.getD n [] := by simp
    rw [e]
    omega
theorem ix_some {num : Int} {l : List S44} (h : ¬ ixI num l < 0) : ∃ k : Nat, ixI num l = (k : Int) ∧ k < l.length := by
  unfold ixI at h ⊢
  cases hx : l.findIdx? (fun t => t.f0 == num) with
  | none =>
    rw [hx] at h
    exact absurd (by decide) h
  | some k => exact ⟨k, rfl, (List.findIdx?_eq_some_iff_findIdx_eq.1 hx).1⟩
theorem pad_nil : pad7 [] = List.replicate 7 [] := rfl
theorem AW.err {w : World} {sc ec : List Value} {W : World} (h : AW w sc ec W) : W.cell? ⟨w.heap.size + 3, 0, none⟩ = some (.slice none 0 0) ∧ W.cell? ⟨w.heap.size + 3, 1, none⟩ = some (.int .i64 0) ∧ W.cell? ⟨w.heap.size + 3, 2, none⟩ = some (.int .i64 0) ∧ W.cell? ⟨w.heap.size + 3, 3, none⟩ = some (.int .u64 0) ∧ W.cell? ⟨w.heap.size + 2, 0, none⟩ = some (.slice none 0 0) ∧ W.cell? ⟨w.heap.size + 2, 1, none⟩ = some (.int .i64 0) ∧ W.cell? ⟨w.heap.size + 2, 2, none⟩ = some (.int .i64 0) ∧ W.cell? ⟨w.heap.size + 2, 3, none⟩ = some (.int .u64 0) ∧ ∀ i, W.frozen? ⟨w.heap.size + 2, i, none⟩ = false :=
  ⟨h.cells.2.2.2 0 _ rfl, h.cells.2.2.2 1 _ rfl, h.cells.2.2.2 2 _ rfl, h.cells.2.2.2 3 _ rfl, h.cells.2.2.1 0 _ rfl, h.cells.2.2.1 1 _ rfl, h.cells.2.2.1 2 _ rfl, h.cells.2.2.1 3 _ rfl, fun i => blk_frozen h.r i⟩
theorem put4 {W : World} {g : Nat} {T : TypeId} {a b c d : Value} (h : W.heap[g]? = some (.cells #[a, b, c, d] T (0, 0))) (a2 b2 c2 d2 : Value) : ((((W.setCell ⟨g, 0, none⟩ a2).setCell ⟨g, 1, none⟩ b2).setCell ⟨g, 2, none⟩ c2).setCell ⟨g, 3, none⟩ d2).heap[g]? = some (.cells #[a2, b2, c2, d2] T (0, 0)) := by
  rw [blk_set (blk_set (blk_set (blk_set h 0 a2) 1 b2) 2 c2) 3 d2]
  rfl
theorem put4_below {w W : World} {g : Nat} (h : Below w.heap.size w W) (hg : w.heap.size ≤ g) (a2 b2 c2 d2 : Value) : Below w.heap.size w ((((W.setCell ⟨g, 0, none⟩ a2).setCell ⟨g, 1, none⟩ b2).setCell ⟨g, 2, none⟩ c2).setCell ⟨g, 3, none⟩ d2) :=
  (((h.setCell (p := ⟨g, 0, none⟩) hg _).setCell (p := ⟨g, 1, none⟩) hg _).setCell (p := ⟨g, 2, none⟩) hg _).setCell (p := ⟨g, 3, none⟩) hg _
/-- A statement that is the last of its sequence may be cut around too. -/
theorem wp_cut_last {P : Program} {c : Code} {Q : Exit → Act → World → Prop} {a : Act} {w : World} (h : ∀ K : Act → World → Prop, (∀ a w, Q .normal a w → K a w) → c.wp P (Exit.then K Q) a w) : c.wp P Q a w := by
  refine Go.wp_mono (h (fun a w => Q .normal a w) (fun _ _ q => q)) ?_
  intro e a w hq
  cases e <;> exact hq
def outV (log2 next2 seq2 : Int) (W : World) : Option (List (List S44)) → Ending → Prop
  | none, e => e = .returned (.tuple #[.agg #[.slice none 0 0, .int .i64 0, .int .i64 0, .int .u64 0], .int .i64 110])
  | some OL, e => ∃ A, e = .returned (.tuple #[.agg #[.slice A OL.length OL.length, .int .i64 log2, .int .i64 next2, .int .u64 seq2], .int .i64 0]) ∧ Kd.C (Kd.slice 44 k44) W A OL.length OL
def ApplyP (L : List (List S44)) (log next seq log2 next2 seq2 : Int) (added : List S71) (gone : List S73) (w : World) (e : Ending) (w' : World) : Prop :=
  ∃ o, App L log next seq log2 next2 seq2 added gone o ∧ Below w.heap.size w w' ∧ outV log2 next2 seq2 w' o e
theorem apply_none {L : List (List S44)} {log next seq log2 next2 seq2 : Int} {added : List S71} {gone : List S73} {w : World} {e : Ending} {w' : World} (h : App L log next seq log2 next2 seq2 added gone none) (he : e = .returned (.tuple #[.agg #[.slice none 0 0, .int .i64 0, .int .i64 0, .int .u64 0], .int .i64 110])) (hb : Below w.heap.size w w') : ApplyP L log next seq log2 next2 seq2 added gone w e w' := ⟨none, h, hb, he⟩
/-- What may be said of Apply's last loop: k levels are in order and in the row u; the others wait. -/
structure LO (log2 next2 seq2 : Int) (g go : Nat) (vs : List Value) (LA : List (List S44)) (k : Nat) (u : Value) (OL : List (List S44)) (W : World) : Prop where
  blk : W.heap[go]? = some (.cells #[u, .int .i64 log2, .int .i64 next2, .int .u64 seq2] 27 (0, 0))
  ol : OL.length = k
  srt : ∀ j, j < k → (OL.getD j []).Perm (LA.getD j []) ∧ InOrd j (OL.getD j [])
  rows : ∀ j, k ≤ j → j < 7 → Rw W (g + 1) (vs.getD j nilV) (LA.getD j [])
  small : ∀ j, j < 7 → ∀ b, (vs.getD j nilV).ownBlock = some b → b < go
  far : ∀ i j, i < 7 → j < 7 → i ≠ j → ∀ b, (vs.getD i nilV).ownBlock = some b → (vs.getD j nilV).ownBlock ≠ some b
  gl : g + 1 ≤ go
  out : Kd.R (Kd.slice 44 k44) 41 W (g + 1) (fun b => go < b ∨ ∃ j, j < k ∧ (vs.getD j nilV).ownBlock = some b) u OL
  ub : ∀ b, u.ownBlock = some b → go < b
theorem LO.new {g : Nat} {vs : List Value} {LA : List (List S44)} {W : World} (h : LV g vs LA W) (log2 next2 seq2 : Int) : LO log2 next2 seq2 g W.heap.size vs LA 0 nilV [] (W.alloc (.cells #[nilV, .int .i64 log2, .int .i64 next2, .int .u64 seq2] 27)) :=
  ⟨heap_alloc_new W _, rfl, fun j hj => by omega, fun j _ hj => (h.next (below_alloc (Below.refl _ _) _)).rows j hj, fun j hj b hb => ((h.rows j hj).ge b hb).2, h.far, h.lt, Kd.R_nil _ _ _ _ _, fun b hb => by simp [nilV, Value.ownBlock] at hb⟩
theorem LO.lt {log2 next2 seq2 : Int} {g go : Nat} {vs : List Value} {LA : List (List S44)} {k : Nat} {u : Value} {OL : List (List S44)} {W : World} (h : LO log2 next2 seq2 g go vs LA k u OL W) : go < W.heap.size := (Array.getElem?_eq_some_iff.1 h.blk).1
theorem LO.step {log2 next2 seq2 : Int} {g go : Nat} {vs : List Value} {LA : List (List S44)} {k : Nat} {u : Value} {OL : List (List S44)} {W W2 : World} (h : LO log2 next2 seq2 g go vs LA k u OL W) (hk : k < 7) {vk : Value} (hvk : vs.getD k nilV = vk) {l : List S44} (hp : l.Perm (LA.getD k [])) (ho : InOrd k l) (hr : Rw W2 (g + 1) vk l) (hg : W.grownBy W2 vk.ownBlock) :
    W2.heap[go]? = some (.cells #[u, .int .i64 log2, .int .i64 next2, .int .u64 seq2] 27 (0, 0)) ∧ Kd.R (Kd.slice 44 k44) 41 W2 (g + 1) (fun b => go < b ∨ ∃ j, j < k + 1 ∧ (vs.getD j nilV).ownBlock = some b) u OL ∧ (Kd.slice 44 k44).M W2 (g + 1) (fun b => vk.ownBlock = some b) l [vk] ∧ (∀ b, vk.ownBlock = some b → (go < b ∨ ∃ j, j < k + 1 ∧ (vs.getD j nilV).ownBlock = some b) ∧ some b ≠ u.ownBlock) ∧ (∀ b, W2.heap.size ≤ b → go < b ∨ ∃ j, j < k + 1 ∧ (vs.getD j nilV).ownBlock = some b) ∧ go < W2.heap.size ∧
    ∀ v1 w1, Kd.R (Kd.slice 44 k44) 41 w1 (g + 1) (fun b => go < b ∨ ∃ j, j < k + 1 ∧ (vs.getD j nilV).ownBlock = some b) v1 (OL ++ [l]) → W2.grownBy w1 u.ownBlock → (v1.ownBlock = u.ownBlock ∨ ∃ b, v1.ownBlock = some b ∧ W2.heap.size ≤ b) → (w1.heap[go]? = some (.cells #[u, .int .i64 log2, .int .i64 next2, .int .u64 seq2] 27 (0, 0)) ∧ LO log2 next2 seq2 g go vs LA (k + 1) v1 (OL ++ [l]) (w1.setCell ⟨go, 0, none⟩ v1)) := by
  subst hvk
  have hkg : some go ≠ (vs.getD k nilV).ownBlock := fun e => by
    have := h.small k hk go e.symm
    omega
  have hb2 := (hg.block go h.lt hkg).trans h.blk
  have hl2 : go < W2.heap.size := (Array.getElem?_eq_some_iff.1 hb2).1
  refine ⟨hb2, ?_, Kd.M_row (Kd.R_reok (d := k44) rfl hr (fun b hb => hb)), fun b hb => ⟨Or.inr ⟨k, by omega, hb⟩, fun e => ?_⟩, fun b hb => Or.inl (by omega), hl2, fun v1 w1 hR hg1 hat => ?_⟩
  · refine Kd.R_mono (Kd.R_grown h.out hg fun b hb e => ?_) fun b hb => ?_
    · rcases hb with hb | ⟨j, hj, hb⟩
      · have := h.small k hk b e.symm
        omega
      · exact h.far j k (by omega) hk (by omega) b hb e.symm
    · rcases hb with hb | ⟨j, hj, hb⟩
      · exact Or.inl hb
      · exact Or.inr ⟨j, by omega, hb⟩
  · have h1 := h.ub b e.symm
    have h2 := h.small k hk b hb
    omega
  · have hug : some go ≠ u.ownBlock := fun e => by
      have := h.ub go e.symm
      omega
    have hb3 := (hg1.block go hl2 hug).trans hb2
    refine ⟨hb3, ?_, by rw [List.length_append, h.ol]; rfl, fun j hj => ?_, fun j hj hj7 => ?_, h.small, h.far, h.gl, ?_, fun b hb => ?_⟩
    · rw [blk_set hb3]
      rfl
    · by_cases e : j < k
      · rw [show (OL ++ [l]).getD j [] = OL.getD j [] by rw [List.getD_eq_getElem?_getD, List.getElem?_append_left (by rw [h.ol]; exact e), ← List.getD_eq_getElem?_getD]]
        exact h.srt j e
      · have e2 : j = k := by omega
        subst e2
        have : (OL ++ [l]).getD j [] = l := by rw [List.getD_eq_getElem?_getD, ← h.ol, List.getElem?_concat_length]; rfl
        rw [this]
        exact ⟨hp, ho⟩
    · have m1 : Rw W2 (g + 1) (vs.getD j nilV) (LA.getD j []) := (h.rows j (by omega) hj7).move fun b hb => by
        have hs := h.small j hj7 b hb
        have hlW := h.lt
        exact hg.block b (by omega) (fun e => h.far j k hj7 hk (by omega) b hb e.symm)
      have m2 : Rw w1 (g + 1) (vs.getD j nilV) (LA.getD j []) := m1.move fun b hb => by
        have hs := h.small j hj7 b hb
        exact hg1.block b (by omega) (fun e => by
          have := h.ub b e.symm
          omega)
      exact m2.move fun b hb => by
        have hs := h.small j hj7 b hb
        exact Below.heap_setCell _ _ _ _ (by show b ≠ go; omega)
    · refine Kd.R_move hR fun b hb => Below.heap_setCell _ _ _ _ ?_
      show b ≠ go
      rcases hb with hb | ⟨j, hj, hb⟩
      · omega
      · have := h.small j (by omega) b hb
        omega
    · rcases hat with hat | ⟨b1, hb1, hb2⟩
      · exact h.ub b (hat ▸ hb)
      · rw [hb1] at hb
        injection hb with hb
        omega
/-- A row's beginning is read too. -/
theorem C_front {α : Type} {d : Kd α} {w : World} {A : Option Addr} {xs ys zs : List α} (h : Kd.C d w A xs.length xs) (e : xs = ys ++ zs) : Kd.C d w A ys.length ys := by
  subst e
  obtain ⟨h1, h2, h3⟩ := h
  rw [List.length_append] at h2 h3
  refine ⟨rfl, by omega, fun hp => ?_⟩
  obtain ⟨ad, ha, hc⟩ := h3 (by omega)
  exact ⟨ad, ha, fun j p hj => hc j p (by
    have hl : j < ys.length := (List.getElem?_eq_some_iff.1 hj).1
    rw [List.getElem?_append_left hl]
    exact hj)⟩
theorem trim_front (L : List (List S44)) : ∃ zs, L = trimL L ++ zs := by
  unfold trimL
  refine ⟨(L.reverse.takeWhile (·.isEmpty)).reverse, ?_⟩
  rw [← List.reverse_append, List.takeWhile_append_dropWhile, List.reverse_reverse]
theorem trim_le (L : List (List S44)) : (trimL L).length ≤ L.length := by
  obtain ⟨zs, h⟩ := trim_front L
  have := congrArg List.length h
  rw [List.length_append] at this
  omega
theorem trim_mem {L : List (List S44)} {l : List S44} (h : l ∈ trimL L) : l ∈ L := by
  obtain ⟨zs, e⟩ := trim_front L
  rw [e]
  exact List.mem_append_left _ h
theorem trim_flat_le (L : List (List S44)) : (trimL L).flatten.length ≤ L.flatten.length := by
  obtain ⟨zs, e⟩ := trim_front L
  have := congrArg (fun l => l.flatten.length) e
  simp only [List.flatten_append, List.length_append] at this
  omega
/-- Levels that are put in order hold the same files. -/
theorem srt_flat : ∀ (LA OL : List (List S44)), OL.length = LA.length → (∀ i, i < LA.length → (OL.getD i []).Perm (LA.getD i [])) → OL.flatten.Perm LA.flatten
  | [], OL, h, _ => by
    have : OL = [] := List.length_eq_zero_iff.1 h
    subst this
    exact List.Perm.refl _
  | a :: r, [], h, _ => by simp at h
  | a :: r, o :: p, h, hh => by
    rw [List.flatten_cons, List.flatten_cons]
    refine List.Perm.append (by simpa using hh 0 (by simp)) (srt_flat r p (by simpa using h) fun i hi => ?_)
    simpa using hh (i + 1) (by simpa using hi)
theorem fl_at {LL : List (List S44)} {i : Nat} {t : S44} (h : t ∈ LL.getD i []) : t ∈ LL.flatten := by
  rw [List.getD_eq_getElem?_getD] at h
  cases e : LL[i]? with
  | none => rw [e] at h; cases h
  | some l =>
    rw [e] at h
    exact List.mem_flatten.2 ⟨l, List.mem_of_getElem? e, h⟩
theorem mem_set_flat {LL : List (List S44)} {n : Nat} {l : List S44} {t : S44} (h : t ∈ (LL.set n l).flatten) : t ∈ LL.flatten ∨ t ∈ l := by
  obtain ⟨x, hx, ht⟩ := List.mem_flatten.1 h
  rcases List.mem_or_eq_of_mem_set hx with hx | hx
  · exact Or.inl (List.mem_flatten.2 ⟨x, hx, ht⟩)
  · exact Or.inr (hx ▸ ht)
theorem gone_mem : ∀ (gone : List S73) (LL L1 : List (List S44)), goneL LL gone = some L1 → ∀ t ∈ L1.flatten, t ∈ LL.flatten
  | [], LL, L1, h => by
    rw [goneL] at h
    injection h with h
    subst h
    exact fun t ht => ht
  | g :: r, LL, L1, h => by
    rw [goneL] at h
    split at h
    · cases h
    · split at h
      · cases h
      · intro t ht
        rcases mem_set_flat (gone_mem r _ _ h t ht) with h1 | h1
        · exact h1
        · exact fl_at (List.mem_of_mem_eraseIdx h1)
theorem add_mem : ∀ (added : List S71) (LL L1 : List (List S44)), addL LL added = some L1 → ∀ t ∈ L1.flatten, t ∈ LL.flatten ∨ ∃ a ∈ added, t = a.f1
  | [], LL, L1, h => by
    rw [addL] at h
    injection h with h
    subst h
    exact fun t ht => Or.inl ht
  | a :: r, LL, L1, h => by
    rw [addL] at h
    split at h
    · cases h
    · intro t ht
      rcases add_mem r _ _ h t ht with h1 | ⟨b, hb, e⟩
      · rcases mem_set_flat h1 with h2 | h2
        · exact Or.inl h2
        · rcases List.mem_append.1 h2 with h2 | h2
          · exact Or.inl (fl_at h2)
          · exact Or.inr ⟨a, List.mem_cons_self, List.mem_singleton.1 h2⟩
      · exact Or.inr ⟨b, List.mem_cons_of_mem _ hb, e⟩
theorem pad_flat (L : List (List S44)) : (pad7 L).flatten = L.flatten := by
  unfold pad7
  simp
theorem index7 (vs : List Value) (v0 v1 v2 v3 v4 v5 v6 : Value) (hv : vs = [v0, v1, v2, v3, v4, v5, v6]) (k : Nat) (hk : k < 7) (W : World) : (Instr.index 74 (.agg #[v0, v1, v2, v3, v4, v5, v6]) (.int .i64 (k : Int))).run Try.prog W = .ok (vs.getD k nilV) W := by
  subst hv
  have i0 : ∀ W : World, (Instr.index 74 (.agg #[v0, v1, v2, v3, v4, v5, v6]) (.int .i64 0)).run Try.prog W = .ok v0 W := fun _ => by kernel_rfl
  have i1 : ∀ W : World, (Instr.index 74 (.agg #[v0, v1, v2, v3, v4, v5, v6]) (.int .i64 1)).run Try.prog W = .ok v1 W := fun _ => by kernel_rfl
  have i2 : ∀ W : World, (Instr.index 74 (.agg #[v0, v1, v2, v3, v4, v5, v6]) (.int .i64 2)).run Try.prog W = .ok v2 W := fun _ => by kernel_rfl
  have i3 : ∀ W : World, (Instr.index 74 (.agg #[v0, v1, v2, v3, v4, v5, v6]) (.int .i64 3)).run Try.prog W = .ok v3 W := fun _ => by kernel_rfl
  have i4 : ∀ W : World, (Instr.index 74 (.agg #[v0, v1, v2, v3, v4, v5, v6]) (.int .i64 4)).run Try.prog W = .ok v4 W := fun _ => by kernel_rfl
  have i5 : ∀ W : World, (Instr.index 74 (.agg #[v0, v1, v2, v3, v4, v5, v6]) (.int .i64 5)).run Try.prog W = .ok v5 W := fun _ => by kernel_rfl
  have i6 : ∀ W : World, (Instr.index 74 (.agg #[v0, v1, v2, v3, v4, v5, v6]) (.int .i64 6)).run Try.prog W = .ok v6 W := fun _ => by kernel_rfl
  have h : k = 0 ∨ k = 1 ∨ k = 2 ∨ k = 3 ∨ k = 4 ∨ k = 5 ∨ k = 6 := by omega
  rcases h with rfl | rfl | rfl | rfl | rfl | rfl | rfl
  · exact i0 W
  · exact i1 W
  · exact i2 W
  · exact i3 W
  · exact i4 W
  · exact i5 W
  · exact i6 W
theorem LO.fin {log2 next2 seq2 : Int} {g go : Nat} {vs : List Value} {LA : List (List S44)} {u : Value} {OL : List (List S44)} {W : World} (h : LO log2 next2 seq2 g go vs LA 7 u OL W) {A : Option Addr} {n c : Nat} (hu : u = .slice A n c) (x : Value) :
    Kd.C (Kd.slice 44 k44) (W.setCell ⟨go, 0, none⟩ x) A (trimL OL).length (trimL OL) ∧ ∀ w5, Below (W.setCell ⟨go, 0, none⟩ x).heap.size (W.setCell ⟨go, 0, none⟩ x) w5 → ∀ r a2 b2 c2 d2, r ≤ g → Kd.C (Kd.slice 44 k44) ((((w5.setCell ⟨r, 0, none⟩ a2).setCell ⟨r, 1, none⟩ b2).setCell ⟨r, 2, none⟩ c2).setCell ⟨r, 3, none⟩ d2) A (trimL OL).length (trimL OL) := by
  obtain ⟨zs, hz⟩ := trim_front OL
  have hB := Kd.R_bound h.out
  have hok : ∀ b, (go < b ∨ ∃ j, j < 7 ∧ (vs.getD j nilV).ownBlock = some b) ∧ g + 1 ≤ b ∧ b < W.heap.size ∧ (∃ q, q ∈ 41 :: (Kd.slice 44 k44).E ∧ ∃ cells, W.heap[b]? = some (.cells cells q (0, 0))) → b ≠ go ∧ g + 1 ≤ b ∧ b < W.heap.size := fun b ⟨h1, h2, h3, _⟩ => by
    refine ⟨?_, h2, h3⟩
    rcases h1 with h1 | ⟨j, hj, hb⟩
    · omega
    · have := h.small j hj b hb
      omega
  have h1 : Kd.R (Kd.slice 44 k44) 41 (W.setCell ⟨go, 0, none⟩ x) (g + 1) _ u OL := Kd.R_move hB fun b hb => Below.heap_setCell _ _ _ _ (show b ≠ go from (hok b hb).1)
  refine ⟨C_front (Kd.R_reads' (hu ▸ h1)).2.2 hz, fun w5 h5 r a2 b2 c2 d2 hr => ?_⟩
  have h2 : Kd.R (Kd.slice 44 k44) 41 w5 (g + 1) _ u OL := Kd.R_move h1 fun b hb => h5.block b (by have := (hok b hb).2.2; simpa using this)
  have h3 : Kd.R (Kd.slice 44 k44) 41 ((((w5.setCell ⟨r, 0, none⟩ a2).setCell ⟨r, 1, none⟩ b2).setCell ⟨r, 2, none⟩ c2).setCell ⟨r, 3, none⟩ d2) (g + 1) _ u OL := Kd.R_move h2 fun b hb => by
    have hne : b ≠ r := by
      have := (hok b hb).2.1
      omega
    exact (Below.heap_setCell _ _ _ _ (show b ≠ r from hne)).trans ((Below.heap_setCell _ _ _ _ (show b ≠ r from hne)).trans ((Below.heap_setCell _ _ _ _ (show b ≠ r from hne)).trans (Below.heap_setCell _ _ _ _ (show b ≠ r from hne))))
  exact C_front (Kd.R_reads' (hu ▸ h3)).2.2 hz
theorem list7 (vs : List Value) (h : vs.length = 7) : ∃ v0 v1 v2 v3 v4 v5 v6, vs = [v0, v1, v2, v3, v4, v5, v6] := by
  match vs, h with
  | [v0, v1, v2, v3, v4, v5, v6], _ => exact ⟨v0, v1, v2, v3, v4, v5, v6, rfl⟩
theorem out_check {LA OL : List (List S44)} {log2 next2 seq2 : Int} (hS : Srt LA OL) (hn : LA.length = 7) (hfl : LA.flatten.length < 1000000000) (hfl2 : ∀ l ∈ LA, l.length < 100000000) (hwf : ∀ t ∈ LA.flatten, (Lit.int .i64 t.f0).wf = true)
    (hb2 : (-9223372036854775808 ≤ log2 ∧ log2 ≤ 9223372036854775807) ∧ (-9223372036854775808 ≤ next2 ∧ next2 ≤ 9223372036854775807) ∧ 0 ≤ seq2 ∧ seq2 ≤ 18446744073709551615)
    (A : Option Addr) (w : World) (hr : Kd.C (Kd.slice 44 k44) w A (trimL OL).length (trimL OL)) :
    Calls Try.prog 17 #[.agg #[.slice A (trimL OL).length (trimL OL).length, .int .i64 log2, .int .i64 next2, .int .u64 seq2]] w fun e w' => e = .returned (.int .i64 (c110 (chkB (trimL OL) log2 next2 seq2))) ∧ Below w.heap.size w w' := by
  have hp := srt_flat LA OL hS.1 fun i hi => (hS.2 i hi).1
  have h1 := trim_flat_le OL
  have h2 := hp.length_eq
  have h3 := trim_le OL
  have h4 := hS.1
  refine check_any (trimL OL) log2 next2 seq2 (by omega) (fun l hl => ?_) (by omega) (fun t ht => ?_) hb2.1 hb2.2.1 hb2.2.2 A _ w hr (Nat.le_refl _)
  · obtain ⟨i, hi, e⟩ := List.getElem_of_mem (trim_mem hl)
    have h5 := (hS.2 i (by omega)).1.length_eq
    have e2 : OL.getD i [] = l := by rw [List.getD_eq_getElem?_getD, List.getElem?_eq_getElem hi, e]; rfl
    rw [e2, List.getD_eq_getElem?_getD, List.getElem?_eq_getElem (by omega)] at h5
    rw [h5]
    exact hfl2 _ (List.getElem_mem _)
  · obtain ⟨l, hl, htl⟩ := List.mem_flatten.1 ht
    exact hwf t (hp.mem_iff.1 (List.mem_flatten.2 ⟨l, trim_mem hl, htl⟩))
end Go.Proofs.Ytbhfcjgejnnpcaa
