/-
  Chapter 19: the program's ParseSet, walked.
-/
import Derived.Test.YtgnibfideghklaaDoorKu
set_option linter.unusedVariables false
set_option linter.unusedSimpArgs false
namespace Go.Proofs.YtgnibfideghklaaDoor
open Go.RowKit Go.Proofs.YtgnibfideghklaaDoorW.PrintWords Go.Proofs.YtgnibfideghklaaDoor.PCookieReads
def zcells : Array Value := #[.string ⟨#[]⟩, .string ⟨#[]⟩, .string ⟨#[]⟩, .int .i64 0, .bool false, .bool false, .bool false, .string ⟨#[]⟩]
theorem results_ct {P : Program} {fn : Func} {tmps : Array Value} {w : World} {p u : Tmp} {tp : TypeId} {a : Addr} {va : Value} (h : fn.results = #[.cell p tp, .tmp u]) (hp : tmps.getD p undef = .pointer (some a))
    (ha : (loadVar tp a).run P w = .ok va w) : (results fn tmps).run P w = .ok (.tuple #[va, tmps.getD u undef]) w := by
  have hp' : tmps[p]?.getD undef = .pointer (some a) := by simpa using hp
  simp [results, h, hp', asAddr, ha]
/-- A cookie's block. -/
def CB (W : World) (g : Nat) (c : Ck) : Prop := W.heap[g]? = some (.cells c.cells 37 (0, 0))
theorem CB.facts {W : World} {g : Nat} {c : Ck} (h : CB W g c) : (W.cell? ⟨g, 0, none⟩ = some (.string (B c.nm)) ∧ W.cell? ⟨g, 1, none⟩ = some (.string (B c.vl)) ∧ W.cell? ⟨g, 2, none⟩ = some (.string (B c.pa)) ∧ W.cell? ⟨g, 3, none⟩ = some (.int .i64 c.age) ∧ W.cell? ⟨g, 4, none⟩ = some (.bool c.ha) ∧ W.cell? ⟨g, 5, none⟩ = some (.bool c.ho) ∧ W.cell? ⟨g, 6, none⟩ = some (.bool c.se) ∧ W.cell? ⟨g, 7, none⟩ = some (.string (B c.si))) ∧
    (∀ i, W.frozen? ⟨g, i, none⟩ = false) :=
  ⟨⟨(blk_cell h 0).trans rfl, (blk_cell h 1).trans rfl, (blk_cell h 2).trans rfl, (blk_cell h 3).trans rfl, (blk_cell h 4).trans rfl, (blk_cell h 5).trans rfl, (blk_cell h 6).trans rfl, (blk_cell h 7).trans rfl⟩, fun i => blk_frozen h i⟩
theorem load_ck {W : World} {g : Nat} {c : Ck} (h : CB W g c) : (loadVar 37 ⟨g, 0, none⟩).run Tryd.prog W = .ok c.V W := by
  obtain ⟨nm, vl, pa, age, ha, ho, se, si⟩ := c
  exact run_loadVar_row W g 37 37 #[.string (B nm), .string (B vl), .string (B pa), .int .i64 age, .bool ha, .bool ho, .bool se, .string (B si)] (0, 0) _ h Tryd.underlying37 rfl (by kernel_rfl)
def put8 (W : World) (p : Nat) (c : Ck) : World := (((((((W.setCell ⟨p, 0, none⟩ (.string (B c.nm))).setCell ⟨p, 1, none⟩ (.string (B c.vl))).setCell ⟨p, 2, none⟩ (.string (B c.pa))).setCell ⟨p, 3, none⟩ (.int .i64 c.age)).setCell ⟨p, 4, none⟩ (.bool c.ha)).setCell ⟨p, 5, none⟩ (.bool c.ho)).setCell ⟨p, 6, none⟩ (.bool c.se)).setCell ⟨p, 7, none⟩ (.string (B c.si))
theorem CB.put_all {W : World} {p : Nat} {z : Ck} (h : CB W p z) (c : Ck) : CB (put8 W p c) p c := by
  obtain ⟨nm, vl, pa, age, ha, ho, se, si⟩ := c
  unfold CB put8
  unfold CB Ck.cells at h
  have h0 := blk_set h 0 (.string (B nm))
  simp only [List.setIfInBounds_toArray, List.set_cons_zero, List.set_cons_succ] at h0
  have h1 := blk_set h0 1 (.string (B vl))
  simp only [List.setIfInBounds_toArray, List.set_cons_zero, List.set_cons_succ] at h1
  have h2 := blk_set h1 2 (.string (B pa))
  simp only [List.setIfInBounds_toArray, List.set_cons_zero, List.set_cons_succ] at h2
  have h3 := blk_set h2 3 (.int .i64 age)
  simp only [List.setIfInBounds_toArray, List.set_cons_zero, List.set_cons_succ] at h3
  have h4 := blk_set h3 4 (.bool ha)
  simp only [List.setIfInBounds_toArray, List.set_cons_zero, List.set_cons_succ] at h4
  have h5 := blk_set h4 5 (.bool ho)
  simp only [List.setIfInBounds_toArray, List.set_cons_zero, List.set_cons_succ] at h5
  have h6 := blk_set h5 6 (.bool se)
  simp only [List.setIfInBounds_toArray, List.set_cons_zero, List.set_cons_succ] at h6
  have h7 := blk_set h6 7 (.string (B si))
  simp only [List.setIfInBounds_toArray, List.set_cons_zero, List.set_cons_succ] at h7
  exact h7
theorem put8_below {w W : World} {B0 p : Nat} (h : Below B0 w W) (hB : B0 ≤ p) (c : Ck) : Below B0 w (put8 W p c) :=
  (((((((h.setCell (p := ⟨p, 0, none⟩) hB _).setCell (p := ⟨p, 1, none⟩) hB _).setCell (p := ⟨p, 2, none⟩) hB _).setCell (p := ⟨p, 3, none⟩) hB _).setCell (p := ⟨p, 4, none⟩) hB _).setCell (p := ⟨p, 5, none⟩) hB _).setCell (p := ⟨p, 6, none⟩) hB _).setCell (p := ⟨p, 7, none⟩) hB _
/-- What the loop of ParseSet holds: the result's block, the cookie's, the parts' row. -/
structure PZ (w W : World) (g : Nat) (c : Ck) (q cap : Nat) (L : List (List UInt8)) : Prop where
  res : CB W w.heap.size zeroC
  cur : CB W g c
  row : Kd.R Kd.string 9 W w.heap.size (fun _ => True) (.slice (some ⟨q, 0, none⟩) L.length cap) (L.map B)
  bel : Below w.heap.size w W
  ne : w.heap.size < g
theorem PZ.next {w W W2 : World} {g : Nat} {c : Ck} {q cap : Nat} {L : List (List UInt8)} (h : PZ w W g c q cap L) (hb : Below W.heap.size W W2) : PZ w W2 g c q cap L :=
  ⟨(hb.block _ (Array.getElem?_eq_some_iff.1 h.res).1).trans h.res, (hb.block _ (Array.getElem?_eq_some_iff.1 h.cur).1).trans h.cur, Kd.R_below h.row hb, h.bel.trans (hb.mono h.bel.size), h.ne⟩
theorem PZ.set {w W : World} {g : Nat} {c : Ck} {q cap : Nat} {L : List (List UInt8)} (h : PZ w W g c q cap L) (j : Nat) (u : Value) (c2 : Ck) (hc : c.cells.setIfInBounds j u = c2.cells) : PZ w (W.setCell ⟨g, j, none⟩ u) g c2 q cap L :=
  ⟨blk_far h.res (p := ⟨g, j, none⟩) (by have := h.ne; simp; omega) u, (blk_set h.cur j u).trans (by rw [hc]), Kd.R_set h.row h.cur (by intro e he; have : e = 9 := (by simpa [Kd.string, Kd.scalar] using he); subst this; decide) j u, h.bel.setCell (p := ⟨g, j, none⟩) (by have := h.ne; simp; omega) u, h.ne⟩
theorem PZ.at_ {w W : World} {g : Nat} {c : Ck} {q cap : Nat} {P R : List (List UInt8)} {p : List UInt8} (h : PZ w W g c q cap (P ++ p :: R)) : W.cell? ⟨q, P.length, none⟩ = some (.string (B p)) := by
  have hl : (P ++ p :: R).length = ((P ++ p :: R).map B).length := by rw [List.length_map]
  have hr := h.row
  rw [hl] at hr
  have := (Kd.R_cell ByteArray.empty hr (P.length : Int) (by omega) (by rw [List.length_map]; simp; omega)).1
  rw [Int.toNat_natCast, rdOf_mid] at this
  exact this
theorem PZ.start (w : World) (L : List (List UInt8)) (hL : L.length ≤ 4294967296) (c : Ck) (n : Nat) : PZ w ((((w.alloc (.cells zcells 37)).alloc (.cells (L.map fun l => Value.string (B l)).toArray 9)).alloc (.cells c.cells 37)).drewN n) (w.heap.size + 2) c (w.heap.size + 1) L.length L := by
  have hZ : CB (w.alloc (.cells zcells 37)) w.heap.size zeroC := heap_alloc_new w _
  have hb1 : Below w.heap.size w (w.alloc (.cells zcells 37)) := below_alloc (Below.refl _ _) _
  have h0 := own_lit_of (enc := Value.string) (w.alloc (.cells zcells 37)) w.heap.size 9 (L.map B) (by simp) (by rw [List.length_map]; omega)
  have h1 := Kd.R_of_own (h1 := fun _ => rfl) (ok := fun _ => True) h0 (fun _ _ => trivial)
  have e : encs Value.string (L.map B) = L.map fun l => Value.string (B l) := by unfold encs; rw [List.map_map]; rfl
  rw [e, List.length_map] at h1
  have hs : (w.alloc (.cells zcells 37)).heap.size = w.heap.size + 1 := by simp
  rw [hs] at h1
  have hb2 : Below w.heap.size w ((w.alloc (.cells zcells 37)).alloc (.cells (L.map fun l => Value.string (B l)).toArray 9)) := hb1.alloc hb1.size _
  have hb3 := fun (o : Obj) => below_alloc (Below.refl ((w.alloc (.cells zcells 37)).alloc (.cells (L.map fun l => Value.string (B l)).toArray 9)).heap.size _) o
  have hc := heap_alloc_new ((w.alloc (.cells zcells 37)).alloc (.cells (L.map fun l => Value.string (B l)).toArray 9)) (.cells c.cells 37)
  refine ⟨?_, ?_, ?_, ?_, by omega⟩
  · exact (heap_alloc_old _ _ (by simp; omega)).trans ((heap_alloc_old _ _ (by simp)).trans hZ)
  · have hs2 : ((w.alloc (.cells zcells 37)).alloc (.cells (L.map fun l => Value.string (B l)).toArray 9)).heap.size = w.heap.size + 2 := by simp
    rw [hs2] at hc
    exact hc
  · exact Kd.R_drewN (Kd.R_alloc h1 _) n
  · exact pw_below_drewN (hb2.alloc hb2.size _) n
/-- The function's end: a cookie in the result's block. -/
theorem PZ.fin {w W : World} {g : Nat} {c : Ck} {q cap : Nat} {L : List (List UInt8)} (h : PZ w W g c q cap L) (d : Ck) : CB (put8 W w.heap.size d) w.heap.size d ∧ Below w.heap.size w (put8 W w.heap.size d) :=
  ⟨CB.put_all h.res d, put8_below h.bel (Nat.le_refl _) d⟩
end Go.Proofs.YtgnibfideghklaaDoor
