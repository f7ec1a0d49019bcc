/-
  Chapter 11: lives returns true.
-/
import Derived.Test.YtbhfcjgejnnpcaaMk
set_option linter.unusedVariables false
set_option linter.unusedSimpArgs false
namespace Go.Proofs.Ytbhfcjgejnnpcaa
open Go.RowKit Go.Proofs.YtbhfcjgejnnpcaaW.PrintWords Go.Proofs.Ytbhfcjgejnnpcaa.PManifest
def fA : S44 := ⟨2, 5, 1, ⟨#[97]⟩, ⟨#[102]⟩⟩
theorem lst7 {α : Type} (l : List α) (h : l.length = 7) : ∃ a b c d e f g, l = [a, b, c, d, e, f, g] := by
  match l, h with
  | [a, b, c, d, e, f, g], _ => exact ⟨a, b, c, d, e, f, g, rfl⟩
theorem app_live1 {o : Option (List (List S44))} (h : App [] 0 1 0 1 3 9 [⟨0, fA⟩] [] o) : o = some [[fA]] := by
  unfold App at h
  rw [if_neg (by decide +kernel)] at h
  have e1 : goneL (pad7 []) ([] : List S73) = some (pad7 []) := rfl
  have e2 : addL (pad7 []) [⟨0, fA⟩] = some [[fA], [], [], [], [], [], []] := by rfl
  rw [e1] at h
  simp only at h
  rw [e2] at h
  simp only at h
  obtain ⟨OL, ⟨hl, hS⟩, rfl⟩ := h
  obtain ⟨a, b, c, d, e, f, g, rfl⟩ := lst7 OL hl
  have h0 := (hS 0 (by decide)).1
  have h1 := (hS 1 (by decide)).1
  have h2 := (hS 2 (by decide)).1
  have h3 := (hS 3 (by decide)).1
  have h4 := (hS 4 (by decide)).1
  have h5 := (hS 5 (by decide)).1
  have h6 := (hS 6 (by decide)).1
  obtain rfl := List.perm_singleton.1 h0
  obtain rfl := List.perm_nil.1 h1
  obtain rfl := List.perm_nil.1 h2
  obtain rfl := List.perm_nil.1 h3
  obtain rfl := List.perm_nil.1 h4
  obtain rfl := List.perm_nil.1 h5
  obtain rfl := List.perm_nil.1 h6
  have e3 : trimL [[fA], [], [], [], [], [], []] = [[fA]] := rfl
  rw [e3, if_pos (by decide +kernel)]
theorem app_live2 {o : Option (List (List S44))} (h : App [[fA]] 1 3 9 1 3 9 [] [⟨0, 2⟩, ⟨0, 2⟩] o) : o = none := by
  unfold App at h
  rw [if_neg (by decide +kernel)] at h
  have e1 : goneL (pad7 [[fA]]) [⟨0, 2⟩, ⟨0, 2⟩] = none := by rfl
  rw [e1] at h
  exact h
theorem C_one {w : World} {ad : Addr} {α : Type} {d : Kd α} {x : α} {c : List Value} (hl : c.length = d.sz) (hk : d.K w x c) (hc : ∀ i u, c[i]? = some u → w.cell? (ad.add i) = some u) : Kd.C d w (some ad) 1 [x] :=
  ⟨rfl, by omega, fun _ => ⟨ad, rfl, fun j p hj => by
    match j, hj with
    | 0, hj =>
      obtain rfl : x = p := by simpa using hj
      exact ⟨c, hl, hk, fun i u hi => by rw [Nat.zero_mul, Nat.zero_add]; exact hc i u hi⟩
    | j + 1, hj => simp at hj⟩⟩
theorem addg (g i : Nat) : (⟨g, 0, none⟩ : Addr).add i = ⟨g, i, none⟩ := by cases i <;> simp [Addr.add]
theorem C_two {w : World} {g : Nat} {α : Type} {d : Kd α} {x y : α} {c1 c2 : List Value} (h1 : c1.length = d.sz) (h2 : c2.length = d.sz) (k1 : d.K w x c1) (k2 : d.K w y c2) (hc : ∀ i u, (c1 ++ c2)[i]? = some u → w.cell? ⟨g, i, none⟩ = some u) : Kd.C d w (some ⟨g, 0, none⟩) 2 [x, y] :=
  ⟨rfl, by omega, fun _ => ⟨⟨g, 0, none⟩, rfl, fun j p hj => by
    match j, hj with
    | 0, hj =>
      obtain rfl : x = p := by simpa using hj
      exact ⟨c1, h1, k1, fun i u hi => by
        rw [Nat.zero_mul, Nat.zero_add, addg]
        exact hc i u (by rw [List.getElem?_append_left (List.getElem?_eq_some_iff.1 hi).1]; exact hi)⟩
    | 1, hj =>
      obtain rfl : y = p := by simpa using hj
      exact ⟨c2, h2, k2, fun i u hi => by
        rw [Nat.one_mul, addg, ← h1]
        exact hc _ u (by rw [List.getElem?_append_right (by omega), Nat.add_sub_cancel_left]; exact hi)⟩
    | j + 2, hj => simp at hj⟩⟩
theorem st0 : StOk [] 0 1 0 := ⟨by decide, (fun _ h => by cases h), by decide, (fun _ h => by cases h), by omega, by omega, by omega⟩
theorem st1 : StOk [[fA]] 1 3 9 := by
  refine ⟨by decide, fun l h => ?_, by decide, fun t h => ?_, by omega, by omega, by omega⟩
  · rw [List.mem_singleton.1 h]
    decide
  · have : t = fA := by simpa using h
    rw [this]
    decide
theorem stN : StOk [] 0 0 0 := ⟨by decide, (fun _ h => by cases h), by decide, (fun _ h => by cases h), by omega, by omega, by omega⟩
set_option maxHeartbeats 2000000 in
set_option maxRecDepth 100000 in
theorem lives_any (w : World) : Calls Try.prog 11 #[] w fun e w' => e = .returned (.bool true) ∧ Below w.heap.size w w' := by
  have hb0 := below_alloc (Below.refl w.heap.size w) (.cells #[.int .i64 0, .int .i64 2, .int .i64 5, .int .i64 1, .string ⟨#[97]⟩, .string ⟨#[102]⟩] 71)
  have hx := heap_alloc_new w (.cells #[.int .i64 0, .int .i64 2, .int .i64 5, .int .i64 1, .string ⟨#[97]⟩, .string ⟨#[102]⟩] 71)
  have hC0 : Kd.C k71 (w.alloc (.cells #[.int .i64 0, .int .i64 2, .int .i64 5, .int .i64 1, .string ⟨#[97]⟩, .string ⟨#[102]⟩] 71)) (some ⟨w.heap.size, 0, none⟩) 1 [⟨0, fA⟩] := C_one rfl (k71_mk _ _) fun i u hi => by
    rw [show (⟨w.heap.size, 0, none⟩ : Addr).add i = ⟨w.heap.size, i, none⟩ by cases i <;> simp [Addr.add], blk_cell hx]
    unfold fA at hi
    simpa using hi
  replace hb0 := Lib.hid hb0
  have h1 := Lib.hid (fun W hW => apply_any [] 0 1 0 1 3 9 [⟨0, fA⟩] [] st0 none (some ⟨w.heap.size, 0, none⟩) none 0 1 0 W (Kd.C_nil _ _) (Nat.le_refl _) (Kd.C_nil _ _) hW (by decide) (by decide) (fun a ha => by rw [List.mem_singleton.1 ha]; decide) (by omega) (by omega) (by omega))
  replace hC0 := Lib.hid hC0
  clear hx
  go_enter Try.func11, Try.ntmps11
  go_wp2_with (fail)
  refine (h1.out _ hC0.out).mono ?_
  rintro e w1 ⟨o, hApp, hb1, ho⟩
  obtain rfl := app_live1 hApp
  obtain ⟨A, rfl, hC1⟩ := ho
  clear hApp h1
  have hbA := Lib.hid (hb0.out.trans (hb1.mono hb0.out.size))
  have hb2 := below_alloc (Below.refl w1.heap.size w1) (.cells #[.slice A 1 1, .int .i64 1, .int .i64 3, .int .u64 9] 27)
  have hC2 := Kd.C_below hC1 hb2
  obtain ⟨ad, A2, c2, rfl, e2, _, _⟩ := at_L3 hC2 0 (by omega) (by decide)
  have hx2 := heap_alloc_new w1 (.cells #[.slice (some ad) 1 1, .int .i64 1, .int .i64 3, .int .u64 9] 27)
  have e3 := e2
  rw [show (0 : Int).toNat = 0 from rfl, show ad.add 0 = ad by simp [Addr.add], show (rd_L3 [[fA]] 0).length = 1 from rfl] at e3
  have z0 := (blk_cell hx2 0).trans rfl
  have z1 := (blk_cell hx2 1).trans rfl
  have z2 := (blk_cell hx2 2).trans rfl
  have z3 := (blk_cell hx2 3).trans rfl
  have hb3 := below_alloc hb2 (.cells #[.int .i64 0, .int .i64 2, .int .i64 0, .int .i64 2] 73)
  have hx3 := blk_alloc hx2 (.cells #[.int .i64 0, .int .i64 2, .int .i64 0, .int .i64 2] 73)
  have hy := heap_alloc_new (w1.alloc (.cells #[.slice (some ad) 1 1, .int .i64 1, .int .i64 3, .int .u64 9] 27)) (.cells #[.int .i64 0, .int .i64 2, .int .i64 0, .int .i64 2] 73)
  have hC3 := Kd.C_below hC1 hb3
  have hCg := C_two (d := k73) (x := ⟨0, 2⟩) (y := ⟨0, 2⟩) rfl rfl (k73_mk _ _) (k73_mk _ _) (fun i u hi => by
    rw [blk_cell hy]
    simpa using hi)
  have h2 := Lib.hid (apply_any [[fA]] 1 3 9 1 3 9 [] [⟨0, 2⟩, ⟨0, 2⟩] st1 (some ad) none (some ⟨w1.heap.size + 1, 0, none⟩) 1 0 2 _ hC3 (Nat.le_refl _) (by simpa using hCg) (Kd.C_nil _ _) (by decide) (by decide) (fun a ha => by cases ha) (by omega) (by omega) (by omega))
  replace hC1 := Lib.hid hC1
  replace hb3 := Lib.hid hb3
  replace hx3 := Lib.hid hx3
  clear hb2 hC2 hx2 hy hC3 hCg hb1
  go_wp2_with (fail)
  refine h2.out.mono ?_
  rintro e w3 ⟨o, hApp, hb4, ho⟩
  obtain rfl := app_live2 hApp
  obtain rfl := ho
  clear hApp h2 z0 z1 z2 z3 e2 e3
  have hb5 := below_alloc (Below.refl w3.heap.size w3) (.cells #[.slice none 0 0, .int .i64 0, .int .i64 0, .int .u64 0] 27)
  have hx5 := (hb5.block _ (by have := hb4.size; have := (Array.getElem?_eq_some_iff.1 hx3.out).1; omega)).trans ((hb4.block _ (Array.getElem?_eq_some_iff.1 hx3.out).1).trans hx3.out)
  have z0 := (blk_cell hx5 0).trans rfl
  have z1 := (blk_cell hx5 1).trans rfl
  have z2 := (blk_cell hx5 2).trans rfl
  have z3 := (blk_cell hx5 3).trans rfl
  have hbB := Lib.hid ((hb3.out.trans (hb4.mono hb3.out.size)).trans (hb5.mono (Nat.le_trans hb3.out.size hb4.size)))
  have hk := Lib.hid (stcheck_any st1 (some ad) 1 _ (Kd.C_below hC1.out hbB.out) (Nat.le_refl _))
  have hkn := Lib.hid (fun W => stcheck_any stN none 0 W (Kd.C_nil _ _) (Nat.le_refl _))
  have c1 : c110 (chkB [[fA]] 1 3 9) = 0 := by decide +kernel
  have c2 : c110 (chkB [] 0 0 0) = 110 := by decide +kernel
  replace c1 := Lib.hid c1
  replace c2 := Lib.hid c2
  clear hx5 hb5 hb4 hb3 hx3
  go_wp2_with (fail)
  refine hk.out.mono ?_
  rintro e w6 ⟨rfl, hb6⟩
  rw [c1.out]
  clear hk z0 z1 z2 z3
  go_wp2_with (fail)
  refine (hkn.out _).mono ?_
  rintro e w7 ⟨rfl, hb7⟩
  rw [c2.out]
  clear hkn
  go_wp2
  go_ret
  exact ⟨rfl, hbA.out.trans ((hbB.out.trans ((hb6.trans (hb7.mono hb6.size)).mono hbB.out.size)).mono hbA.out.size)⟩
end Go.Proofs.Ytbhfcjgejnnpcaa
