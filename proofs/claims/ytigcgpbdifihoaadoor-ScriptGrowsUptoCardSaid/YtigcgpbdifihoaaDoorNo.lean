/-
  Chapter 28: the law ScriptGrows, walked.
-/
import Derived.Test.YtigcgpbdifihoaaDoorNl
import Derived.Deep.DeepCutAuto
set_option linter.unusedVariables false
set_option linter.unusedSimpArgs false
namespace Go.Proofs.YtigcgpbdifihoaaDoor
open Go.RowKit Go.Proofs.YtigcgpbdifihoaaDoorW.PrintWords Go.Proofs.YtigcgpbdifihoaaDoor.PScriptRequests
theorem SR.up {α : Type} {R : α → List Value → Prop} {sz C D : Nat} {w V : World} {v : Value} {xs : List α} (h : SR R sz C w v xs) (hb : Below C w V) (hD : C ≤ D) : SR R sz D V v xs := by
  obtain ⟨A, c, h0, hc, h⟩ := h
  exact ⟨A, c, h0, hc, fun X hX => h X (hb.trans (hX.mono hD))⟩
theorem Rtm.up {C D : Nat} {w V : World} {t : Tm} {cs : List Value} (h : Rtm C w t cs) (hb : Below C w V) (hD : C ≤ D) : Rtm D V t cs := by
  obtain ⟨va, vp, vt, vd, vf, vk, e, h0, h1, h2, h3, h4, h5⟩ := h
  exact ⟨va, vp, vt, vd, vf, vk, e, h0.up hb hD, h1.up hb hD, h2.up hb hD, h3.up hb hD, h4.up hb hD, h5.up hb hD⟩
theorem TRow.up {C D : Nat} {w V : World} {A : Option Addr} {ts : List Tm} (h : TRow C w A ts) (hb : Below C w V) (hD : C ≤ D) : TRow D V A ts := fun h0 => by
  obtain ⟨ad, e, hc⟩ := h h0
  refine ⟨ad, e, fun j t ht => ?_⟩
  obtain ⟨cs, hr, hcc⟩ := hc j t ht
  exact ⟨cs, hr.up hb hD, fun X hX => hcc X (hb.trans (hX.mono hD))⟩
theorem TRow.take {C : Nat} {w : World} {A : Option Addr} {ts : List Tm} (h : TRow C w A ts) (n : Nat) : TRow C w A (ts.take n) := fun h0 => by
  have h1 : 0 < ts.length := by
    rw [List.length_take] at h0
    omega
  obtain ⟨ad, e, hc⟩ := h h1
  refine ⟨ad, e, fun j t ht => hc j t ?_⟩
  rw [List.getElem?_take] at ht
  split at ht
  · exact ht
  · cases ht
theorem all_take (c : Cfg) (ts : List Tm) (n : Nat) : allLs c ts = allLs c (ts.take n) ++ (ts.drop n).flatMap termLs := by
  have h : ts.flatMap termLs = (ts.take n).flatMap termLs ++ (ts.drop n).flatMap termLs := by rw [← List.flatMap_append, List.take_append_drop]
  rw [allLs, allLs, h, List.append_assoc]
theorem few_take {c : Cfg} {ts : List Tm} (h : fewB c ts = true) (n : Nat) : fewB c (ts.take n) = true := by
  simp only [fewB, Bool.and_eq_true, decide_eq_true_eq, Bool.not_eq_true'] at h ⊢
  refine ⟨⟨h.1.1, ?_⟩, ?_⟩
  · rw [List.length_take]
    omega
  · have h2 := h.2
    rw [List.any_eq_false] at h2 ⊢
    exact fun x hx => h2 x (List.mem_of_mem_take hx)
theorem print_ok {c : Cfg} {ts : List Tm} (h : (printR c ts).2 = 0) : fewB c ts = true ∧ badL (allLs c ts) = false ∧ (txtL (allLs c ts)).length ≤ 1048576 ∧ printR c ts = (txtL (allLs c ts), 0) := by
  unfold printR at h ⊢
  by_cases h1 : fewB c ts = false
  · rw [if_pos h1] at h
    simp at h
  · rw [if_neg h1] at h ⊢
    by_cases h2 : badL (allLs c ts) = true
    · rw [if_pos h2] at h
      simp at h
    · rw [if_neg h2] at h ⊢
      by_cases h3 : 1048576 < (txtL (allLs c ts)).length
      · rw [if_pos h3] at h
        simp at h
      · rw [if_neg h3]
        exact ⟨by revert h1; cases fewB c ts <;> simp, by revert h2; cases badL (allLs c ts) <;> simp, by omega, rfl⟩
theorem print_bad {c : Cfg} {ts : List Tm} (h : (printR c ts).2 ≠ 0) : (printR c ts).1 = [] ∧ 0 < (printR c ts).2 := by
  unfold printR at h ⊢
  by_cases h1 : fewB c ts = false
  · rw [if_pos h1]
    exact ⟨rfl, by decide⟩
  · rw [if_neg h1] at h ⊢
    by_cases h2 : badL (allLs c ts) = true
    · rw [if_pos h2]
      exact ⟨rfl, by decide⟩
    · rw [if_neg h2] at h ⊢
      by_cases h3 : 1048576 < (txtL (allLs c ts)).length
      · rw [if_pos h3]
        exact ⟨rfl, by decide⟩
      · rw [if_neg h3] at h
        exact absurd rfl h
theorem print_take {c : Cfg} {ts : List Tm} (h : (printR c ts).2 = 0) (n : Nat) : ∃ r, printR c (ts.take n) = (txtL (allLs c (ts.take n)), 0) ∧ (printR c ts).1 = txtL (allLs c (ts.take n)) ++ r := by
  obtain ⟨h1, h2, h3, h4⟩ := print_ok h
  have e := all_take c ts n
  refine ⟨txtL ((ts.drop n).flatMap termLs), ?_, by rw [h4]; show txtL (allLs c ts) = _; rw [e, txt_app]⟩
  rw [e] at h2 h3
  rw [bad_app, Bool.or_eq_false_iff] at h2
  rw [txt_app, List.length_append] at h3
  rw [printR, if_neg (by rw [few_take h1 n]; decide), if_neg (by rw [h2.1]; decide), if_neg (by omega)]
/-- The number of terms that k asks for. -/
theorem rem_in (k : Int) (n : Nat) : -(n : Int) ≤ k.tmod ((n : Int) + 1) ∧ k.tmod ((n : Int) + 1) ≤ n := by
  have h0 : (0 : Int) < (n : Int) + 1 := by omega
  by_cases hk : 0 ≤ k
  · rw [Int.tmod_eq_emod_of_nonneg hk]
    have h1 := Int.emod_nonneg k (show (n : Int) + 1 ≠ 0 by omega)
    have h2 := Int.emod_lt_of_pos k h0
    omega
  · obtain ⟨m, rfl⟩ : ∃ m : Int, k = -m := ⟨-k, by omega⟩
    rw [Int.neg_tmod, Int.tmod_eq_emod_of_nonneg (by omega)]
    have h1 := Int.emod_nonneg m (show (n : Int) + 1 ≠ 0 by omega)
    have h2 := Int.emod_lt_of_pos m h0
    omega
def CfgV (A0 : Option Addr) (n0 : Nat) (c : Cfg) : Value := .agg #[.slice A0 c.tens.length n0, .int .i64 c.o0, .int .i64 c.o1, .int .i64 c.o2, .int .i64 c.o3, .int .i64 c.o4, .int .i64 c.o5, .int .i64 c.o6, .int .i64 c.cap]
set_option maxHeartbeats 1000000 in
set_option maxRecDepth 100000 in
theorem grows_walk (W : World) (ht : Tab W) (c : Cfg) (hc : c.ok) (ts : List Tm) (hts : ∀ t ∈ ts, t.ok) (hn : ts.length < 10000000) (hlen : (txtL (allLs c ts)).length ≤ 140737488355328) (A0 : Option Addr) (n0 : Nat) (h0 : CfV W.heap.size W c (.slice A0 c.tens.length n0))
    (A : Option Addr) (c1 : Nat) (hle : ts.length ≤ c1) (hcap : c1 ≤ maxLen) (hr : TRow W.heap.size W A ts) (k : Int) (hk : i64 k) :
    Calls Tryd.prog 4 #[.agg #[.slice A0 c.tens.length n0, .int .i64 c.o0, .int .i64 c.o1, .int .i64 c.o2, .int .i64 c.o3, .int .i64 c.o4, .int .i64 c.o5, .int .i64 c.o6, .int .i64 c.cap], .slice A ts.length c1, .int .i64 k] W fun e w' => e = .returned (.bool true) ∧ Below W.heap.size W w' := by
  have hb := below_alloc (Below.refl W.heap.size W) (.cells #[.slice A0 c.tens.length n0, .int .i64 c.o0, .int .i64 c.o1, .int .i64 c.o2, .int .i64 c.o3, .int .i64 c.o4, .int .i64 c.o5, .int .i64 c.o6, .int .i64 c.cap] 29)
  have hbox := heap_alloc_new W (.cells #[.slice A0 c.tens.length n0, .int .i64 c.o0, .int .i64 c.o1, .int .i64 c.o2, .int .i64 c.o3, .int .i64 c.o4, .int .i64 c.o5, .int .i64 c.o6, .int .i64 c.cap] 29)
  generalize hW1 : W.alloc (.cells #[.slice A0 c.tens.length n0, .int .i64 c.o0, .int .i64 c.o1, .int .i64 c.o2, .int .i64 c.o3, .int .i64 c.o4, .int .i64 c.o5, .int .i64 c.o6, .int .i64 c.cap] 29) = W1 at *
  have hCell : ∀ V, Below W1.heap.size W1 V → V.cell? ⟨W.heap.size, 0, none⟩ = some (.slice A0 c.tens.length n0) ∧ V.cell? ⟨W.heap.size, 1, none⟩ = some (.int .i64 c.o0) ∧ V.cell? ⟨W.heap.size, 2, none⟩ = some (.int .i64 c.o1) ∧ V.cell? ⟨W.heap.size, 3, none⟩ = some (.int .i64 c.o2) ∧ V.cell? ⟨W.heap.size, 4, none⟩ = some (.int .i64 c.o3) ∧ V.cell? ⟨W.heap.size, 5, none⟩ = some (.int .i64 c.o4) ∧ V.cell? ⟨W.heap.size, 6, none⟩ = some (.int .i64 c.o5) ∧ V.cell? ⟨W.heap.size, 7, none⟩ = some (.int .i64 c.o6) ∧ V.cell? ⟨W.heap.size, 8, none⟩ = some (.int .i64 c.cap) := fun V hV => by
    have hk := (hV.block _ (Array.getElem?_eq_some_iff.1 hbox).1).trans hbox
    exact ⟨by rw [Lib.cell_of_heap hk]; rfl, by rw [Lib.cell_of_heap hk]; rfl, by rw [Lib.cell_of_heap hk]; rfl, by rw [Lib.cell_of_heap hk]; rfl, by rw [Lib.cell_of_heap hk]; rfl, by rw [Lib.cell_of_heap hk]; rfl, by rw [Lib.cell_of_heap hk]; rfl, by rw [Lib.cell_of_heap hk]; rfl, by rw [Lib.cell_of_heap hk]; rfl⟩
  have hP : ∀ m, m ≤ ts.length → ∀ V, Below W1.heap.size W1 V → Calls Tryd.prog 9 #[.agg #[.slice A0 c.tens.length n0, .int .i64 c.o0, .int .i64 c.o1, .int .i64 c.o2, .int .i64 c.o3, .int .i64 c.o4, .int .i64 c.o5, .int .i64 c.o6, .int .i64 c.cap], .slice A m c1] V fun e w' => e = .returned (.tuple #[.string (B (printR c (ts.take m)).1), .int .i64 (printR c (ts.take m)).2]) ∧ Below V.heap.size V w' := fun m hm V hV => by
    have hWV : Below W.heap.size W V := hb.trans (hV.mono hb.size)
    have hl : (ts.take m).length = m := by rw [List.length_take]; omega
    have h9 := print_any c hc (ts.take m) (fun t h => hts t (List.mem_of_mem_take h)) (by omega) (Nat.le_trans (by rw [all_take c ts m]; exact txt_pre _ _) hlen) (C := V.heap.size) (w := V) (Nat.le_refl _) (ht.below hWV).tb (v0 := .slice A0 c.tens.length n0) (v := .slice A m c1) ?_ ?_
    · exact h9
    · exact SR.up h0 hWV hWV.size
    · exact ⟨A, c1, by rw [hl], by omega, (hr.take m).up hWV hWV.size⟩
  have hA := Lib.hid (fun V (hV : Below W1.heap.size W1 V) => awake_any V (ht.below (hb.trans (hV.mono hb.size))))
  have hP0 := hP ts.length (Nat.le_refl _)
  rw [List.take_length] at hP0
  replace hP0 := Lib.hid hP0
  replace hP := Lib.hid hP
  replace hCell := Lib.hid hCell
  replace hb := Lib.hid hb
  clear hbox
  cases Int.decEq (printR c ts).2 0 with
  | isFalse he =>
    obtain ⟨h1, h2⟩ := print_bad he
    rw [h1] at hP0
    generalize (printR c ts).2 = q at *
    have g : (q != 0) = true := bne_iff_ne.2 he
    clear h1
    have hemp : (B []).toList.isEmpty = true := by rw [B_toList]; rfl
    subst hW1
    go_enter Tryd.func4, Tryd.ntmps4
    go_wp2_with (first | (go_at_call 8; go_must (refine (hA.out _ (Below.refl _ _)).mono ?_; rintro e w2 ⟨rfl, hb2⟩; obtain ⟨k0, k1, k2, k3, k4, k5, k6, k7, k8⟩ := hCell.out _ hb2; replace hb2 := Lib.hid hb2)) | (go_at_call 9; go_must (refine (hP0.out _ hb2.out).mono ?_; rintro e w3 ⟨rfl, hb3⟩; replace hb3 := Lib.hid (hb2.out.trans (hb3.mono hb2.out.size)); clear k0 k1 k2 k3 k4 k5 k6 k7 k8)))
    go_ret
    exact ⟨rfl, hb.out.trans (hb3.out.mono hb.out.size)⟩
  | isTrue he =>
    have hq := rem_in k ts.length
    have hfin : ∀ m : Nat, m ≤ ts.length → (k.tmod ((ts.length : Int) + 1) = (m : Int) ∨ (k.tmod ((ts.length : Int) + 1) < 0 ∧ k.tmod ((ts.length : Int) + 1) + ((ts.length : Int) + 1) = (m : Int))) → ∃ X Y, printR c ts = (Y, 0) ∧ printR c (ts.take m) = (X, 0) ∧ X.length ≤ Y.length ∧ Y.length ≤ 1048576 ∧ (B Y).extract 0 X.length = B X := fun m hm _ => by
      obtain ⟨r, h1, h2⟩ := print_take he m
      obtain ⟨_, _, h5, h6⟩ := print_ok he
      refine ⟨_, _, h6, h1, ?_, h5, ?_⟩
      · rw [h6] at h2
        show _ ≤ (txtL (allLs c ts)).length
        rw [show txtL (allLs c ts) = _ from h2, List.length_append]
        omega
      · rw [h6] at h2
        rw [show txtL (allLs c ts) = _ from h2, B_take, List.take_left]
    cases Int.decLt (k.tmod ((ts.length : Int) + 1)) 0 with
    | isTrue hneg =>
      obtain ⟨m, hm⟩ : ∃ m : Nat, k.tmod ((ts.length : Int) + 1) + ((ts.length : Int) + 1) = (m : Int) := ⟨(k.tmod ((ts.length : Int) + 1) + ((ts.length : Int) + 1)).toNat, by omega⟩
      have hml : m ≤ ts.length := by omega
      obtain ⟨X, Y, e1, e2, hXY, hY, hx⟩ := hfin m hml (Or.inr ⟨hneg, hm⟩)
      rw [e1] at hP0
      have hP2 := Lib.hid (hP.out m hml)
      rw [e2] at hP2
      have hxx : (((B Y).extract 0 (B X).size).toList == (B X).toList) = true := by rw [B_size, hx]; exact beq_self_eq_true _
      have hsx := B_size X
      have hsy := B_size Y
      clear hP hfin e1 e2 he
      obtain ⟨q, hqe⟩ : ∃ q, k.tmod ((ts.length : Int) + 1) = q := ⟨_, rfl⟩
      rw [hqe] at hneg hm hq
      obtain ⟨hq1, hq2⟩ := hq
      go_enter Tryd.func4, Tryd.ntmps4
      go_upto_region 9 with (first | (go_at_call 8; go_must (refine (hA.out _ (Below.refl _ _)).mono ?_; rintro e w2 ⟨rfl, hb2⟩; obtain ⟨k0, k1, k2, k3, k4, k5, k6, k7, k8⟩ := hCell.out _ hb2; replace hb2 := Lib.hid hb2)) | (go_at_call 9; go_must (refine (hP0.out _ hb2.out).mono ?_; rintro e w3 ⟨rfl, hb3⟩; replace hb3 := Lib.hid (hb2.out.trans (hb3.mono hb2.out.size)); clear k0 k1 k2 k3 k4 k5 k6 k7 k8; obtain ⟨k0, k1, k2, k3, k4, k5, k6, k7, k8⟩ := hCell.out _ hb3.out)))
      go_cut [8, 10] (fun v8 v10 V => v8 = .int .i64 0 ∧ v10 = .string (B X) ∧ Below W1.heap.size W1 V)
      case first =>
        subst hW1
        go_region_with (first | (go_at_call 9; go_must (refine (hP2.out _ (by first | exact hb3.out | exact hb3.out.drew)).mono ?_; rintro e w4 ⟨rfl, hb4⟩)))
        all_goals (go_wp2_with fail; go_meet; exact ⟨rfl, rfl, (Below.drew hb3.out).trans (hb4.mono hb3.out.size)⟩)
      case rest =>
      obtain ⟨rfl, rfl, hb4⟩ := hcut
      go_wp2
      go_ret
      exact ⟨rfl, hb.out.trans (hb4.mono hb.out.size)⟩
    | isFalse hneg =>
      obtain ⟨m, hm⟩ : ∃ m : Nat, k.tmod ((ts.length : Int) + 1) = (m : Int) := ⟨(k.tmod ((ts.length : Int) + 1)).toNat, by omega⟩
      have hml : m ≤ ts.length := by omega
      obtain ⟨X, Y, e1, e2, hXY, hY, hx⟩ := hfin m hml (Or.inl hm)
      rw [e1] at hP0
      have hP2 := Lib.hid (hP.out m hml)
      rw [e2] at hP2
      clear hneg hq
      have hxx : (((B Y).extract 0 (B X).size).toList == (B X).toList) = true := by rw [B_size, hx]; exact beq_self_eq_true _
      have hsx := B_size X
      have hsy := B_size Y
      clear hP hfin e1 e2 he
      go_enter Tryd.func4, Tryd.ntmps4
      go_upto_region 9 with (first | (go_at_call 8; go_must (refine (hA.out _ (Below.refl _ _)).mono ?_; rintro e w2 ⟨rfl, hb2⟩; obtain ⟨k0, k1, k2, k3, k4, k5, k6, k7, k8⟩ := hCell.out _ hb2; replace hb2 := Lib.hid hb2)) | (go_at_call 9; go_must (refine (hP0.out _ hb2.out).mono ?_; rintro e w3 ⟨rfl, hb3⟩; replace hb3 := Lib.hid (hb2.out.trans (hb3.mono hb2.out.size)); clear k0 k1 k2 k3 k4 k5 k6 k7 k8; obtain ⟨k0, k1, k2, k3, k4, k5, k6, k7, k8⟩ := hCell.out _ hb3.out)))
      go_cut [8, 10] (fun v8 v10 V => v8 = .int .i64 0 ∧ v10 = .string (B X) ∧ Below W1.heap.size W1 V)
      case first =>
        subst hW1
        go_region_with (first | (go_at_call 9; go_must (refine (hP2.out _ (by first | exact hb3.out | exact hb3.out.drew)).mono ?_; rintro e w4 ⟨rfl, hb4⟩)))
        all_goals (go_wp2_with fail; go_meet; exact ⟨rfl, rfl, (Below.drew hb3.out).trans (hb4.mono hb3.out.size)⟩)
      case rest =>
      obtain ⟨rfl, rfl, hb4⟩ := hcut
      go_wp2
      go_ret
      exact ⟨rfl, hb.out.trans (hb4.mono hb.out.size)⟩
end Go.Proofs.YtigcgpbdifihoaaDoor
