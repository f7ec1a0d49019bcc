/-
  Chapter 19: the law CookieSets, walked.
-/
import Derived.Test.YtgnibfideghklaaDoorKz
set_option linter.unusedVariables false
set_option linter.unusedSimpArgs false
namespace Go.Proofs.YtgnibfideghklaaDoor
open Go.RowKit Go.Proofs.YtgnibfideghklaaDoorW.PrintWords Go.Proofs.YtgnibfideghklaaDoorW.PrintMore Go.Proofs.YtgnibfideghklaaDoor.PCookieReads
/-- A cookie that is small enough. -/
structure Ck.Fit (c : Ck) : Prop where
  len : c.nm.length + c.vl.length + c.pa.length + c.si.length ≤ 1048576
  wf : (Lit.int .i64 c.age).wf = true
theorem Ck.Fit.ok {c : Ck} (h : c.Fit) : c.Ok := by
  have := h.len
  have hw := h.wf
  simp only [Lit.wf, IntKind.min, IntKind.max, IntKind.signed, IntKind.bits, Bool.and_eq_true, decide_eq_true_eq, if_true] at hw
  exact ⟨by omega, by omega, by omega, by omega, by omega, by omega⟩
theorem fit_len {c : Ck} (h : c.Fit) : (setL c).length < 4294967281 := by
  have h1 := h.len
  have i0 := Lib.itoa_length_le c.age (by have := h.ok.lo; omega) (by have := h.ok.hi; omega)
  have a0 : (ss0 c).length = c.nm.length + 1 + c.vl.length := by simp [ss0]; omega
  have a1 : (ss1 c).length ≤ (ss0 c).length + 2 + (pathW ++ c.pa).length := addS_len _ _ _
  have a2 : (ss2 c).length ≤ (ss1 c).length + 2 + (ageW ++ Lib.itoa c.age).length := addS_len _ _ _
  have a3 : (ss3 c).length ≤ (ss2 c).length + 2 + httpW.length := addS_len _ _ _
  have a4 : (ss4 c).length ≤ (ss3 c).length + 2 + secW.length := addS_len _ _ _
  have a5 : (ss5 c).length ≤ (ss4 c).length + 2 + (siteW ++ c.si).length := addS_len _ _ _
  have l1 : (pathW ++ c.pa).length = 5 + c.pa.length := by simp [pathW]; omega
  have l2 : (ageW ++ Lib.itoa c.age).length = 8 + (Lib.itoa c.age).length := by simp [ageW]; omega
  have l3 : httpW.length = 8 := rfl
  have l4 : secW.length = 6 := rfl
  have l5 : (siteW ++ c.si).length = 9 + c.si.length := by simp [siteW]; omega
  rw [set_ss]
  omega
section
attribute [local go_sem high] eqA37
set_option maxHeartbeats 2000000 in
set_option maxRecDepth 100000 in
theorem sets_walk (W : World) (hm : MaxL W) (ht : Tab W) (c : Ck) (hf : c.Fit) :
    Calls Tryd.prog 6 #[c.V] W fun e w' => e = .returned (.bool true) ∧ Below W.heap.size W w' := by
  have hok := hf.ok
  have hS := Lib.hid (fun w (h : Below W.heap.size W w) => set_any c hok w (ht.below h))
  have hR := Lib.hid (fun w => rset_any c hok w)
  have hL := Lib.hid (fun w (h : Below W.heap.size W w) => lives_any w (hm.below h) (ht.below h))
  have hnew : ∀ w W2 : World, Below (w.alloc (.cells c.cells 37)).heap.size (w.alloc (.cells c.cells 37)) W2 → CB W2 w.heap.size c ∧ Below w.heap.size w W2 := fun w W2 hb => ⟨CB.later (W := w.alloc (.cells c.cells 37)) (heap_alloc_new w _) hb, (below_alloc (Below.refl _ _) _).trans (hb.mono (by simp))⟩
  cases hmay : mayC c with
  | false =>
    have e : setR c = ([], 190) := by unfold setR; rw [if_neg (by rw [hmay]; decide)]
    rw [e] at hS hR
    replace hnew := Lib.hid hnew
    have hbb := Lib.hid (below_alloc (Below.refl W.heap.size W) (.cells c.cells 37))
    clear e hmay hok hf
    unfold Ck.V at hS hR ⊢
    unfold Ck.cells at hnew hbb
    go_enter Tryd.func6, Tryd.ntmps6
    go_wp2_with (first  | (go_at_call 16; go_must (refine (hS.out _ hbb.out).mono ?_; rintro e w1 ⟨rfl, hb1⟩; obtain ⟨hc, hb⟩ := hnew.out W _ hb1; obtain ⟨⟨k0, k1, k2, k3, k4, k5, k6, k7⟩, _⟩ := CB.facts hc; replace hc := Lib.hid hc; replace hb := Lib.hid hb; clear hb1))  | (go_at_call 17; go_must (refine (hR.out _).mono ?_; rintro e w2 ⟨rfl, hb2⟩; replace hb := Lib.hid (hb.out.trans (hb2.mono hb.out.size)); clear hb2))  | (go_at_call 10; go_must (refine (hL.out _ hb.out).mono ?_; rintro e w3 ⟨rfl, hb3⟩; replace hb := Lib.hid (hb.out.trans (hb3.mono hb.out.size)); clear hb3)))
    all_goals go_ret
    all_goals exact ⟨rfl, hb.out⟩
  | true =>
    have e : setR c = (setL c, 0) := by unfold setR; rw [if_pos hmay]
    have hl := fit_len hf
    have hP := Lib.hid (fun w (h : Below W.heap.size W w) => pset_any (setL c) hl w (hm.below h) (ht.below h))
    rw [(read_yes e).1] at hP
    rw [e] at hS hR
    have e0 : ((B (setL c)).toList == (B (setL c)).toList) = true := by simp
    replace hnew := Lib.hid hnew
    have hbb := Lib.hid (below_alloc (Below.refl W.heap.size W) (.cells c.cells 37))
    clear e hmay hok hl hf
    generalize setL c = l at *
    unfold Ck.V at hS hR hP ⊢
    unfold Ck.cells at hnew hbb
    go_enter Tryd.func6, Tryd.ntmps6
    go_wp2_with (first  | (go_at_call 16; go_must (refine (hS.out _ hbb.out).mono ?_; rintro e w1 ⟨rfl, hb1⟩; obtain ⟨hc, hb⟩ := hnew.out W _ hb1; obtain ⟨⟨k0, k1, k2, k3, k4, k5, k6, k7⟩, _⟩ := CB.facts hc; replace hc := Lib.hid hc; replace hb := Lib.hid hb; clear hb1))  | (go_at_call 17; go_must (refine (hR.out _).mono ?_; rintro e w2 ⟨rfl, hb2⟩; replace hc := Lib.hid (CB.later hc.out hb2); replace hb := Lib.hid (hb.out.trans (hb2.mono hb.out.size)); clear hb2))  | (go_at_call 10; go_must (refine (hL.out _ hb.out).mono ?_; rintro e w3 ⟨rfl, hb3⟩; replace hc := Lib.hid (CB.later hc.out hb3); replace hb := Lib.hid (hb.out.trans (hb3.mono hb.out.size)); clear hb3))  | (go_at_call 18; go_must (refine (hP.out _ hb.out).mono ?_; rintro e w4 ⟨rfl, hb4⟩; replace hc := Lib.hid (CB.later hc.out hb4); have hc2 := fun o => CB.facts (CB.later hc.out (below_alloc (Below.refl _ _) o)); have m0 := fun o => (hc2 o).1.1; have m1 := fun o => (hc2 o).1.2.1; have m2 := fun o => (hc2 o).1.2.2.1; have m3 := fun o => (hc2 o).1.2.2.2.1; have m4 := fun o => (hc2 o).1.2.2.2.2.1; have m5 := fun o => (hc2 o).1.2.2.2.2.2.1; have m6 := fun o => (hc2 o).1.2.2.2.2.2.2.1; have m7 := fun o => (hc2 o).1.2.2.2.2.2.2.2; clear hc2; replace hb := Lib.hid (hb.out.trans (hb4.mono hb.out.size)); clear hb4)))
    all_goals go_ret
    all_goals exact ⟨rfl, hb.out.alloc hb.out.size _⟩
end
end Go.Proofs.YtgnibfideghklaaDoor
