/-
  Chapter 19: the laws CookieReads and CookieSets, walked.
-/
import Derived.Test.YtgnibfideghklaaDoorKy
set_option linter.unusedVariables false
set_option linter.unusedSimpArgs false
namespace Go.Proofs.YtgnibfideghklaaDoor
open Go.RowKit Go.Proofs.YtgnibfideghklaaDoorW.PrintWords Go.Proofs.YtgnibfideghklaaDoorW.PrintMore Go.Proofs.YtgnibfideghklaaDoor.PCookieReads
theorem eqA37 (d : Nat) (w : World) (x0 y0 x1 y1 x2 y2 : ByteArray) (x3 y3 : Int) (x4 y4 x5 y5 x6 y6 : Bool) (x7 y7 : ByteArray) :
    (Op.equalIn (d + 2) 37 (.agg #[.string x0, .string x1, .string x2, .int .i64 x3, .bool x4, .bool x5, .bool x6, .string x7]) (.agg #[.string y0, .string y1, .string y2, .int .i64 y3, .bool y4, .bool y5, .bool y6, .string y7])).run Tryd.prog w = .ok (x0.toList == y0.toList && (x1.toList == y1.toList && (x2.toList == y2.toList && (x3 == y3 && (x4 == y4 && (x5 == y5 && (x6 == y6 && (x7.toList == y7.toList)))))))) w := by
  refine eqA_of Tryd.underlying37 (by kernel_rfl) ?_
  refine eqf_cons (by rfl) (by go_simp; rfl) (by go_simp; rfl) (by go_simp) ?_
  refine eqf_cons (by rfl) (by go_simp; rfl) (by go_simp; rfl) (by go_simp) ?_
  refine eqf_cons (by rfl) (by go_simp; rfl) (by go_simp; rfl) (by go_simp) ?_
  refine eqf_cons (by rfl) (by go_simp; rfl) (by go_simp; rfl) (by go_simp) ?_
  refine eqf_cons (by rfl) (by go_simp; rfl) (by go_simp; rfl) (by go_simp) ?_
  refine eqf_cons (by rfl) (by go_simp; rfl) (by go_simp; rfl) (by go_simp) ?_
  refine eqf_cons (by rfl) (by go_simp; rfl) (by go_simp; rfl) (by go_simp) ?_
  exact eqf_last (by rfl) (by go_simp; rfl) (by go_simp; rfl) (by go_simp)
theorem addS_ge (s : List UInt8) (b : Bool) (x : List UInt8) : s.length ≤ (addS s b x).length ∧ (b = true → x.length ≤ (addS s b x).length) := by
  unfold addS
  split
  · simp; omega
  · rename_i h
    exact ⟨Nat.le_refl _, fun e => absurd e h⟩
theorem may_Ok {c : Ck} {l : List UInt8} (h : setR c = (l, 0)) (hl : l.length < 4294967281) : c.Ok := by
  obtain ⟨hm, hs⟩ := setR_iff.1 h
  rw [set_ss] at hs
  obtain ⟨a0, a1⟩ := may_age hm
  have l0 : (ss0 c).length = c.nm.length + 1 + c.vl.length := by simp [ss0]; omega
  have l1 : _ := addS_ge (ss0 c) (!c.pa.isEmpty) (pathW ++ c.pa)
  have l2 : _ := addS_ge (ss1 c) c.ha (ageW ++ Lib.itoa c.age)
  have l3 : _ := addS_ge (ss2 c) c.ho httpW
  have l4 : _ := addS_ge (ss3 c) c.se secW
  have l5 : _ := addS_ge (ss4 c) (!c.si.isEmpty) (siteW ++ c.si)
  have e1 : (ss1 c).length = (addS (ss0 c) (!c.pa.isEmpty) (pathW ++ c.pa)).length := rfl
  have e2 : (ss2 c).length = (addS (ss1 c) c.ha (ageW ++ Lib.itoa c.age)).length := rfl
  have e3 : (ss3 c).length = (addS (ss2 c) c.ho httpW).length := rfl
  have e4 : (ss4 c).length = (addS (ss3 c) c.se secW).length := rfl
  have e5 : l.length = (addS (ss4 c) (!c.si.isEmpty) (siteW ++ c.si)).length := by rw [← hs]; rfl
  have p1 : c.pa.length ≤ (ss1 c).length := by
    cases hp : c.pa.isEmpty with
    | true => have : c.pa = [] := by simpa using hp
              rw [this]; simp
    | false => have := l1.2 (by rw [hp]; rfl); rw [List.length_append] at this; omega
  have p5 : c.si.length ≤ l.length := by
    cases hp : c.si.isEmpty with
    | true => have : c.si = [] := by simpa using hp
              rw [this]; simp
    | false => have := l5.2 (by rw [hp]; rfl); rw [List.length_append] at this; omega
  exact ⟨by omega, by omega, by omega, by omega, by omega, by omega⟩
theorem CB.later {W W2 : World} {g : Nat} {c : Ck} (h : CB W g c) (hb : Below W.heap.size W W2) : CB W2 g c := (hb.block _ (Array.getElem?_eq_some_iff.1 h).1).trans h
section
attribute [local go_sem high] eqA37
set_option maxHeartbeats 2000000 in
set_option maxRecDepth 100000 in
theorem reads_walk (W : World) (hm : MaxL W) (ht : Tab W) (s : ByteArray) (hs : s.size ≤ 1048576) :
    Calls Tryd.prog 7 #[.string s] W fun e w' => e = .returned (.bool true) ∧ Below W.heap.size W w' := by
  obtain ⟨l, rfl⟩ : ∃ l, s = B l := ⟨_, (of_data s).symm⟩
  rw [B_size] at hs
  have hP := Lib.hid (fun w (h : Below W.heap.size W w) => pset_any l (by omega) w (hm.below h) (ht.below h))
  have hR := Lib.hid (fun w => rpset_any l (by omega) w)
  rw [← read_same l] at hR
  have hL := Lib.hid (fun w (h : Below W.heap.size W w) => lives_any w (hm.below h) (ht.below h))
  have e0 : ((B l).toList == (B l).toList) = true := by simp
  by_cases hd : ∃ d, setR d = (l, 0)
  · obtain ⟨d, hd⟩ := hd
    have hok := may_Ok hd (by omega)
    have hS := Lib.hid (fun w (h : Below W.heap.size W w) => set_any d hok w (ht.below h))
    rw [hd] at hS
    rw [(read_yes hd).1] at hP hR
    have hnew : ∀ w W2 : World, Below (w.alloc (.cells d.cells 37)).heap.size (w.alloc (.cells d.cells 37)) W2 → CB W2 w.heap.size d := fun w W2 hb => CB.later (W := w.alloc (.cells d.cells 37)) (heap_alloc_new w _) hb
    replace hnew := Lib.hid hnew
    clear hd hok hs
    unfold Ck.V at hP hR hS
    unfold Ck.cells at hnew
    go_enter Tryd.func7, Tryd.ntmps7
    go_wp2_with (first  | (go_at_call 18; go_must (refine (hP.out _ (Below.refl _ _)).mono ?_; rintro e w1 ⟨rfl, hb⟩; replace hb := Lib.hid hb))  | (go_at_call 19; go_must (refine (hR.out _).mono ?_; rintro e w2 ⟨rfl, hb2⟩; have hc1 := Lib.hid (hnew.out w1 _ hb2); replace hb := Lib.hid ((hb.out.alloc hb.out.size _).trans (hb2.mono (hb.out.alloc hb.out.size _).size)); clear hb2))  | (go_at_call 10; go_must (refine (hL.out _ (hb.out.alloc hb.out.size _)).mono ?_; rintro e w3 ⟨rfl, hb3⟩; obtain ⟨⟨k0, k1, k2, k3, k4, k5, k6, k7⟩, _⟩ := CB.facts ((CB.later hc1.out (below_alloc (Below.refl _ _) _)).later hb3); obtain ⟨⟨j0, j1, j2, j3, j4, j5, j6, j7⟩, _⟩ := CB.facts (hnew.out w2 _ hb3); replace hb := Lib.hid ((hb.out.alloc hb.out.size _).trans (hb3.mono (hb.out.alloc hb.out.size _).size)); clear hb3))  | (go_at_call 16; go_must (refine (hS.out _ hb.out).mono ?_; rintro e w4 ⟨rfl, hb4⟩; replace hb := Lib.hid (hb.out.trans (hb4.mono hb.out.size)); clear hb4)))
    all_goals go_ret
    all_goals exact ⟨rfl, hb.out⟩
  · rw [(read_no hd).1] at hP hR
    have hnew : ∀ w W2 : World, Below (w.alloc (.cells zeroC.cells 37)).heap.size (w.alloc (.cells zeroC.cells 37)) W2 → CB W2 w.heap.size zeroC := fun w W2 hb => CB.later (W := w.alloc (.cells zeroC.cells 37)) (heap_alloc_new w _) hb
    replace hnew := Lib.hid hnew
    clear hd hs
    unfold Ck.V at hP hR
    unfold Ck.cells at hnew
    go_enter Tryd.func7, Tryd.ntmps7
    go_wp2_with (first  | (go_at_call 18; go_must (refine (hP.out _ (Below.refl _ _)).mono ?_; rintro e w1 ⟨rfl, hb⟩; replace hb := Lib.hid hb))  | (go_at_call 19; go_must (refine (hR.out _).mono ?_; rintro e w2 ⟨rfl, hb2⟩; have hc1 := Lib.hid (hnew.out w1 _ hb2); replace hb := Lib.hid ((hb.out.alloc hb.out.size _).trans (hb2.mono (hb.out.alloc hb.out.size _).size)); clear hb2))  | (go_at_call 10; go_must (refine (hL.out _ (hb.out.alloc hb.out.size _)).mono ?_; rintro e w3 ⟨rfl, hb3⟩; obtain ⟨⟨k0, k1, k2, k3, k4, k5, k6, k7⟩, _⟩ := CB.facts ((CB.later hc1.out (below_alloc (Below.refl _ _) _)).later hb3); obtain ⟨⟨j0, j1, j2, j3, j4, j5, j6, j7⟩, _⟩ := CB.facts (hnew.out w2 _ hb3); replace hb := Lib.hid ((hb.out.alloc hb.out.size _).trans (hb3.mono (hb.out.alloc hb.out.size _).size)); clear hb3)))
    all_goals go_ret
    all_goals exact ⟨rfl, hb.out⟩
end
end Go.Proofs.YtgnibfideghklaaDoor
