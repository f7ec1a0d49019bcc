/-
  Chapter 19: whether a Set-Cookie may be: walked.
-/
import Derived.Test.YtgnibfideghklaaDoorKi
import Derived.Deep.DeepCutAuto
set_option linter.unusedVariables false
set_option linter.unusedSimpArgs false
namespace Go.Proofs.YtgnibfideghklaaDoor
open Go.RowKit Go.Proofs.YtgnibfideghklaaDoorW.PrintWords Go.Proofs.YtgnibfideghklaaDoor.PCookieReads
/-- A Set-Cookie. -/
structure Ck where
  nm : List UInt8
  vl : List UInt8
  pa : List UInt8
  age : Int
  ha : Bool
  ho : Bool
  se : Bool
  si : List UInt8
def Ck.V (c : Ck) : Value := .agg #[.string (B c.nm), .string (B c.vl), .string (B c.pa), .int .i64 c.age, .bool c.ha, .bool c.ho, .bool c.se, .string (B c.si)]
def Ck.cells (c : Ck) : Array Value := #[.string (B c.nm), .string (B c.vl), .string (B c.pa), .int .i64 c.age, .bool c.ha, .bool c.ho, .bool c.se, .string (B c.si)]
def strictL : List UInt8 := [83, 116, 114, 105, 99, 116]
def laxL : List UInt8 := [76, 97, 120]
def noneL : List UInt8 := [78, 111, 110, 101]
def siteB (l : List UInt8) : Bool := l.isEmpty || l == strictL || l == laxL || l == noneL
def ageB (a : Int) (ha : Bool) : Bool := decide (0 ≤ a) && decide (a ≤ 2147483647) && (ha || a == 0)
def mayC (c : Ck) : Bool := tokL c.nm && octL c.vl && pathL c.pa && ageB c.age c.ha && siteB c.si
set_option maxHeartbeats 1000000 in
set_option maxRecDepth 100000 in
theorem ckright_any (c : Ck) (h1 : c.nm.length < 4611686018427387904) (h2 : c.vl.length < 4611686018427387904) (h3 : c.pa.length < 4611686018427387904) (w : World) :
    Calls Tryd.prog 30 #[c.V] w fun e w' => e = .returned (.bool (mayC c)) ∧ Below w.heap.size w w' := by
  have hT := fun W => token_any c.nm h1 W
  have hO := fun W => octets_any c.vl h2 W
  have hP := fun W => path_any c.pa h3 W
  unfold mayC siteB
  have e0 : (B c.si).toList.isEmpty = c.si.isEmpty := by rw [B_toList]
  have e1 : ((B c.si).toList == [83, 116, 114, 105, 99, 116]) = (c.si == strictL) := by rw [B_toList]; rfl
  have e2 : ((B c.si).toList == [76, 97, 120]) = (c.si == laxL) := by rw [B_toList]; rfl
  have e3 : ((B c.si).toList == [78, 111, 110, 101]) = (c.si == noneL) := by rw [B_toList]; rfl
  unfold Ck.V
  obtain ⟨nm, vl, pa, age, ha, ho, se, si⟩ := c
  simp only at *
  generalize si.isEmpty = b0 at *
  generalize (si == strictL) = b1 at *
  generalize (si == laxL) = b2 at *
  generalize (si == noneL) = b3 at *
  generalize tokL nm = t1 at *
  generalize octL vl = t2 at *
  generalize pathL pa = t3 at *
  replace hT := Lib.hid hT
  replace hO := Lib.hid hO
  replace hP := Lib.hid hP
  have hb0 := Lib.hid (below_alloc (Below.refl w.heap.size w) (.cells #[.string (B nm), .string (B vl), .string (B pa), .int .i64 age, .bool ha, .bool ho, .bool se, .string (B si)] 37))
  have hblk := heap_alloc_new w (.cells #[.string (B nm), .string (B vl), .string (B pa), .int .i64 age, .bool ha, .bool ho, .bool se, .string (B si)] 37)
  replace hblk := Lib.hid hblk
  have hk : ∀ W2, Below (w.alloc (.cells #[.string (B nm), .string (B vl), .string (B pa), .int .i64 age, .bool ha, .bool ho, .bool se, .string (B si)] 37)).heap.size (w.alloc (.cells #[.string (B nm), .string (B vl), .string (B pa), .int .i64 age, .bool ha, .bool ho, .bool se, .string (B si)] 37)) W2 → W2.cell? ⟨w.heap.size, 1, none⟩ = some (.string (B vl)) ∧ W2.cell? ⟨w.heap.size, 2, none⟩ = some (.string (B pa)) := fun W2 hb => by
    have h := (hb.block _ (Array.getElem?_eq_some_iff.1 hblk.out).1).trans hblk.out
    exact ⟨(blk_cell h 1).trans rfl, (blk_cell h 2).trans rfl⟩
  replace hk := Lib.hid hk
  clear hblk
  obtain ⟨sb, hsb⟩ : ∃ sb, (b0 || b1 || b2 || b3) = sb := ⟨_, rfl⟩
  obtain ⟨ab, hab⟩ : ∃ ab, ageB age ha = ab := ⟨_, rfl⟩
  rw [hsb, hab]
  replace hsb := Lib.hid hsb
  replace hab := Lib.hid hab
  obtain ⟨W1, hW1⟩ : ∃ W1, W1 = w.alloc (.cells #[.string (B nm), .string (B vl), .string (B pa), .int .i64 age, .bool ha, .bool ho, .bool se, .string (B si)] 37) := ⟨_, rfl⟩
  replace hW1 := Lib.hid hW1
  go_enter Tryd.func30, Tryd.ntmps30
  go_upto_region 1 with (fail)
  go_cut [3] (fun v V => v = .bool sb ∧ V = W1)
  case first =>
    go_wp2
    all_goals go_meet
    all_goals (refine ⟨?_, hW1.out.symm⟩; have := hsb.out; subst this; simp_all)
  case rest =>
    obtain ⟨rfl, hwc⟩ := hcut
    rw [hW1.out] at hwc
    subst hwc
    go_upto_region 2 with (fail)
    go_cut [4] (fun v V => v = .bool ab ∧ V = W1)
    case first =>
      cases ha
      all_goals go_wp2
      all_goals go_meet
      all_goals (refine ⟨?_, hW1.out.symm⟩; have := hab.out; subst this; clear e0 e1 e2 e3; simp_all [ageB]; try (intros; omega))
    case rest =>
      obtain ⟨rfl, hwc⟩ := hcut
      rw [hW1.out] at hwc
      subst hwc
      clear e0 e1 e2 e3
      cases t1 with
      | false =>
        go_wp2_with (first | (go_at_call 39; go_must (refine (hT.out _).mono ?_; rintro e w3 ⟨rfl, hb3⟩; replace hb := Lib.hid (hb0.out.trans (hb3.mono hb0.out.size)); clear hb3)))
        go_ret
        exact ⟨rfl, hb.out⟩
      | true =>
        cases t2 with
        | false =>
          go_wp2_with (first  | (go_at_call 39; go_must (refine (hT.out _).mono ?_; rintro e w3 ⟨rfl, hb3⟩; obtain ⟨k1, k2⟩ := hk.out _ hb3; replace hb := Lib.hid (hb0.out.trans (hb3.mono hb0.out.size)); clear hb3))  | (go_at_call 40; go_must (refine (hO.out _).mono ?_; rintro e w4 ⟨rfl, hb4⟩; replace hb := Lib.hid (hb.out.trans (hb4.mono hb.out.size)); clear hb4)))
          go_ret
          exact ⟨rfl, hb.out⟩
        | true =>
          cases t3 with
          | false =>
            go_wp2_with (first  | (go_at_call 39; go_must (refine (hT.out _).mono ?_; rintro e w3 ⟨rfl, hb3⟩; obtain ⟨k1, k2⟩ := hk.out _ hb3; replace hb := Lib.hid (hb0.out.trans (hb3.mono hb0.out.size)); replace hb3 := Lib.hid hb3))  | (go_at_call 40; go_must (refine (hO.out _).mono ?_; rintro e w4 ⟨rfl, hb4⟩; obtain ⟨k3, k4⟩ := hk.out _ (hb3.out.trans (hb4.mono hb3.out.size)); replace hb := Lib.hid (hb.out.trans (hb4.mono hb.out.size)); clear hb4))  | (go_at_call 47; go_must (refine (hP.out _).mono ?_; rintro e w5 ⟨rfl, hb5⟩; replace hb := Lib.hid (hb.out.trans (hb5.mono hb.out.size)); clear hb5)))
            go_ret
            exact ⟨rfl, hb.out⟩
          | true =>
            cases ab
            all_goals
              go_wp2_with (first  | (go_at_call 39; go_must (refine (hT.out _).mono ?_; rintro e w3 ⟨rfl, hb3⟩; obtain ⟨k1, k2⟩ := hk.out _ hb3; replace hb := Lib.hid (hb0.out.trans (hb3.mono hb0.out.size)); replace hb3 := Lib.hid hb3))  | (go_at_call 40; go_must (refine (hO.out _).mono ?_; rintro e w4 ⟨rfl, hb4⟩; obtain ⟨k3, k4⟩ := hk.out _ (hb3.out.trans (hb4.mono hb3.out.size)); replace hb := Lib.hid (hb.out.trans (hb4.mono hb.out.size)); clear hb4))  | (go_at_call 47; go_must (refine (hP.out _).mono ?_; rintro e w5 ⟨rfl, hb5⟩; replace hb := Lib.hid (hb.out.trans (hb5.mono hb.out.size)); clear hb5)))
              go_ret
              exact ⟨rfl, hb.out⟩
end Go.Proofs.YtgnibfideghklaaDoor
