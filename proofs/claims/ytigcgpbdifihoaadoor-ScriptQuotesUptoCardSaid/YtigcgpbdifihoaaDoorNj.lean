/-
  Chapter 28: few, walked.
-/
import Derived.Test.YtigcgpbdifihoaaDoorNh
import Derived.Test.YtigcgpbdifihoaaDoorQ0
set_option linter.unusedVariables false
set_option linter.unusedSimpArgs false
namespace Go.Proofs.YtigcgpbdifihoaaDoor
open Go.RowKit Go.Proofs.YtigcgpbdifihoaaDoorW.PrintWords Go.Proofs.YtigcgpbdifihoaaDoor.PScriptRequests Go.Proofs.YtigcgpbdifihoaaDoorW.PrintLast Go.Proofs.YtigcgpbdifihoaaDoorW.PrintMore
attribute [local go_sem] max2_int min2_int max_two min_two max_three min_three max_four min_four
def muchB (t : Tm) : Bool := decide (256 < t.arr.length) || decide (64 < t.flts.length) || decide (65536 < t.picks.length) || decide (65536 < t.ticks.length) || decide (65536 < t.draws.length)
def fewB (c : Cfg) (ts : List Tm) : Bool := decide (c.tens.length ≤ 16) && decide (ts.length ≤ 8) && !ts.any muchB
set_option maxHeartbeats 1000000 in
set_option maxRecDepth 100000 in
theorem much_any (t : Tm) (ht : t.ok) {C : Nat} {w : World} {cs : List Value} (hr : Rtm C w t cs) :
    Calls Tryd.prog 36 #[.agg cs.toArray] w fun e w' => e = .returned (.bool (muchB t)) ∧ Below w.heap.size w w' := by
  obtain ⟨va, vp, vt, vd, vf, vk, rfl, ha, hp, htk, hd, hf, hk⟩ := hr
  obtain ⟨Aa, ca, rfl, _, _⟩ := ha
  obtain ⟨Ap, cp, rfl, _, _⟩ := hp
  obtain ⟨At, ct, rfl, _, _⟩ := htk
  obtain ⟨Ad, cd, rfl, _, _⟩ := hd
  obtain ⟨Af, cf, rfl, _, _⟩ := hf
  obtain ⟨n1, n2, n3, n4, n5, n6⟩ : t.arr.length < 10000000 ∧ t.picks.length < 10000000 ∧ t.ticks.length < 10000000 ∧ t.draws.length < 10000000 ∧ t.flts.length < 10000000 ∧ t.keep.length < 10000000 := ⟨ht.la, ht.lp, ht.lt, ht.ld, ht.lf, ht.lk⟩
  have hb := below_alloc (Below.refl w.heap.size w) (.cells #[.slice Aa t.arr.length ca, .slice Ap t.picks.length cp, .slice At t.ticks.length ct, .slice Ad t.draws.length cd, .slice Af t.flts.length cf, .int .i64 t.steps, .int .i64 t.stop, .int .i64 t.dir, vk] 56)
  replace hb := Lib.hid hb
  by_cases h1 : 256 < t.arr.length
  · go_enter Tryd.func36, Tryd.ntmps36
    go_wp2
    go_ret
    exact ⟨by simp [muchB, h1], hb.out⟩
  by_cases h2 : 64 < t.flts.length
  · go_enter Tryd.func36, Tryd.ntmps36
    go_wp2
    go_ret
    exact ⟨by simp [muchB, h1, h2], hb.out⟩
  have g1 : ¬ (256 < (t.arr.length : Int)) := by omega
  have g2 : ¬ (64 < (t.flts.length : Int)) := by omega
  go_enter Tryd.func36, Tryd.ntmps36
  go_wp2
  all_goals (go_ret; refine ⟨?_, hb.out⟩)
  all_goals refine congrArg (fun x => Ending.returned (Value.bool x)) ?_
  all_goals rw [Bool.eq_iff_iff]
  all_goals simp only [muchB, Bool.or_eq_true, decide_eq_true_eq]
  all_goals (first | omega | (split at * <;> omega))
/-- Terms that read. -/
def TRow (C : Nat) (w : World) (A : Option Addr) (ts : List Tm) : Prop := 0 < ts.length → ∃ ad, A = some ad ∧ ∀ j t, ts[j]? = some t → ∃ cs, Rtm C w t cs ∧ ∀ W, Below C w W → ∀ i u, cs[i]? = some u → W.cell? (ad.add (j * 9 + i)) = some u
def TSl (C : Nat) (w : World) (v : Value) (ts : List Tm) : Prop := ∃ A c, v = .slice A ts.length c ∧ ts.length ≤ c ∧ TRow C w A ts
theorem TRow.next {C : Nat} {w w' : World} {A : Option Addr} {ts : List Tm} (h : TRow C w A ts) (hb : Below C w w') : TRow C w' A ts := fun h0 => by
  obtain ⟨ad, e, hc⟩ := h h0
  refine ⟨ad, e, fun j t ht => ?_⟩
  obtain ⟨cs, hr, hcc⟩ := hc j t ht
  exact ⟨cs, hr.next hb, fun W hW => hcc W (hb.trans hW)⟩
theorem TSl.next {C : Nat} {w w' : World} {v : Value} {ts : List Tm} (h : TSl C w v ts) (hb : Below C w w') : TSl C w' v ts := by
  obtain ⟨A, c, h0, hc, h⟩ := h
  exact ⟨A, c, h0, hc, h.next hb⟩
/-- A term of a row of terms. -/
theorem TRow.nine {C : Nat} {w : World} {A : Option Addr} {ts : List Tm} (h : TRow C w A ts) {P S : List Tm} {t : Tm} (hl : ts = P ++ t :: S) :
    ∃ ad va vp vt vd vf vk, A = some ad ∧ Rtm C w t [va, vp, vt, vd, vf, .int .i64 t.steps, .int .i64 t.stop, .int .i64 t.dir, vk] ∧ ∀ W, Below C w W →
      W.cell? (ad.add (P.length * 9)) = some va ∧ W.cell? ⟨(ad.add (P.length * 9)).block, (ad.add (P.length * 9)).off + 1, none⟩ = some vp ∧ W.cell? ⟨(ad.add (P.length * 9)).block, (ad.add (P.length * 9)).off + 2, none⟩ = some vt ∧
      W.cell? ⟨(ad.add (P.length * 9)).block, (ad.add (P.length * 9)).off + 3, none⟩ = some vd ∧ W.cell? ⟨(ad.add (P.length * 9)).block, (ad.add (P.length * 9)).off + 4, none⟩ = some vf ∧ W.cell? ⟨(ad.add (P.length * 9)).block, (ad.add (P.length * 9)).off + 5, none⟩ = some (.int .i64 t.steps) ∧
      W.cell? ⟨(ad.add (P.length * 9)).block, (ad.add (P.length * 9)).off + 6, none⟩ = some (.int .i64 t.stop) ∧ W.cell? ⟨(ad.add (P.length * 9)).block, (ad.add (P.length * 9)).off + 7, none⟩ = some (.int .i64 t.dir) ∧ W.cell? ⟨(ad.add (P.length * 9)).block, (ad.add (P.length * 9)).off + 8, none⟩ = some vk := by
  obtain ⟨ad, rfl, hc⟩ := h (by rw [hl]; simp; omega)
  obtain ⟨cs, hr, hcc⟩ := hc P.length t (by rw [hl]; simp)
  have hr0 := hr
  obtain ⟨va, vp, vt, vd, vf, vk, rfl, _⟩ := hr
  refine ⟨ad, va, vp, vt, vd, vf, vk, rfl, hr0, fun W hW => ?_⟩
  have hh := hcc W hW
  refine ⟨hh 0 _ rfl, ?_, ?_, ?_, ?_, ?_, ?_, ?_, ?_⟩
  · rw [← add_field _ _ 1 (by omega)]; exact hh 1 _ rfl
  · rw [← add_field _ _ 2 (by omega)]; exact hh 2 _ rfl
  · rw [← add_field _ _ 3 (by omega)]; exact hh 3 _ rfl
  · rw [← add_field _ _ 4 (by omega)]; exact hh 4 _ rfl
  · rw [← add_field _ _ 5 (by omega)]; exact hh 5 _ rfl
  · rw [← add_field _ _ 6 (by omega)]; exact hh 6 _ rfl
  · rw [← add_field _ _ 7 (by omega)]; exact hh 7 _ rfl
  · rw [← add_field _ _ 8 (by omega)]; exact hh 8 _ rfl
/-- Where the first too great term stands. -/
def muchAt : List Tm → Option Nat
  | [] => none
  | t :: r => if muchB t = true then some 0 else (muchAt r).map (· + 1)
theorem muchAt_pre : ∀ (P S : List Tm) (t : Tm), P.all (fun x => !muchB x) = true → muchB t = true → muchAt (P ++ t :: S) = some P.length
  | [], S, t, _, h => by simp [muchAt, h]
  | a :: r, S, t, hp, h => by
    rw [List.all_cons, Bool.and_eq_true] at hp
    have ha : ¬ muchB a = true := by have := hp.1; revert this; cases muchB a <;> simp
    rw [List.cons_append, muchAt, if_neg ha, muchAt_pre r S t hp.2 h]
    rfl
theorem muchAt_none : ∀ (P : List Tm), P.all (fun x => !muchB x) = true → muchAt P = none
  | [], _ => rfl
  | a :: r, hp => by
    rw [List.all_cons, Bool.and_eq_true] at hp
    have ha : ¬ muchB a = true := by have := hp.1; revert this; cases muchB a <;> simp
    rw [muchAt, if_neg ha, muchAt_none r hp.2]
    rfl
theorem muchAt_any : ∀ l : List Tm, (muchAt l).isSome = l.any muchB
  | [] => rfl
  | a :: r => by
    rw [muchAt, List.any_cons]
    split
    · rename_i h
      rw [h]
      rfl
    · rename_i h
      have : muchB a = false := by revert h; cases muchB a <;> simp
      rw [this, Bool.false_or, ← muchAt_any r]
      cases muchAt r <;> rfl
def muchI (l : List Tm) : Int := match muchAt l with
  | none => -1
  | some n => (n : Int)
theorem _root_.Go.RowKit.Below.mono' {a b : Nat} {w w' : World} (h : Below b w w') (hab : a ≤ b) : Below a w w' := h.mono hab
set_option maxHeartbeats 1000000 in
set_option maxRecDepth 100000 in
theorem index_any (ts : List Tm) (ht : ∀ t ∈ ts, t.ok) (hn : ts.length < 100000000) {C : Nat} {w : World} (hC : C ≤ w.heap.size) {v : Value} (hr : TSl C w v ts) :
    Calls Tryd.prog 52 #[v, .func (.func 36) #[] #[]] w fun e w' => e = .returned (.int .i64 (muchI ts)) ∧ Below w.heap.size w w' := by
  obtain ⟨A, c, rfl, hc, hr⟩ := hr
  have hI0 := Lib.hid (muchAt_none ts)
  have hI1 := Lib.hid (fun (P S : List Tm) (t : Tm) hl (hp : P.all (fun x => !muchB x) = true) hm => (by rw [muchI, (show ts = P ++ t :: S from hl), muchAt_pre P S t hp hm] : muchI ts = (P.length : Int)))
  replace hr := Lib.hid hr
  replace ht := Lib.hid ht
  go_enter Tryd.func52, Tryd.ntmps52
  go_wp2
  go_loopw [8] (fun i wr => ∃ P R, ts = P ++ R ∧ i = .int .i64 (P.length : Nat) ∧ P.all (fun x => !muchB x) = true ∧ Hid (Below w.heap.size w wr)) (fun i _ => ts.length - (intOf i).toNat)
  case atStart => exact ⟨[], ts, rfl, rfl, rfl, Lib.hid (Below.refl _ _)⟩
  case round =>
    obtain ⟨P, R, hl, rfl, hall, hb⟩ := hrel
    cases R with
    | nil =>
      rw [List.append_nil] at hl
      have hq : muchI ts = -1 := by rw [muchI, hI0.out (by rw [hl]; exact hall)]
      have hPn : ¬ P.length < ts.length := by rw [hl]; exact Nat.lt_irrefl _
      replace hl := Lib.hid hl
      replace hq := Lib.hid hq
      go_wp2
      go_ret
      exact ⟨by rw [hq.out]; rfl, hb.out⟩
    | cons t R =>
      obtain ⟨ad, va, vp, vt, vd, vf, vk, rfl, hr2, hc⟩ := hr.out.nine hl
      obtain ⟨q0, q1, q2, q3, q4, q5, q6, q7, q8⟩ := hc wr (hb.out.mono' hC)
      have htk := ht.out t (by rw [hl]; simp)
      have hM := Lib.hid (much_any t htk (hr2.next (hb.out.mono' hC)))
      have hPn : P.length < ts.length := by rw [hl]; simp
      have hl9 : ts = (P ++ [t]) ++ R := by rw [hl]; simp
      cases hm : muchB t with
      | true =>
        have hq := Lib.hid (hI1.out P R t hl hall hm)
        rw [hm] at hM
        replace hl := Lib.hid hl
        clear hm hl9
        go_wp2_with (first | (go_at_call 36; go_must (refine hM.out.mono ?_; rintro e w2 ⟨rfl, hb2⟩)))
        go_ret
        exact ⟨by rw [hq.out]; rfl, hb.out.trans (hb2.mono hb.out.size)⟩
      | false =>
        have hall2 : (P ++ [t]).all (fun x => !muchB x) = true := by rw [List.all_append, hall, List.all_cons, hm]; rfl
        rw [hm] at hM
        replace hl := Lib.hid hl9
        replace hall2 := Lib.hid hall2
        clear hm hl9
        go_wp2_with (first | (go_at_call 36; go_must (refine hM.out.mono ?_; rintro e w2 ⟨rfl, hb2⟩)))
        go_roundw
        case rel => exact ⟨P ++ [t], R, hl.out, by simp, hall2.out, Lib.hid (hb.out.trans (hb2.mono hb.out.size))⟩
        case measure => simp [intOf]; omega
set_option maxHeartbeats 1000000 in
set_option maxRecDepth 100000 in
theorem has_any (ts : List Tm) (ht : ∀ t ∈ ts, t.ok) (hn : ts.length < 100000000) {C : Nat} {w : World} (hC : C ≤ w.heap.size) {v : Value} (hr : TSl C w v ts) :
    Calls Tryd.prog 37 #[v, .func (.func 36) #[] #[]] w fun e w' => e = .returned (.bool (ts.any muchB)) ∧ Below w.heap.size w w' := by
  have hI := Lib.hid (index_any ts ht hn hC hr)
  have hq : decide (0 ≤ muchI ts) = ts.any muchB := by
    rw [← muchAt_any, muchI]
    cases muchAt ts with
    | none => rfl
    | some n => exact decide_eq_true (by show (0 : Int) ≤ (n : Int); omega)
  replace hq := Lib.hid hq
  clear hr
  go_enter Tryd.func37, Tryd.ntmps37
  go_wp2_with (first | (go_at_call 52; go_must (refine hI.out.mono ?_; rintro e w2 ⟨rfl, hb2⟩)))
  go_ret
  exact ⟨by rw [← hq.out]; rfl, hb2⟩
/-- A configuration that reads. -/
def CfV (C : Nat) (w : World) (c : Cfg) (v0 : Value) : Prop := SR Rten 3 C w v0 c.tens
set_option maxHeartbeats 1000000 in
set_option maxRecDepth 100000 in
theorem few_any (c : Cfg) (hc : c.ok) (ts : List Tm) (ht : ∀ t ∈ ts, t.ok) (hn : ts.length < 100000000) {C : Nat} {w : World} (hC : C ≤ w.heap.size) {v0 v : Value} (h0 : CfV C w c v0) (hr : TSl C w v ts) :
    Calls Tryd.prog 19 #[.agg #[v0, .int .i64 c.o0, .int .i64 c.o1, .int .i64 c.o2, .int .i64 c.o3, .int .i64 c.o4, .int .i64 c.o5, .int .i64 c.o6, .int .i64 c.cap], v] w fun e w' => e = .returned (.bool (fewB c ts)) ∧ Below w.heap.size w w' := by
  obtain ⟨A0, n0, rfl, hle, _⟩ := h0
  have hn0 := hc.lt
  have hb := below_alloc (Below.refl w.heap.size w) (.cells #[.slice A0 c.tens.length n0, .int .i64 c.o0, .int .i64 c.o1, .int .i64 c.o2, .int .i64 c.o3, .int .i64 c.o4, .int .i64 c.o5, .int .i64 c.o6, .int .i64 c.cap] 29)
  have hH := Lib.hid (has_any ts ht hn (Nat.le_trans hC hb.size) (hr.next (hb.mono hC)))
  obtain ⟨A, n, rfl, _⟩ := hr
  replace hb := Lib.hid hb
  by_cases h1 : c.tens.length ≤ 16
  · by_cases h2 : ts.length ≤ 8
    · have g1 : (c.tens.length : Int) ≤ 16 := by omega
      have g2 : (ts.length : Int) ≤ 8 := by omega
      have hq : fewB c ts = !ts.any muchB := by simp [fewB, h1, h2]
      replace hq := Lib.hid hq
      generalize ts.any muchB = q at *
      go_enter Tryd.func19, Tryd.ntmps19
      go_wp2_with (first | (go_at_call 37; go_must (refine hH.out.mono ?_; rintro e w2 ⟨rfl, hb2⟩)))
      go_ret
      exact ⟨by rw [hq.out]; rfl, hb.out.trans (hb2.mono hb.out.size)⟩
    · have g1 : (c.tens.length : Int) ≤ 16 := by omega
      have g2 : ¬ (ts.length : Int) ≤ 8 := by omega
      have hq : fewB c ts = false := by simp [fewB, h2]
      go_enter Tryd.func19, Tryd.ntmps19
      go_wp2
      go_ret
      exact ⟨rfl, hb.out⟩
  · have g1 : ¬ (c.tens.length : Int) ≤ 16 := by omega
    have hq : fewB c ts = false := by simp [fewB, h1]
    go_enter Tryd.func19, Tryd.ntmps19
    go_wp2
    go_ret
    exact ⟨rfl, hb.out⟩
end Go.Proofs.YtigcgpbdifihoaaDoor
