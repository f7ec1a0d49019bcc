/-
  Chapter 19: the reference's Set, walked.
-/
import Derived.Test.YtgnibfideghklaaDoorKk
set_option linter.unusedVariables false
set_option linter.unusedSimpArgs false
namespace Go.Proofs.YtgnibfideghklaaDoor
open Go.RowKit Go.Proofs.YtgnibfideghklaaDoorW.PrintWords Go.Proofs.YtgnibfideghklaaDoor.PCookieReads
/-- The cookie that came in, in its block. -/
structure SB (w : World) (c : Ck) (V : World) : Prop where
  blk : V.heap[w.heap.size]? = some (.cells c.cells 37 (0, 0))
  bel : Below w.heap.size w V
theorem SB.next {w V V2 : World} {c : Ck} (h : SB w c V) (hb : Below V.heap.size V V2) : SB w c V2 :=
  ⟨(hb.block _ (Array.getElem?_eq_some_iff.1 h.blk).1).trans h.blk, h.bel.trans (hb.mono h.bel.size)⟩
theorem SB.new (w : World) (c : Ck) : SB w c (w.alloc (.cells c.cells 37)) := ⟨heap_alloc_new w _, below_alloc (Below.refl w.heap.size w) _⟩
theorem SB.cells {w V : World} {c : Ck} (h : SB w c V) {q4 q5 q6 : Bool} (h4 : Hid (c.ha = q4)) (h5 : Hid (c.ho = q5)) (h6 : Hid (c.se = q6)) : V.cell? ⟨w.heap.size, 0, none⟩ = some (.string (B c.nm)) ∧ V.cell? ⟨w.heap.size, 1, none⟩ = some (.string (B c.vl)) ∧ V.cell? ⟨w.heap.size, 2, none⟩ = some (.string (B c.pa)) ∧ V.cell? ⟨w.heap.size, 3, none⟩ = some (.int .i64 c.age) ∧ V.cell? ⟨w.heap.size, 4, none⟩ = some (.bool q4) ∧ V.cell? ⟨w.heap.size, 5, none⟩ = some (.bool q5) ∧ V.cell? ⟨w.heap.size, 6, none⟩ = some (.bool q6) ∧ V.cell? ⟨w.heap.size, 7, none⟩ = some (.string (B c.si)) :=
  ⟨(blk_cell h.blk 0).trans rfl, (blk_cell h.blk 1).trans rfl, (blk_cell h.blk 2).trans rfl, (blk_cell h.blk 3).trans rfl, (blk_cell h.blk 4).trans (by rw [← h4.out]; rfl), (blk_cell h.blk 5).trans (by rw [← h5.out]; rfl), (blk_cell h.blk 6).trans (by rw [← h6.out]; rfl), (blk_cell h.blk 7).trans rfl⟩
/-- What is small enough. -/
structure Ck.Ok (c : Ck) : Prop where
  nm : c.nm.length < 4294967281
  vl : c.vl.length < 4294967281
  pa : c.pa.length < 4294967281
  si : c.si.length < 4294967281
  lo : -9223372036854775808 ≤ c.age
  hi : c.age ≤ 9223372036854775807
def setR (c : Ck) : List UInt8 × Int := if mayC c = true then (setL c, 0) else ([], 190)
theorem may_age {c : Ck} (h : mayC c = true) : 0 ≤ c.age ∧ c.age ≤ 2147483647 := by
  simp only [mayC, ageB, Bool.and_eq_true, decide_eq_true_eq] at h
  exact h.1.2.1
theorem addS_len (s : List UInt8) (b : Bool) (x : List UInt8) : (addS s b x).length ≤ s.length + 2 + x.length := by
  unfold addS
  split
  · simp; omega
  · omega
theorem ss_len {c : Ck} (hc : c.Ok) (hm : mayC c = true) : (ss0 c).length < 100000000000 ∧ (ss1 c).length < 100000000000 ∧ (ss2 c).length < 100000000000 ∧ (ss3 c).length < 100000000000 ∧ (ss4 c).length < 100000000000 ∧ (ss5 c).length < 100000000000 ∧ (Lib.itoa c.age).length ≤ 21 := by
  obtain ⟨h1, h2, h3, h4, h5, h6⟩ := hc
  have i0 := Lib.itoa_length_le c.age (by omega) (by omega)
  have a0 : (ss0 c).length = c.nm.length + 1 + c.vl.length := by simp [ss0]; omega
  have a1 : (ss1 c).length ≤ (ss0 c).length + 2 + (pathW ++ c.pa).length := addS_len _ _ _
  have a2 : (ss2 c).length ≤ (ss1 c).length + 2 + (ageW ++ Lib.itoa c.age).length := addS_len _ _ _
  have a3 : (ss3 c).length ≤ (ss2 c).length + 2 + httpW.length := addS_len _ _ _
  have a4 : (ss4 c).length ≤ (ss3 c).length + 2 + secW.length := addS_len _ _ _
  have a5 : (ss5 c).length ≤ (ss4 c).length + 2 + (siteW ++ c.si).length := addS_len _ _ _
  have l1 : (pathW ++ c.pa).length = 5 + c.pa.length := by simp [pathW]; omega
  have l2 : (ageW ++ Lib.itoa c.age).length = 8 + (Lib.itoa c.age).length := by simp [ageW]; omega
  have l3 : httpW.length = 8 := rfl
  have l4 : secW.length = 6 := rfl
  have l5 : (siteW ++ c.si).length = 9 + c.si.length := by simp [siteW]; omega
  omega
set_option maxHeartbeats 4000000 in
set_option maxRecDepth 100000 in
theorem rset_any (c : Ck) (hc : c.Ok) (w : World) :
    Calls Tryd.prog 17 #[c.V] w fun e w' => e = .returned (.tuple #[.string (B (setR c).1), .int .i64 (setR c).2]) ∧ Below w.heap.size w w' := by
  have hM := Lib.hid (fun W => may_any c (by have := hc.nm; omega) (by have := hc.vl; omega) (by have := hc.pa; omega) W)
  have hS0 := SB.new w c
  obtain ⟨m, hm⟩ : ∃ m, mayC c = m := ⟨_, rfl⟩
  rw [hm] at hM
  unfold setR
  cases m with
  | false =>
    rw [if_neg (by rw [hm]; decide)]
    clear hm
    unfold Ck.V at hM ⊢
    unfold Ck.cells at hS0
    replace hS0 := Lib.hid hS0.bel
    go_enter Tryd.func17, Tryd.ntmps17
    go_wp2_with (first | (go_at_call 32; go_must (refine (hM.out _).mono ?_; rintro e w1 ⟨rfl, hb1⟩; replace hS0 := Lib.hid (hS0.out.trans (hb1.mono hS0.out.size)); clear hb1)))
    go_ret2
    exact ⟨rfl, hS0.out⟩
  | true =>
    rw [if_pos hm]
    obtain ⟨b0, b1, b2, b3, b4, b5, bi⟩ := ss_len hc hm
    obtain ⟨ga0, ga1⟩ := may_age hm
    have hN : ∀ W, Calls Tryd.prog 33 #[.int .i64 c.age] W fun e w' => e = .returned (.string (B (Lib.itoa c.age))) ∧ Below W.heap.size W w' := fun W => by
      have := num_any c.age.toNat (by omega) W
      rw [show ((c.age.toNat : Nat) : Int) = c.age by omega] at this
      rw [show Lib.itoa c.age = Lib.decDigits c.age.toNat by rw [Lib.itoa, if_neg (by omega)]]
      exact this
    replace hN := Lib.hid hN
    have hfin := set_ss c
    obtain ⟨g1, g2, g3, g4, g5, g6⟩ := hc
    generalize hit : Lib.itoa c.age = D at *
    replace hit := Lib.hid hit
    replace hfin := Lib.hid hfin
    clear hm
    obtain ⟨q4, hq4⟩ : ∃ q, c.ha = q := ⟨_, rfl⟩
    obtain ⟨q5, hq5⟩ : ∃ q, c.ho = q := ⟨_, rfl⟩
    obtain ⟨q6, hq6⟩ : ∃ q, c.se = q := ⟨_, rfl⟩
    replace hq4 := Lib.hid hq4
    replace hq5 := Lib.hid hq5
    replace hq6 := Lib.hid hq6
    have rs := B_size
    have rt := B_toList
    have r0 : ∀ l m, B l ++ B m = B (l ++ m) := B_app
    have r1 : ∀ l, B l ++ (⟨#[61]⟩ : ByteArray) = B (l ++ [61]) := fun l => B_app l [61]
    have r_path : ∀ l, B l ++ (⟨#[59, 32, 80, 97, 116, 104, 61]⟩ : ByteArray) = B (l ++ [59, 32, 80, 97, 116, 104, 61]) := fun l => B_app l [59, 32, 80, 97, 116, 104, 61]
    have r_age : ∀ l, B l ++ (⟨#[59, 32, 77, 97, 120, 45, 65, 103, 101, 61]⟩ : ByteArray) = B (l ++ [59, 32, 77, 97, 120, 45, 65, 103, 101, 61]) := fun l => B_app l [59, 32, 77, 97, 120, 45, 65, 103, 101, 61]
    have r_http : ∀ l, B l ++ (⟨#[59, 32, 72, 116, 116, 112, 79, 110, 108, 121]⟩ : ByteArray) = B (l ++ [59, 32, 72, 116, 116, 112, 79, 110, 108, 121]) := fun l => B_app l [59, 32, 72, 116, 116, 112, 79, 110, 108, 121]
    have r_sec : ∀ l, B l ++ (⟨#[59, 32, 83, 101, 99, 117, 114, 101]⟩ : ByteArray) = B (l ++ [59, 32, 83, 101, 99, 117, 114, 101]) := fun l => B_app l [59, 32, 83, 101, 99, 117, 114, 101]
    have r_site : ∀ l, B l ++ (⟨#[59, 32, 83, 97, 109, 101, 83, 105, 116, 101, 61]⟩ : ByteArray) = B (l ++ [59, 32, 83, 97, 109, 101, 83, 105, 116, 101, 61]) := fun l => B_app l [59, 32, 83, 97, 109, 101, 83, 105, 116, 101, 61]
    have m1 : (9223372036854775807 < c.nm.length + 1) = False := eq_false (by omega)
    have m2 : (9223372036854775807 < c.nm.length + 1 + c.vl.length) = False := eq_false (by omega)
    have hS1 : ∀ V, Below (w.alloc (.cells c.cells 37)).heap.size (w.alloc (.cells c.cells 37)) V → SB w c V := fun V hb => hS0.next hb
    replace hS1 := Lib.hid hS1
    clear hS0
    unfold Ck.V at hM ⊢
    go_enter Tryd.func17, Tryd.ntmps17
    go_upto_if 16 with (first | (go_at_call 32; go_must (refine (hM.out _).mono ?_; rintro e w1 ⟨rfl, hb1⟩; have hS := Lib.hid (hS1.out _ hb1); clear hb1 hS1 hM; obtain ⟨k0, k1, k2, k3, k4, k5, k6, k7⟩ := hS.out.cells hq4 hq5 hq6)))
    clear m1 m2
    rw [show c.nm ++ 61 :: c.vl = ss0 c from rfl]
    generalize hl0 : ss0 c = l0 at *
    replace hl0 := Lib.hid hl0
    have n1 : (9223372036854775807 < l0.length + 7) = False := eq_false (by omega)
    have o1 : (9223372036854775807 < l0.length + 7 + c.pa.length) = False := eq_false (by omega)
    go_cut [4] (fun v V => v = .string (B (ss1 c)) ∧ SB w c V)
    case first =>
      cases hb : c.pa.isEmpty
      all_goals
        go_wp2
        go_meet
        exact ⟨by simp [ss1, addS, hb, pathW, hl0.out], hS.out⟩
    case rest =>
    obtain ⟨rfl, hS'⟩ := hcut
    replace hS := Lib.hid hS'
    clear hS' n1 o1
    clear k0 k1 k2 k3 k4 k5 k6 k7
    obtain ⟨k0, k1, k2, k3, k4, k5, k6, k7⟩ := hS.out.cells hq4 hq5 hq6
    go_upto_if 23 with (fail)
    generalize hl1 : ss1 c = l1 at *
    replace hl1 := Lib.hid hl1
    have n2 : (9223372036854775807 < l1.length + 10) = False := eq_false (by omega)
    have o2 : (9223372036854775807 < l1.length + 10 + D.length) = False := eq_false (by omega)
    go_cut [4] (fun v V => v = .string (B (ss2 c)) ∧ SB w c V)
    case first =>
      cases q4
      all_goals
        go_wp2_with (first | (go_at_call 33; go_must (refine (hN.out _).mono ?_; rintro e w2 ⟨rfl, hb2⟩; replace hS := Lib.hid (hS.out.next hb2); clear hb2)))
        go_meet
        exact ⟨by simp [ss2, addS, hq4.out, ageW, hl1.out, hit.out], hS.out⟩
    case rest =>
    obtain ⟨rfl, hS'⟩ := hcut
    replace hS := Lib.hid hS'
    clear hS' n2 o2
    clear k0 k1 k2 k3 k4 k5 k6 k7
    obtain ⟨k0, k1, k2, k3, k4, k5, k6, k7⟩ := hS.out.cells hq4 hq5 hq6
    go_upto_if 31 with (fail)
    generalize hl2 : ss2 c = l2 at *
    replace hl2 := Lib.hid hl2
    have n3 : (9223372036854775807 < l2.length + 10) = False := eq_false (by omega)
    go_cut [4] (fun v V => v = .string (B (ss3 c)) ∧ SB w c V)
    case first =>
      cases q5
      all_goals
        go_wp2
        go_meet
        exact ⟨by simp [ss3, addS, hq5.out, httpW, hl2.out], hS.out⟩
    case rest =>
    obtain ⟨rfl, hS'⟩ := hcut
    replace hS := Lib.hid hS'
    clear hS' n3
    clear k0 k1 k2 k3 k4 k5 k6 k7
    obtain ⟨k0, k1, k2, k3, k4, k5, k6, k7⟩ := hS.out.cells hq4 hq5 hq6
    go_upto_if 35 with (fail)
    generalize hl3 : ss3 c = l3 at *
    replace hl3 := Lib.hid hl3
    have n4 : (9223372036854775807 < l3.length + 8) = False := eq_false (by omega)
    go_cut [4] (fun v V => v = .string (B (ss4 c)) ∧ SB w c V)
    case first =>
      cases q6
      all_goals
        go_wp2
        go_meet
        exact ⟨by simp [ss4, addS, hq6.out, secW, hl3.out], hS.out⟩
    case rest =>
    obtain ⟨rfl, hS'⟩ := hcut
    replace hS := Lib.hid hS'
    clear hS' n4
    clear k0 k1 k2 k3 k4 k5 k6 k7
    obtain ⟨k0, k1, k2, k3, k4, k5, k6, k7⟩ := hS.out.cells hq4 hq5 hq6
    go_upto_if 40 with (fail)
    generalize hl4 : ss4 c = l4 at *
    replace hl4 := Lib.hid hl4
    have n5 : (9223372036854775807 < l4.length + 11) = False := eq_false (by omega)
    have o5 : (9223372036854775807 < l4.length + 11 + c.si.length) = False := eq_false (by omega)
    go_cut [4] (fun v V => v = .string (B (ss5 c)) ∧ SB w c V)
    case first =>
      cases hb : c.si.isEmpty
      all_goals
        go_wp2
        go_meet
        exact ⟨by simp [ss5, addS, hb, siteW, hl4.out], hS.out⟩
    case rest =>
    obtain ⟨rfl, hS'⟩ := hcut
    replace hS := Lib.hid hS'
    clear hS' n5 o5
    clear k0 k1 k2 k3 k4 k5 k6 k7
    obtain ⟨k0, k1, k2, k3, k4, k5, k6, k7⟩ := hS.out.cells hq4 hq5 hq6
    go_wp2
    go_ret2
    exact ⟨by rw [hfin.out]; rfl, hS.out.bel⟩
end Go.Proofs.YtgnibfideghklaaDoor
