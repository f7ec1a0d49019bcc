/-
  What must come of every program: walked.
-/
import Derived.Test.YtlmlkamgpmnmgaaDoorScan
import Derived.Test.YtlmlkamgpmnmgaaDoorWlayok
import Derived.KernelRfl
set_option linter.unusedVariables false
set_option linter.unusedSimpArgs false
namespace Go.Proofs.YtlmlkamgpmnmgaaDoor
open Go.RowKit Go.Proofs.YtlmlkamgpmnmgaaDoorW.PrintWords
theorem abc_scan : scanR (layA 0 [97, 98, 99]) = ([⟨#[97, 98, 99]⟩], 10, 1) := by kernel_rfl
theorem abc_len : lenA 0 3 = 10 := by decide
theorem len_1020 : lenA 1020 3 = 14 := by decide
theorem func_ne (W : World) (fn : Fn) (a b : Array Value) : (binOp .neq 54 (.func fn a b) .nilFunc).run Tryd.prog W = .ok (.bool true) W := by
  have h : ∀ d, (Op.equalIn (d + 1) 54 (.func fn a b) .nilFunc).run Tryd.prog W = .ok false W := fun d => by
    simp [Op.equalIn, run_underlying Tryd.underlying54, Sem.run_bind]
  have h2 : (Op.equal 54 (.func fn a b) .nilFunc).run Tryd.prog W = .ok false W := h 9999
  simp [binOp, Sem.run_bind, h2]
set_option maxHeartbeats 1000000 in
set_option maxRecDepth 100000 in
theorem lives_any (w : World) :
    Calls Tryd.prog 7 #[] w fun e w' => e = .returned (.bool true) ∧ Below w.heap.size w w' := by
  have hN := Lib.hid (wnew_ok 0 (by omega) w)
  have hLy : ∀ W : World, WW W w.heap.size 0 → Calls Tryd.prog 4 #[.pointer (some ⟨w.heap.size, 0, none⟩), .string ⟨#[97, 98, 99]⟩] W fun e w' => ∃ A c, e = .returned (.tuple #[.slice A 10 c, .int .i64 0]) ∧ 10 ≤ c ∧ Rd w' A 10 (layA 0 [97, 98, 99]) ∧ WW w' w.heap.size 10 ∧ ∀ w0 : World, Below w0.heap.size w0 W → w0.heap.size ≤ w.heap.size → Below w0.heap.size w0 w' := fun W hW => by
    refine (wlay_ok hW ⟨#[97, 98, 99]⟩ (by decide) (by decide)).mono ?_
    rintro e w2 ⟨v2, rfl, ho2, hW2, hk2, hB2⟩
    obtain ⟨A2, c2, rfl, hr2, hc2⟩ := ho2.rd
    have hl10 : (layA 0 (⟨#[97, 98, 99]⟩ : ByteArray).data.toList).length = 10 := by rw [layA_len]; decide
    rw [hl10] at hr2 hc2 ⊢
    exact ⟨A2, c2, rfl, hc2, hr2, hW2, hB2⟩
  replace hLy := Lib.hid hLy
  have hSc : ∀ (W : World) (A : Option Addr) (c : Nat), Rd W A 10 (layA 0 [97, 98, 99]) → 10 ≤ c → Calls Tryd.prog 19 #[.slice A 10 c] W fun e w' => ∃ ad cv, e = .returned (.tuple #[.slice (some ad) 1 cv, .int .i64 10, .int .i64 1]) ∧ w'.cell? ad = some (.string ⟨#[97, 98, 99]⟩) ∧ Below W.heap.size W w' := fun W A c hr hc => by
    refine (scan_any hr hc (by omega)).mono ?_
    rw [abc_scan]
    rintro e w3 ⟨v3, rfl, ho3, hb3⟩
    obtain ⟨A3, c3, rfl, hr3, hc3⟩ := ho3.rd
    obtain ⟨ad, rfl, hc⟩ := hr3.at_ 0 (by decide)
    exact ⟨ad, c3, rfl, hc, hb3⟩
  replace hSc := Lib.hid hSc
  have hq : ∀ W : World, Calls Tryd.prog 11 #[.int .i64 1020, .int .i64 3] W fun e w' => e = .returned (.tuple #[.int .i64 14, .int .i64 0]) ∧ W = w' := fun W => by
    have := length_ok 1020 3 (by omega) (by omega) W
    rw [len_1020] at this
    exact this
  replace hq := Lib.hid hq
  have hfn := func_ne
  go_enter Tryd.func7, Tryd.ntmps7
  go_wp2_with (first  | (go_at_call 18; go_must (refine hN.out.mono ?_; rintro e w1 ⟨rfl, hW1, hb1⟩; have hL := Lib.hid (hLy.out w1 hW1); replace hb1 := Lib.hid hb1))  | (go_at_call 4; go_must (refine hL.out.mono ?_; rintro e w2 ⟨A2, c2, rfl, hc2, hr2, hW2, hB2⟩; have hb2 := Lib.hid (hB2 w hb1.out (Nat.le_refl _)); have hS := Lib.hid (hSc.out w2 A2 c2 hr2 hc2); clear hB2))  | (go_at_call 19; go_must (refine hS.out.mono ?_; rintro e w3 ⟨ad3, cv3, rfl, hk3, hb3⟩; have hz := Lib.hid (wsize (hW2.below hb3)); have hb4 := Lib.hid (hb2.out.trans (hb3.mono hb2.out.size)); replace hb3 := Lib.hid hb3))  | (go_at_call 11; go_must (refine (hq.out _).mono ?_; rintro e w4 ⟨rfl, rfl⟩))  | (go_at_call 8; go_must (refine hz.out.mono ?_; rintro e w5 ⟨rfl, rfl⟩))  | (go_at_call 20; go_must (refine (records_any _ none 0 0 [] ⟨rfl, by decide, fun h => absurd h (Nat.lt_irrefl 0)⟩).mono ?_; rintro e w6 ⟨rfl, hb6⟩; have hb7 := Lib.hid (hb4.out.trans (hb6.mono hb4.out.size)); replace hb6 := Lib.hid hb6)))
  go_ret
  exact ⟨rfl, hb7.out⟩
end Go.Proofs.YtlmlkamgpmnmgaaDoor
