/-
  Chapter 18: the law of replies that tell what is wrong, walked.
-/
import Derived.Test.YthacomeiinejaaaDoorSy
import Derived.Test.YthacomeiinejaaaDoorQ3
set_option linter.unusedVariables false
set_option linter.unusedSimpArgs false
namespace Go.Proofs.YthacomeiinejaaaDoor
open Go.RowKit Go.Proofs.YthacomeiinejaaaDoorW.PrintWords Go.Proofs.YthacomeiinejaaaDoor.PReplyWrites
theorem rwords_f (a : Int) : atriumref18_Words.f a = some (wordsB a) := by
  unfold atriumref18_Words.f
  by_cases h0 : a = 200
  · subst h0; rfl
  rw [if_neg h0]
  by_cases h1 : a = 201
  · subst h1; rfl
  rw [if_neg h1]
  by_cases h2 : a = 204
  · subst h2; rfl
  rw [if_neg h2]
  by_cases h3 : a = 400
  · subst h3; rfl
  rw [if_neg h3]
  by_cases h4 : a = 401
  · subst h4; rfl
  rw [if_neg h4]
  by_cases h5 : a = 404
  · subst h5; rfl
  rw [if_neg h5]
  by_cases h6 : a = 405
  · subst h6; rfl
  rw [if_neg h6]
  by_cases h7 : a = 413
  · subst h7; rfl
  rw [if_neg h7]
  by_cases h8 : a = 429
  · subst h8; rfl
  rw [if_neg h8]
  by_cases h9 : a = 431
  · subst h9; rfl
  rw [if_neg h9]
  by_cases h10 : a = 500
  · subst h10; rfl
  rw [if_neg h10]
  by_cases h11 : a = 503
  · subst h11; rfl
  rw [if_neg h11]
  by_cases h12 : a = 507
  · subst h12; rfl
  rw [if_neg h12]
  have : stats.find? (fun p => p.1 == a) = none := by
    rw [List.find?_eq_none]
    intro p hp
    simp only [stats, List.mem_cons, List.not_mem_nil, or_false] at hp
    simp only [beq_iff_eq]
    rcases hp with rfl | rfl | rfl | rfl | rfl | rfl | rfl | rfl | rfl | rfl | rfl | rfl | rfl <;> (intro e; simp only at e; omega)
  unfold wordsB
  rw [this]
  rfl
theorem rwords_any (a : Int) (w : World) : Calls Tryd.prog 19 #[.int .i64 a] w fun e w' => e = .returned (.string (wordsB a)) ∧ Drawn0 w w' :=
  atriumref18_Words.calls a (wordsB a) w (rwords_f a)
set_option maxHeartbeats 2000000 in
set_option maxRecDepth 100000 in
theorem errors_walk (W : World) (htab : Tab W) (st : Int) (w1 : (Lit.int .i64 st).wf = true) (s : ByteArray) (hs : s.size ≤ 1048576) :
    Calls Tryd.prog 6 #[.int .i64 st, .string s] W fun e w' => e = .returned (.bool true) ∧ Below W.heap.size W w' := by
  have hA := Lib.hid (awake_any W htab)
  have hE := Lib.hid (fun V => err_any st s (by omega) V)
  have hR := Lib.hid (fun V => rerr_any st s (by omega) V)
  have hW := Lib.hid (fun V => words_any V st w1)
  have hV := Lib.hid (fun V => rwords_any st V)
  have heq := fun V => rep_eql V st st (errB s) (errB s) ⟨#[]⟩ ⟨#[]⟩ (st == 400 || st == 413 || st == 431) (st == 400 || st == 413 || st == 431)
  have e0 : (st == st && ((errB s).toList == (errB s).toList && ((⟨#[]⟩ : ByteArray).toList == (⟨#[]⟩ : ByteArray).toList && ((st == 400 || st == 413 || st == 431) == (st == 400 || st == 413 || st == 431))))) = true := by simp
  simp only [e0] at heq
  clear e0
  unfold errV at hE hR
  generalize (st == 400 || st == 413 || st == 431) = c at *
  generalize errB s = x at *
  generalize wordsB st = y at *
  clear htab
  go_enter Tryd.func6, Tryd.ntmps6
  go_wp2_with (first  | (go_at_call 9; go_must (refine hA.out.mono ?_; rintro e w2 ⟨rfl, hb2⟩; replace hb2 := Lib.hid hb2))  | (go_at_call 16; go_must (refine (hE.out _).mono ?_; rintro e w3 ⟨rfl, hb3⟩; replace hb2 := Lib.hid (hb2.out.trans (hb3.mono hb2.out.size)); clear hb3))  | (go_at_call 17; go_must (refine (hR.out _).mono ?_; rintro e w3 ⟨rfl, hb3⟩; replace hb2 := Lib.hid (hb2.out.trans (hb3.mono hb2.out.size)); clear hb3))  | (go_at_call 18; go_must (refine (hW.out _).mono ?_; rintro e w3 ⟨rfl, hb3⟩; replace hb2 := Lib.hid (hb2.out.trans (hb3.mono hb2.out.size)); clear hb3))  | (go_at_call 19; go_must (refine (hV.out _).mono ?_; rintro e w3 ⟨rfl, n, rfl⟩)))
  go_ret
  exact ⟨rfl, pw_below_drewN hb2.out _⟩
end Go.Proofs.YthacomeiinejaaaDoor
