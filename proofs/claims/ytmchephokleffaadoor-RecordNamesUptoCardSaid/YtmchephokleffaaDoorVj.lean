/-
  Chapter 22: record.key walked at ledgers and at audit entries.
-/
import Derived.Test.YtmchephokleffaaDoorVi
set_option linter.unusedVariables false
set_option linter.unusedSimpArgs false
namespace Go.Proofs.YtmchephokleffaaDoor
open Go.RowKit Go.Proofs.YtmchephokleffaaDoorW.PrintWords Go.Proofs.YtmchephokleffaaDoor.PRecord
theorem cf_1 (args : Array Value) (W : World) : (callFunc 53 args).run Tryd.prog W = .ok (.enter 53 args) W := by go_simp
theorem cf_2 (args : Array Value) (W : World) : (callFunc 54 args).run Tryd.prog W = .ok (.enter 54 args) W := by go_simp
theorem cf_9 (args : Array Value) (W : World) : (callFunc 64 args).run Tryd.prog W = .ok (.enter 64 args) W := by go_simp
theorem cf_10 (args : Array Value) (W : World) : (callFunc 65 args).run Tryd.prog W = .ok (.enter 65 args) W := by go_simp
theorem ten_zero {l : List UInt8} (h : tenB l = true) : l.count 0 = 0 := by
  unfold tenB at h
  simp only [Bool.and_eq_true, List.all_eq_true] at h
  rw [List.count_eq_zero]
  intro h0
  have := h.1 0 h0
  exact absurd this (by decide)
theorem ten_len {l : List UInt8} (h : tenB l = true) : l.length ≤ 32 := by
  unfold tenB at h
  simp only [Bool.and_eq_true, decide_eq_true_eq] at h
  exact h.2.2
theorem okt_of {s : ByteArray} (h : s.data.toList.count 0 = 0) : OkP (tP s) := .inr ⟨rfl, rfl, h⟩
theorem okn_of {n : Nat} (h : n < 18446744073709551616) : OkP (nP n) := .inl ⟨rfl, rfl, h⟩
theorem keyL_cons (x : Pt) (l : List Pt) : keyL (x :: l) = encP x ++ keyL l := rfl
theorem rd10_one (n : Nat) (q : Pl) : rd10 [nP n] q = if n < 1 ∨ 9223372036854775807 < n then (false, q) else (true, { q with nu := (n : Int) }) := rfl
/-- LedgerKey's place. -/
theorem key_ledger (te : ByteArray) (hsz : te.size ≤ 1000000) (w : World) :
    Calls Tryd.prog 38 #[plV ⟨1, te, ⟨#[]⟩, ⟨#[]⟩, 0, 0⟩] w fun e w' => e = .returned (keyV (keyO ⟨1, te, ⟨#[]⟩, ⟨#[]⟩, 0, 0⟩ [108] [] true)) ∧ Below w.heap.size w w' :=
  key_gen ⟨1, te, ⟨#[]⟩, ⟨#[]⟩, 0, 0⟩ [108] 53 54 cf_1 cf_2 0 rfl [] (fun W => parts1 _ W) true ⟨1, te, ⟨#[]⟩, ⟨#[]⟩, 0, 0⟩
    (fun W g A c _ _ hq => read2 A 0 c g (by omega) _ W hq) (fun _ => rfl) hsz
    (fun _ ht x hx => by
      simp only [List.mem_cons, List.mem_nil_iff, or_false] at hx
      rcases hx with rfl | rfl
      · exact okt_of (ten_zero ht)
      · exact okt_of rfl) (by simp)
    (by simp [keyL, encP, tP, Bd.B_size, Bd.B_data]; omega) w
theorem key_audit (te : ByteArray) (n : Nat) (hn : n < 9223372036854775808) (hsz : te.size ≤ 1000000) (w : World) :
    Calls Tryd.prog 38 #[plV ⟨5, te, ⟨#[]⟩, ⟨#[]⟩, 0, (n : Int)⟩] w fun e w' => e = .returned (keyV (keyO ⟨5, te, ⟨#[]⟩, ⟨#[]⟩, 0, (n : Int)⟩ [97] [nP n] (rd10 [nP n] ⟨5, te, ⟨#[]⟩, ⟨#[]⟩, 0, 0⟩).1)) ∧ Below w.heap.size w w' :=
  key_gen ⟨5, te, ⟨#[]⟩, ⟨#[]⟩, 0, (n : Int)⟩ [97] 64 65 cf_9 cf_10 4 rfl [nP n] (fun W => parts9 _ n rfl hn W) _ (rd10 [nP n] ⟨5, te, ⟨#[]⟩, ⟨#[]⟩, 0, 0⟩).2
    (fun W g A c hC hA hq => read10 [nP n] (by simp) A c g _ W hC hA hq)
    (fun hb => by
      rw [rd10_one] at hb ⊢
      by_cases h : n < 1 ∨ 9223372036854775807 < n
      · rw [if_pos h] at hb
        cases hb
      · rw [if_neg h]) hsz
    (fun _ ht x hx => by
      simp only [List.mem_cons, List.mem_nil_iff, or_false] at hx
      rcases hx with rfl | rfl | rfl
      · exact okt_of (ten_zero ht)
      · exact okt_of rfl
      · exact okn_of (by omega)) (by simp)
    (by simp [keyL, encP, tP, nP, Bd.B_size, Bd.B_data, be_len]; omega) w
end Go.Proofs.YtmchephokleffaaDoor
