/-
  Chapter 22: a tenant's name, the shapes of keys: the map, and what its functions do.
-/
import Derived.Test.YtmchephokleffaaGreatDoorVc
import Derived.Test.YtmchephokleffaaGreatDoorQ1
set_option linter.unusedVariables false
set_option linter.unusedSimpArgs false
namespace Go.Proofs.YtmchephokleffaaGreatDoor
open Go.RowKit Go.Proofs.YtmchephokleffaaGreatDoorW.PrintWords Go.Proofs.YtmchephokleffaaGreatDoor.PRecord
def tenOk (c : UInt8) : Bool := (decide (97 ≤ c.toNat) && decide (c.toNat ≤ 122)) || (decide (48 ≤ c.toNat) && decide (c.toNat ≤ 57)) || decide (c.toNat = 45)
/-- May a tenant's name be? -/
def tenB (l : List UInt8) : Bool := l.all tenOk && (decide (l ≠ []) && decide (l.length ≤ 32))
theorem ten_l0 : ∀ (R P : List UInt8), (P ++ R).length ≤ 1000000000 → record_tenant.l0 (R.length + 1) (Bd.B (P ++ R)) ((P ++ R).length : Nat) (P.length : Nat) = some (R.all tenOk && (decide (P ++ R ≠ []) && decide ((P ++ R).length ≤ 32)))
  | [], P, h => by
    simp only [List.append_nil] at h ⊢
    rw [show ([] : List UInt8).length + 1 = 0 + 1 from rfl, record_tenant.l0, if_neg (by omega), Bd.B_toList, Bd.B_size]
    by_cases hp : P = []
    · simp [hp]
    · simp [hp]
      omega
  | c :: R, P, h => by
    have hl : (P ++ c :: R).length = P.length + 1 + R.length := by simp; omega
    have hb := Bd.bt_mid P R c
    have ih := ten_l0 R (P ++ [c]) (by simpa using h)
    simp only [List.append_assoc, List.singleton_append, List.length_append, List.length_cons, List.length_nil] at ih
    rw [List.length_cons, record_tenant.l0, hb, if_pos (by omega), if_pos (by omega), if_pos (by rw [Bd.B_size]; omega), Bd.w_succ _ (by omega)]
    have hlen2 : ((P ++ c :: R).length : Int) = ((P.length + (R.length + 1) : Nat) : Int) := by simp
    simp only [List.length_append, List.length_cons] at ih ⊢
    have e0 : P.length + (0 + 1) = P.length + 1 := by omega
    rw [e0] at ih
    rw [ih]
    have hf : tenOk c = true ∨ tenOk c = false := by cases tenOk c <;> simp
    rcases hf with hf | hf
    · rw [List.all_cons, hf, Bool.true_and]
      unfold tenOk at hf
      simp only [Bool.or_eq_true, Bool.and_eq_true, decide_eq_true_eq] at hf
      repeat' split
      all_goals first | rfl | (exfalso; omega)
    · rw [List.all_cons, hf, Bool.false_and, Bool.false_and]
      unfold tenOk at hf
      simp only [Bool.or_eq_false_iff, Bool.and_eq_false_iff, decide_eq_false_iff_not] at hf
      repeat' split
      all_goals first | rfl | (exfalso; omega)
theorem tenant_any (l : List UInt8) (hl : l.length ≤ 1000000000) (w : World) :
    Calls Tryz.prog 47 #[.string (Bd.B l)] w fun e w' => e = .returned (.bool (tenB l)) ∧ ∃ n, w' = w.drewN n := by
  refine (record_tenant.calls (l.length + 1) (Bd.B l) (tenB l) w ?_).mono (fun e w' h => ⟨h.1, ?_⟩)
  · unfold record_tenant.f
    have h := ten_l0 l [] (by simpa using hl)
    rw [Bd.B_size]
    simpa [tenB] using h
  · obtain ⟨h1, h2⟩ := h
    first | exact h2.out | exact h2
end Go.Proofs.YtmchephokleffaaGreatDoor
