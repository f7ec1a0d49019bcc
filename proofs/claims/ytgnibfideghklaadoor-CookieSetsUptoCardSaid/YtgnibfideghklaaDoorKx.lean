/-
  Chapter 19: what the reference's ParseSet calls.
-/
import Derived.Test.YtgnibfideghklaaDoorKw
set_option linter.unusedVariables false
set_option linter.unusedSimpArgs false
namespace Go.Proofs.YtgnibfideghklaaDoor
open Go.RowKit Go.Proofs.YtgnibfideghklaaDoorW.PrintWords Go.Proofs.YtgnibfideghklaaDoor.PCookieReads
def bres : Option (List UInt8) → List UInt8 × Bool
  | none => ([], false)
  | some x => (x, true)
theorem behind_f (l b : List UInt8) (hl : l.length < 4611686018427387904) (hb : b.length < 4611686018427387904) : atriumref19_behind.f (B l) (B b) = some (B (bres (behL l b)).1, (bres (behL l b)).2) := by
  unfold atriumref19_behind.f behL
  rw [B_size, B_size]
  by_cases h : l.length < b.length
  · rw [if_pos (by omega), if_neg]
    · rfl
    · intro hp
      have := (List.isPrefixOf_iff_prefix.1 hp).length_le
      omega
  · rw [if_neg (by omega), if_pos (by omega), if_pos (by omega), Int.toNat_natCast, B_take, B_toList, B_toList]
    by_cases hp : l.take b.length = b
    · have : b.isPrefixOf l = true := by rw [List.isPrefixOf_iff_prefix]; exact ⟨l.drop b.length, by conv => lhs; rw [← hp]
                                                                                                     rw [List.length_take, Nat.min_eq_left (by omega), List.take_append_drop]⟩
      rw [if_pos hp, if_pos this, ← B_size l, B_drop]
      rfl
    · rw [if_neg hp, if_neg]
      · rfl
      · intro h2
        obtain ⟨t, ht⟩ := List.isPrefixOf_iff_prefix.1 h2
        exact hp (by rw [← ht, List.take_left' rfl])
theorem behind_any (l b : List UInt8) (hl : l.length < 4611686018427387904) (hb : b.length < 4611686018427387904) (w : World) :
    Calls Tryd.prog 35 #[.string (B l), .string (B b)] w fun e w' => e = .returned (.tuple #[.string (B (bres (behL l b)).1), .bool (bres (behL l b)).2]) ∧ ∃ n, w' = w.drewN n :=
  (atriumref19_behind.calls _ _ _ _ w (behind_f l b hl hb)).mono fun e w' ⟨he, hd⟩ => ⟨he, hd.out⟩
theorem rdig_l0 (m : Int) (l : List UInt8) (hl : l.length ≤ 18) : ∀ (R P : List UInt8) (k : Nat), l = P ++ R → P.all digB = true → R.length + 1 ≤ k →
    atriumref15_Digits.l0 k (B l) m (valD 0 P : Nat) (P.length : Int) = some (if R.all digB = true then (if m < (valD 0 l : Nat) then ((0 : Int), (3 : Int)) else (((valD 0 l : Nat) : Int), (0 : Int))) else (0, 150))
  | [], P, k, h, hP, hk => by
    obtain ⟨k, rfl⟩ : ∃ j, k = j + 1 := ⟨k - 1, by omega⟩
    have e : P = l := by rw [h, List.append_nil]
    subst e
    rw [atriumref15_Digits.l0, if_neg (by rw [B_size]; omega), if_pos (show ([] : List UInt8).all digB = true from rfl)]
    by_cases hm : m < (valD 0 P : Nat)
    · rw [if_pos (show ((valD 0 P : Nat) : Int) > m from hm), if_pos hm]
    · rw [if_neg (show ¬ ((valD 0 P : Nat) : Int) > m from hm), if_neg hm]
  | c :: R, P, k, h, hP, hk => by
    obtain ⟨k, rfl⟩ : ∃ j, k = j + 1 := ⟨k - 1, by omega⟩
    have hlen : l.length = P.length + 1 + R.length := by rw [h]; simp; omega
    have hb : bt (B l) (P.length : Int) = (c.toNat : Int) := by rw [h]; exact bt_mid P R c
    have hv := valD_small hP (by omega)
    rw [atriumref15_Digits.l0, if_pos (by rw [B_size]; omega), if_pos (by omega), hb, ref_digit_f, Option.bind_some]
    have hi := dig_iff c
    cases ho : digB c with
    | true =>
      obtain ⟨c1, c2⟩ := hi.1 ho
      have hrec := rdig_l0 m l hl R (P ++ [c]) k (by rw [h]; simp) (by rw [List.all_append, hP, List.all_cons, ho]; rfl) (by simp at hk; omega)
      have e1 : valD 0 (P ++ [c]) = 10 * valD 0 P + (c.toNat - 48) := by rw [valD_app]; rfl
      rw [e1, List.length_append, List.length_singleton] at hrec
      have e2 : wrap64 (wrap64 (10 * ((valD 0 P : Nat) : Int)) + (((c.toNat : Int) - 48) % 256)) = ((10 * valD 0 P + (c.toNat - 48) : Nat) : Int) := by
        rw [IntWalk.wrap64_in (10 * ((valD 0 P : Nat) : Int)) (by omega), IntWalk.wrap64_in _ (by omega)]
        omega
      rw [decide_eq_true (by omega), if_pos rfl, e2, w_succ _ (by omega), hrec, List.all_cons, ho, Bool.true_and]
    | false =>
      have hn : ¬ (48 ≤ c.toNat ∧ c.toNat ≤ 57) := fun e => by rw [hi.2 e] at ho; cases ho
      rw [decide_eq_false hn, if_neg (by decide), List.all_cons, ho, Bool.false_and, if_neg (by decide)]
theorem rdigits_f (m : Int) (l : List UInt8) (hl : l.length < 4611686018427387904) : atriumref15_Digits.f 25 (B l) m = some (digM m l) := by
  unfold atriumref15_Digits.f digM badD
  rw [B_size]
  by_cases h1 : l.length < 1
  · rw [if_pos (by omega), decide_eq_true h1, Bool.true_or, Bool.true_or, if_pos rfl]
    rfl
  · rw [if_neg (by omega), decide_eq_false h1]
    by_cases h2 : 18 < l.length
    · rw [if_pos (by omega), decide_eq_true h2, Bool.false_or, Bool.true_or, if_pos rfl]
      rfl
    · have hj : atriumref15_Digits.j0 25 (B l) m false = some (if l.all digB = true then (if m < (valD 0 l : Nat) then ((0 : Int), (3 : Int)) else (((valD 0 l : Nat) : Int), (0 : Int))) else (0, 150)) := by
        rw [show 25 = 24 + 1 from rfl, atriumref15_Digits.j0, if_neg (by decide)]
        exact rdig_l0 m l (by omega) l [] 24 rfl rfl (by omega)
      rw [if_neg (by omega), decide_eq_false h2, Bool.false_or, Bool.false_or]
      by_cases h3 : 1 < l.length
      · rw [if_pos (by omega), if_pos (by omega), decide_eq_true h3, Bool.true_and]
        cases l with
        | nil => simp at h1
        | cons a t =>
          have hb0 : bt (B (a :: t)) 0 = (a.toNat : Int) := bt_mid [] t a
          rw [hb0, List.head?_cons]
          have a48 := u8_eq a 48 (by omega)
          have e48 : UInt8.ofNat 48 = 48 := rfl
          rw [e48] at a48
          by_cases ha : a = 48
          · have e1 : ((a.toNat : Int) == 48) = true := beq_iff_eq.2 (by have := a48.1 ha; omega)
            have e2 : (some a == some 48) = true := by simp [ha]
            rw [e1, e2, if_pos rfl]
            rfl
          · have e1 : ((a.toNat : Int) == 48) = false := beq_eq_false_iff_ne.2 fun e => ha (a48.2 (by omega))
            have e2 : (some a == some 48) = false := by simp [ha]
            rw [e1, e2, if_neg (by decide), hj]
      · rw [if_neg (by omega), decide_eq_false h3, Bool.false_and, if_neg (by decide), hj]
theorem rdigits_any (m : Int) (l : List UInt8) (hl : l.length < 4611686018427387904) (w : World) :
    Calls Tryd.prog 36 #[.string (B l), .int .i64 m] w fun e w' => e = .returned (.tuple #[.int .i64 (digM m l).1, .int .i64 (digM m l).2]) ∧ ∃ n, w' = w.drewN n :=
  (atriumref15_Digits.calls _ _ _ _ _ w (rdigits_f m l hl)).mono fun e w' ⟨he, hd⟩ => ⟨he, hd.out⟩
end Go.Proofs.YtgnibfideghklaaDoor
