/-
  Chapter 28: Request, the program's and the reference's, walked; the law ScriptRequests.
-/
import Derived.Test.YtigcgpbdifihoaaDoorNl
import Derived.Lib.ItoaLen
set_option linter.unusedVariables false
set_option linter.unusedSimpArgs false
namespace Go.Proofs.YtigcgpbdifihoaaDoor
open Go.RowKit Go.Proofs.YtigcgpbdifihoaaDoorW.PrintWords Go.Proofs.YtigcgpbdifihoaaDoor.PScriptRequests
def reqOf (S a2 a3 D : ByteArray) : ByteArray :=
  let S2 := if a2.toList.isEmpty = true then S else S ++ ((⟨#[65, 117, 116, 104, 111, 114, 105, 122, 97, 116, 105, 111, 110, 58, 32, 66, 101, 97, 114, 101, 114, 32]⟩ : ByteArray) ++ a2 ++ (⟨#[13, 10]⟩ : ByteArray))
  let S3 := if a3.toList.isEmpty = true then S2 else S2 ++ ((⟨#[67, 111, 110, 116, 101, 110, 116, 45, 76, 101, 110, 103, 116, 104, 58, 32]⟩ : ByteArray) ++ D ++ (⟨#[13, 10]⟩ : ByteArray))
  S3 ++ (⟨#[13, 10]⟩ : ByteArray) ++ a3
theorem nums_one (d : Nat) (h : d < 256) : strOfNums [((d : Nat) : Int)] = B [UInt8.ofNat d] := by
  simp [strOfNums, B]
theorem great_l (k : Nat) : ∀ (u : Nat) (l : List UInt8), u < 10 ^ (k + 1) → u < 18446744073709551616 → l.length + k < 1000 → atriumref28_Great.l0 (k + 1) (u : Int) (B l) = some (B (Lib.decDigits u ++ l)) := by
  have one : ∀ (d : Nat), d < 10 → (IntKind.u64.wrap (48 + (d : Int))) % 256 = ((48 + d : Nat) : Int) := fun d hd => by rw [IntKind.wrap_u64]; omega
  have small : ∀ (k u : Nat) (l : List UInt8), u < 10 → l.length < 1000 → atriumref28_Great.l0 (k + 1) (u : Int) (B l) = some (B (Lib.decDigits u ++ l)) := fun k u l hu hl => by
    rw [atriumref28_Great.l0, if_neg (by omega)]
    simp only [Option.bind_some]
    rw [one u hu, nums_one (48 + u) (by omega), if_pos (by rw [B_size, B_size]; simp; omega), B_app, dig1 u hu]
  induction k with
  | zero => exact fun u l hu h64 hl => small 0 u l (by omega) (by omega)
  | succ k ih =>
    intro u l hu h64 hl
    by_cases h10 : u < 10
    · exact small (k + 1) u l h10 (by omega)
    · rw [atriumref28_Great.l0, if_pos (by omega)]
      simp only [Option.bind_some]
      have e1 : Int.tmod (u : Int) 10 = ((u % 10 : Nat) : Int) := by rw [Int.tmod_eq_emod_of_nonneg (by omega)]; omega
      have e2 : IntKind.u64.wrap (Int.tdiv (u : Int) 10) = ((u / 10 : Nat) : Int) := by rw [Int.tdiv_eq_ediv_of_nonneg (by omega), IntKind.wrap_u64]; omega
      rw [e1, e2, one (u % 10) (by omega), nums_one (48 + u % 10) (by omega), if_pos (by rw [B_size, B_size]; simp; omega), B_app]
      have hp : u / 10 < 10 ^ (k + 1) := by
        rw [Nat.div_lt_iff_lt_mul (by decide)]
        rw [Nat.pow_succ] at hu
        exact hu
      rw [ih (u / 10) _ hp (by omega) (by simp; omega)]
      have e3 : Lib.decDigits u = Lib.decDigits (u / 10) ++ [UInt8.ofNat (48 + u % 10)] := by
        conv => lhs; rw [Lib.decDigits, dif_neg h10]
      rw [e3, List.append_assoc]
theorem number_f (n : Nat) (h : n < 9223372036854775808) : atriumref28_Number.f 21 (n : Int) = some (B (Lib.itoa n)) := by
  rw [atriumref28_Number.f, if_neg (by omega)]
  have e : IntKind.u64.wrap (n : Int) = (n : Int) := by rw [IntKind.wrap_u64]; omega
  rw [e, atriumref28_Great.f, show (⟨#[]⟩ : ByteArray) = B [] from rfl, great_l 20 n [] (Nat.lt_of_lt_of_le h (by decide)) (by omega) (by simp), Option.bind_some, List.append_nil, Lib.itoa_nonneg]
set_option maxHeartbeats 1000000 in
set_option maxRecDepth 100000 in
theorem request_any (a0 a1 a2 a3 : ByteArray) (z0 : a0.size ≤ 1048576) (z1 : a1.size ≤ 1048576) (z2 : a2.size ≤ 1048576) (z3 : a3.size ≤ 1048576) (w : World) (ht : Tab w) :
    Calls Tryd.prog 10 #[.string a0, .string a1, .string a2, .string a3] w fun e w' => e = .returned (.string (reqOf (a0 ++ (⟨#[32]⟩ : ByteArray) ++ a1 ++ (⟨#[32, 72, 84, 84, 80, 47, 49, 46, 49]⟩ : ByteArray) ++ (⟨#[13, 10]⟩ : ByteArray) ++ (⟨#[72, 111, 115, 116, 58, 32, 97, 116, 114, 105, 117, 109]⟩ : ByteArray) ++ (⟨#[13, 10]⟩ : ByteArray)) a2 a3 (B (Lib.itoa (a3.size : Nat))))) ∧ Below w.heap.size w w' := by
  have hI := itoa_any (a3.size : Nat) (by omega) (by omega) w ht
  have hD : (B (Lib.itoa (a3.size : Nat))).size ≤ 21 := by rw [B_size]; exact Lib.itoa_length_le _ (by omega) (by omega)
  have hS1 : (a0 ++ (⟨#[32]⟩ : ByteArray) ++ a1 ++ (⟨#[32, 72, 84, 84, 80, 47, 49, 46, 49]⟩ : ByteArray) ++ (⟨#[13, 10]⟩ : ByteArray) ++ (⟨#[72, 111, 115, 116, 58, 32, 97, 116, 114, 105, 117, 109]⟩ : ByteArray) ++ (⟨#[13, 10]⟩ : ByteArray)).size ≤ 2097252 := by
    simp only [ByteArray.size_append]
    have e0 : (⟨#[32]⟩ : ByteArray).size = 1 := rfl
    have e1 : (⟨#[32, 72, 84, 84, 80, 47, 49, 46, 49]⟩ : ByteArray).size = 9 := rfl
    have e2 : (⟨#[13, 10]⟩ : ByteArray).size = 2 := rfl
    have e3 : (⟨#[72, 111, 115, 116, 58, 32, 97, 116, 114, 105, 117, 109]⟩ : ByteArray).size = 12 := rfl
    omega
  have m0 : (9223372036854775807 < a0.size + 1) = False := eq_false (by omega)
  have m1 : (9223372036854775807 < a0.size + 1 + a1.size) = False := eq_false (by omega)
  have m2 : (9223372036854775807 < a0.size + 1 + a1.size + 9) = False := eq_false (by omega)
  have m3 : (9223372036854775807 < a0.size + 1 + a1.size + 9 + 2) = False := eq_false (by omega)
  have m4 : (9223372036854775807 < a0.size + 1 + a1.size + 9 + 2 + 12) = False := eq_false (by omega)
  have m5 : (9223372036854775807 < a0.size + 1 + a1.size + 9 + 2 + 12 + 2) = False := eq_false (by omega)
  obtain ⟨D, hDe⟩ : ∃ D, B (Lib.itoa (a3.size : Nat)) = D := ⟨_, rfl⟩
  rw [hDe] at hI hD ⊢
  replace hI := Lib.hid hI
  clear hDe
  cases h2 : a2.toList.isEmpty
  · cases h3 : a3.toList.isEmpty
    · have hr : reqOf (a0 ++ (⟨#[32]⟩ : ByteArray) ++ a1 ++ (⟨#[32, 72, 84, 84, 80, 47, 49, 46, 49]⟩ : ByteArray) ++ (⟨#[13, 10]⟩ : ByteArray) ++ (⟨#[72, 111, 115, 116, 58, 32, 97, 116, 114, 105, 117, 109]⟩ : ByteArray) ++ (⟨#[13, 10]⟩ : ByteArray)) a2 a3 D = (((a0 ++ (⟨#[32]⟩ : ByteArray) ++ a1 ++ (⟨#[32, 72, 84, 84, 80, 47, 49, 46, 49]⟩ : ByteArray) ++ (⟨#[13, 10]⟩ : ByteArray) ++ (⟨#[72, 111, 115, 116, 58, 32, 97, 116, 114, 105, 117, 109]⟩ : ByteArray) ++ (⟨#[13, 10]⟩ : ByteArray)) ++ ((⟨#[65, 117, 116, 104, 111, 114, 105, 122, 97, 116, 105, 111, 110, 58, 32, 66, 101, 97, 114, 101, 114, 32]⟩ : ByteArray) ++ a2 ++ (⟨#[13, 10]⟩ : ByteArray))) ++ ((⟨#[67, 111, 110, 116, 101, 110, 116, 45, 76, 101, 110, 103, 116, 104, 58, 32]⟩ : ByteArray) ++ D ++ (⟨#[13, 10]⟩ : ByteArray))) ++ (⟨#[13, 10]⟩ : ByteArray) ++ a3 := by simp only [reqOf, h2, h3]; rfl
      replace hr := Lib.hid hr
      have g2 : (a2.toList == ([] : List UInt8)) = false := by simpa using h2
      have g3 : (a3.toList == ([] : List UInt8)) = false := by simpa using h3
      have g2b : (a2.toList != ([] : List UInt8)) = true := by rw [bne, g2]; rfl
      have g3b : (a3.toList != ([] : List UInt8)) = true := by rw [bne, g3]; rfl
      go_enter Tryd.func10, Tryd.ntmps10
      go_upto_region 2 with (fail)
      generalize eS : a0 ++ (⟨#[32]⟩ : ByteArray) ++ a1 ++ (⟨#[32, 72, 84, 84, 80, 47, 49, 46, 49]⟩ : ByteArray) ++ (⟨#[13, 10]⟩ : ByteArray) ++ (⟨#[72, 111, 115, 116, 58, 32, 97, 116, 114, 105, 117, 109]⟩ : ByteArray) ++ (⟨#[13, 10]⟩ : ByteArray) = S1 at *
      replace eS := Lib.hid eS
      clear m0 m1 m2 m3 m4 m5
      have q0 : (9223372036854775807 < 22 + a2.size) = False := eq_false (by omega)
      have q1 : (9223372036854775807 < 22 + a2.size + 2) = False := eq_false (by omega)
      have q2 : (9223372036854775807 < S1.size + (22 + a2.size + 2)) = False := eq_false (by omega)
      have q3 : (9223372036854775807 < 16 + D.size) = False := eq_false (by omega)
      have q4 : (9223372036854775807 < 16 + D.size + 2) = False := eq_false (by omega)
      have q5 : (9223372036854775807 < S1.size + (22 + a2.size + 2) + (16 + D.size + 2)) = False := eq_false (by omega)
      have q6 : (9223372036854775807 < S1.size + (22 + a2.size + 2) + (16 + D.size + 2) + 2) = False := eq_false (by omega)
      have q7 : (9223372036854775807 < S1.size + (22 + a2.size + 2) + (16 + D.size + 2) + 2 + a3.size) = False := eq_false (by omega)
      go_wp2_with (first | (go_at_call 24; go_must (refine hI.out.mono ?_; rintro e w2 ⟨rfl, hb2⟩)))
      go_ret
      exact ⟨by rw [eS.out, hr.out]; rfl, hb2⟩
    · have hr : reqOf (a0 ++ (⟨#[32]⟩ : ByteArray) ++ a1 ++ (⟨#[32, 72, 84, 84, 80, 47, 49, 46, 49]⟩ : ByteArray) ++ (⟨#[13, 10]⟩ : ByteArray) ++ (⟨#[72, 111, 115, 116, 58, 32, 97, 116, 114, 105, 117, 109]⟩ : ByteArray) ++ (⟨#[13, 10]⟩ : ByteArray)) a2 a3 D = ((a0 ++ (⟨#[32]⟩ : ByteArray) ++ a1 ++ (⟨#[32, 72, 84, 84, 80, 47, 49, 46, 49]⟩ : ByteArray) ++ (⟨#[13, 10]⟩ : ByteArray) ++ (⟨#[72, 111, 115, 116, 58, 32, 97, 116, 114, 105, 117, 109]⟩ : ByteArray) ++ (⟨#[13, 10]⟩ : ByteArray)) ++ ((⟨#[65, 117, 116, 104, 111, 114, 105, 122, 97, 116, 105, 111, 110, 58, 32, 66, 101, 97, 114, 101, 114, 32]⟩ : ByteArray) ++ a2 ++ (⟨#[13, 10]⟩ : ByteArray))) ++ (⟨#[13, 10]⟩ : ByteArray) ++ a3 := by simp only [reqOf, h2, h3]; rfl
      replace hr := Lib.hid hr
      have g2 : (a2.toList == ([] : List UInt8)) = false := by simpa using h2
      have g3 : (a3.toList == ([] : List UInt8)) = true := by simpa using h3
      have g2b : (a2.toList != ([] : List UInt8)) = true := by rw [bne, g2]; rfl
      have g3b : (a3.toList != ([] : List UInt8)) = false := by rw [bne, g3]; rfl
      go_enter Tryd.func10, Tryd.ntmps10
      go_upto_region 2 with (fail)
      generalize eS : a0 ++ (⟨#[32]⟩ : ByteArray) ++ a1 ++ (⟨#[32, 72, 84, 84, 80, 47, 49, 46, 49]⟩ : ByteArray) ++ (⟨#[13, 10]⟩ : ByteArray) ++ (⟨#[72, 111, 115, 116, 58, 32, 97, 116, 114, 105, 117, 109]⟩ : ByteArray) ++ (⟨#[13, 10]⟩ : ByteArray) = S1 at *
      replace eS := Lib.hid eS
      clear m0 m1 m2 m3 m4 m5
      have q0 : (9223372036854775807 < 22 + a2.size) = False := eq_false (by omega)
      have q1 : (9223372036854775807 < 22 + a2.size + 2) = False := eq_false (by omega)
      have q2 : (9223372036854775807 < S1.size + (22 + a2.size + 2)) = False := eq_false (by omega)
      have q3 : (9223372036854775807 < S1.size + (22 + a2.size + 2) + 2) = False := eq_false (by omega)
      have q4 : (9223372036854775807 < S1.size + (22 + a2.size + 2) + 2 + a3.size) = False := eq_false (by omega)
      go_wp2
      go_ret
      exact ⟨by rw [eS.out, hr.out]; rfl, Below.refl _ _⟩
  · cases h3 : a3.toList.isEmpty
    · have hr : reqOf (a0 ++ (⟨#[32]⟩ : ByteArray) ++ a1 ++ (⟨#[32, 72, 84, 84, 80, 47, 49, 46, 49]⟩ : ByteArray) ++ (⟨#[13, 10]⟩ : ByteArray) ++ (⟨#[72, 111, 115, 116, 58, 32, 97, 116, 114, 105, 117, 109]⟩ : ByteArray) ++ (⟨#[13, 10]⟩ : ByteArray)) a2 a3 D = ((a0 ++ (⟨#[32]⟩ : ByteArray) ++ a1 ++ (⟨#[32, 72, 84, 84, 80, 47, 49, 46, 49]⟩ : ByteArray) ++ (⟨#[13, 10]⟩ : ByteArray) ++ (⟨#[72, 111, 115, 116, 58, 32, 97, 116, 114, 105, 117, 109]⟩ : ByteArray) ++ (⟨#[13, 10]⟩ : ByteArray)) ++ ((⟨#[67, 111, 110, 116, 101, 110, 116, 45, 76, 101, 110, 103, 116, 104, 58, 32]⟩ : ByteArray) ++ D ++ (⟨#[13, 10]⟩ : ByteArray))) ++ (⟨#[13, 10]⟩ : ByteArray) ++ a3 := by simp only [reqOf, h2, h3]; rfl
      replace hr := Lib.hid hr
      have g2 : (a2.toList == ([] : List UInt8)) = true := by simpa using h2
      have g3 : (a3.toList == ([] : List UInt8)) = false := by simpa using h3
      have g2b : (a2.toList != ([] : List UInt8)) = false := by rw [bne, g2]; rfl
      have g3b : (a3.toList != ([] : List UInt8)) = true := by rw [bne, g3]; rfl
      go_enter Tryd.func10, Tryd.ntmps10
      go_upto_region 2 with (fail)
      generalize eS : a0 ++ (⟨#[32]⟩ : ByteArray) ++ a1 ++ (⟨#[32, 72, 84, 84, 80, 47, 49, 46, 49]⟩ : ByteArray) ++ (⟨#[13, 10]⟩ : ByteArray) ++ (⟨#[72, 111, 115, 116, 58, 32, 97, 116, 114, 105, 117, 109]⟩ : ByteArray) ++ (⟨#[13, 10]⟩ : ByteArray) = S1 at *
      replace eS := Lib.hid eS
      clear m0 m1 m2 m3 m4 m5
      have q0 : (9223372036854775807 < 16 + D.size) = False := eq_false (by omega)
      have q1 : (9223372036854775807 < 16 + D.size + 2) = False := eq_false (by omega)
      have q2 : (9223372036854775807 < S1.size + (16 + D.size + 2)) = False := eq_false (by omega)
      have q3 : (9223372036854775807 < S1.size + (16 + D.size + 2) + 2) = False := eq_false (by omega)
      have q4 : (9223372036854775807 < S1.size + (16 + D.size + 2) + 2 + a3.size) = False := eq_false (by omega)
      go_wp2_with (first | (go_at_call 24; go_must (refine hI.out.mono ?_; rintro e w2 ⟨rfl, hb2⟩)))
      go_ret
      exact ⟨by rw [eS.out, hr.out]; rfl, hb2⟩
    · have hr : reqOf (a0 ++ (⟨#[32]⟩ : ByteArray) ++ a1 ++ (⟨#[32, 72, 84, 84, 80, 47, 49, 46, 49]⟩ : ByteArray) ++ (⟨#[13, 10]⟩ : ByteArray) ++ (⟨#[72, 111, 115, 116, 58, 32, 97, 116, 114, 105, 117, 109]⟩ : ByteArray) ++ (⟨#[13, 10]⟩ : ByteArray)) a2 a3 D = (a0 ++ (⟨#[32]⟩ : ByteArray) ++ a1 ++ (⟨#[32, 72, 84, 84, 80, 47, 49, 46, 49]⟩ : ByteArray) ++ (⟨#[13, 10]⟩ : ByteArray) ++ (⟨#[72, 111, 115, 116, 58, 32, 97, 116, 114, 105, 117, 109]⟩ : ByteArray) ++ (⟨#[13, 10]⟩ : ByteArray)) ++ (⟨#[13, 10]⟩ : ByteArray) ++ a3 := by simp only [reqOf, h2, h3]; rfl
      replace hr := Lib.hid hr
      have g2 : (a2.toList == ([] : List UInt8)) = true := by simpa using h2
      have g3 : (a3.toList == ([] : List UInt8)) = true := by simpa using h3
      have g2b : (a2.toList != ([] : List UInt8)) = false := by rw [bne, g2]; rfl
      have g3b : (a3.toList != ([] : List UInt8)) = false := by rw [bne, g3]; rfl
      go_enter Tryd.func10, Tryd.ntmps10
      go_upto_region 2 with (fail)
      generalize eS : a0 ++ (⟨#[32]⟩ : ByteArray) ++ a1 ++ (⟨#[32, 72, 84, 84, 80, 47, 49, 46, 49]⟩ : ByteArray) ++ (⟨#[13, 10]⟩ : ByteArray) ++ (⟨#[72, 111, 115, 116, 58, 32, 97, 116, 114, 105, 117, 109]⟩ : ByteArray) ++ (⟨#[13, 10]⟩ : ByteArray) = S1 at *
      replace eS := Lib.hid eS
      clear m0 m1 m2 m3 m4 m5
      have q0 : (9223372036854775807 < S1.size + 2) = False := eq_false (by omega)
      have q1 : (9223372036854775807 < S1.size + 2 + a3.size) = False := eq_false (by omega)
      go_wp2
      go_ret
      exact ⟨by rw [eS.out, hr.out]; rfl, Below.refl _ _⟩
set_option maxHeartbeats 1000000 in
set_option maxRecDepth 100000 in
theorem rrequest_any (a0 a1 a2 a3 : ByteArray) (z0 : a0.size ≤ 1048576) (z1 : a1.size ≤ 1048576) (z2 : a2.size ≤ 1048576) (z3 : a3.size ≤ 1048576) (w : World) (ht : Tab w) :
    Calls Tryd.prog 11 #[.string a0, .string a1, .string a2, .string a3] w fun e w' => e = .returned (.string (reqOf (a0 ++ (⟨#[32]⟩ : ByteArray) ++ a1 ++ (⟨#[32, 72, 84, 84, 80, 47, 49, 46, 49, 13, 10, 72, 111, 115, 116, 58, 32, 97, 116, 114, 105, 117, 109, 13, 10]⟩ : ByteArray)) a2 a3 (B (Lib.itoa (a3.size : Nat))))) ∧ Below w.heap.size w w' := by
  have hI := atriumref28_Number.calls 21 (a3.size : Nat) _ w (number_f a3.size (by omega))
  have hD : (B (Lib.itoa (a3.size : Nat))).size ≤ 21 := by rw [B_size]; exact Lib.itoa_length_le _ (by omega) (by omega)
  have hS1 : (a0 ++ (⟨#[32]⟩ : ByteArray) ++ a1 ++ (⟨#[32, 72, 84, 84, 80, 47, 49, 46, 49, 13, 10, 72, 111, 115, 116, 58, 32, 97, 116, 114, 105, 117, 109, 13, 10]⟩ : ByteArray)).size ≤ 2097252 := by
    simp only [ByteArray.size_append]
    have e0 : (⟨#[32]⟩ : ByteArray).size = 1 := rfl
    have e1 : (⟨#[32, 72, 84, 84, 80, 47, 49, 46, 49, 13, 10, 72, 111, 115, 116, 58, 32, 97, 116, 114, 105, 117, 109, 13, 10]⟩ : ByteArray).size = 25 := rfl
    omega
  have m0 : (9223372036854775807 < a0.size + 1) = False := eq_false (by omega)
  have m1 : (9223372036854775807 < a0.size + 1 + a1.size) = False := eq_false (by omega)
  have m2 : (9223372036854775807 < a0.size + 1 + a1.size + 25) = False := eq_false (by omega)
  obtain ⟨D, hDe⟩ : ∃ D, B (Lib.itoa (a3.size : Nat)) = D := ⟨_, rfl⟩
  rw [hDe] at hI hD ⊢
  replace hI := Lib.hid hI
  clear hDe
  cases h2 : a2.toList.isEmpty
  · cases h3 : a3.toList.isEmpty
    · have hr : reqOf (a0 ++ (⟨#[32]⟩ : ByteArray) ++ a1 ++ (⟨#[32, 72, 84, 84, 80, 47, 49, 46, 49, 13, 10, 72, 111, 115, 116, 58, 32, 97, 116, 114, 105, 117, 109, 13, 10]⟩ : ByteArray)) a2 a3 D = (((a0 ++ (⟨#[32]⟩ : ByteArray) ++ a1 ++ (⟨#[32, 72, 84, 84, 80, 47, 49, 46, 49, 13, 10, 72, 111, 115, 116, 58, 32, 97, 116, 114, 105, 117, 109, 13, 10]⟩ : ByteArray)) ++ ((⟨#[65, 117, 116, 104, 111, 114, 105, 122, 97, 116, 105, 111, 110, 58, 32, 66, 101, 97, 114, 101, 114, 32]⟩ : ByteArray) ++ a2 ++ (⟨#[13, 10]⟩ : ByteArray))) ++ ((⟨#[67, 111, 110, 116, 101, 110, 116, 45, 76, 101, 110, 103, 116, 104, 58, 32]⟩ : ByteArray) ++ D ++ (⟨#[13, 10]⟩ : ByteArray))) ++ (⟨#[13, 10]⟩ : ByteArray) ++ a3 := by simp only [reqOf, h2, h3]; rfl
      replace hr := Lib.hid hr
      have g2 : (a2.toList == ([] : List UInt8)) = false := by simpa using h2
      have g3 : (a3.toList == ([] : List UInt8)) = false := by simpa using h3
      have g2b : (a2.toList != ([] : List UInt8)) = true := by rw [bne, g2]; rfl
      have g3b : (a3.toList != ([] : List UInt8)) = true := by rw [bne, g3]; rfl
      go_enter Tryd.func11, Tryd.ntmps11
      go_upto_region 2 with (fail)
      generalize eS : a0 ++ (⟨#[32]⟩ : ByteArray) ++ a1 ++ (⟨#[32, 72, 84, 84, 80, 47, 49, 46, 49, 13, 10, 72, 111, 115, 116, 58, 32, 97, 116, 114, 105, 117, 109, 13, 10]⟩ : ByteArray) = S1 at *
      replace eS := Lib.hid eS
      clear m0 m1 m2 
      have q0 : (9223372036854775807 < 22 + a2.size) = False := eq_false (by omega)
      have q1 : (9223372036854775807 < 22 + a2.size + 2) = False := eq_false (by omega)
      have q2 : (9223372036854775807 < S1.size + (22 + a2.size + 2)) = False := eq_false (by omega)
      have q3 : (9223372036854775807 < 16 + D.size) = False := eq_false (by omega)
      have q4 : (9223372036854775807 < 16 + D.size + 2) = False := eq_false (by omega)
      have q5 : (9223372036854775807 < S1.size + (22 + a2.size + 2) + (16 + D.size + 2)) = False := eq_false (by omega)
      have q6 : (9223372036854775807 < S1.size + (22 + a2.size + 2) + (16 + D.size + 2) + 2) = False := eq_false (by omega)
      have q7 : (9223372036854775807 < S1.size + (22 + a2.size + 2) + (16 + D.size + 2) + 2 + a3.size) = False := eq_false (by omega)
      go_wp2_with (first | (go_at_call 25; go_must (refine hI.out.mono ?_; rintro e w2 ⟨rfl, hb2⟩)))
      go_ret
      exact ⟨by rw [eS.out, hr.out]; rfl, hb2⟩
    · have hr : reqOf (a0 ++ (⟨#[32]⟩ : ByteArray) ++ a1 ++ (⟨#[32, 72, 84, 84, 80, 47, 49, 46, 49, 13, 10, 72, 111, 115, 116, 58, 32, 97, 116, 114, 105, 117, 109, 13, 10]⟩ : ByteArray)) a2 a3 D = ((a0 ++ (⟨#[32]⟩ : ByteArray) ++ a1 ++ (⟨#[32, 72, 84, 84, 80, 47, 49, 46, 49, 13, 10, 72, 111, 115, 116, 58, 32, 97, 116, 114, 105, 117, 109, 13, 10]⟩ : ByteArray)) ++ ((⟨#[65, 117, 116, 104, 111, 114, 105, 122, 97, 116, 105, 111, 110, 58, 32, 66, 101, 97, 114, 101, 114, 32]⟩ : ByteArray) ++ a2 ++ (⟨#[13, 10]⟩ : ByteArray))) ++ (⟨#[13, 10]⟩ : ByteArray) ++ a3 := by simp only [reqOf, h2, h3]; rfl
      replace hr := Lib.hid hr
      have g2 : (a2.toList == ([] : List UInt8)) = false := by simpa using h2
      have g3 : (a3.toList == ([] : List UInt8)) = true := by simpa using h3
      have g2b : (a2.toList != ([] : List UInt8)) = true := by rw [bne, g2]; rfl
      have g3b : (a3.toList != ([] : List UInt8)) = false := by rw [bne, g3]; rfl
      go_enter Tryd.func11, Tryd.ntmps11
      go_upto_region 2 with (fail)
      generalize eS : a0 ++ (⟨#[32]⟩ : ByteArray) ++ a1 ++ (⟨#[32, 72, 84, 84, 80, 47, 49, 46, 49, 13, 10, 72, 111, 115, 116, 58, 32, 97, 116, 114, 105, 117, 109, 13, 10]⟩ : ByteArray) = S1 at *
      replace eS := Lib.hid eS
      clear m0 m1 m2 
      have q0 : (9223372036854775807 < 22 + a2.size) = False := eq_false (by omega)
      have q1 : (9223372036854775807 < 22 + a2.size + 2) = False := eq_false (by omega)
      have q2 : (9223372036854775807 < S1.size + (22 + a2.size + 2)) = False := eq_false (by omega)
      have q3 : (9223372036854775807 < S1.size + (22 + a2.size + 2) + 2) = False := eq_false (by omega)
      have q4 : (9223372036854775807 < S1.size + (22 + a2.size + 2) + 2 + a3.size) = False := eq_false (by omega)
      go_wp2
      go_ret
      exact ⟨by rw [eS.out, hr.out]; rfl, Below.refl _ _⟩
  · cases h3 : a3.toList.isEmpty
    · have hr : reqOf (a0 ++ (⟨#[32]⟩ : ByteArray) ++ a1 ++ (⟨#[32, 72, 84, 84, 80, 47, 49, 46, 49, 13, 10, 72, 111, 115, 116, 58, 32, 97, 116, 114, 105, 117, 109, 13, 10]⟩ : ByteArray)) a2 a3 D = ((a0 ++ (⟨#[32]⟩ : ByteArray) ++ a1 ++ (⟨#[32, 72, 84, 84, 80, 47, 49, 46, 49, 13, 10, 72, 111, 115, 116, 58, 32, 97, 116, 114, 105, 117, 109, 13, 10]⟩ : ByteArray)) ++ ((⟨#[67, 111, 110, 116, 101, 110, 116, 45, 76, 101, 110, 103, 116, 104, 58, 32]⟩ : ByteArray) ++ D ++ (⟨#[13, 10]⟩ : ByteArray))) ++ (⟨#[13, 10]⟩ : ByteArray) ++ a3 := by simp only [reqOf, h2, h3]; rfl
      replace hr := Lib.hid hr
      have g2 : (a2.toList == ([] : List UInt8)) = true := by simpa using h2
      have g3 : (a3.toList == ([] : List UInt8)) = false := by simpa using h3
      have g2b : (a2.toList != ([] : List UInt8)) = false := by rw [bne, g2]; rfl
      have g3b : (a3.toList != ([] : List UInt8)) = true := by rw [bne, g3]; rfl
      go_enter Tryd.func11, Tryd.ntmps11
      go_upto_region 2 with (fail)
      generalize eS : a0 ++ (⟨#[32]⟩ : ByteArray) ++ a1 ++ (⟨#[32, 72, 84, 84, 80, 47, 49, 46, 49, 13, 10, 72, 111, 115, 116, 58, 32, 97, 116, 114, 105, 117, 109, 13, 10]⟩ : ByteArray) = S1 at *
      replace eS := Lib.hid eS
      clear m0 m1 m2 
      have q0 : (9223372036854775807 < 16 + D.size) = False := eq_false (by omega)
      have q1 : (9223372036854775807 < 16 + D.size + 2) = False := eq_false (by omega)
      have q2 : (9223372036854775807 < S1.size + (16 + D.size + 2)) = False := eq_false (by omega)
      have q3 : (9223372036854775807 < S1.size + (16 + D.size + 2) + 2) = False := eq_false (by omega)
      have q4 : (9223372036854775807 < S1.size + (16 + D.size + 2) + 2 + a3.size) = False := eq_false (by omega)
      go_wp2_with (first | (go_at_call 25; go_must (refine hI.out.mono ?_; rintro e w2 ⟨rfl, hb2⟩)))
      go_ret
      exact ⟨by rw [eS.out, hr.out]; rfl, hb2⟩
    · have hr : reqOf (a0 ++ (⟨#[32]⟩ : ByteArray) ++ a1 ++ (⟨#[32, 72, 84, 84, 80, 47, 49, 46, 49, 13, 10, 72, 111, 115, 116, 58, 32, 97, 116, 114, 105, 117, 109, 13, 10]⟩ : ByteArray)) a2 a3 D = (a0 ++ (⟨#[32]⟩ : ByteArray) ++ a1 ++ (⟨#[32, 72, 84, 84, 80, 47, 49, 46, 49, 13, 10, 72, 111, 115, 116, 58, 32, 97, 116, 114, 105, 117, 109, 13, 10]⟩ : ByteArray)) ++ (⟨#[13, 10]⟩ : ByteArray) ++ a3 := by simp only [reqOf, h2, h3]; rfl
      replace hr := Lib.hid hr
      have g2 : (a2.toList == ([] : List UInt8)) = true := by simpa using h2
      have g3 : (a3.toList == ([] : List UInt8)) = true := by simpa using h3
      have g2b : (a2.toList != ([] : List UInt8)) = false := by rw [bne, g2]; rfl
      have g3b : (a3.toList != ([] : List UInt8)) = false := by rw [bne, g3]; rfl
      go_enter Tryd.func11, Tryd.ntmps11
      go_upto_region 2 with (fail)
      generalize eS : a0 ++ (⟨#[32]⟩ : ByteArray) ++ a1 ++ (⟨#[32, 72, 84, 84, 80, 47, 49, 46, 49, 13, 10, 72, 111, 115, 116, 58, 32, 97, 116, 114, 105, 117, 109, 13, 10]⟩ : ByteArray) = S1 at *
      replace eS := Lib.hid eS
      clear m0 m1 m2 
      have q0 : (9223372036854775807 < S1.size + 2) = False := eq_false (by omega)
      have q1 : (9223372036854775807 < S1.size + 2 + a3.size) = False := eq_false (by omega)
      go_wp2
      go_ret
      exact ⟨by rw [eS.out, hr.out]; rfl, Below.refl _ _⟩
theorem s1_same (a0 a1 : ByteArray) : a0 ++ (⟨#[32]⟩ : ByteArray) ++ a1 ++ (⟨#[32, 72, 84, 84, 80, 47, 49, 46, 49]⟩ : ByteArray) ++ (⟨#[13, 10]⟩ : ByteArray) ++ (⟨#[72, 111, 115, 116, 58, 32, 97, 116, 114, 105, 117, 109]⟩ : ByteArray) ++ (⟨#[13, 10]⟩ : ByteArray) = a0 ++ (⟨#[32]⟩ : ByteArray) ++ a1 ++ (⟨#[32, 72, 84, 84, 80, 47, 49, 46, 49, 13, 10, 72, 111, 115, 116, 58, 32, 97, 116, 114, 105, 117, 109, 13, 10]⟩ : ByteArray) := by
  rw [ByteArray.append_assoc, ByteArray.append_assoc, ByteArray.append_assoc]
  rfl
set_option maxHeartbeats 1000000 in
set_option maxRecDepth 100000 in
theorem requests_walk (W : World) (ht : Tab W) (a0 : ByteArray) (z0 : a0.size ≤ 1048576) (a1 : ByteArray) (z1 : a1.size ≤ 1048576) (a2 : ByteArray) (z2 : a2.size ≤ 1048576) (a3 : ByteArray) (z3 : a3.size ≤ 1048576) :
    Calls Tryd.prog 5 #[.string a0, .string a1, .string a2, .string a3] W fun e w' => e = .returned (.bool true) ∧ Below W.heap.size W w' := by
  have hA := Lib.hid (awake_any W ht)
  have hP := Lib.hid (fun w (hb : Below W.heap.size W w) => request_any a0 a1 a2 a3 z0 z1 z2 z3 w (ht.below hb))
  have hR := Lib.hid (fun w (hb : Below W.heap.size W w) => rrequest_any a0 a1 a2 a3 z0 z1 z2 z3 w (ht.below hb))
  rw [← s1_same] at hR
  generalize reqOf (a0 ++ (⟨#[32]⟩ : ByteArray) ++ a1 ++ (⟨#[32, 72, 84, 84, 80, 47, 49, 46, 49]⟩ : ByteArray) ++ (⟨#[13, 10]⟩ : ByteArray) ++ (⟨#[72, 111, 115, 116, 58, 32, 97, 116, 114, 105, 117, 109]⟩ : ByteArray) ++ (⟨#[13, 10]⟩ : ByteArray)) a2 a3 (B (Lib.itoa (a3.size : Nat))) = X at *
  go_enter Tryd.func5, Tryd.ntmps5
  go_wp2_with (first  | (go_at_call 8; go_must (refine hA.out.mono ?_; rintro e w1 ⟨rfl, hb1⟩; have hb := Lib.hid hb1; clear hb1))  | (go_at_call 10; go_must (refine (hP.out _ hb.out).mono ?_; rintro e w2 ⟨rfl, hb1⟩; replace hb := Lib.hid (hb.out.trans (hb1.mono hb.out.size)); clear hb1))  | (go_at_call 11; go_must (refine (hR.out _ hb.out).mono ?_; rintro e w3 ⟨rfl, hb1⟩; replace hb := Lib.hid (hb.out.trans (hb1.mono hb.out.size)); clear hb1)))
  go_ret
  exact ⟨rfl, hb.out⟩
end Go.Proofs.YtigcgpbdifihoaaDoor
