/-
  Names of files, plain: six digits or more, read back.
-/
import Derived.Lib.ItoaMem
import Derived.Lib.AtoiAllCases
set_option linter.unusedVariables false
set_option linter.unusedSimpArgs false
namespace Go.Proofs.YtlmlkamgpmnmgaaDoor
open Go Go.Lib
def pad6 (n : Nat) : List UInt8 := List.replicate (6 - (decDigits n).length) 48 ++ decDigits n
theorem decDigits_step {n : Nat} (h : ¬ n < 10) : decDigits n = decDigits (n / 10) ++ [UInt8.ofNat (48 + n % 10)] := by rw [decDigits, dif_neg h]
theorem dig_toNat {d : Nat} (h : d < 10) : (UInt8.ofNat (48 + d)).toNat = 48 + d := by
  rw [UInt8.toNat_ofNat']
  omega
theorem dec_digit : ∀ (n : Nat) (c : UInt8), c ∈ decDigits n → 48 ≤ c.toNat ∧ c.toNat ≤ 57 := by
  intro n
  induction n using Nat.strongRecOn with
  | _ n ih =>
    intro c hc
    by_cases h : n < 10
    · rw [decDigits_one h] at hc
      rw [List.mem_singleton.1 hc, dig_toNat h]
      omega
    · rw [decDigits_step h] at hc
      rcases List.mem_append.1 hc with hc | hc
      · exact ih (n / 10) (by omega) c hc
      · rw [List.mem_singleton.1 hc, dig_toNat (by omega)]
        omega
theorem dec_pos (n : Nat) : 1 ≤ (decDigits n).length := by
  by_cases h : n < 10
  · rw [decDigits_one h]
    simp
  · rw [decDigits_step h]
    simp
theorem pad_digit (n : Nat) (c : UInt8) (h : c ∈ pad6 n) : 48 ≤ c.toNat ∧ c.toNat ≤ 57 := by
  rcases List.mem_append.1 h with h | h
  · rw [List.eq_of_mem_replicate h]
    decide
  · exact dec_digit n c h
theorem parse_zeros (l : List UInt8) : ∀ (k : Nat), parseUint10 0 (List.replicate k 48 ++ l) = parseUint10 0 l
  | 0 => by rw [List.replicate_zero, List.nil_append]
  | k + 1 => by
    rw [List.replicate_succ, List.cons_append, parseUint10, if_pos (by decide), if_neg (by decide), if_neg (by decide)]
    exact parse_zeros l k
theorem parse_snoc (c : UInt8) (hc : 48 ≤ c.toNat ∧ c.toNat ≤ 57) : ∀ (l : List UInt8) (acc u : Nat), parseUint10 acc l = .ok u → u < 1000000000000000000 → parseUint10 acc (l ++ [c]) = .ok (u * 10 + (c.toNat - 48))
  | [], acc, u, h, hu => by
    rw [parseUint10] at h
    injection h with h
    subst h
    rw [List.nil_append, parseUint10, if_pos hc, if_neg (by omega), if_neg (by omega), parseUint10]
  | x :: r, acc, u, h, hu => by
    rw [parseUint10] at h
    rw [List.cons_append, parseUint10]
    split at h
    · next hx =>
      rw [if_pos hx]
      split at h
      · cases h
      · next h1 =>
        rw [if_neg h1]
        split at h
        · cases h
        · next h2 =>
          rw [if_neg h2]
          exact parse_snoc c hc r _ u h hu
    · cases h
theorem parse_dec : ∀ (n : Nat), n < 1000000000000000000 → parseUint10 0 (decDigits n) = .ok n := by
  intro n
  induction n using Nat.strongRecOn with
  | _ n ih =>
    intro hn
    by_cases h : n < 10
    · rw [decDigits_one h, parseUint10, dig_toNat h, if_pos (by omega), if_neg (by omega), if_neg (by omega), parseUint10, show 0 * 10 + (48 + n - 48) = n by omega]
    · rw [decDigits_step h, parse_snoc _ (by rw [dig_toNat (by omega)]; omega) _ _ _ (ih (n / 10) (by omega) (by omega)) (by omega), dig_toNat (by omega), show n / 10 * 10 + (48 + n % 10 - 48) = n by omega]
theorem atoi_pad (n : Nat) (hn : n < 1000000000000000000) : atoiAll (pad6 n) = .ok (n : Int) := by
  have hd := pad_digit n
  have hp : parseUint10 0 (pad6 n) = .ok n := by
    unfold pad6
    rw [parse_zeros, parse_dec n hn]
  have hl : 1 ≤ (pad6 n).length := by
    unfold pad6
    rw [List.length_append]
    have := dec_pos n
    omega
  cases hq : pad6 n with
  | nil => rw [hq] at hl; simp at hl
  | cons c r =>
    have hc := hd c (by rw [hq]; exact List.mem_cons_self)
    rw [hq] at hp
    have hm : parseMag (c :: r) = .ok n := by
      unfold parseMag
      rw [if_neg (by simp), hp]
    unfold atoiAll
    simp only [if_neg (show ¬ (c.toNat = 43 ∨ c.toNat = 45) by omega), hm]
    rw [if_neg (by omega), if_neg (by omega), if_neg (by omega)]
theorem pad_inj {m n : Nat} (hm : m < 1000000000000000000) (hn : n < 1000000000000000000) (h : pad6 m = pad6 n) : m = n := by
  have h1 := atoi_pad m hm
  rw [h, atoi_pad n hn] at h1
  injection h1 with h1
  omega
theorem pad_len (n : Nat) (hn : n < 10000000000) : 6 ≤ (pad6 n).length ∧ (pad6 n).length ≤ 10 := by
  unfold pad6
  rw [List.length_append, List.length_replicate]
  have h1 : (decDigits n).length ≤ 10 := by
    rw [decDigits_length]
    by_cases h : n < 10
    · rw [nDigits_small h]; omega
    · have : ∀ (k m : Nat), m < 10 ^ (k + 1) → nDigits m ≤ k + 1 := by
        intro k
        induction k with
        | zero => intro m hm; rw [nDigits_small (by simpa using hm)]; omega
        | succ k ih =>
          intro m hm
          by_cases h2 : m < 10
          · rw [nDigits_small h2]; omega
          · rw [nDigits_big h2]
            have := ih (m / 10) (by rw [Nat.pow_succ] at hm; omega)
            omega
      exact this 9 n (by simpa using hn)
  omega
end Go.Proofs.YtlmlkamgpmnmgaaDoor
