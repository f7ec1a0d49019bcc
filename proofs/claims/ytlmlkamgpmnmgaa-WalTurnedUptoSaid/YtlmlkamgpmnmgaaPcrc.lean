/-
  Plain facts about the check sum: a burst of up to 32 bits is told.
-/
import Derived.Test.YtlmlkamgpmnmgaaBase
set_option linter.unusedVariables false
set_option linter.unusedSimpArgs false
namespace Go.Proofs.Ytlmlkamgpmnmgaa
theorem crcBit_xor (a b : Nat) : crcBit (a ^^^ b) = crcBit a ^^^ crcBit b := by
  unfold crcBit
  have h1 : (a ^^^ b) / 2 = a / 2 ^^^ b / 2 := Nat.xor_div_two
  have h2 : (a ^^^ b) % 2 = 1 ↔ ¬ (a % 2 = 1 ↔ b % 2 = 1) := Nat.xor_mod_two_eq_one
  rw [h1]
  by_cases ha : a % 2 = 1 <;> by_cases hb : b % 2 = 1
  · rw [if_neg (by rw [h2]; simp [ha, hb]), if_pos ha, if_pos hb, Nat.xor_zero]
    rw [Nat.xor_assoc, ← Nat.xor_assoc 2197175160, Nat.xor_comm 2197175160 (b / 2), Nat.xor_assoc (b / 2), Nat.xor_self, Nat.xor_zero]
  · rw [if_pos (by rw [h2]; simp [ha, hb]), if_pos ha, if_neg hb, Nat.xor_zero]
    rw [Nat.xor_assoc, Nat.xor_assoc, Nat.xor_comm (b / 2)]
  · rw [if_pos (by rw [h2]; simp [ha, hb]), if_neg ha, if_pos hb, Nat.xor_zero, Nat.xor_assoc]
  · rw [if_neg (by rw [h2]; simp [ha, hb]), if_neg ha, if_neg hb, Nat.xor_zero, Nat.xor_zero, Nat.xor_zero]
theorem crcBits_xor : ∀ (n a b : Nat), crcBits n (a ^^^ b) = crcBits n a ^^^ crcBits n b
  | 0, _, _ => rfl
  | n + 1, a, b => by
    show crcBits n (crcBit (a ^^^ b)) = crcBits n (crcBit a) ^^^ crcBits n (crcBit b)
    rw [crcBit_xor]
    exact crcBits_xor n _ _
theorem crcBits_add : ∀ (m n c : Nat), crcBits (m + n) c = crcBits n (crcBits m c)
  | 0, n, c => by rw [Nat.zero_add]; rfl
  | m + 1, n, c => by
    rw [Nat.add_right_comm]
    exact crcBits_add m n (crcBit c)
theorem crcBit_two (x : Nat) : crcBit (2 * x) = x := by
  unfold crcBit
  rw [if_neg (by omega), Nat.xor_zero]
  omega
theorem crcBits_shift : ∀ (k x : Nat), crcBits k (x * 2 ^ k) = x
  | 0, x => by simp [crcBits]
  | k + 1, x => by
    show crcBits k (crcBit (x * 2 ^ (k + 1))) = x
    rw [show x * 2 ^ (k + 1) = 2 * (x * 2 ^ k) from by rw [Nat.pow_succ]; rw [Nat.mul_comm 2, Nat.mul_assoc], crcBit_two]
    exact crcBits_shift k x
/-- The number whose bytes these are, the lowest first. -/
def leN : List UInt8 → Nat
  | [] => 0
  | b :: l => b.toNat + 256 * leN l
theorem byte_xor (b x : Nat) (h : b < 256) : b + 256 * x = b ^^^ (256 * x) := by
  apply Nat.eq_of_testBit_eq
  intro i
  rw [Nat.testBit_xor, Nat.add_comm, show 256 = 2 ^ 8 from rfl, Nat.testBit_two_pow_mul_add x (by simpa using h), Nat.testBit_two_pow_mul]
  by_cases hi : i < 8
  · rw [if_pos hi]
    simp [show ¬ 8 ≤ i by omega]
  · rw [if_neg hi]
    have : b.testBit i = false := Nat.testBit_lt_two_pow (Nat.lt_of_lt_of_le h (by
      have : 2 ^ 8 ≤ 2 ^ i := Nat.pow_le_pow_right (by omega) (by omega)
      simpa using this))
    rw [this]
    simp [show 8 ≤ i by omega]
theorem crcRun_le : ∀ (l : List UInt8) (c : Nat), crcRun c l = crcBits (8 * l.length) (c ^^^ leN l)
  | [], c => by simp [crcRun, crcBits, leN]
  | b :: l, c => by
    have hb := b.toNat_lt
    show crcRun (crcBits 8 (c ^^^ b.toNat)) l = _
    rw [crcRun_le l, show 8 * (b :: l).length = 8 + 8 * l.length from by simp; omega, crcBits_add]
    congr 1
    show _ = crcBits 8 (c ^^^ (b.toNat + 256 * leN l))
    rw [byte_xor _ _ (by omega), ← Nat.xor_assoc, show 256 * leN l = leN l * 2 ^ 8 from by omega, crcBits_xor 8 (c ^^^ b.toNat) (leN l * 2 ^ 8), crcBits_shift]
theorem crcBit_ne {x : Nat} (h0 : 0 < x) (h : x < 4294967296) : 0 < crcBit x := by
  rcases Nat.eq_zero_or_pos (crcBit x) with e | e
  · unfold crcBit at e
    by_cases hx : x % 2 = 1
    · rw [if_pos hx] at e
      have e2 := congrArg (· ^^^ 2197175160) e
      simp [Nat.xor_assoc] at e2
      omega
    · rw [if_neg hx, Nat.xor_zero] at e
      omega
  · exact e
theorem crcBits_ne : ∀ (n : Nat) {x : Nat}, 0 < x → x < 4294967296 → 0 < crcBits n x
  | 0, _, h, _ => h
  | n + 1, _, h, h2 => crcBits_ne n (crcBit_ne h h2) (crcBit_lt h2)
theorem burst (n place t : Nat) (h0 : 0 < t) (h : t < 4294967296) (hp : place ≤ n) : 0 < crcBits n (t * 2 ^ place) := by
  rw [show n = place + (n - place) from by omega, crcBits_add, crcBits_shift]
  exact crcBits_ne _ h0 h
/-- A burst of up to 32 bits is told. -/
theorem crc_burst (k : UInt8) (l l2 : List UInt8) (hl : l.length = l2.length) (t place : Nat) (h0 : 0 < t) (h : t < 4294967296) (hp : place ≤ 8 * l.length) (hx : leN l ^^^ leN l2 = t * 2 ^ place) : crc (k :: l2) ≠ crc (k :: l) := by
  intro e
  unfold crc at e
  have e2 : crcRun 4294967295 (k :: l2) = crcRun 4294967295 (k :: l) := by
    have := congrArg (· ^^^ 4294967295) e
    simpa [Nat.xor_assoc] using this
  have e3 : crcRun (crcByte 4294967295 k) l2 = crcRun (crcByte 4294967295 k) l := e2
  rw [crcRun_le, crcRun_le, ← hl, crcBits_xor, crcBits_xor] at e3
  have e4 : crcBits (8 * l.length) (leN l2) = crcBits (8 * l.length) (leN l) := by
    have := congrArg (crcBits (8 * l.length) (crcByte 4294967295 k) ^^^ ·) e3
    simpa [← Nat.xor_assoc] using this
  have hb := burst (8 * l.length) place t h0 h hp
  rw [← hx, crcBits_xor, e4, Nat.xor_self] at hb
  omega
end Go.Proofs.Ytlmlkamgpmnmgaa
