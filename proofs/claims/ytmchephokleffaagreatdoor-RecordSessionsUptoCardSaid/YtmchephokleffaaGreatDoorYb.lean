/-
  UTF-8, plain: the reference's way (try one to four bytes; code the number again) is the model's decode.
-/
import Derived.Lib.DecodeN
set_option linter.unusedVariables false
set_option linter.unusedSimpArgs false
namespace Go.Proofs.YtmchephokleffaaGreatDoor.U8
def isR (n : Int) : Prop := 0 ≤ n ∧ n ≤ 1114111 ∧ (n < 55296 ∨ 57343 < n)
def bytesR (n : Nat) : List Nat :=
  if n < 128 then [n] else if n < 2048 then [192 + n / 64, 128 + n % 64] else if n < 65536 then [224 + n / 4096, 128 + n / 64 % 64, 128 + n % 64] else [240 + n / 262144, 128 + n / 4096 % 64, 128 + n / 64 % 64, 128 + n % 64]
theorem t1 (b0 : Nat) (h0 : b0 < 256) : (isR (b0 : Int) ∧ bytesR b0 = [b0]) ↔ b0 < 128 := by
  unfold isR bytesR
  constructor
  · rintro ⟨_, h⟩
    split at h
    · assumption
    · split at h
      · simp at h
      · omega
  · intro h
    rw [if_pos h]
    exact ⟨by omega, rfl⟩
theorem t2 (b0 b1 : Nat) (h0 : b0 < 256) (h1 : b1 < 256) (n : Int) (hn : n = ((b0 : Int) - 192) * 64 + (b1 : Int) - 128) :
    (isR n ∧ bytesR n.toNat = [b0, b1]) ↔ (b0 / 32 = 6 ∧ b1 / 64 = 2 ∧ 128 ≤ b0 % 32 * 64 + b1 % 64) := by
  unfold isR bytesR
  constructor
  · rintro ⟨⟨g1, g2, g3⟩, h⟩
    obtain ⟨m, rfl⟩ := Int.eq_ofNat_of_zero_le g1
    simp only [Int.toNat_natCast] at h
    split at h
    · simp at h
    · split at h
      · simp only [List.cons.injEq, and_true] at h
        omega
      · split at h <;> simp at h
  · rintro ⟨g1, g2, g3⟩
    have e : n = ((b0 % 32 * 64 + b1 % 64 : Nat) : Int) := by omega
    rw [e]
    simp only [Int.toNat_natCast]
    rw [if_neg (by omega), if_pos (by omega)]
    simp only [List.cons.injEq, and_true]
    omega
theorem t3 (b0 b1 b2 : Nat) (h0 : b0 < 256) (h1 : b1 < 256) (h2 : b2 < 256) (n : Int) (hn : n = ((b0 : Int) - 224) * 4096 + ((b1 : Int) - 128) * 64 + (b2 : Int) - 128) :
    (isR n ∧ bytesR n.toNat = [b0, b1, b2]) ↔ (b0 / 16 = 14 ∧ b1 / 64 = 2 ∧ b2 / 64 = 2 ∧ 2048 ≤ b0 % 16 * 4096 + b1 % 64 * 64 + b2 % 64 ∧ (b0 % 16 * 4096 + b1 % 64 * 64 + b2 % 64 < 55296 ∨ (57344 ≤ b0 % 16 * 4096 + b1 % 64 * 64 + b2 % 64 ∧ b0 % 16 * 4096 + b1 % 64 * 64 + b2 % 64 ≤ 1114111))) := by
  unfold isR bytesR
  constructor
  · rintro ⟨⟨g1, g2, g3⟩, h⟩
    obtain ⟨m, rfl⟩ := Int.eq_ofNat_of_zero_le g1
    simp only [Int.toNat_natCast] at h
    split at h
    · simp at h
    · split at h
      · simp at h
      · split at h
        · simp only [List.cons.injEq, and_true] at h
          omega
        · simp at h
  · rintro ⟨g1, g2, g3, g4, g5⟩
    have e : n = ((b0 % 16 * 4096 + b1 % 64 * 64 + b2 % 64 : Nat) : Int) := by omega
    rw [e]
    simp only [Int.toNat_natCast]
    rw [if_neg (by omega), if_neg (by omega), if_pos (by omega)]
    simp only [List.cons.injEq, and_true]
    omega
theorem t4 (b0 b1 b2 b3 : Nat) (h0 : b0 < 256) (h1 : b1 < 256) (h2 : b2 < 256) (h3 : b3 < 256) (n : Int) (hn : n = ((b0 : Int) - 240) * 262144 + ((b1 : Int) - 128) * 4096 + ((b2 : Int) - 128) * 64 + (b3 : Int) - 128) :
    (isR n ∧ bytesR n.toNat = [b0, b1, b2, b3]) ↔ (b0 / 8 = 30 ∧ b1 / 64 = 2 ∧ b2 / 64 = 2 ∧ b3 / 64 = 2 ∧ 65536 ≤ b0 % 8 * 262144 + b1 % 64 * 4096 + b2 % 64 * 64 + b3 % 64 ∧ (b0 % 8 * 262144 + b1 % 64 * 4096 + b2 % 64 * 64 + b3 % 64 < 55296 ∨ (57344 ≤ b0 % 8 * 262144 + b1 % 64 * 4096 + b2 % 64 * 64 + b3 % 64 ∧ b0 % 8 * 262144 + b1 % 64 * 4096 + b2 % 64 * 64 + b3 % 64 ≤ 1114111))) := by
  unfold isR bytesR
  constructor
  · rintro ⟨⟨g1, g2, g3⟩, h⟩
    obtain ⟨m, rfl⟩ := Int.eq_ofNat_of_zero_le g1
    simp only [Int.toNat_natCast] at h
    split at h
    · simp at h
    · split at h
      · simp at h
      · split at h
        · simp at h
        · simp only [List.cons.injEq, and_true] at h
          omega
  · rintro ⟨g1, g2, g3, g4, g5, g6⟩
    have e : n = ((b0 % 8 * 262144 + b1 % 64 * 4096 + b2 % 64 * 64 + b3 % 64 : Nat) : Int) := by omega
    rw [e]
    simp only [Int.toNat_natCast]
    rw [if_neg (by omega), if_neg (by omega), if_neg (by omega)]
    simp only [List.cons.injEq, and_true]
    omega
instance (n : Int) : Decidable (isR n) := by unfold isR; infer_instance
/-- The reference's way, at n bytes that begin b0 b1 b2 b3. -/
def rdN (n b0 b1 b2 b3 : Nat) : Nat × Nat :=
  if isR (b0 : Int) ∧ bytesR b0 = [b0] then (b0, 1)
  else if 2 ≤ n ∧ isR (((b0 : Int) - 192) * 64 + (b1 : Int) - 128) ∧ bytesR (((b0 : Int) - 192) * 64 + (b1 : Int) - 128).toNat = [b0, b1] then ((((b0 : Int) - 192) * 64 + (b1 : Int) - 128).toNat, 2)
  else if 3 ≤ n ∧ isR (((b0 : Int) - 224) * 4096 + ((b1 : Int) - 128) * 64 + (b2 : Int) - 128) ∧ bytesR (((b0 : Int) - 224) * 4096 + ((b1 : Int) - 128) * 64 + (b2 : Int) - 128).toNat = [b0, b1, b2] then ((((b0 : Int) - 224) * 4096 + ((b1 : Int) - 128) * 64 + (b2 : Int) - 128).toNat, 3)
  else if 4 ≤ n ∧ isR (((b0 : Int) - 240) * 262144 + ((b1 : Int) - 128) * 4096 + ((b2 : Int) - 128) * 64 + (b3 : Int) - 128) ∧ bytesR (((b0 : Int) - 240) * 262144 + ((b1 : Int) - 128) * 4096 + ((b2 : Int) - 128) * 64 + (b3 : Int) - 128).toNat = [b0, b1, b2, b3] then ((((b0 : Int) - 240) * 262144 + ((b1 : Int) - 128) * 4096 + ((b2 : Int) - 128) * 64 + (b3 : Int) - 128).toNat, 4)
  else (65533, 1)
set_option maxRecDepth 100000 in
set_option maxHeartbeats 4000000 in
theorem rdN_is (n b0 b1 b2 b3 : Nat) (h0 : b0 < 256) (h1 : b1 < 256) (h2 : b2 < 256) (h3 : b3 < 256) : rdN n b0 b1 b2 b3 = Lib.decodeN n b0 b1 b2 b3 := by
  unfold rdN
  simp only [t1 b0 h0, t2 b0 b1 h0 h1 _ rfl, t3 b0 b1 b2 h0 h1 h2 _ rfl, t4 b0 b1 b2 b3 h0 h1 h2 h3 _ rfl]
  unfold Lib.decodeN
  repeat' split
  all_goals first | rfl | (exfalso; omega) | (apply Prod.ext <;> simp only <;> omega)
end Go.Proofs.YtmchephokleffaaGreatDoor.U8
