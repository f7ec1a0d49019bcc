/-
  Plain facts about the check sum: what one bit's and one byte's step do, as numbers.
-/
import Derived.Laws.BitsAllLaws
namespace Go.Proofs.YtmchephokleffaaGreatDoor
/-- One bit of the check sum. -/
def crcBit (c : Nat) : Nat := (c / 2) ^^^ (if c % 2 = 1 then 2197175160 else 0)
/-- n bits. -/
def crcBits : Nat → Nat → Nat
  | 0, c => c
  | n + 1, c => crcBits n (crcBit c)
def crcByte (c : Nat) (b : UInt8) : Nat := crcBits 8 (c ^^^ b.toNat)
def crcRun (c : Nat) (l : List UInt8) : Nat := l.foldl crcByte c
def crc (l : List UInt8) : Nat := crcRun 4294967295 l ^^^ 4294967295

theorem xor_lt32 {a b : Nat} (ha : a < 4294967296) (hb : b < 4294967296) : a ^^^ b < 4294967296 := Nat.xor_lt_two_pow (n := 32) ha hb
theorem crcBit_lt {c : Nat} (h : c < 4294967296) : crcBit c < 4294967296 := by
  unfold crcBit
  refine xor_lt32 (by omega) ?_
  split <;> omega
theorem crcBits_lt : ∀ n {c : Nat}, c < 4294967296 → crcBits n c < 4294967296
  | 0, _, h => h
  | n + 1, _, h => crcBits_lt n (crcBit_lt h)
theorem crcByte_lt {c : Nat} (b : UInt8) (h : c < 4294967296) : crcByte c b < 4294967296 :=
  crcBits_lt 8 (xor_lt32 h (by have := b.toNat_lt; omega))
theorem crcRun_lt : ∀ (l : List UInt8) {c : Nat}, c < 4294967296 → crcRun c l < 4294967296
  | [], _, h => h
  | b :: l, _, h => crcRun_lt l (crcByte_lt b h)
theorem crc_lt (l : List UInt8) : crc l < 4294967296 := xor_lt32 (crcRun_lt l (by omega)) (by omega)
theorem crcBits_succ (n c : Nat) : crcBits (n + 1) c = crcBit (crcBits n c) := by
  induction n generalizing c with
  | zero => rfl
  | succ n ih => rw [crcBits, ih]; rfl
theorem crcRun_snoc (c : Nat) (l : List UInt8) (b : UInt8) : crcRun c (l ++ [b]) = crcByte (crcRun c l) b := by simp [crcRun]
end Go.Proofs.YtmchephokleffaaGreatDoor
