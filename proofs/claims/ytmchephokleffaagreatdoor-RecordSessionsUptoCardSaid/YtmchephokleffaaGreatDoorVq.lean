/-
  Chapter 22: varints: the plain functions, and what the printed ones say of them.
-/
import Derived.Test.YtmchephokleffaaGreatDoorVm
import Derived.IntWalk
import Derived.Laws.BitsAllLaws
import Derived.Test.YtmchephokleffaaGreatDoorQ2
import Derived.Test.YtmchephokleffaaGreatDoorQ3
set_option linter.unusedVariables false
set_option linter.unusedSimpArgs false
namespace Go.Proofs.YtmchephokleffaaGreatDoor
open Go.RowKit Go.Proofs.YtmchephokleffaaGreatDoorW.PrintWords Go.Proofs.YtmchephokleffaaGreatDoorW.PrintMore Go.Proofs.YtmchephokleffaaGreatDoor.PRecord
/-- A number in groups of seven bits, the lowest first. -/
def vrF : Nat → Nat → List UInt8
  | 0, n => [UInt8.ofNat n]
  | k + 1, n => if 128 ≤ n then UInt8.ofNat (n % 128 + 128) :: vrF k (n / 128) else [UInt8.ofNat n]
def vr (n : Nat) : List UInt8 := vrF 9 n
theorem vrF_len : ∀ k n, (vrF k n).length ≤ k + 1 ∧ 1 ≤ (vrF k n).length
  | 0, n => by simp [vrF]
  | k + 1, n => by
    have := vrF_len k (n / 128)
    unfold vrF
    split <;> simp <;> omega
theorem vr_len (n : Nat) : (vr n).length ≤ 10 ∧ 1 ≤ (vr n).length := vrF_len 9 n
/-- What a number's groups at the begin of bytes say: the number, and how many bytes it has. -/
def rvG : Nat → Nat → List UInt8 → Option (Nat × Nat)
  | _, _, [] => none
  | i, acc, c :: r => if i = 9 ∧ c ≠ 1 then none else if c.toNat < 128 then (if c = 0 ∧ 0 < i then none else some (acc + c.toNat % 128 * 128 ^ i, i + 1)) else rvG (i + 1) (acc + c.toNat % 128 * 128 ^ i) r
def rv (l : List UInt8) : Option (Nat × Nat) := rvG 0 0 l
theorem rvG_vrF : ∀ (k i acc n : Nat) (r : List UInt8), i + k = 9 → n * 128 ^ i < 18446744073709551616 → (0 < i → 0 < n) → rvG i acc (vrF k n ++ r) = some (acc + n * 128 ^ i, i + (vrF k n).length)
  | 0, i, acc, n, r, hi, hn, h0 => by
    obtain rfl : i = 9 := by omega
    have h1 : n = 1 := by
      have := h0 (by omega)
      have : n < 2 := by
        rw [show (128 : Nat) ^ 9 = 9223372036854775808 from rfl] at hn
        omega
      omega
    subst h1
    simp [vrF, rvG]
  | k + 1, i, acc, n, r, hi, hn, h0 => by
    by_cases hb : 128 ≤ n
    · have e : vrF (k + 1) n = UInt8.ofNat (n % 128 + 128) :: vrF k (n / 128) := by rw [vrF, if_pos hb]
      have hc : (UInt8.ofNat (n % 128 + 128)).toNat = n % 128 + 128 := by
        simp
        omega
      have ih := rvG_vrF k (i + 1) (acc + n % 128 * 128 ^ i) (n / 128) r (by omega) (by
        rw [Nat.pow_succ, Nat.mul_comm (128 ^ i) 128, ← Nat.mul_assoc]
        exact Nat.lt_of_le_of_lt (Nat.mul_le_mul_right _ (Nat.div_mul_le_self n 128)) hn) (fun _ => by omega)
      rw [e, List.cons_append, rvG, if_neg (by omega), hc, if_neg (by omega), show (n % 128 + 128) % 128 = n % 128 from by omega, ih]
      have e2 : acc + n % 128 * 128 ^ i + n / 128 * 128 ^ (i + 1) = acc + n * 128 ^ i := by
        rw [Nat.pow_succ, Nat.mul_comm (128 ^ i) 128, ← Nat.mul_assoc, Nat.add_assoc, ← Nat.add_mul]
        congr 2
        omega
      rw [e2, List.length_cons]
      congr 2
      omega
    · have e : vrF (k + 1) n = [UInt8.ofNat n] := by rw [vrF, if_neg hb]
      have hc : (UInt8.ofNat n).toNat = n := by
        simp
        omega
      have hz : ¬ (UInt8.ofNat n = 0 ∧ 0 < i) := by
        rintro ⟨h1, h2⟩
        have h3 := congrArg UInt8.toNat h1
        rw [hc] at h3
        have := h0 h2
        simp at h3
        omega
      rw [e, List.cons_append, List.nil_append, rvG, if_neg (by omega), hc, if_pos (by omega), if_neg hz, show n % 128 = n from by omega]
      rfl
theorem rv_vr (n : Nat) (r : List UInt8) (h : n < 18446744073709551616) : rv (vr n ++ r) = some (n, (vr n).length) := by
  have := rvG_vrF 9 0 0 n r (by omega) (by simpa using h) (fun h => by omega)
  simpa [rv, vr] using this
theorem rvG_bound : ∀ (l : List UInt8) (i acc : Nat) {n z : Nat}, i ≤ 9 → acc < 128 ^ i → rvG i acc l = some (n, z) → n < 18446744073709551616 ∧ z ≤ i + l.length ∧ i < z ∧ z ≤ 10
  | [], i, acc, n, z, hi, ha, h => by simp [rvG] at h
  | c :: r, i, acc, n, z, hi, ha, h => by
    rw [rvG] at h
    by_cases h9 : i = 9 ∧ c ≠ 1
    · rw [if_pos h9] at h
      cases h
    · rw [if_neg h9] at h
      by_cases hc : c.toNat < 128
      · rw [if_pos hc] at h
        by_cases hz : c = 0 ∧ 0 < i
        · rw [if_pos hz] at h
          cases h
        · rw [if_neg hz] at h
          simp only [Option.some.injEq, Prod.mk.injEq] at h
          obtain ⟨rfl, rfl⟩ := h
          refine ⟨?_, by simp, by omega, by omega⟩
          by_cases hi9 : i = 9
          · subst hi9
            have : c = 1 := by
              by_cases h1 : c = 1
              · exact h1
              · exact absurd ⟨rfl, h1⟩ h9
            subst this
            rw [show (128 : Nat) ^ 9 = 9223372036854775808 from rfl] at ha ⊢
            simp
            omega
          · have h2 : acc + c.toNat % 128 * 128 ^ i < 128 ^ (i + 1) := by
              rw [Nat.pow_succ]
              have : c.toNat % 128 * 128 ^ i ≤ 127 * 128 ^ i := Nat.mul_le_mul_right _ (by omega)
              omega
            exact Nat.lt_of_lt_of_le h2 (Nat.le_trans (Nat.pow_le_pow_right (by omega) (show i + 1 ≤ 9 by omega)) (by decide))
      · rw [if_neg hc] at h
        have hi8 : i ≠ 9 := by
          intro e
          have : c = 1 := by
            by_cases h1 : c = 1
            · exact h1
            · exact absurd ⟨e, h1⟩ h9
          rw [this] at hc
          exact hc (by decide)
        have h2 : acc + c.toNat % 128 * 128 ^ i < 128 ^ (i + 1) := by
          rw [Nat.pow_succ]
          have : c.toNat % 128 * 128 ^ i ≤ 127 * 128 ^ i := Nat.mul_le_mul_right _ (by omega)
          omega
        have ih := rvG_bound r (i + 1) _ (by omega) h2 h
        simp only [List.length_cons]
        omega
set_option maxRecDepth 100000 in
theorem or128 (n : Nat) : Go.bits .or .u8 ((n : Int) % 256) 128 = ((n % 128 + 128 : Nat) : Int) := by
  have h : ∀ m : Fin 256, m.val ||| 128 = m.val % 128 + 128 := by decide
  have h2 := h ⟨n % 256, by omega⟩
  simp only at h2
  rw [show (n : Int) % 256 = ((n % 256 : Nat) : Int) from by omega, show (128 : Int) = ((128 : Nat) : Int) from rfl, u8_or_nat _ _ (by omega) (by omega), h2, show n % 256 % 128 = n % 128 from by omega]
theorem and127 (c : UInt8) : Go.bits .and .u8 (c.toNat : Int) 127 = ((c.toNat % 128 : Nat) : Int) := by
  rw [show (127 : Int) = ((127 : Nat) : Int) from rfl, u8_and_nat _ _ c.toNat_lt (by omega)]
  congr 1
  exact Nat.and_two_pow_sub_one_eq_mod c.toNat 7
theorem row_of_R {w : World} {B : Nat} {v : Value} {l : List UInt8} (h : Kd.R (Kd.int .u8) 5 w B (fun _ => True) v (bi l)) : Row w B v l := by
  obtain ⟨_, inner, h1, h2, h3⟩ := h
  have hl : inner.length = (bi l).length := by rw [h2]; exact Nat.mul_one _
  have he : inner = nums .u8 (bi l) := by
    apply List.ext_getElem
    · rw [hl]
      simp [nums]
    · intro j hj1 hj2
      have hj : j < (bi l).length := by omega
      have h4 := h3 j ((bi l)[j]) (List.getElem?_eq_getElem hj)
      have h5 : (inner.drop (j * 1)).take 1 = [Value.int .u8 ((bi l)[j])] := h4
      rw [Nat.mul_one] at h5
      have h6 := congrArg (fun x => x[0]?) h5
      simp only [List.getElem?_take, List.getElem?_drop, Nat.add_zero, List.getElem?_cons_zero] at h6
      rw [if_pos (by omega), List.getElem?_eq_getElem hj1] at h6
      injection h6 with h6
      rw [h6]
      simp [nums]
  subst he
  exact Row.of h1 rfl
theorem cv_l0 : ∀ (k n : Nat) (acc : List Int), n < 128 ^ (k + 1) → acc.length + k ≤ 1000 → codec_varint.l0 (k + 1) (n : Int) acc = some (acc ++ bi (vrF k n))
  | 0, n, acc, hn, ha => by
    rw [show (128 : Nat) ^ (0 + 1) = 128 from rfl] at hn
    rw [codec_varint.l0, if_neg (by omega), if_pos (by omega)]
    simp [vrF, bi]
  | k + 1, n, acc, hn, ha => by
    by_cases hb : 128 ≤ n
    · have hd : n / 128 < 128 ^ (k + 1) := by
        rw [Nat.pow_succ] at hn
        exact Nat.div_lt_of_lt_mul (by rw [Nat.mul_comm]; exact hn)
      have e1 : ((n : Int) / 128) = ((n / 128 : Nat) : Int) := by omega
      rw [codec_varint.l0, if_pos (by omega), if_pos (by omega), or128, e1, cv_l0 k (n / 128) _ hd (by simp; omega), show vrF (k + 1) n = UInt8.ofNat (n % 128 + 128) :: vrF k (n / 128) from by rw [vrF, if_pos hb]]
      simp only [bi, List.map_cons, List.append_assoc, List.singleton_append]
      congr 3
      simp
      omega
    · rw [codec_varint.l0, if_neg (by omega), if_pos (by omega), show vrF (k + 1) n = [UInt8.ofNat n] from by rw [vrF, if_neg hb]]
      simp [bi]
theorem cv_any (n : Nat) (hn : n < 18446744073709551616) (w : World) :
    Calls Tryz.prog 109 #[.int .u64 (n : Int)] w fun e w' => ∃ v, e = .returned v ∧ Row w' w.heap.size v (vr n) ∧ Below w.heap.size w w' := by
  refine (codec_varint.calls 10 (n : Int) (bi (vr n)) w ?_).mono ?_
  · unfold codec_varint.f
    have := cv_l0 9 n [] (Nat.lt_of_lt_of_le hn (by decide)) (by simp)
    rwa [List.nil_append] at this
  · rintro e w' ⟨v, h1, h2, h3⟩
    exact ⟨v, h1, row_of_R h2, h3⟩
theorem rv_l0 : ∀ (k n : Nat) (acc : List Int), n < 128 ^ (k + 1) → acc.length + k ≤ 1000 → n < 18446744073709551616 → atriumref02_Varint.l0 (k + 1) (n : Int) acc = some (strOfNums (acc ++ bi (vrF k n)))
  | 0, n, acc, hn, ha, hm => by
    rw [show (128 : Nat) ^ (0 + 1) = 128 from rfl] at hn
    rw [atriumref02_Varint.l0, if_neg (by omega), if_pos (by omega)]
    congr 2
  | k + 1, n, acc, hn, ha, hm => by
    by_cases hb : 128 ≤ n
    · have hd : n / 128 < 128 ^ (k + 1) := by
        rw [Nat.pow_succ] at hn
        exact Nat.div_lt_of_lt_mul (by rw [Nat.mul_comm]; exact hn)
      have e1 : IntKind.u64.wrap ((n : Int).tdiv 128) = ((n / 128 : Nat) : Int) := by rw [IntWalk.u64_quo _ _ (by omega)]; omega
      have e2 : ((Int.tmod (n : Int) 128) + 128) % 256 = ((n % 128 + 128 : Nat) : Int) := by
        rw [Int.tmod_eq_emod_of_nonneg (by omega)]
        omega
      rw [atriumref02_Varint.l0, if_pos (by omega), if_pos (by omega), e1, e2, rv_l0 k (n / 128) _ hd (by simp; omega) (by omega), show vrF (k + 1) n = UInt8.ofNat (n % 128 + 128) :: vrF k (n / 128) from by rw [vrF, if_pos hb]]
      simp only [bi, List.map_cons, List.append_assoc, List.singleton_append]
      congr 4
      simp
      omega
    · rw [atriumref02_Varint.l0, if_neg (by omega), if_pos (by omega), show vrF (k + 1) n = [UInt8.ofNat n] from by rw [vrF, if_neg hb]]
      simp [bi]
theorem rvarint_any (n : Nat) (hn : n < 18446744073709551616) (w : World) :
    Calls Tryz.prog 111 #[.int .u64 (n : Int)] w fun e w' => e = .returned (.string (Bd.B (vr n))) ∧ Below w.heap.size w w' := by
  refine atriumref02_Varint.calls 10 (n : Int) (Bd.B (vr n)) w ?_
  unfold atriumref02_Varint.f
  have := rv_l0 9 n [] (Nat.lt_of_lt_of_le hn (by decide)) (by simp) hn
  rw [List.nil_append, str_bi] at this
  exact this
end Go.Proofs.YtmchephokleffaaGreatDoor
