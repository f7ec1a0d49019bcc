/-
  Chapter 22: varints read: the plain function, and what the printed ones say of it.
-/
import Derived.Test.YtmchephokleffaaGreatDoorVr
set_option linter.unusedVariables false
set_option linter.unusedSimpArgs false
namespace Go.Proofs.YtmchephokleffaaGreatDoor
open Go.RowKit Go.Proofs.YtmchephokleffaaGreatDoorW.PrintWords Go.Proofs.YtmchephokleffaaGreatDoorW.PrintMore Go.Proofs.YtmchephokleffaaGreatDoor.PRecord
/-- What is told of a number's groups: the number and how many bytes, or that they are none. -/
def ShR (o : Option (Nat × Nat)) (x : Int × Int × Int) : Prop := match o with
  | some (n, z) => x = ((n : Int), (z : Int), 0)
  | none => ∃ e : Int, e ≠ 0 ∧ x = (0, 0, e)
theorem pow128 (i : Nat) : (128 : Nat) ^ i = 2 ^ (7 * i) := by rw [Nat.pow_mul]
theorem or_group (acc i : Nat) (c : UInt8) (hi : i ≤ 9) (ha : acc < 128 ^ i) (hc : c.toNat % 128 * 128 ^ i < 18446744073709551616) :
    Go.bits .or .u64 (acc : Int) (shl .u64 (IntKind.u64.wrap (Go.bits .and .u8 (c.toNat : Int) 127)) (wrap64 (7 * (i : Int)))) = ((acc + c.toNat % 128 * 128 ^ i : Nat) : Int) := by
  have e1 : wrap64 (7 * (i : Int)) = 7 * (i : Int) := IntWalk.wrap64_in _ (by omega)
  have e2 : (7 * (i : Int)).toNat = 7 * i := by omega
  have ha2 : acc < 18446744073709551616 := Nat.lt_of_lt_of_le ha (Nat.le_trans (Nat.pow_le_pow_right (by omega) hi) (by decide))
  rw [and127, u64w _ (by omega) (by omega), e1]
  unfold shl
  rw [e2, show min (7 * i) IntKind.u64.bits = 7 * i from Nat.min_eq_left (by show 7 * i ≤ 64; omega), show ((c.toNat % 128 : Nat) : Int) * 2 ^ (7 * i) = ((c.toNat % 128 * 128 ^ i : Nat) : Int) from by rw [pow128]; simp]
  rw [u64w _ (by omega) (by omega), u64_or_nat _ _ ha2 hc, Nat.or_comm, nat_join (7 * i) _ acc (by rw [pow128]; exact Nat.mul_mod_left _ _) (by rw [← pow128]; exact ha), Nat.add_comm]
theorem shape_l0 : ∀ (R P : List UInt8) (acc : Nat), P.length ≤ 9 → acc < 128 ^ P.length → (P ++ R).length ≤ 1000000000 →
    ∃ x, codec_shape.l0 (2 * R.length + 1) (Bd.B (P ++ R)) (acc : Int) ((P ++ R).length : Nat) (P.length : Nat) = some x ∧ ShR (rvG P.length acc R) x
  | [], P, acc, hp, ha, hl => by
    refine ⟨(0, 0, 20), ?_, 20, by omega, rfl⟩
    rw [show 2 * ([] : List UInt8).length + 1 = 0 + 1 from rfl, codec_shape.l0, if_neg (by simp)]
  | c :: R, P, acc, hp, ha, hl => by
    have hll : (P ++ c :: R).length = P.length + 1 + R.length := by simp; omega
    have hb := Bd.bt_mid P R c
    have hc := c.toNat_lt
    have h0 : codec_shape.l0 (2 * (c :: R).length + 1) (Bd.B (P ++ c :: R)) (acc : Int) ((P ++ c :: R).length : Nat) (P.length : Nat) = codec_shape.j1 (2 * R.length + 1 + 1) (Bd.B (P ++ c :: R)) (acc : Int) (P.length : Int) (c.toNat : Int) ((P ++ c :: R).length : Nat) (P.length : Nat) (decide (P.length = 9 ∧ c ≠ 1)) := by
      rw [show 2 * (c :: R).length + 1 = (2 * R.length + 1 + 1) + 1 from by simp; omega, codec_shape.l0, if_pos (by omega), if_pos (by omega), if_pos (by rw [Bd.B_size]; omega), hb]
      by_cases h9 : P.length = 9
      · rw [if_pos (by omega)]
        congr 1
        by_cases h1 : c = 1
        · subst h1
          simp
        · have h2 : c.toNat ≠ 1 := fun h => h1 (UInt8.toNat_inj.mp (by rw [h]; rfl))
          rw [decide_eq_true ⟨h9, h1⟩]
          simp
          omega
      · rw [if_neg (by omega)]
        congr 1
        rw [decide_eq_false (fun h => h9 h.1)]
    rw [h0, codec_shape.j1, rvG]
    by_cases h9 : P.length = 9 ∧ c ≠ 1
    · rw [if_pos (by simpa using h9), if_pos h9]
      exact ⟨_, rfl, 21, by omega, rfl⟩
    · rw [if_neg (by simpa using h9), if_neg h9, if_pos (by rw [IntWalk.wrap64_in _ (by omega)]; omega)]
      have hg : c.toNat % 128 * 128 ^ P.length < 18446744073709551616 := by
        by_cases hp9 : P.length = 9
        · have : c = 1 := by
            by_cases h1 : c = 1
            · exact h1
            · exact absurd ⟨hp9, h1⟩ h9
          subst this
          rw [hp9]
          decide
        · have h1 : c.toNat % 128 * 128 ^ P.length ≤ 127 * 128 ^ 8 := Nat.mul_le_mul (by omega) (Nat.pow_le_pow_right (by omega) (by omega))
          exact Nat.lt_of_le_of_lt h1 (by decide)
      rw [or_group acc P.length c hp ha hg, Bd.w_succ _ (by omega)]
      by_cases hc1 : c.toNat < 128
      · rw [if_pos (by omega), if_pos hc1]
        by_cases hz : c = 0 ∧ 0 < P.length
        · have hz2 := hz.2
          have hz1 : ((c.toNat : Nat) : Int) = 0 := by rw [hz.1]; rfl
          have hz3 : ((P.length : Nat) : Int) > 0 := by omega
          rw [if_pos hz, if_pos hz1, if_pos hz3]
          exact ⟨_, rfl, 21, by omega, rfl⟩
        · rw [if_neg hz]
          by_cases hc0 : c.toNat = 0
          · have : c = 0 := UInt8.toNat_inj.mp (by rw [hc0]; rfl)
            have hp0 : ¬ (((P.length : Nat) : Int) > 0) := fun h => hz ⟨this, by omega⟩
            rw [if_pos (by omega), if_neg hp0]
            exact ⟨_, rfl, rfl⟩
          · rw [if_neg (by omega)]
            exact ⟨_, rfl, rfl⟩
      · rw [if_neg (by omega), if_neg hc1]
        have hp8 : P.length ≠ 9 := by
          intro e
          have : c = 1 := by
            by_cases h1 : c = 1
            · exact h1
            · exact absurd ⟨e, h1⟩ h9
          rw [this] at hc1
          exact hc1 (by decide)
        have h2 : acc + c.toNat % 128 * 128 ^ P.length < 128 ^ (P.length + 1) := by
          rw [Nat.pow_succ]
          have : c.toNat % 128 * 128 ^ P.length ≤ 127 * 128 ^ P.length := Nat.mul_le_mul_right _ (by omega)
          omega
        have ih := shape_l0 R (P ++ [c]) (acc + c.toNat % 128 * 128 ^ P.length) (by simp; omega) (by simpa using h2) (by simpa using hl)
        simpa using ih
/-- The number of some groups, the lowest first. -/
def valP (l : List UInt8) : Nat := l.foldr (fun c a => c.toNat % 128 + 128 * a) 0
theorem valP_snoc : ∀ (l : List UInt8) (c : UInt8), valP (l ++ [c]) = valP l + c.toNat % 128 * 128 ^ l.length
  | [], c => by simp [valP]
  | d :: l, c => by
    have ih := valP_snoc l c
    simp only [valP, List.cons_append, List.foldr_cons] at ih ⊢
    rw [ih, List.length_cons, Nat.pow_succ, Nat.mul_add]
    have : 128 * (c.toNat % 128 * 128 ^ l.length) = c.toNat % 128 * (128 ^ l.length * 128) := by
      rw [Nat.mul_comm, Nat.mul_assoc]
    omega
theorem valP_lt : ∀ (l : List UInt8), valP l < 128 ^ l.length
  | [] => by simp [valP]
  | d :: l => by
    have ih := valP_lt l
    simp only [valP, List.foldr_cons, List.length_cons] at ih ⊢
    rw [Nat.pow_succ]
    have : d.toNat % 128 < 128 := Nat.mod_lt _ (by omega)
    generalize List.foldr (fun c a => c.toNat % 128 + 128 * a) 0 l = x at *
    generalize 128 ^ l.length = y at *
    omega
/-- The groups are read from the highest on. -/
theorem down_l1 (s : List UInt8) (x5 : Int) : ∀ (m acc : Nat), m ≤ s.length → m ≤ 10 → s.length ≤ 1000000000 → acc * 128 ^ m + valP (s.take m) < 18446744073709551616 →
    atriumref02_ReadVarint.l1 (m + 1) (Bd.B s) x5 (acc : Int) ((m : Int) - 1) = some (((acc * 128 ^ m + valP (s.take m) : Nat) : Int), wrap64 (x5 + 1), 0)
  | 0, acc, hm, h10, hl, hv => by
    rw [atriumref02_ReadVarint.l1, if_neg (by omega)]
    simp [valP]
  | m + 1, acc, hm, h10, hl, hv => by
    have hlt : m < s.length := by omega
    have e1 : (((m + 1 : Nat) : Int) - 1) = (m : Int) := by omega
    have hb : bt (Bd.B s) (m : Int) = ((s[m]'hlt).toNat : Int) := by
      have := Bd.bt_mid (s.take m) (s.drop (m + 1)) (s[m]'hlt)
      rw [List.getElem_cons_drop, List.take_append_drop, List.length_take, Nat.min_eq_left (by omega)] at this
      exact this
    have hc := (s[m]'hlt).toNat_lt
    have htk : valP (s.take (m + 1)) = valP (s.take m) + (s[m]'hlt).toNat % 128 * 128 ^ m := by
      rw [List.take_succ_eq_append_getElem hlt, valP_snoc, List.length_take, Nat.min_eq_left (by omega)]
    rw [htk, Nat.pow_succ] at hv
    have hv2 : (acc * 128 + (s[m]'hlt).toNat % 128) * 128 ^ m + valP (s.take m) < 18446744073709551616 := by
      rw [Nat.add_mul, Nat.mul_assoc, Nat.mul_comm 128 (128 ^ m)]
      omega
    have hp : 1 ≤ 128 ^ m := Nat.pow_pos (by omega)
    have hv3 : acc * 128 + (s[m]'hlt).toNat % 128 < 18446744073709551616 := by
      have : (acc * 128 + (s[m]'hlt).toNat % 128) * 1 ≤ (acc * 128 + (s[m]'hlt).toNat % 128) * 128 ^ m := Nat.mul_le_mul_left _ hp
      omega
    have ih := down_l1 s x5 m (acc * 128 + (s[m]'hlt).toNat % 128) (by omega) (by omega) hl hv2
    have e2 : Int.tmod (((s[m]'hlt).toNat : Nat) : Int) 128 = (((s[m]'hlt).toNat % 128 : Nat) : Int) := by
      rw [Int.tmod_eq_emod_of_nonneg (by omega)]
      omega
    rw [atriumref02_ReadVarint.l1, e1, if_pos (by omega), if_pos (by omega), if_pos (by rw [Bd.B_size]; omega), hb, e2, u64w ((acc : Int) * 128) (by omega) (by omega), u64w (((s[m]'hlt).toNat % 128 : Nat) : Int) (by omega) (by omega), u64w _ (by omega) (by omega),
      show wrap64 ((m : Int) - 1) = (m : Int) - 1 from IntWalk.wrap64_in _ (by omega), show ((acc : Int) * 128 + (((s[m]'hlt).toNat % 128 : Nat) : Int)) = ((acc * 128 + (s[m]'hlt).toNat % 128 : Nat) : Int) from by omega, ih, htk, Nat.pow_succ]
    congr 3
    rw [Nat.add_mul, Nat.mul_assoc, Nat.mul_comm 128 (128 ^ m)]
    omega
theorem fin_l1 {s : ByteArray} {x5 a i : Int} {k d : Nat} {r : Int × Int × Int} (h : atriumref02_ReadVarint.l1 k s x5 a i = some r) (hk : k ≤ d) : atriumref02_ReadVarint.l1 d s x5 a i = some r := by
  obtain ⟨m, rfl⟩ : ∃ m, d = k + m := ⟨d - k, by omega⟩
  clear hk
  induction m with
  | zero => exact h
  | succ m ih => exact (atriumref02_ReadVarint.mono_l (k + m)).2.2.2 s x5 a i r ih
theorem readV_l0 : ∀ (R P : List UInt8), P.length ≤ 9 → (P ++ R).length ≤ 1000000000 → ∀ f, 60 ≤ f →
    ∃ x, atriumref02_ReadVarint.l0 (f + 3 * R.length) (Bd.B (P ++ R)) (P.length : Nat) = some x ∧ ShR (rvG P.length (valP P) R) x
  | [], P, hp, hl, f, hf => by
    obtain ⟨f, rfl⟩ : ∃ m, f = m + 1 := ⟨f - 1, by omega⟩
    refine ⟨(0, 0, 20), ?_, 20, by omega, rfl⟩
    rw [show f + 1 + 3 * ([] : List UInt8).length = f + 1 from rfl, atriumref02_ReadVarint.l0, if_pos (by omega), if_pos (by rw [Bd.B_size]; simp)]
  | c :: R, P, hp, hl, f, hf => by
    have hll : (P ++ c :: R).length = P.length + 1 + R.length := by simp; omega
    have hb := Bd.bt_mid P R c
    have hc := c.toNat_lt
    have h0 : atriumref02_ReadVarint.l0 (f + 3 * (c :: R).length) (Bd.B (P ++ c :: R)) (P.length : Nat) = atriumref02_ReadVarint.j1 (f + 3 * R.length + 2) (Bd.B (P ++ c :: R)) (P.length : Int) (decide (P.length = 9 ∧ 1 < c.toNat)) := by
      rw [show f + 3 * (c :: R).length = (f + 3 * R.length + 2) + 1 from by simp; omega, atriumref02_ReadVarint.l0, if_pos (by omega), if_neg (by rw [Bd.B_size]; omega)]
      by_cases h9 : P.length = 9
      · rw [if_pos (by omega), if_pos (by rw [Bd.B_size]; omega)]
        congr 1
        rw [show (9 : Int) = (P.length : Int) from by omega, hb]
        simp [h9]
        omega
      · rw [if_neg (by omega)]
        congr 1
        rw [decide_eq_false (fun h => h9 h.1)]
    rw [h0, atriumref02_ReadVarint.j1, rvG]
    by_cases hbad : P.length = 9 ∧ 1 < c.toNat
    · have h9 : P.length = 9 ∧ c ≠ 1 := ⟨hbad.1, fun h => by have := hbad.2; rw [h] at this; exact absurd this (by decide)⟩
      rw [if_pos (by simpa using hbad), if_pos h9]
      exact ⟨_, rfl, 21, by omega, rfl⟩
    · rw [if_neg (by simpa using hbad), if_pos (by omega), if_pos (by rw [Bd.B_size]; omega), hb]
      by_cases hc1 : c.toNat < 128
      · have hn128 : ¬ ((c.toNat : Int) ≥ 128) := by omega
        rw [if_neg hn128, show f + 3 * R.length + 1 = (f + 3 * R.length) + 1 from rfl]
        by_cases hz : c.toNat = 0
        · have hc0 : c = 0 := UInt8.toNat_inj.mp (by rw [hz]; rfl)
          rw [if_pos (by omega), atriumref02_ReadVarint.j2]
          by_cases hp0 : 0 < P.length
          · rw [if_pos (by simpa using hp0)]
            by_cases h9 : P.length = 9 ∧ c ≠ 1
            · rw [if_pos h9]
              exact ⟨_, rfl, 21, by omega, rfl⟩
            · rw [if_neg h9, if_pos hc1, if_pos ⟨hc0, hp0⟩]
              exact ⟨_, rfl, 21, by omega, rfl⟩
          · rw [if_neg (by simpa using hp0), if_neg (fun h => by omega), if_pos hc1, if_neg (fun h => hp0 h.2)]
            obtain rfl : P = [] := List.eq_nil_of_length_eq_zero (by omega)
            have hd := down_l1 ([] ++ c :: R) 0 1 0 (by simp) (by omega) hl (by simp [valP]; omega)
            simp only [List.nil_append] at hd ⊢
            exact ⟨_, fin_l1 hd (by omega), by simp [ShR, valP, wrap64]⟩
        · rw [if_neg (by omega), atriumref02_ReadVarint.j2, if_neg (by simp)]
          have h9 : ¬ (P.length = 9 ∧ c ≠ 1) := by
            rintro ⟨h1, h2⟩
            have : c.toNat ≠ 1 := fun h => h2 (UInt8.toNat_inj.mp (by rw [h]; rfl))
            exact hbad ⟨h1, by omega⟩
          rw [if_neg h9, if_pos hc1, if_neg (fun h => hz (by rw [h.1]; rfl))]
          have htake : (P ++ c :: R).take (P.length + 1) = P ++ [c] := by
            rw [show P ++ c :: R = (P ++ [c]) ++ R from by simp]
            exact List.take_left' (by simp)
          have hv : valP ((P ++ c :: R).take (P.length + 1)) = valP P + c.toNat % 128 * 128 ^ P.length := by rw [htake, valP_snoc]
          have hlt : valP ((P ++ c :: R).take (P.length + 1)) < 18446744073709551616 := by
            have hr : rvG P.length (valP P) (c :: R) = some (valP P + c.toNat % 128 * 128 ^ P.length, P.length + 1) := by
              rw [rvG, if_neg h9, if_pos hc1, if_neg (fun h => hz (by rw [h.1]; rfl))]
            rw [hv]
            exact (rvG_bound _ _ _ hp (valP_lt P) hr).1
          have hd := down_l1 (P ++ c :: R) (P.length : Int) (P.length + 1) 0 (by omega) (by omega) hl (by rw [Nat.zero_mul, Nat.zero_add]; exact hlt)
          rw [Nat.zero_mul, Nat.zero_add, hv, show (((P.length + 1 : Nat) : Int) - 1) = (P.length : Int) from by omega, Bd.w_succ _ (by omega)] at hd
          exact ⟨_, fin_l1 hd (by omega), rfl⟩
      · rw [if_pos (by omega), show f + 3 * R.length + 1 = (f + 1) + 3 * R.length from by omega, Bd.w_succ _ (by omega)]
        have h9 : P.length ≠ 9 := by
          intro e
          exact hbad ⟨e, by omega⟩
        rw [if_neg (fun h => h9 h.1), if_neg hc1]
        have ih := readV_l0 R (P ++ [c]) (by simp; omega) (by simpa using hl) (f + 1) (by omega)
        rw [valP_snoc] at ih
        simpa using ih
theorem shape_f (s : ByteArray) (hs : s.size ≤ 1000000000) : ∃ k x, codec_shape.f k s = some x ∧ ShR (rv s.data.toList) x := by
  obtain ⟨x, h1, h2⟩ := shape_l0 s.data.toList [] 0 (by simp) (by simp) (by rw [List.nil_append, len_data]; exact hs)
  rw [List.nil_append, Bd.of_data, len_data] at h1
  exact ⟨_, x, h1, h2⟩
theorem readV_f (s : ByteArray) (hs : s.size ≤ 1000000000) : ∃ k x, atriumref02_ReadVarint.f k s = some x ∧ ShR (rv s.data.toList) x := by
  obtain ⟨x, h1, h2⟩ := readV_l0 s.data.toList [] (by simp) (by rw [List.nil_append, len_data]; exact hs) 60 (by omega)
  rw [List.nil_append, Bd.of_data] at h1
  exact ⟨_, x, h1, h2⟩
end Go.Proofs.YtmchephokleffaaGreatDoor
