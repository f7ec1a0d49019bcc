/-
  Plain facts about a record's bytes with some bits turned.
-/
import Derived.Test.YtlmlkamgpmnmgaaPcrc
import Derived.Test.YtlmlkamgpmnmgaaPure
set_option linter.unusedVariables false
set_option linter.unusedSimpArgs false
namespace Go.Proofs.Ytlmlkamgpmnmgaa
open Go.RowKit Go.Proofs.YtlmlkamgpmnmgaaW.PrintWords
theorem leN_inj : ∀ {l m : List UInt8}, l.length = m.length → leN l = leN m → l = m
  | [], [], _, _ => rfl
  | [], _ :: _, h, _ => by simp at h
  | _ :: _, [], h, _ => by simp at h
  | a :: l, b :: m, h, e => by
    have ha := a.toNat_lt
    have hb := b.toNat_lt
    unfold leN at e
    have h1 : a.toNat = b.toNat := by omega
    have h2 : leN l = leN m := by omega
    rw [UInt8.toNat_inj.mp h1, leN_inj (by simpa using h) h2]
theorem mul_xor_pow (a b k : Nat) : (a ^^^ b) * 2 ^ k = a * 2 ^ k ^^^ b * 2 ^ k := by
  rw [← Nat.shiftLeft_eq, ← Nat.shiftLeft_eq, ← Nat.shiftLeft_eq, Nat.shiftLeft_xor_distrib]
/-- One bit of one byte is turned. -/
theorem leN_flip : ∀ (l : List UInt8) (q r : Nat), q < l.length → r < 8 → leN (l.set q (l.getD q 0 ^^^ UInt8.ofNat (2 ^ r))) = leN l ^^^ 2 ^ (8 * q + r)
  | [], q, r, h, _ => by simp at h
  | b :: l, 0, r, _, hr => by
    have hb := b.toNat_lt
    have hp : 2 ^ r < 256 := by
      have : 2 ^ r < 2 ^ 8 := Nat.pow_lt_pow_right (by omega) hr
      simpa using this
    have h1 : (b ^^^ UInt8.ofNat (2 ^ r)).toNat = b.toNat ^^^ 2 ^ r := by
      rw [UInt8.toNat_xor]
      simp [Nat.mod_eq_of_lt hp]
    have h2 : b.toNat ^^^ 2 ^ r < 256 := Nat.xor_lt_two_pow (n := 8) (by simpa using hb) (by simpa using hp)
    simp only [List.set_cons_zero, List.getD_cons_zero, leN, Nat.mul_zero, Nat.zero_add]
    rw [h1, byte_xor _ _ h2, byte_xor _ _ (by omega), Nat.xor_assoc, Nat.xor_assoc, Nat.xor_comm (2 ^ r)]
  | b :: l, q + 1, r, h, hr => by
    have hb := b.toNat_lt
    have ih := leN_flip l q r (by simpa using h) hr
    simp only [List.set_cons_succ, List.getD_cons_succ, leN]
    rw [ih, byte_xor _ _ (by omega), byte_xor _ _ (by omega), Nat.xor_assoc]
    congr 1
    rw [show 256 = 2 ^ 8 from rfl, Nat.mul_comm (2 ^ 8), Nat.mul_comm (2 ^ 8), mul_xor_pow, ← Nat.pow_add, show 8 * q + r + 8 = 8 * (q + 1) + r from by omega]
/-- A record's head, at the begin of a log. -/
def hd7 (rec : List UInt8) : List UInt8 := be 4 (crc (1 :: rec)) ++ be 2 rec.length ++ [1]
theorem hd7_len (rec : List UInt8) : (hd7 rec).length = 7 := by simp [hd7, be_len]
theorem frag_hd (rec : List UInt8) : frag 1 rec = hd7 rec ++ rec := rfl
theorem lay_small (rec : List UInt8) (h : rec.length ≤ 1000) : layA 0 rec = hd7 rec ++ rec := by
  unfold layA
  have h0 : gapN 0 = 0 := by decide
  rw [h0]
  unfold layF
  rw [if_pos (by show rec.length ≤ room (0 + 0); unfold room; omega)]
  rfl
theorem head_hd (rec cur : List UInt8) (hr : rec.length ≤ 1000) : (hdOf (hd7 rec ++ cur) 0).kind = 1 ∧ (hdOf (hd7 rec ++ cur) 0).sum = crc (1 :: rec) ∧ (hdOf (hd7 rec ++ cur) 0).len = rec.length := by
  have h1 := head_of (L := hd7 rec ++ rec) (a := 0) (m := 7 + rec.length) (kind := 1) (part := rec) (tl := []) (by rw [List.drop_zero, List.append_nil, frag_hd, List.take_of_length_le (by rw [List.length_append, hd7_len]; exact Nat.le_refl _)]) (by omega) (by omega)
  have h2 := hdOf_longer (L := hd7 rec) (M := cur) (p := 0) (by rw [hd7_len]; omega)
  have h3 := hdOf_longer (L := hd7 rec) (M := rec) (p := 0) (by rw [hd7_len]; omega)
  rw [h2, ← h3]
  exact h1
theorem scan_same (rec : List UInt8) (hr : rec.length ≤ 1000) : scanR (hd7 rec ++ rec) = ([⟨rec.toArray⟩], 7 + rec.length, 1) := by
  have h := scan_layA (L := hd7 rec ++ rec) (tl := []) (p := 0) (s := rec) (recs := []) (en := 0) (Nat.zero_le _) (by rw [List.drop_zero, List.append_nil, lay_small rec hr])
  have hl : lenA 0 rec.length = 7 + rec.length := by
    rw [← layA_len, lay_small rec hr, List.length_append, hd7_len]
  rw [hl, Nat.zero_add, List.nil_append] at h
  show scanF (hd7 rec ++ rec) 0 [] false [] 0 = _
  rw [h]
  have he := scan_end (hd7 rec ++ rec) [⟨rec.toArray⟩] (7 + rec.length)
  rw [List.length_append, hd7_len] at he
  exact he
theorem scan_turned (rec cur : List UInt8) (hr : rec.length ≤ 1000) (hl : cur.length = rec.length) (hc : crc (1 :: cur) ≠ crc (1 :: rec)) : scanR (hd7 rec ++ cur) = ([], 0, 3) := by
  obtain ⟨h1, h2, h3⟩ := head_hd rec cur hr
  have hlen : (hd7 rec ++ cur).length = 7 + rec.length := by rw [List.length_append, hd7_len, hl]
  have hp : partOf (hd7 rec ++ cur) 0 = cur := by
    unfold partOf
    rw [h3, Nat.zero_add, List.drop_left' (hd7_len _), List.take_of_length_le (by omega)]
  have hh : headR (hd7 rec ++ cur) 0 false = .error 3 := by
    unfold headR
    rw [if_neg (by omega), if_neg (by omega), if_neg, if_neg (by omega), if_neg]
    · rw [h1, h2, hp]
      exact hc
    · rw [h1, h3]
      simp [fol]
      omega
  have hn : nextR (hd7 rec ++ cur) 0 false = .error 3 := by
    unfold nextR
    rw [skipR_zero (by decide), if_neg (by simp)]
    simp only [hh]
  exact scanF_err hn
theorem pow_join (M q : Nat) (h : M < 2 ^ q) : M + 2 ^ q = M ^^^ 2 ^ q := by
  apply Nat.eq_of_testBit_eq
  intro i
  have e : M + 2 ^ q = 2 ^ q * 1 + M := by omega
  rw [Nat.testBit_xor, e, Nat.testBit_two_pow_mul_add 1 h, Nat.testBit_two_pow]
  by_cases hi : i < q
  · rw [if_pos hi]
    simp [show ¬ q = i by omega]
  · rw [if_neg hi]
    have : M.testBit i = false := Nat.testBit_lt_two_pow (Nat.lt_of_lt_of_le h (Nat.pow_le_pow_right (by omega) (by omega)))
    rw [this]
    by_cases hiq : q = i
    · subst hiq; simp
    · have : i - q ≠ 0 := by omega
      obtain ⟨j, hj⟩ : ∃ j, i - q = j + 1 := ⟨i - q - 1, by omega⟩
      rw [hj]
      simp [hiq, Nat.testBit_succ]
/-- One round of the law's turning. -/
theorem turn_step {rec cur : List UInt8} {M q m : Nat} (hM : M < 2 ^ q) (hx : leN cur = leN rec ^^^ M * 2 ^ m) (hk : m + q < 8 * cur.length) :
    leN (cur.set ((m + q) / 8) (cur.getD ((m + q) / 8) 0 ^^^ UInt8.ofNat (2 ^ ((m + q) % 8)))) = leN rec ^^^ (M + 2 ^ q) * 2 ^ m ∧ M + 2 ^ q < 2 ^ (q + 1) := by
  refine ⟨?_, by rw [Nat.pow_succ]; omega⟩
  rw [leN_flip cur _ _ (by omega) (by omega), hx, pow_join M q hM, mul_xor_pow, ← Nat.pow_add, Nat.xor_assoc]
  congr 2
  congr 1
  omega
theorem hd_getD (rec cur : List UInt8) (j : Nat) : (hd7 rec ++ cur).getD (7 + j) 0 = cur.getD j 0 := by
  rw [List.getD_eq_getElem?_getD, List.getElem?_append_right (by rw [hd7_len]; omega), hd7_len, Nat.add_sub_cancel_left, List.getD_eq_getElem?_getD]
theorem hd_set (rec cur : List UInt8) (j : Nat) (b : UInt8) : (hd7 rec ++ cur).set (7 + j) b = hd7 rec ++ cur.set j b := by
  rw [List.set_append_right _ _ (by rw [hd7_len]; omega), hd7_len, Nat.add_sub_cancel_left]
theorem turn_u8 (b : UInt8) (re : Nat) (h : re < 8) : bits .xor .u8 (b.toNat : Int) (IntKind.u8.wrap ((2 : Int) ^ re)) = ((b ^^^ UInt8.ofNat (2 ^ re)).toNat : Int) := by
  have hb := b.toNat_lt
  have hp : 2 ^ re < 256 := by
    have : 2 ^ re < 2 ^ 8 := Nat.pow_lt_pow_right (by omega) h
    simpa using this
  have e : (2 : Int) ^ re = ((2 ^ re : Nat) : Int) := by rw [Int.natCast_pow]; rfl
  rw [e]
  clear e
  generalize 2 ^ re = x at hp
  rw [IntWalk.u8_in _ (by omega), u8_xor_nat _ _ (by omega) hp, UInt8.toNat_xor]
  simp [Nat.mod_eq_of_lt hp]
end Go.Proofs.Ytlmlkamgpmnmgaa
