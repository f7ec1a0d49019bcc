/-
  Names of files, plain: the reference's Name and Number, out of their printed texts.
-/
import Derived.Test.YtlmlkamgpmnmgaaDoorWn
import Derived.Test.YtlmlkamgpmnmgaaDoorQ3
import Derived.Lib.Strings
set_option linter.unusedVariables false
set_option linter.unusedSimpArgs false
namespace Go.Proofs.YtlmlkamgpmnmgaaDoor
open Go Go.Lib Go.RowKit Go.Proofs.YtlmlkamgpmnmgaaDoorW.PrintWords Go.Proofs.YtlmlkamgpmnmgaaDoor.PWalNames
def bs (l : List UInt8) : ByteArray := ⟨l.toArray⟩
theorem bs_list (l : List UInt8) : (bs l).data.toList = l := rfl
theorem bs_size (l : List UInt8) : (bs l).size = l.length := rfl
theorem bs_cons (c : UInt8) (l : List UInt8) : bs [c] ++ bs l = bs (c :: l) := by
  apply ByteArray.ext
  rw [ByteArray.data_append]
  simp [bs]
theorem bs_ext {a b : ByteArray} (h : a.data.toList = b.data.toList) : a = b := by
  apply ByteArray.ext
  exact Array.toList_inj.1 h
/-- A file's name. -/
def nameB (word : ByteArray) (n : Int) : ByteArray := if n < 0 then ⟨#[]⟩ else word ++ bs (pad6 n.toNat)
theorem name_list (word : ByteArray) (n : Nat) : (nameB word n).data.toList = word.data.toList ++ pad6 n := by
  unfold nameB
  rw [if_neg (by omega), ByteArray.data_append, Array.toList_append, Int.toNat_natCast]
  rfl
def dD (n : Nat) : List UInt8 := if n = 0 then [] else decDigits n
def padF (i n : Nat) (acc : List UInt8) : List UInt8 := List.replicate (6 - i - (dD n).length) 48 ++ (dD n ++ acc)
theorem padF_end (i : Nat) (acc : List UInt8) (h : 6 ≤ i) : padF i 0 acc = acc := by
  unfold padF dD
  rw [if_pos rfl, show 6 - i - ([] : List UInt8).length = 0 by simp; omega]
  rfl
theorem padF_zero (n : Nat) : padF 0 n [] = pad6 n := by
  unfold padF dD pad6
  by_cases h : n = 0
  · subst h
    rw [if_pos rfl, decDigits_one (by omega)]
    rfl
  · rw [if_neg h, List.append_nil]
theorem padF_step (i n : Nat) (acc : List UInt8) (h : i < 6 ∨ 0 < n) : padF i n acc = padF (i + 1) (n / 10) (UInt8.ofNat (48 + n % 10) :: acc) := by
  unfold padF dD
  by_cases h0 : n = 0
  · subst h0
    rw [if_pos rfl]
    have hi : i < 6 := by omega
    obtain ⟨m, hm⟩ : ∃ m, 6 - i = m + 1 := ⟨5 - i, by omega⟩
    rw [show 6 - i - ([] : List UInt8).length = m + 1 by simp; omega, show 6 - (i + 1) - ([] : List UInt8).length = m by simp; omega, List.replicate_succ', List.append_assoc]
    rfl
  · rw [if_neg h0]
    by_cases h1 : n < 10
    · rw [show n / 10 = 0 by omega, if_pos rfl, decDigits_one h1, show n % 10 = n by omega]
      rw [show 6 - i - [UInt8.ofNat (48 + n)].length = 6 - (i + 1) - ([] : List UInt8).length by simp; omega]
      rfl
    · rw [if_neg (show ¬ n / 10 = 0 by omega), decDigits_step h1]
      rw [show 6 - i - (decDigits (n / 10) ++ [UInt8.ofNat (48 + n % 10)]).length = 6 - (i + 1) - (decDigits (n / 10)).length by simp; omega]
      simp
theorem dig_of (n : Nat) : strOfNums [(wrap64 (48 + Int.tmod (n : Int) 10)) % 256] = bs [UInt8.ofNat (48 + n % 10)] := by
  have h1 : Int.tmod (n : Int) 10 = ((n % 10 : Nat) : Int) := by rw [Int.tmod_eq_emod_of_nonneg (by omega)]; rfl
  rw [h1, IntWalk.wrap64_in _ (by omega), Int.emod_eq_of_lt (by omega) (by omega)]
  unfold strOfNums bs
  rw [List.map_cons, List.map_nil, show (48 + ((n % 10 : Nat) : Int)).toNat = 48 + n % 10 by omega]
theorem tdiv_of (n : Nat) (hn : n < 9223372036854775808) : wrap64 (Int.tdiv (n : Int) 10) = ((n / 10 : Nat) : Int) := by
  rw [Int.tdiv_eq_ediv_of_nonneg (by omega), IntWalk.wrap64_in _ (by omega)]
  rfl
theorem inc_of (i : Nat) (hi : i < 25) : wrap64 ((i : Int) + 1) = ((i + 1 : Nat) : Int) := by
  rw [IntWalk.wrap64_in _ (by omega)]
  rfl
theorem rname_l (word : ByteArray) (hw : word.size ≤ 1000) : ∀ (m : Nat) (i n : Nat) (acc : List UInt8), 6 - i + n ≤ m → n < 9223372036854775808 → i ≤ 25 → n < 10 ^ (25 - i) → acc.length = i → ∃ k, atriumref05_Name.l0 k word (n : Int) (bs acc) (i : Int) = some (word ++ bs (padF i n acc))
  | 0, i, n, acc, hm, hn, hi, hb, ha => by
    have h0 : n = 0 := by omega
    subst h0
    refine ⟨1, ?_⟩
    rw [atriumref05_Name.l0, if_neg (by omega), if_neg (by omega), if_pos (by rw [bs_size]; omega), padF_end i acc (by omega)]
  | m + 1, i, n, acc, hm, hn, hi, hb, ha => by
    by_cases h : i < 6 ∨ 0 < n
    · have hi25 : i < 25 := by
        rcases Nat.lt_or_ge i 25 with h1 | h1
        · exact h1
        · rw [show 25 - i = 0 by omega, Nat.pow_zero] at hb
          omega
      have hnext : n / 10 < 10 ^ (25 - (i + 1)) := by
        rw [show 25 - i = 25 - (i + 1) + 1 by omega, Nat.pow_succ] at hb
        exact Nat.div_lt_of_lt_mul (by omega)
      obtain ⟨k, ih⟩ := rname_l word hw m (i + 1) (n / 10) (UInt8.ofNat (48 + n % 10) :: acc) (by omega) (by omega) (by omega) hnext (by simp [ha])
      have hd := dig_of n
      have hp := padF_step i n acc h
      generalize UInt8.ofNat (48 + n % 10) = c at *
      have hsz : (bs [c]).size + (bs acc).size ≤ 9223372036854775807 := by
        rw [bs_size, bs_size, List.length_singleton]
        omega
      clear hnext hb
      refine ⟨k + 1, ?_⟩
      rw [atriumref05_Name.l0, hp]
      have hn0 : ¬ (i : Int) < 6 → (n : Int) > 0 := by omega
      simp only [Option.bind_some, hd, tdiv_of n hn, inc_of i hi25]
      by_cases h6 : (i : Int) < 6
      · rw [if_pos h6, if_pos hsz, bs_cons, ih]
      · rw [if_neg h6, if_pos (hn0 h6), if_pos hsz, bs_cons, ih]
    · have h0 : n = 0 := by omega
      subst h0
      refine ⟨1, ?_⟩
      rw [atriumref05_Name.l0, if_neg (by omega), if_neg (by omega), if_pos (by rw [bs_size]; omega), padF_end i acc (by omega)]
theorem rname_f (word : ByteArray) (hw : word.size ≤ 1000) (n : Int) (hn : n ≤ 9223372036854775807) : ∃ k, atriumref05_Name.f k word n = some (nameB word n) := by
  unfold nameB
  by_cases h : n < 0
  · exact ⟨0, by rw [atriumref05_Name.f, if_pos h, if_pos h]⟩
  · obtain ⟨m, rfl⟩ : ∃ m : Nat, n = m := ⟨n.toNat, by omega⟩
    obtain ⟨k, hk⟩ := rname_l word hw (6 - 0 + m) 0 m [] (Nat.le_refl _) (by omega) (by omega) (by omega) rfl
    refine ⟨k, ?_⟩
    rw [atriumref05_Name.f, if_neg h, if_neg h, padF_zero, Int.toNat_natCast] at *
    exact hk
/-- What digits say. -/
def parseR : Nat → List UInt8 → Option Nat
  | a, [] => some a
  | a, c :: r => if c.toNat < 48 then none else if c.toNat > 57 then none else parseR (a * 10 + (c.toNat - 48)) r
theorem parseR_of : ∀ (l : List UInt8) (a u : Nat), parseUint10 a l = .ok u → parseR a l = some u
  | [], a, u, h => by
    rw [parseUint10] at h
    injection h with h
    rw [parseR, h]
  | c :: r, a, u, h => by
    rw [parseUint10] at h
    rw [parseR]
    split at h
    · next hc =>
      rw [if_neg (by omega), if_neg (by omega)]
      split at h
      · cases h
      · split at h
        · cases h
        · exact parseR_of r _ u h
    · cases h
theorem parseR_pad (n : Nat) (hn : n < 1000000000000000000) : parseR 0 (pad6 n) = some n := parseR_of _ _ _ (by
  unfold pad6
  rw [parse_zeros, parse_dec n hn])
/-- What a name says: its number, or that it is none. -/
def IsNum (word name : ByteArray) (r : Int) (b : Bool) : Prop := (∃ n : Nat, n ≤ 2147483647 ∧ name = nameB word n ∧ r = n ∧ b = true) ∨ ((¬ ∃ n : Nat, n ≤ 2147483647 ∧ name = nameB word n) ∧ r = 0 ∧ b = false)
theorem name_inj {word : ByteArray} {m n : Nat} (hm : m ≤ 2147483647) (hn : n ≤ 2147483647) (h : nameB word m = nameB word n) : m = n := by
  have h1 := congrArg (fun b => b.data.toList) h
  simp only [name_list] at h1
  exact pad_inj (by omega) (by omega) (List.append_cancel_left h1)
theorem IsNum.one {word name : ByteArray} {r r2 : Int} {b b2 : Bool} (h : IsNum word name r b) (h2 : IsNum word name r2 b2) : r = r2 ∧ b = b2 := by
  rcases h with ⟨n, h1, h3, rfl, rfl⟩ | ⟨h1, rfl, rfl⟩
  · rcases h2 with ⟨m, k1, k3, rfl, rfl⟩ | ⟨k1, rfl, rfl⟩
    · have := name_inj h1 k1 (h3.symm.trans k3)
      exact ⟨by rw [this], rfl⟩
    · exact absurd ⟨n, h1, h3⟩ k1
  · rcases h2 with ⟨m, k1, k3, rfl, rfl⟩ | ⟨k1, rfl, rfl⟩
    · exact absurd ⟨m, k1, k3⟩ h1
    · exact ⟨rfl, rfl⟩
theorem name_size (word : ByteArray) (n : Nat) (hn : n ≤ 2147483647) : word.size + 6 ≤ (nameB word n).size ∧ (nameB word n).size ≤ word.size + 10 := by
  have h := pad_len n (by omega)
  have h2 := congrArg List.length (name_list word n)
  rw [List.length_append, Array.length_toList, Array.length_toList] at h2
  have e1 : (nameB word n).size = (nameB word n).data.size := rfl
  have e2 : word.size = word.data.size := rfl
  omega
def finR (word name : ByteArray) : Option Nat → Int × Bool
  | none => (0, false)
  | some v => if v > 2147483647 then (0, false) else if nameB word v = name then ((v : Int), true) else (0, false)
theorem bt_of {s : ByteArray} {i : Nat} {c : UInt8} (h : s.data.toList[i]? = some c) : bt s (i : Int) = c.toNat := by
  obtain ⟨h1, h2⟩ := List.getElem?_eq_some_iff.1 h
  have hs : i < s.size := by
    rw [Array.length_toList] at h1
    exact h1
  unfold bt
  rw [dif_pos (by simpa using hs)]
  rw [← h2]
  simp
  rfl
theorem rnum_l (word name : ByteArray) (hw : word.size ≤ 1000) (hs : word.size ≤ name.size) (h10 : name.size ≤ word.size + 10) : ∀ (l : List UInt8) (j a : Nat), name.data.toList.drop (word.size + j) = l → j + l.length = name.size - word.size → a < 10 ^ j → ∃ k, atriumref05_Number.l0 k word name (a : Int) ((word.size + j : Nat) : Int) = some (finR word name (parseR a l))
  | [], j, a, hl, hj, ha => by
    have he : word.size + j = name.size := by simp at hj; omega
    have ha2 : a < 10000000000000 := Nat.lt_of_lt_of_le ha (Nat.le_trans (Nat.pow_le_pow_right (by omega) (show j ≤ 12 by omega)) (by decide))
    obtain ⟨k, hk⟩ := rname_f word hw (a : Int) (by omega)
    refine ⟨k + 1, ?_⟩
    rw [atriumref05_Number.l0, if_neg (by omega), parseR, finR]
    by_cases h : a > 2147483647
    · rw [if_pos (by omega), if_pos h]
    · rw [if_neg (by omega), if_neg h, hk, Option.bind_some]
      by_cases h2 : nameB word a = name
      · rw [if_pos (by rw [h2]), if_pos h2]
      · rw [if_neg (fun e => h2 (bs_ext (by
          rw [toList_data, toList_data] at e
          exact e))), if_neg h2]
  | c :: r, j, a, hl, hj, ha => by
    have hlt : word.size + j < name.size := by simp at hj; omega
    have ha2 : a < 10000000000000 := Nat.lt_of_lt_of_le ha (Nat.le_trans (Nat.pow_le_pow_right (by omega) (show j ≤ 12 by omega)) (by decide))
    have hc : name.data.toList[word.size + j]? = some c := by
      rw [← List.head?_drop, hl]
      rfl
    have hb := bt_of hc
    have hr : name.data.toList.drop (word.size + (j + 1)) = r := by
      rw [show word.size + (j + 1) = word.size + j + 1 by omega, ← List.tail_drop, hl]
      rfl
    have hc255 : c.toNat < 256 := c.toNat_lt
    by_cases h1 : c.toNat < 48
    · refine ⟨1, ?_⟩
      rw [atriumref05_Number.l0, if_pos (by omega), if_pos (by omega), hb, if_pos (by omega), parseR, if_pos h1, finR]
    · by_cases h2 : c.toNat > 57
      · refine ⟨1, ?_⟩
        rw [atriumref05_Number.l0, if_pos (by omega), if_pos (by omega), hb, if_neg (by omega), if_pos (by omega), parseR, if_neg h1, if_pos h2, finR]
      · obtain ⟨k, ih⟩ := rnum_l word name hw hs h10 r (j + 1) (a * 10 + (c.toNat - 48)) hr (by simp at hj; omega) (by rw [Nat.pow_succ]; omega)
        refine ⟨k + 1, ?_⟩
        rw [atriumref05_Number.l0, if_pos (by omega), if_pos (by omega), hb, if_neg (by omega), if_neg (by omega), parseR, if_neg h1, if_neg h2, ← ih]
        rw [Int.emod_eq_of_lt (by omega) (by omega), IntWalk.wrap64_in ((a : Int) * 10) (by omega), IntWalk.wrap64_in _ (by omega), IntWalk.wrap64_in _ (by omega)]
        rw [show (a : Int) * 10 + ((c.toNat : Int) - 48) = ((a * 10 + (c.toNat - 48) : Nat) : Int) by omega, show ((word.size + j : Nat) : Int) + 1 = ((word.size + (j + 1) : Nat) : Int) by omega]
theorem fin_num (word name : ByteArray) (hs : word.size ≤ name.size) : IsNum word name (finR word name (parseR 0 (name.data.toList.drop word.size))).1 (finR word name (parseR 0 (name.data.toList.drop word.size))).2 := by
  by_cases h : ∃ n : Nat, n ≤ 2147483647 ∧ name = nameB word n
  · obtain ⟨n, hn, rfl⟩ := h
    rw [name_list, show word.size = word.data.toList.length by rw [Array.length_toList]; rfl, List.drop_left, parseR_pad n (by omega), finR, if_neg (by omega), if_pos rfl]
    exact Or.inl ⟨n, hn, rfl, rfl, rfl⟩
  · refine Or.inr ⟨h, ?_⟩
    cases parseR 0 (name.data.toList.drop word.size) with
    | none => exact ⟨rfl, rfl⟩
    | some v =>
      rw [finR]
      by_cases h1 : v > 2147483647
      · rw [if_pos h1]
        exact ⟨rfl, rfl⟩
      · rw [if_neg h1, if_neg (fun e => h ⟨v, by omega, e.symm⟩)]
        exact ⟨rfl, rfl⟩
theorem rnum_f (word name : ByteArray) (hw : word.size ≤ 1000) : ∃ k r b, atriumref05_Number.f k word name = some (r, b) ∧ IsNum word name r b := by
  by_cases h1 : name.size < word.size
  · refine ⟨1, 0, false, by rw [atriumref05_Number.f, if_pos (by omega), atriumref05_Number.j0, if_pos rfl], Or.inr ⟨?_, rfl, rfl⟩⟩
    rintro ⟨n, hn, rfl⟩
    have := name_size word n hn
    omega
  · have hwr : wrap64 ((word.size : Int) + 10) = (word.size : Int) + 10 := IntWalk.wrap64_in _ (by omega)
    by_cases h2 : name.size > word.size + 10
    · refine ⟨1, 0, false, by rw [atriumref05_Number.f, if_neg (by omega), hwr, decide_eq_true (by omega), atriumref05_Number.j0, if_pos rfl], Or.inr ⟨?_, rfl, rfl⟩⟩
      rintro ⟨n, hn, rfl⟩
      have := name_size word n hn
      omega
    · obtain ⟨k, hk⟩ := rnum_l word name hw (by omega) (by omega) (name.data.toList.drop word.size) 0 0 rfl (by rw [List.length_drop, Array.length_toList]; show 0 + (name.size - word.size) = _; omega) (by decide)
      refine ⟨k + 1, _, _, ?_, fin_num word name (by omega)⟩
      rw [atriumref05_Number.f, if_neg (by omega), hwr, decide_eq_false (by omega), atriumref05_Number.j0, if_neg (by decide)]
      exact hk
end Go.Proofs.YtlmlkamgpmnmgaaDoor
