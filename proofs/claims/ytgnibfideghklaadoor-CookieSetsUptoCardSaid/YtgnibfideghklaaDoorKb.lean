/-
  Chapter 19: what the printed summaries of the reference come to, over lists of bytes.
-/
import Derived.Test.YtgnibfideghklaaDoorKa
import Derived.Test.YtgnibfideghklaaDoorQ1
import Derived.Test.YtgnibfideghklaaDoorQ2
import Derived.Test.YtgnibfideghklaaDoorQ6
import Derived.Test.YtgnibfideghklaaDoorQ8
import Derived.Lib.Strings
set_option linter.unusedVariables false
set_option linter.unusedSimpArgs false
namespace Go.Proofs.YtgnibfideghklaaDoor
open Go.RowKit Go.Proofs.YtgnibfideghklaaDoorW.PrintWords Go.Proofs.YtgnibfideghklaaDoor.PCookieReads
def B (l : List UInt8) : ByteArray := ⟨l.toArray⟩
theorem B_size (l : List UInt8) : (B l).size = l.length := by simp [B, ByteArray.size]
theorem B_data (l : List UInt8) : (B l).data.toList = l := by simp [B]
theorem B_toList (l : List UInt8) : (B l).toList = l := by rw [ByteArray.toList_eq, B_data]
theorem of_data (s : ByteArray) : B s.data.toList = s := by simp [B]
theorem B_ext (l : List UInt8) (m n : Nat) : (B l).extract m n = B ((l.drop m).take (n - m)) := by
  rw [← of_data ((B l).extract m n), Lib.extract_data, B_data]
theorem B_take (l : List UInt8) (n : Nat) : (B l).extract 0 n = B (l.take n) := by rw [B_ext, List.drop_zero, Nat.sub_zero]
theorem B_drop (l : List UInt8) (n : Nat) : (B l).extract n (B l).size = B (l.drop n) := by
  rw [B_ext, B_size, List.take_of_length_le (by rw [List.length_drop]; omega)]
theorem B_get (l : List UInt8) (i : Nat) (h : i < (B l).size) (h2 : i < l.length) : (B l)[i]'h = l[i]'h2 := by
  show (l.toArray)[i]'_ = _
  exact List.getElem_toArray _
theorem B_app (l m : List UInt8) : B l ++ B m = B (l ++ m) := by
  rw [← of_data (B l ++ B m), ByteArray.data_append]
  simp [B]
theorem B_inj {l m : List UInt8} (h : B l = B m) : l = m := by rw [← B_data l, h, B_data]
theorem bt_mid (P R : List UInt8) (c : UInt8) : bt (B (P ++ c :: R)) (P.length : Int) = (c.toNat : Int) := by
  have h : ((P.length : Int)).toNat < (B (P ++ c :: R)).size := by rw [B_size]; simp
  rw [← bt_at _ _ h, B_get _ _ h (by simp)]
  simp
theorem len_data' (s : ByteArray) : s.data.toList.length = s.size := by rw [Array.length_toList]; rfl
theorem w_in (n : Nat) (h : n < 9223372036854775808) : wrap64 (n : Int) = (n : Int) := IntWalk.wrap64_in _ (by omega)
theorem w_succ (n : Nat) (h : n + 1 < 9223372036854775808) : wrap64 ((n : Int) + 1) = ((n + 1 : Nat) : Int) := by rw [IntWalk.wrap64_in _ (by omega)]; omega
theorem u8_eq (c : UInt8) (n : Nat) (hn : n < 256) : c = UInt8.ofNat n ↔ c.toNat = n := by
  constructor
  · rintro rfl
    simp [Nat.mod_eq_of_lt hn]
  · rintro rfl
    simp
theorem oct_iff (c : UInt8) : octB c = true ↔ 33 ≤ c.toNat ∧ c.toNat ≤ 126 ∧ c.toNat ≠ 34 ∧ c.toNat ≠ 44 ∧ c.toNat ≠ 59 ∧ c.toNat ≠ 92 := by
  have h1 := u8_eq c 34 (by omega)
  have h2 := u8_eq c 44 (by omega)
  have h3 := u8_eq c 59 (by omega)
  have h4 := u8_eq c 92 (by omega)
  have e1 : UInt8.ofNat 34 = 34 := rfl
  have e2 : UInt8.ofNat 44 = 44 := rfl
  have e3 : UInt8.ofNat 59 = 59 := rfl
  have e4 : UInt8.ofNat 92 = 92 := rfl
  rw [e1] at h1
  rw [e2] at h2
  rw [e3] at h3
  rw [e4] at h4
  simp only [octB, Bool.and_eq_true, decide_eq_true_eq, Bool.not_eq_true', beq_eq_false_iff_ne, ne_eq, h1, h2, h3, h4]
  omega
theorem oct_l0 (l : List UInt8) (hl : l.length < 4611686018427387904) : ∀ (R P : List UInt8) (k : Nat), l = P ++ R → R.length + 1 ≤ k → atriumref19_octets.l0 k (B l) (P.length : Int) = some (R.all octB)
  | [], P, k, h, hk => by
    obtain ⟨k, rfl⟩ : ∃ j, k = j + 1 := ⟨k - 1, by simp at hk; omega⟩
    rw [atriumref19_octets.l0, if_neg (by rw [B_size, h]; simp)]
    rfl
  | c :: R, P, k, h, hk => by
    obtain ⟨k, rfl⟩ : ∃ j, k = j + 1 := ⟨k - 1, by simp at hk; omega⟩
    have hlen : l.length = P.length + 1 + R.length := by rw [h]; simp; omega
    have hrec := oct_l0 l hl R (P ++ [c]) k (by rw [h]; simp) (by simp at hk; omega)
    rw [List.length_append, List.length_singleton] at hrec
    have hb : bt (B l) (P.length : Int) = (c.toNat : Int) := by rw [h]; exact bt_mid P R c
    rw [atriumref19_octets.l0, if_pos (by rw [B_size]; omega), if_pos (by omega), hb, w_succ _ (by omega), hrec, List.all_cons]
    have hi := oct_iff c
    cases ho : octB c with
    | true =>
      obtain ⟨a1, a2, a3, a4, a5, a6⟩ := hi.1 ho
      rw [if_neg (by omega), if_neg (by omega), if_neg (by omega), if_neg (by omega), if_neg (by omega), if_neg (by omega), Bool.true_and]
    | false =>
      have hn : ¬ (33 ≤ c.toNat ∧ c.toNat ≤ 126 ∧ c.toNat ≠ 34 ∧ c.toNat ≠ 44 ∧ c.toNat ≠ 59 ∧ c.toNat ≠ 92) := fun e => by rw [hi.2 e] at ho; cases ho
      repeat' split
      all_goals first | rfl | (exfalso; omega)
theorem oct_f {l : List UInt8} (hl : l.length < 4611686018427387904) (k : Nat) (hk : l.length + 1 ≤ k) : atriumref19_octets.f k (B l) = some (octL l) := oct_l0 l hl l [] k rfl hk
theorem let_iff (c : UInt8) : letB c = true ↔ (97 ≤ c.toNat ∧ c.toNat ≤ 122) ∨ (65 ≤ c.toNat ∧ c.toNat ≤ 90) ∨ (48 ≤ c.toNat ∧ c.toNat ≤ 57) := by
  simp only [letB, Bool.or_eq_true, Bool.and_eq_true, decide_eq_true_eq]
  omega
theorem letter_f (c : UInt8) : text_letter.f (c.toNat : Int) = some (letB c) := by
  have h := let_iff c
  unfold text_letter.f
  cases hc : letB c with
  | true =>
    have h1 := h.1 hc
    repeat' split
    all_goals first | rfl | (congr 1; exact decide_eq_true (by omega)) | (exfalso; omega)
  | false =>
    have h1 : ¬ ((97 ≤ c.toNat ∧ c.toNat ≤ 122) ∨ (65 ≤ c.toNat ∧ c.toNat ≤ 90) ∨ (48 ≤ c.toNat ∧ c.toNat ≤ 57)) := fun e => by rw [h.2 e] at hc; cases hc
    repeat' split
    all_goals first | rfl | (congr 1; exact decide_eq_false (by omega)) | (exfalso; omega)
theorem ref_letter_f (c : UInt8) : atriumref15_letter.f (c.toNat : Int) = some (decide ((97 ≤ c.toNat ∧ c.toNat ≤ 122) ∨ (65 ≤ c.toNat ∧ c.toNat ≤ 90))) := by
  unfold atriumref15_letter.f
  repeat' split
  all_goals (congr 1; rw [eq_comm])
  all_goals first | exact decide_eq_true (by omega) | exact decide_eq_false (by omega) | (exact decide_eq_decide.2 (by omega))
theorem ref_digit_f (c : UInt8) : atriumref15_digit.f (c.toNat : Int) = some (decide (48 ≤ c.toNat ∧ c.toNat ≤ 57)) := by
  unfold atriumref15_digit.f
  repeat' split
  all_goals (congr 1; rw [eq_comm])
  all_goals first | exact decide_eq_false (by omega) | (exact decide_eq_decide.2 (by omega))
theorem among_l0 (l : List UInt8) (hl : l.length < 4611686018427387904) (x : UInt8) : ∀ (R P : List UInt8) (k : Nat), l = P ++ R → R.length + 1 ≤ k → atriumref15_among.l0 k (B l) (x.toNat : Int) (P.length : Int) = some (R.contains x)
  | [], P, k, h, hk => by
    obtain ⟨k, rfl⟩ : ∃ j, k = j + 1 := ⟨k - 1, by simp at hk; omega⟩
    rw [atriumref15_among.l0, if_neg (by rw [B_size, h]; simp)]
    rfl
  | c :: R, P, k, h, hk => by
    obtain ⟨k, rfl⟩ : ∃ j, k = j + 1 := ⟨k - 1, by simp at hk; omega⟩
    have hlen : l.length = P.length + 1 + R.length := by rw [h]; simp; omega
    have hrec := among_l0 l hl x R (P ++ [c]) k (by rw [h]; simp) (by simp at hk; omega)
    rw [List.length_append, List.length_singleton] at hrec
    have hb : bt (B l) (P.length : Int) = (c.toNat : Int) := by rw [h]; exact bt_mid P R c
    rw [atriumref15_among.l0, if_pos (by rw [B_size]; omega), if_pos (by omega), hb, w_succ _ (by omega), hrec, List.contains_cons]
    by_cases hc : x = c
    · subst hc
      rw [if_pos rfl]
      simp
    · have : ¬ (c.toNat : Int) = (x.toNat : Int) := fun e => hc (UInt8.toNat_inj.1 (by omega))
      rw [if_neg this]
      have h2 : (x == c) = false := by simpa using hc
      rw [h2, Bool.false_or]
theorem among_marks (x : UInt8) (k : Nat) (hk : 16 ≤ k) : atriumref15_among.f k (⟨#[33, 35, 36, 37, 38, 39, 42, 43, 45, 46, 94, 95, 96, 124, 126]⟩ : ByteArray) (x.toNat : Int) = some (marksL.contains x) :=
  among_l0 marksL (by decide) x marksL [] k rfl hk
theorem tok_l0 (l : List UInt8) (hl : l.length < 4611686018427387904) : ∀ (R P : List UInt8) (k : Nat), l = P ++ R → R.length + 17 ≤ k → atriumref15_Token.l0 k (B l) (P.length : Int) = some (R.all tokB && !l.isEmpty)
  | [], P, k, h, hk => by
    obtain ⟨k, rfl⟩ : ∃ j, k = j + 1 := ⟨k - 1, by simp at hk; omega⟩
    rw [atriumref15_Token.l0, if_neg (by rw [B_size, h]; simp), B_size]
    congr 1
    cases l with
    | nil => rfl
    | cons a l => simp
  | c :: R, P, k, h, hk => by
    obtain ⟨k, rfl⟩ : ∃ j, k = j + 1 := ⟨k - 1, by simp at hk; omega⟩
    have hlen : l.length = P.length + 1 + R.length := by rw [h]; simp; omega
    have hrec := tok_l0 l hl R (P ++ [c]) k (by rw [h]; simp) (by simp at hk; omega)
    rw [List.length_append, List.length_singleton] at hrec
    have hb : bt (B l) (P.length : Int) = (c.toNat : Int) := by rw [h]; exact bt_mid P R c
    rw [atriumref15_Token.l0, if_pos (by rw [B_size]; omega), if_pos (by omega), hb, w_succ _ (by omega), hrec, List.all_cons, ref_letter_f, Option.bind_some, ref_digit_f, Option.bind_some, among_marks c k (by simp at hk; omega), Option.bind_some]
    have hi := let_iff c
    have ht : tokB c = (letB c || marksL.contains c) := rfl
    by_cases h1 : (97 ≤ c.toNat ∧ c.toNat ≤ 122) ∨ (65 ≤ c.toNat ∧ c.toNat ≤ 90)
    · rw [decide_eq_true h1, if_pos rfl, ht, hi.2 (by omega)]
      rfl
    · rw [decide_eq_false h1, if_neg (by decide)]
      by_cases h2 : 48 ≤ c.toNat ∧ c.toNat ≤ 57
      · rw [decide_eq_true h2, if_pos rfl, ht, hi.2 (by omega)]
        rfl
      · have h3 : letB c = false := Bool.eq_false_iff.2 fun e => by have := hi.1 e; omega
        rw [decide_eq_false h2, if_neg (by decide), ht, h3]
        cases marksL.contains c <;> rfl
theorem tok_f {l : List UInt8} (hl : l.length < 4611686018427387904) (k : Nat) (hk : l.length + 17 ≤ k) : atriumref15_Token.f k (B l) = some (tokL l) := tok_l0 l hl l [] k rfl hk
theorem bare_of (f : ByteArray → Option ByteArray) (hf : f = fun a0 => if (a0.size : Int) ≥ 2 then (if 0 < (a0.size : Int) then (if (bt a0 0) = 34 then (if 0 ≤ (wrap64 ((a0.size : Int) - 1)) then (if (wrap64 ((a0.size : Int) - 1)) < (a0.size : Int) then (if (bt a0 (wrap64 ((a0.size : Int) - 1))) = 34 then (if 1 ≤ (wrap64 ((a0.size : Int) - 1)) then (if (wrap64 ((a0.size : Int) - 1)) ≤ (a0.size : Int) then (some (a0.extract 1 ((wrap64 ((a0.size : Int) - 1)) : Int).toNat)) else (none)) else (none)) else (some a0)) else (none)) else (none)) else (some a0)) else (none)) else (some a0))
    (l : List UInt8) (hl : l.length < 4611686018427387904) : f (B l) = some (B (bareL l)) := by
  subst hf
  show (if ((B l).size : Int) ≥ 2 then _ else _) = _
  have hs := B_size l
  by_cases h2 : 2 ≤ l.length
  · have hw : wrap64 (((B l).size : Int) - 1) = ((l.length - 1 : Nat) : Int) := by rw [hs, IntWalk.wrap64_in _ (by omega)]; omega
    rw [if_pos (by rw [hs]; omega), if_pos (by rw [hs]; omega), hw]
    cases l with
    | nil => simp at h2
    | cons a t =>
      have hb0 : bt (B (a :: t)) 0 = (a.toNat : Int) := bt_mid [] t a
      have htne : t ≠ [] := by rintro rfl; simp at h2
      obtain ⟨q, z, hqz⟩ : ∃ q z, t = q ++ [z] := ⟨t.dropLast, t.getLast htne, (List.dropLast_concat_getLast htne).symm⟩
      subst hqz
      have hln : (a :: (q ++ [z])).length - 1 = (a :: q).length := by simp
      have hbl : bt (B (a :: (q ++ [z]))) (((a :: (q ++ [z])).length - 1 : Nat) : Int) = (z.toNat : Int) := by
        rw [hln]
        exact bt_mid (a :: q) [] z
      rw [hb0, hbl]
      have hlast : (a :: (q ++ [z])).getLast? = some z := by simp [List.getLast?_cons, List.getLast?_append]
      have e34 := u8_eq a 34 (by omega)
      have z34 := u8_eq z 34 (by omega)
      have e3 : UInt8.ofNat 34 = 34 := rfl
      rw [e3] at e34 z34
      by_cases ha : a = 34
      · rw [if_pos (by have := e34.1 ha; omega), if_pos (by omega), if_pos (by rw [hs]; simp; omega)]
        by_cases hz : z = 34
        · rw [if_pos (by have := z34.1 hz; omega), if_pos (by simp; omega), if_pos (by rw [hs]; simp; omega)]
          have hq : quoB (a :: (q ++ [z])) = true := by
            unfold quoB
            rw [hlast, ha, hz]
            simp
          unfold bareL
          rw [if_pos hq, B_ext, Int.toNat_natCast]
          congr 2
        · rw [if_neg (by intro e; exact hz (z34.2 (by omega)))]
          have hq : quoB (a :: (q ++ [z])) = false := by
            unfold quoB
            rw [hlast]
            simp [hz]
          unfold bareL
          rw [if_neg (by rw [hq]; decide)]
      · rw [if_neg (by intro e; exact ha (e34.2 (by omega)))]
        have hq : quoB (a :: (q ++ [z])) = false := by
          unfold quoB
          simp [ha]
        unfold bareL
        rw [if_neg (by rw [hq]; decide)]
  · rw [if_neg (by rw [hs]; omega)]
    have hq : quoB l = false := by
      unfold quoB
      rw [decide_eq_false h2]
      rfl
    unfold bareL
    rw [if_neg (by rw [hq]; decide)]
theorem bare_f (l : List UInt8) (hl : l.length < 4611686018427387904) : cookie_bare.f (B l) = some (B (bareL l)) := bare_of cookie_bare.f rfl l hl
theorem ref_bare_f (l : List UInt8) (hl : l.length < 4611686018427387904) : atriumref19_bare.f (B l) = some (B (bareL l)) := bare_of atriumref19_bare.f rfl l hl
theorem bare_len (l : List UInt8) : (bareL l).length ≤ l.length := by
  unfold bareL
  split
  · simp only [List.length_take, List.length_drop]; omega
  · exact Nat.le_refl _
theorem cutE_at : ∀ (P R : List UInt8), (61 : UInt8) ∉ P → cutE (P ++ R) = (P ++ (cutE R).1, (cutE R).2.1, (cutE R).2.2)
  | [], R, _ => rfl
  | c :: P, R, h => by
    simp only [List.mem_cons, not_or] at h
    rw [List.cons_append, cutE, if_neg (fun e => h.1 e.symm), cutE_at P R h.2]
    rfl
def pairV (l : List UInt8) : ByteArray × ByteArray × Bool := if (cutE l).2.2 = true then (B (cutE l).1, B (cutE l).2.1, pairRt ((cutE l).1, (cutE l).2.1)) else (⟨#[]⟩, ⟨#[]⟩, false)
theorem pair_l0 (l : List UInt8) (hl : l.length < 4611686018427387904) : ∀ (R P : List UInt8) (k : Nat), l = P ++ R → (61 : UInt8) ∉ P → R.length + l.length + 19 ≤ k → atriumref19_pair.l0 k (B l) (P.length : Int) = some (pairV l)
  | [], P, k, h, hP, hk => by
    obtain ⟨k, rfl⟩ : ∃ j, k = j + 1 := ⟨k - 1, by omega⟩
    rw [atriumref19_pair.l0, if_neg (by rw [B_size, h]; simp)]
    have : (cutE l).2.2 = false := by rw [h, cutE_at P [] hP]; rfl
    unfold pairV
    rw [if_neg (by rw [this]; decide)]
  | c :: R, P, k, h, hP, hk => by
    obtain ⟨k, rfl⟩ : ∃ j, k = j + 1 := ⟨k - 1, by omega⟩
    have hlen : l.length = P.length + 1 + R.length := by rw [h]; simp; omega
    have hb : bt (B l) (P.length : Int) = (c.toNat : Int) := by rw [h]; exact bt_mid P R c
    rw [atriumref19_pair.l0, if_pos (by rw [B_size]; omega), if_pos (by omega), hb, w_succ _ (by omega)]
    have e61 := u8_eq c 61 (by omega)
    have e6 : UInt8.ofNat 61 = 61 := rfl
    rw [e6] at e61
    by_cases hc : c = 61
    · have hcut : cutE l = (P, R, true) := by rw [h, cutE_at P _ hP, hc]; simp [cutE]
      have ht : l.take P.length = P := by rw [h]; simp
      have hd : l.drop (P.length + 1) = R := by rw [h, ← List.singleton_append, ← List.append_assoc]; exact List.drop_left' (by simp)
      have hbl := bare_len R
      rw [if_pos (by have := e61.1 hc; omega), if_pos (by rw [B_size]; omega), if_pos (by omega), if_pos (by rw [B_size]; omega), Int.toNat_natCast, Int.toNat_natCast, B_take, B_drop, ht, hd,
        tok_f (by omega) k (by omega), Option.bind_some, ref_bare_f R (by omega), Option.bind_some, oct_f (by omega) k (by omega), Option.bind_some]
      unfold pairV pairRt
      rw [hcut, if_pos rfl]
      cases tokL P <;> rfl
    · have hrec := pair_l0 l hl R (P ++ [c]) k (by rw [h]; simp) (by simp only [List.mem_append, List.mem_singleton, not_or]; exact ⟨hP, fun e => hc e.symm⟩) (by simp only [List.length_cons] at hk; omega)
      rw [List.length_append, List.length_singleton] at hrec
      rw [if_neg (by intro e; exact hc (e61.2 (by omega))), hrec]
theorem pair_f {l : List UInt8} (hl : l.length < 4611686018427387904) (k : Nat) (hk : l.length + l.length + 19 ≤ k) : atriumref19_pair.f k (B l) = some (pairV l) := pair_l0 l hl l [] k rfl (by simp) hk
end Go.Proofs.YtgnibfideghklaaDoor
