/-
  Chapter 18: the reference's Check and Digits, by the printed summaries.
-/
import Derived.Test.YthacomeiinejaaaDoorSe
import Derived.Test.YthacomeiinejaaaDoorQ4
set_option linter.unusedVariables false
set_option linter.unusedSimpArgs false
namespace Go.Proofs.YthacomeiinejaaaDoor
open Go.RowKit Go.Proofs.YthacomeiinejaaaDoorW.PrintWords Go.Proofs.YthacomeiinejaaaDoor.PReplyWrites
theorem rchk_l0 (st : Int) (b : ByteArray) (ck : List UInt8) (cl : Bool) (hl : ck.length ≤ 256) : ∀ (R P : List UInt8) (K : Nat), ck = P ++ R → atriumref18_Check.l0 (R.length + 1 + K) (P.length : Int) st b (B ck) cl = some (if R.all isPl = true then 0 else 180)
  | [], P, K, h => by
    have hsz : ((B ck).size : Int) = (P.length : Int) := by rw [B_size, h, List.append_nil]
    rw [show ([] : List UInt8).length + 1 + K = K + 1 by simp; omega, atriumref18_Check.l0, if_neg (by omega)]
    rfl
  | c :: R, P, K, h => by
    have hsz : ((B ck).size : Int) = (P.length : Int) + 1 + (R.length : Int) := by rw [B_size, h, List.length_append, List.length_cons]; omega
    have hbt : bt (B ck) (P.length : Int) = (c.toNat : Int) := by rw [h]; exact bt_mid P R c
    have hll : P.length + 1 + R.length ≤ 256 := by rw [h, List.length_append, List.length_cons] at hl; omega
    have hrec := rchk_l0 st b ck cl hl R (P ++ [c]) K (by rw [h]; simp)
    rw [List.length_append, List.length_singleton] at hrec
    rw [show (c :: R).length + 1 + K = (R.length + 1 + K) + 1 by simp; omega, atriumref18_Check.l0, if_pos (by omega), if_pos (by omega), hbt]
    have hp : wrap64 ((P.length : Int) + 1) = ((P.length + 1 : Nat) : Int) := by rw [IntWalk.wrap64_in _ (by omega)]; omega
    rw [hp, hrec, List.all_cons]
    by_cases h1 : (c.toNat : Int) < 32
    · rw [if_pos h1]
      have : isPl c = false := by unfold isPl; rw [decide_eq_false (by omega)]; rfl
      rw [this]
      rfl
    · rw [if_neg h1]
      by_cases h2 : (c.toNat : Int) > 126
      · rw [if_pos h2]
        have : isPl c = false := by unfold isPl; rw [decide_eq_false (show ¬ c.toNat ≤ 126 by omega), Bool.and_false]
        rw [this]
        rfl
      · rw [if_neg h2]
        have : isPl c = true := by unfold isPl; rw [decide_eq_true (by omega), decide_eq_true (by omega)]; rfl
        rw [this, Bool.true_and]
theorem rchk_j0 (st : Int) (b : ByteArray) (ck : List UInt8) (cl : Bool) : atriumref18_Check.j0 (ck.length + 2) (decide (((B ck).size : Int) > 256)) st b (B ck) cl = some (if (decide (ck.length ≤ 256) && ck.all isPl) = true then 0 else 180) := by
  rw [atriumref18_Check.j0]
  by_cases h : ck.length ≤ 256
  · have h1 : decide (((B ck).size : Int) > 256) = false := by rw [B_size]; exact decide_eq_false (by omega)
    rw [h1, if_neg (by simp), decide_eq_true h, Bool.true_and]
    exact rchk_l0 st b ck cl h ck [] 0 rfl
  · have h1 : decide (((B ck).size : Int) > 256) = true := by rw [B_size]; exact decide_eq_true (by omega)
    rw [h1, if_pos rfl, decide_eq_false h]
    rfl
theorem rchk_f (st : Int) (body ck : List UInt8) (cl : Bool) : atriumref18_Check.f (ck.length + 2) st (B body) (B ck) cl = some (if chkB st body ck = true then 0 else 180) := by
  have hj : ∀ x, atriumref18_Check.j0 (ck.length + 2) true st x (B ck) cl = some 180 := fun x => by rw [atriumref18_Check.j0, if_pos rfl]
  unfold atriumref18_Check.f chkB
  rw [rwords_f, Option.bind_some]
  by_cases h1 : (wordsB st).toList = []
  · rw [if_pos h1, hj, h1]
    rfl
  · have h1b : (wordsB st).toList.isEmpty = false := by simpa using h1
    rw [if_neg h1, h1b]
    by_cases h2 : body.length ≤ 65536
    · rw [if_neg (by rw [B_size]; omega), decide_eq_true h2]
      by_cases h3 : st = 204
      · rw [if_pos h3, B_toList]
        by_cases h4 : body = []
        · rw [if_pos h4, rchk_j0, h4]
          simp
        · rw [if_neg h4, hj]
          have : body.isEmpty = false := by simpa using h4
          rw [this, decide_eq_true h3]
          rfl
      · rw [if_neg h3, rchk_j0, decide_eq_false h3]
        simp
    · rw [if_pos (by rw [B_size]; omega), hj, decide_eq_false h2]
      rfl
theorem rcheck_any (st : Int) (body ck : List UInt8) (cl : Bool) (w : World) :
    Calls Tryd.prog 11 #[repV st body ck cl] w fun e w' => e = .returned (.int .i64 (if chkB st body ck = true then 0 else 180)) ∧ Below w.heap.size w w' :=
  atriumref18_Check.calls _ st (B body) (B ck) cl _ w (rchk_f st body ck cl)
theorem dig_l0 : ∀ (n : Nat) (acc : List UInt8) (K : Nat), n ≤ 1000000 → acc.length + n ≤ 2000000 → atriumref18_Digits.l0 (n + 1 + K) (n : Int) (B acc) = some (B (Lib.decDigits n ++ acc)) := fun n => by
  induction n using Nat.strongRecOn with
  | ind n ih =>
    intro acc K hn ha
    rw [show n + 1 + K = (n + K) + 1 by omega, atriumref18_Digits.l0]
    by_cases h : n < 10
    · rw [if_neg (by omega), Option.bind_some, Lib.decDigits_one h]
      have e : wrap64 (48 + (n : Int)) % 256 = ((48 + n : Nat) : Int) := by rw [IntWalk.wrap64_in _ (by omega)]; omega
      have e2 : strOfNums [((48 + n : Nat) : Int)] = B [UInt8.ofNat (48 + n)] := rfl
      rw [e, e2, B_app, if_pos (by rw [B_size, B_size]; simp; omega)]
    · rw [if_pos (by omega), Option.bind_some]
      have e : wrap64 (48 + (n : Int).tmod 10) % 256 = ((48 + n % 10 : Nat) : Int) := by
        rw [Int.tmod_eq_emod_of_nonneg (by omega), IntWalk.wrap64_in _ (by omega)]
        omega
      have e2 : strOfNums [((48 + n % 10 : Nat) : Int)] = B [UInt8.ofNat (48 + n % 10)] := rfl
      have e3 : wrap64 ((n : Int).tdiv 10) = ((n / 10 : Nat) : Int) := by
        rw [Int.tdiv_eq_ediv_of_nonneg (by omega), IntWalk.wrap64_in _ (by omega)]
        omega
      rw [e, e2, e3, B_app, if_pos (by rw [B_size, B_size]; simp; omega)]
      rw [show n + K = n / 10 + 1 + (n - n / 10 - 1 + K) by omega, ih (n / 10) (by omega) _ _ (by omega) (by simp; omega), dec_step h, List.append_assoc]
theorem digits_any (n : Nat) (hn : n ≤ 1000000) (w : World) :
    Calls Tryd.prog 25 #[.int .i64 (n : Int)] w fun e w' => e = .returned (.string (B (Lib.decDigits n))) ∧ Below w.heap.size w w' := by
  have h := dig_l0 n [] 0 hn (by simp; omega)
  rw [List.append_nil] at h
  exact atriumref18_Digits.calls (n + 1) n _ w h
theorem chk_ok {st : Int} {body ck : List UInt8} (h : chkB st body ck = true) : OkR st body ck := by
  simp only [chkB, Bool.and_eq_true, decide_eq_true_eq] at h
  obtain ⟨⟨⟨⟨hw, hbl⟩, h204⟩, hkl⟩, hpl⟩ := h
  refine ⟨?_, ?_, hbl, ?_, hkl⟩
  · cases hf : stats.find? (fun p => p.1 == st) with
    | none =>
      have : wordsB st = ⟨#[]⟩ := by unfold wordsB; rw [hf]; rfl
      have e : (⟨#[]⟩ : ByteArray).toList = [] := ByteArray.toList_mk []
      rw [this, e] at hw
      exact absurd hw (by decide)
    | some q =>
      have h1 := List.find?_some hf
      have h2 := List.mem_of_find?_eq_some hf
      have h3 : wordsB st = q.2 := by unfold wordsB; rw [hf]; rfl
      rw [h3]
      have h4 : q.1 = st := by simpa using h1
      rw [← h4]
      exact h2
  · intro h
    subst h
    cases body with
    | nil => rfl
    | cons a l => simp at h204
  · simpa using hpl
theorem st_range {st : Int} {body ck : List UInt8} (h : OkR st body ck) : 0 ≤ st ∧ st ≤ 1000 := (st_small _ h.hst).2
theorem len_line (p : Int × ByteArray) (h0 : -9223372036854775808 ≤ p.1) (h1 : p.1 ≤ 9223372036854775807) (hp : p.2.size ≤ 64) : (lineL p).length ≤ 88 := by
  have h2 := Lib.itoa_length_le p.1 h0 h1
  have hd : crlfL.length = 2 := rfl
  unfold lineL
  simp only [List.length_append, List.length_singleton, hd]
  rw [len_data']
  omega
theorem len_write {st : Int} {body ck : List UInt8} (cl : Bool) (h : OkR st body ck) : (writeL st body ck cl).length ≤ 66200 := by
  obtain ⟨h0, h1⟩ := st_range h
  have h2 := len_line (st, wordsB st) (by simp only; omega) (by simp only; omega) (st_small _ h.hst).1
  have h3 := Lib.itoa_length_le (body.length : Int) (by omega) (by have := h.hlen; omega)
  rw [Lib.itoa_nonneg] at h3
  have h4 := h.hlen
  have h5 := h.hck
  have n1 : typeL.length = 32 := rfl
  have n2 : lenL.length = 16 := rfl
  have n3 : crlfL.length = 2 := rfl
  have n4 : cookL.length = 12 := rfl
  have n5 : closeL.length = 19 := rfl
  have n6 : verL.length = 9 := rfl
  have e3 : (E3 cl).length ≤ 21 := by cases cl <;> decide
  have e2 : (E2 ck cl).length ≤ 14 + ck.length + 21 := by
    unfold E2
    rw [List.length_append]
    split
    · simp only [List.length_nil]; omega
    · simp only [List.length_append, n4, n3]; omega
  have e1 : (E1 st body.length ck cl).length ≤ 39 + (14 + ck.length + 21) := by
    unfold E1
    rw [List.length_append]
    split
    · simp only [List.length_nil]; omega
    · simp only [List.length_append, n2, n3]; omega
  have e0 : (E0 st body.length ck cl).length ≤ 32 + (39 + (14 + ck.length + 21)) := by
    unfold E0
    rw [List.length_append]
    split
    · simp only [List.length_nil]; omega
    · rw [n1]; omega
  unfold writeL HL
  simp only [List.length_append, n6]
  omega
end Go.Proofs.YthacomeiinejaaaDoor
