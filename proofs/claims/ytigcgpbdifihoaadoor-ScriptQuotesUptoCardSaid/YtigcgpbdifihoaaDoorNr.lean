/-
  Chapter 28: what the printed reference's Quote comes to.
-/
import Derived.Test.YtigcgpbdifihoaaDoorNc
import Derived.Test.YtigcgpbdifihoaaDoorR2
set_option linter.unusedVariables false
set_option linter.unusedSimpArgs false
namespace Go.Proofs.YtigcgpbdifihoaaDoor
open Go.RowKit Go.Proofs.YtigcgpbdifihoaaDoorW.PrintWords Go.Proofs.YtigcgpbdifihoaaDoor.PScriptQuotes
def nums (l : List UInt8) : List Int := l.map fun c => ((c.toNat : Nat) : Int)
theorem nums_app (l m : List UInt8) : nums l ++ nums m = nums (l ++ m) := by simp [nums]
theorem nums_len (l : List UInt8) : (nums l).length = l.length := by simp [nums]
theorem nums_str (l : List UInt8) : strOfNums (nums l) = B l := by
  have h : ((fun n : Int => UInt8.ofNat n.toNat) ∘ fun c : UInt8 => ((c.toNat : Nat) : Int)) = id := funext fun c => by simp
  rw [strOfNums, nums, List.map_map, h, List.map_id, B]
theorem bt_hex (n : Nat) (h : n < 16) : bt (⟨#[48, 49, 50, 51, 52, 53, 54, 55, 56, 57, 97, 98, 99, 100, 101, 102]⟩ : ByteArray) (n : Int) = ((hexB n).toNat : Int) := by
  match n, h with
  | 0, _ => rfl
  | 1, _ => rfl
  | 2, _ => rfl
  | 3, _ => rfl
  | 4, _ => rfl
  | 5, _ => rfl
  | 6, _ => rfl
  | 7, _ => rfl
  | 8, _ => rfl
  | 9, _ => rfl
  | 10, _ => rfl
  | 11, _ => rfl
  | 12, _ => rfl
  | 13, _ => rfl
  | 14, _ => rfl
  | 15, _ => rfl
  | n + 16, h => exact absurd h (by omega)
theorem rq_step (k : Nat) (P R q : List UInt8) (c : UInt8) (hl : (P ++ c :: R).length < 1000000000) (hq : q.length < 100000000000) :
    atriumref28_Quote.l0 (k + 2) (B (P ++ c :: R)) (nums q) (P.length : Int) = atriumref28_Quote.l0 k (B (P ++ c :: R)) (nums (q ++ quB c)) ((P.length + 1 : Nat) : Int) := by
  have hs : (B (P ++ c :: R)).size = P.length + (R.length + 1) := by rw [B_size]; simp
  have hb := bt_mid P R c
  have hw : wrap64 ((P.length : Int) + 1) = ((P.length + 1 : Nat) : Int) := w_succ P.length (by simp at hl; omega)
  have hc := UInt8.toNat_lt c
  rw [atriumref28_Quote.l0, if_pos (by rw [hs]; omega), if_pos (by omega), hb]
  obtain ⟨v, hv⟩ : ∃ v : Nat, c.toNat = v := ⟨_, rfl⟩
  have hj : ∀ x, atriumref28_Quote.j1 (k + 1) (B (P ++ c :: R)) (nums q) (P.length : Int) (c.toNat : Int) x = if x = true then atriumref28_Quote.l0 k (B (P ++ c :: R)) (nums (q ++ [92, c])) ((P.length + 1 : Nat) : Int) else (if 32 ≤ c.toNat ∧ c.toNat ≤ 126 then atriumref28_Quote.l0 k (B (P ++ c :: R)) (nums (q ++ [c])) ((P.length + 1 : Nat) : Int) else atriumref28_Quote.l0 k (B (P ++ c :: R)) (nums (q ++ [92, 120, hexB (c.toNat / 16), hexB (c.toNat % 16)])) ((P.length + 1 : Nat) : Int)) := fun x => by
    have t1 : (Int.tdiv (c.toNat : Int) 16) % 256 = ((c.toNat / 16 : Nat) : Int) := by rw [Int.tdiv_eq_ediv_of_nonneg (by omega)]; omega
    have t2 : Int.tmod (c.toNat : Int) 16 = ((c.toNat % 16 : Nat) : Int) := by rw [Int.tmod_eq_emod_of_nonneg (by omega)]; omega
    rw [atriumref28_Quote.j1]
    by_cases hx : x = true
    · rw [if_pos hx, if_pos hx]
      simp only [Option.bind_some, nums_len, List.length_cons, List.length_nil]
      rw [if_pos (by omega), hw, ← nums_app]
      rfl
    · rw [if_neg hx, if_neg hx, t1, t2, bt_hex _ (by omega), bt_hex _ (by omega)]
      have e4 : nums q ++ [92, 120, ((hexB (c.toNat / 16)).toNat : Int), ((hexB (c.toNat % 16)).toNat : Int)] = nums (q ++ [92, 120, hexB (c.toNat / 16), hexB (c.toNat % 16)]) := by rw [← nums_app]; rfl
      by_cases h1 : 32 ≤ c.toNat
      · by_cases h2 : c.toNat ≤ 126
        · rw [if_pos (by omega), if_pos (by omega), if_pos (by rw [nums_len]; omega), if_pos ⟨h1, h2⟩, hw, ← nums_app]
          rfl
        · rw [if_pos (by omega), if_neg (by omega), if_pos (by omega), if_pos (by omega), if_pos (by omega), if_pos (by omega), if_neg (by omega)]
          simp only [Option.bind_some, nums_len, List.length_cons, List.length_nil]
          rw [if_pos (by omega), hw, e4]
      · rw [if_neg (by omega), if_pos (by omega), if_pos (by omega), if_pos (by omega), if_pos (by omega), if_neg (by omega)]
        simp only [Option.bind_some, nums_len, List.length_cons, List.length_nil]
        rw [if_pos (by omega), hw, e4]
  by_cases h34 : c.toNat = 34
  · rw [if_pos (by omega), hj, if_pos rfl, quB, if_pos (Or.inl h34)]
  · rw [if_neg (by omega), hj]
    by_cases h92 : c.toNat = 92
    · rw [if_pos (by rw [h92]; rfl), quB, if_pos (Or.inr h92)]
    · have q2 : quB c = if 32 ≤ c.toNat ∧ c.toNat ≤ 126 then [c] else [92, 120, hexB (c.toNat / 16), hexB (c.toNat % 16)] := by
        rw [quB, if_neg (by omega)]
        rfl
      have q3 : ¬ (((c.toNat : Int) == 92) = true) := by
        intro h
        have := beq_iff_eq.1 h
        omega
      rw [if_neg q3, q2]
      split
      · rfl
      · rfl
theorem rq_loop (l : List UInt8) (hl : l.length < 1000000000) : ∀ (R P q : List UInt8) (k : Nat), l = P ++ R → q.length ≤ 4 * P.length + 1 → 2 * R.length + 1 ≤ k → atriumref28_Quote.l0 k (B l) (nums q) (P.length : Int) = some (B (q ++ R.flatMap quB ++ [34]))
  | [], P, q, k, h, hq, hk => by
    obtain ⟨k, rfl⟩ : ∃ j, k = j + 1 := ⟨k - 1, by omega⟩
    have hn : P.length = l.length := by rw [h]; simp
    rw [atriumref28_Quote.l0, if_neg (by rw [B_size]; omega), if_pos (by rw [nums_len]; omega)]
    have e : nums q ++ [34] = nums (q ++ [34]) := by rw [← nums_app]; rfl
    rw [e, nums_str]
    simp
  | c :: R, P, q, k, h, hq, hk => by
    obtain ⟨k, rfl⟩ : ∃ j, k = j + 2 := ⟨k - 2, by simp at hk; omega⟩
    have hn : P.length + (R.length + 1) = l.length := by rw [h]; simp
    subst h
    rw [rq_step k P R q c hl (by omega)]
    have := rq_loop (P ++ c :: R) hl R (P ++ [c]) (q ++ quB c) k (by simp) (by
      have := quB_len c
      simp
      omega) (by simp at hk; omega)
    rw [List.length_append, List.length_singleton] at this
    rw [this]
    simp
theorem rquote_f (l : List UInt8) (hl : l.length < 1000000000) (k : Nat) (hk : 2 * l.length + 1 ≤ k) : atriumref28_Quote.f k (B l) = some (B (quoteL l)) := by
  have := rq_loop l hl l [] [34] k rfl (by simp) hk
  rw [atriumref28_Quote.f]
  have e : nums [34] = [34] := rfl
  rw [e] at this
  rw [quoteL]
  exact this
end Go.Proofs.YtigcgpbdifihoaaDoor
