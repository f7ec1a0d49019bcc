/-
  Chapter 19, plain: the same pairs; the reference's Print.
-/
import Derived.Test.YtgnibfideghklaaDoorKn
import Derived.Test.YtgnibfideghklaaDoorQ9
set_option linter.unusedVariables false
set_option linter.unusedSimpArgs false
namespace Go.Proofs.YtgnibfideghklaaDoor
open Go.RowKit Go.Proofs.YtgnibfideghklaaDoorW.PrintWords Go.Proofs.YtgnibfideghklaaDoor.PCookieReads
theorem rd_mid (PL RL : List (List UInt8 × List UInt8)) (p : List UInt8 × List UInt8) : rd_T43 ((PL ++ p :: RL).map SP) (PL.length : Int) = SP p := by
  simp [rd_T43, List.getD_eq_getElem?_getD, List.getElem?_append_right]
theorem same_l0 (L : List S43) (hL : L.length < 4611686018427387904) : ∀ (n i k : Nat), i + n = L.length → n + 1 ≤ k → atriumlaw19_samePairs.l0 k L L (i : Int) = some true
  | 0, i, k, h, hk => by
    obtain ⟨k, rfl⟩ : ∃ j, k = j + 1 := ⟨k - 1, by omega⟩
    rw [atriumlaw19_samePairs.l0, if_neg (by omega)]
  | n + 1, i, k, h, hk => by
    obtain ⟨k, rfl⟩ : ∃ j, k = j + 1 := ⟨k - 1, by omega⟩
    rw [atriumlaw19_samePairs.l0, if_pos (by omega), if_pos (by omega), if_pos (by omega), if_neg (by simp), w_succ _ (by omega)]
    exact same_l0 L hL n (i + 1) k (by omega) (by omega)
theorem same_f (L : List S43) (hL : L.length < 4611686018427387904) : atriumlaw19_samePairs.f (L.length + 1) L L = some true := by
  unfold atriumlaw19_samePairs.f
  rw [if_pos rfl]
  exact same_l0 L hL L.length 0 _ (by omega) (Nat.le_refl _)
theorem joinR_len (K : Nat) : ∀ l : List (List UInt8), (∀ x ∈ l, x.length + 2 ≤ K) → (joinR l).length ≤ l.length * K
  | [], _ => by simp [joinR]
  | [x], h => by have := h x (by simp); simp only [joinR, List.length_cons, List.length_nil]; omega
  | x :: y :: r, h => by
    have ih := joinR_len K (y :: r) (fun z hz => h z (by simp [hz]))
    have h0 := h x (by simp)
    rw [joinR, List.length_append, List.length_cons, List.length_cons, List.length_cons, Nat.add_mul]
    omega
theorem glue_len (p : List UInt8 × List UInt8) : (glue p).length = p.1.length + 1 + p.2.length := by simp [glue]; omega
def resPr (ps : List (List UInt8 × List UInt8)) : ByteArray × Int := match printC ps with | some l => (B l, 0) | none => (⟨#[]⟩, 190)
def Small (L : List (List UInt8 × List UInt8)) : Prop := ∀ p ∈ L, p.1.length < 4294967296 ∧ p.2.length < 4294967296
theorem rprint_l0 (L : List (List UInt8 × List UInt8)) (h16 : L.length ≤ 16) (hS : Small L) (N : Nat) (hN : ∀ p ∈ L, p.1.length + p.2.length + 20 ≤ N) : ∀ (RL PL : List (List UInt8 × List UInt8)) (k : Nat), L = PL ++ RL → 2 * RL.length + N + 1 ≤ k →
    atriumref19_Print.l0 k (L.map SP) (B (joinR (PL.map glue))) (PL.length : Int) = some (if RL.all pairRt = true then (B (joinR (L.map glue)), 0) else (⟨#[]⟩, 190))
  | [], PL, k, h, hk => by
    obtain ⟨k, rfl⟩ : ∃ j, k = j + 1 := ⟨k - 1, by omega⟩
    rw [atriumref19_Print.l0, if_neg (by rw [List.length_map, h]; simp), if_pos (show ([] : List (List UInt8 × List UInt8)).all pairRt = true from rfl), h, List.append_nil]
  | p :: RL, PL, k, h, hk => by
    obtain ⟨k, rfl⟩ : ∃ j, k = j + 1 := ⟨k - 1, by omega⟩
    obtain ⟨k, rfl⟩ : ∃ j, k = j + 1 := ⟨k - 1, by simp at hk; omega⟩
    simp only [List.length_cons] at hk
    have hlen : L.length = PL.length + 1 + RL.length := by rw [h]; simp; omega
    have hp : p ∈ L := by rw [h]; simp
    obtain ⟨hp1, hp2⟩ := hS p hp
    have hpN := hN p hp
    have hbl := bare_len p.2
    have hr : rd_T43 (L.map SP) (PL.length : Int) = SP p := by rw [h]; exact rd_mid PL RL p
    have hjl : (joinR (PL.map glue)).length ≤ 137438953504 := by
      have := joinR_len 8589934594 (PL.map glue) (fun x hx => by
        obtain ⟨q, hq, rfl⟩ := List.mem_map.1 hx
        have := hS q (by rw [h]; simp [hq])
        rw [glue_len]
        omega)
      rw [List.length_map] at this
      have h2 := Nat.mul_le_mul_right 8589934594 (show PL.length ≤ 16 by omega)
      exact Nat.le_trans this (Nat.le_trans h2 (Nat.le_of_ble_eq_true rfl))
    have hall : (p :: RL).all pairRt = (pairRt p && RL.all pairRt) := rfl
    have hpr : pairRt p = (tokL p.1 && octL (bareL p.2)) := rfl
    rw [atriumref19_Print.l0, if_pos (by rw [List.length_map]; omega), if_pos (by omega), hr]
    show (atriumref15_Token.f (k + 1) (B p.1)).bind _ = _
    rw [tok_f (by omega) (k + 1) (by omega), Option.bind_some]
    cases ht : tokL p.1 with
    | false =>
      rw [if_neg (by decide), atriumref19_Print.j2, if_pos rfl, hall, hpr, ht, Bool.false_and, Bool.false_and, if_neg (by decide)]
    | true =>
      rw [if_pos rfl]
      show (atriumref19_bare.f (B p.2)).bind _ = _
      rw [ref_bare_f p.2 (by omega), Option.bind_some, oct_f (by omega) (k + 1) (by omega), Option.bind_some]
      cases ho : octL (bareL p.2) with
      | false =>
        rw [atriumref19_Print.j2, if_pos (show (!false) = true from rfl), hall, hpr, ht, ho, Bool.and_false, Bool.false_and, if_neg (by decide)]
      | true =>
        have hrec := rprint_l0 L h16 hS N hN RL (PL ++ [p]) k (by rw [h]; simp) (by omega)
        rw [List.length_append, List.length_singleton] at hrec
        have e2 : hall = hall := rfl
        rw [hall, hpr, ht, ho, Bool.true_and, Bool.true_and, ← hrec, atriumref19_Print.j2, if_neg (by decide), hr, w_succ _ (by omega)]
        show (if (PL.length : Int) > 0 then (if (B (joinR (PL.map glue))).size + 2 ≤ 9223372036854775807 then (if 0 ≤ (PL.length : Int) then (if (PL.length : Int) < ((L.map SP).length : Int) then (if (B (joinR (PL.map glue)) ++ B [59, 32]).size + (B p.1).size ≤ 9223372036854775807 then (if ((B (joinR (PL.map glue)) ++ B [59, 32]) ++ B p.1).size + 1 ≤ 9223372036854775807 then (if (((B (joinR (PL.map glue)) ++ B [59, 32]) ++ B p.1) ++ B [61]).size + (B p.2).size ≤ 9223372036854775807 then (atriumref19_Print.l0 k (L.map SP) ((((B (joinR (PL.map glue)) ++ B [59, 32]) ++ B p.1) ++ B [61]) ++ B p.2) ((PL.length + 1 : Nat) : Int)) else none) else none) else none) else none) else none) else none) else (if 0 ≤ (PL.length : Int) then (if (PL.length : Int) < ((L.map SP).length : Int) then (if (B (joinR (PL.map glue))).size + (B p.1).size ≤ 9223372036854775807 then (if (B (joinR (PL.map glue)) ++ B p.1).size + 1 ≤ 9223372036854775807 then (if ((B (joinR (PL.map glue)) ++ B p.1) ++ B [61]).size + (B p.2).size ≤ 9223372036854775807 then (atriumref19_Print.l0 k (L.map SP) (((B (joinR (PL.map glue)) ++ B p.1) ++ B [61]) ++ B p.2) ((PL.length + 1 : Nat) : Int)) else none) else none) else none) else none) else none)) = _
        simp only [B_app]
        have hx : joinR ((PL ++ [p]).map glue) = if PL = [] then p.1 ++ [61] ++ p.2 else joinR (PL.map glue) ++ [59, 32] ++ p.1 ++ [61] ++ p.2 := by
          by_cases hn : PL = []
          · subst hn; simp [joinR, glue]
          · rw [if_neg hn, List.map_append, List.map_cons, List.map_nil, joinR_snoc _ _ (by simpa using hn)]
            simp [glue]
        rw [hx]
        by_cases hn : PL = []
        · subst hn
          rw [if_neg (by simp), if_pos (by simp), if_pos (by rw [List.length_map]; omega), if_pos (by rw [B_size, B_size]; omega), if_pos (by rw [B_size, List.length_append]; omega), if_pos (by rw [B_size, B_size, List.length_append, List.length_append, List.length_singleton]; omega), if_pos rfl]
          simp [joinR]
        · have hpos : 0 < PL.length := List.length_pos_iff.2 hn
          have l2 : ([59, 32] : List UInt8).length = 2 := rfl
          have l1 : ([61] : List UInt8).length = 1 := rfl
          rw [if_pos (by omega), if_pos (by rw [B_size]; omega), if_pos (by omega), if_pos (by rw [List.length_map]; omega), if_pos (by rw [B_size, B_size, List.length_append]; omega), if_pos (by rw [B_size, List.length_append, List.length_append]; omega), if_pos (by rw [B_size, B_size, List.length_append, List.length_append, List.length_append]; omega), if_neg hn]
theorem rprint_f (L : List (List UInt8 × List UInt8)) (hS : Small L) (N : Nat) (hN : ∀ p ∈ L, p.1.length + p.2.length + 20 ≤ N) : atriumref19_Print.f (N + 40) (L.map SP) = some (resPr L) := by
  unfold atriumref19_Print.f
  rw [List.length_map]
  unfold resPr printC
  by_cases h1 : 1 ≤ L.length
  · rw [if_neg (by omega)]
    by_cases h16 : L.length ≤ 16
    · rw [decide_eq_false (by omega), show N + 40 = (N + 39) + 1 by omega, atriumref19_Print.j0, if_neg (by decide)]
      have := rprint_l0 L h16 hS N hN L [] (N + 39) rfl (by omega)
      refine (show atriumref19_Print.l0 (N + 39) (L.map SP) (⟨#[]⟩ : ByteArray) 0 = _ from this).trans ?_
      cases hall : L.all pairRt with
      | true => rw [if_pos rfl, if_pos ⟨h1, h16, rfl⟩]
      | false => rw [if_neg (by decide), if_neg (by simp)]
    · rw [decide_eq_true (by omega), show N + 40 = (N + 39) + 1 by omega, atriumref19_Print.j0, if_pos rfl, if_neg (by omega)]
  · rw [if_pos (by omega), show N + 40 = (N + 39) + 1 by omega, atriumref19_Print.j0, if_pos rfl, if_neg (by omega)]
end Go.Proofs.YtgnibfideghklaaDoor
