/-
  Chapter 18, plain: a reply's bytes, and what a reader makes of them.
-/
import Derived.Test.YthacomeiinejaaaDoorSa
import Derived.Lib.ItoaNum
import Derived.Lib.ItoaMem
set_option linter.unusedVariables false
set_option linter.unusedSimpArgs false
namespace Go.Proofs.YthacomeiinejaaaDoor
open Go.Lib (decDigits)
def crlfL : List UInt8 := [13, 10]
def verL : List UInt8 := [72, 84, 84, 80, 47, 49, 46, 49, 32]
def typeL : List UInt8 := [67, 111, 110, 116, 101, 110, 116, 45, 84, 121, 112, 101, 58, 32, 97, 112, 112, 108, 105, 99, 97, 116, 105, 111, 110, 47, 106, 115, 111, 110, 13, 10]
def lenL : List UInt8 := [67, 111, 110, 116, 101, 110, 116, 45, 76, 101, 110, 103, 116, 104, 58, 32]
def cookL : List UInt8 := [83, 101, 116, 45, 67, 111, 111, 107, 105, 101, 58, 32]
def closeL : List UInt8 := [67, 111, 110, 110, 101, 99, 116, 105, 111, 110, 58, 32, 99, 108, 111, 115, 101, 13, 10]
def lineL (p : Int × ByteArray) : List UInt8 := Go.Lib.itoa p.1 ++ [32] ++ p.2.data.toList ++ crlfL
abbrev RSt := List UInt8 × Bool × Bool
def takeL (t : List UInt8) (s : RSt) : Bool × RSt :=
  if s.2.1 = true then (false, s) else if s.2.2 = true then (false, s)
  else if t.isPrefixOf s.1 then (true, s.1.drop t.length, s.2.1, s.2.2)
  else if s.1.length < t.length then (if s.1.isPrefixOf t then (false, s.1, true, s.2.2) else (false, s))
  else (false, s)
def mustL (t : List UInt8) (s : RSt) : RSt :=
  if (takeL t s).1 = true then (takeL t s).2 else if (takeL t s).2.2.1 = true then (takeL t s).2 else ((takeL t s).2.1, (takeL t s).2.2.1, true)
def isDig (c : UInt8) : Bool := decide (48 ≤ c.toNat) && decide (c.toNat ≤ 57)
def isPl (c : UInt8) : Bool := decide (32 ≤ c.toNat) && decide (c.toNat ≤ 126)
def numGo (z : Bool) : Nat → Nat → List UInt8 → Option (Nat × Nat × List UInt8)
  | k, n, [] => some (n, k, [])
  | k, n, c :: l => if isDig c then (if 65536 < 10 * n + (c.toNat - 48) then none else if 1 < k + 1 ∧ z = true then none else numGo z (k + 1) (10 * n + (c.toNat - 48)) l) else some (n, k, c :: l)
def numberL (l : List UInt8) : Nat × RSt :=
  match numGo (l.head? == some 48) 0 0 l with
  | none => (0, l, false, true)
  | some (n, k, R) => if k = 0 then (if R = [] then (n, R, true, false) else (n, R, false, true)) else (n, mustL crlfL (R, false, false))
def plGo : Nat → List UInt8 → Nat
  | k, [] => k
  | k, c :: l => if isPl c then (if k ≤ 256 then plGo (k + 1) l else k) else k
def cookieL (l : List UInt8) : List UInt8 × RSt :=
  if 256 < plGo 0 l ∨ (plGo 0 l = 0 ∧ l ≠ []) then ([], l, false, true)
  else if l.drop (plGo 0 l) = [] then ([], l.drop (plGo 0 l), true, false)
  else (l.take (plGo 0 l), mustL crlfL (l.drop (plGo 0 l), false, false))
def statusL (l : List UInt8) : Int × RSt :=
  let s1 := mustL verL (l, false, false)
  if s1.2.1 = true then (0, s1) else if s1.2.2 = true then (0, s1)
  else match stats.find? (fun p => (lineL p).isPrefixOf s1.1) with
    | some p => (p.1, s1.1.drop (lineL p).length, false, false)
    | none => (0, s1.1, stats.any (fun p => s1.1.isPrefixOf (lineL p)), !stats.any (fun p => s1.1.isPrefixOf (lineL p)))
def tail3 (s : RSt) : Bool × RSt := ((takeL closeL s).1, mustL crlfL (takeL closeL s).2)
def tail2 (s : RSt) : List UInt8 × Bool × RSt :=
  if (takeL cookL s).1 = true then ((cookieL (takeL cookL s).2.1).1, tail3 (cookieL (takeL cookL s).2.1).2) else ([], tail3 (takeL cookL s).2)
/-- The length's line: the size, and the state. -/
def sizeL (st : Int) (s : RSt) : Nat × RSt :=
  if st = 204 then (0, s)
  else if (mustL lenL s).2.1 = true then (0, mustL lenL s) else if (mustL lenL s).2.2 = true then (0, mustL lenL s)
  else numberL (mustL lenL s).1
def mark (ty : Bool) (z : Nat) (s : RSt) : RSt := if (ty != decide (0 < z)) && !s.2.1 then (s.1, s.2.1, true) else s
/-- A head: the status, the cookie, whether it closes; the size; the state. -/
def headL (l : List UInt8) : Int × List UInt8 × Bool × Nat × RSt :=
  let a := statusL l
  let t := takeL typeL a.2
  let z := sizeL a.1 t.2
  let r := tail2 (mark t.1 z.1 z.2)
  (a.1, r.1, r.2.1, z.1, r.2.2)
/-- What a text is: a reply and how many bytes it has, or why it is none. -/
inductive Told where
  | ok (st : Int) (body cookie : List UInt8) (close : Bool) (n : Nat)
  | short
  | bad
def parseL (l : List UInt8) : Told :=
  let h := headL l
  if h.2.2.2.2.2.2 = true then .bad
  else if h.2.2.2.2.2.1 = true then .short
  else if h.2.2.2.2.1.length < h.2.2.2.1 then .short
  else .ok h.1 (h.2.2.2.2.1.take h.2.2.2.1) h.2.1 h.2.2.1 (l.length - h.2.2.2.2.1.length + h.2.2.2.1)
/-! ### A reply's bytes -/
def E3 (close : Bool) : List UInt8 := (if close = true then closeL else []) ++ crlfL
def E2 (ck : List UInt8) (close : Bool) : List UInt8 := (if ck = [] then [] else cookL ++ ck ++ crlfL) ++ E3 close
def E1 (st : Int) (n : Nat) (ck : List UInt8) (close : Bool) : List UInt8 := (if st = 204 then [] else lenL ++ decDigits n ++ crlfL) ++ E2 ck close
def E0 (st : Int) (n : Nat) (ck : List UInt8) (close : Bool) : List UInt8 := (if n = 0 then [] else typeL) ++ E1 st n ck close
def HL (st : Int) (n : Nat) (ck : List UInt8) (close : Bool) : List UInt8 := verL ++ lineL (st, wordsB st) ++ E0 st n ck close
/-! ### The steps -/
theorem take_dead (t l : List UInt8) (b : Bool) : takeL t (l, true, b) = (false, l, true, b) := by simp [takeL]
theorem must_dead (t l : List UInt8) (b : Bool) : mustL t (l, true, b) = (l, true, b) := by simp [mustL, take_dead]
theorem pre_take {t R : List UInt8} {j : Nat} (h : t.length ≤ j) : (t ++ R).take j = t ++ R.take (j - t.length) := by
  rw [List.take_append, List.take_of_length_le h]
theorem pre_short {t R : List UInt8} {j : Nat} (h : j < t.length) : (t ++ R).take j = t.take j := by
  rw [List.take_append, show j - t.length = 0 by omega, List.take_zero, List.append_nil]
theorem isPre_app (t u : List UInt8) : t.isPrefixOf (t ++ u) = true := by rw [List.isPrefixOf_iff_prefix]; exact List.prefix_append t u
theorem take_yes (t R : List UInt8) (j : Nat) : takeL t ((t ++ R).take j, false, false) = if t.length ≤ j then (true, R.take (j - t.length), false, false) else (false, t.take j, true, false) := by
  by_cases h : t.length ≤ j
  · rw [if_pos h, pre_take h]
    simp [takeL, isPre_app]
  · rw [if_neg h, pre_short (by omega)]
    have h1 : t.isPrefixOf (t.take j) = false := by
      rw [Bool.eq_false_iff]
      intro hp
      have := (List.isPrefixOf_iff_prefix.1 hp).length_le
      rw [List.length_take] at this
      omega
    have h2 : (t.take j).isPrefixOf t = true := List.isPrefixOf_iff_prefix.2 (List.take_prefix j t)
    have h3 : (t.take j).length < t.length := by rw [List.length_take]; omega
    simp [takeL, h1, h2]
    omega
theorem must_yes (t R : List UInt8) (j : Nat) : mustL t ((t ++ R).take j, false, false) = if t.length ≤ j then (R.take (j - t.length), false, false) else (t.take j, true, false) := by
  unfold mustL
  rw [take_yes]
  split <;> simp
/-- Two texts neither of which begins the other. -/
def Apart (t u : List UInt8) : Prop := t.isPrefixOf u = false ∧ u.isPrefixOf t = false
theorem take_no (t u R : List UInt8) (j : Nat) (h : Apart t u) : ∃ sh, takeL t ((u ++ R).take j, false, false) = (false, (u ++ R).take j, sh, false) ∧ (sh = true → j < u.length) := by
  unfold Apart at h
  have h1 : t.isPrefixOf ((u ++ R).take j) = false := by
    rw [Bool.eq_false_iff]
    intro hp
    have hp := (List.isPrefixOf_iff_prefix.1 hp).trans (List.take_prefix j _)
    rcases List.prefix_or_prefix_of_prefix hp (List.prefix_append u R) with h2 | h2
    · rw [List.isPrefixOf_iff_prefix.2 h2] at h
      exact absurd h.1 (by simp)
    · rw [List.isPrefixOf_iff_prefix.2 h2] at h
      exact absurd h.2 (by simp)
  by_cases h3 : ((u ++ R).take j).length < t.length ∧ ((u ++ R).take j).isPrefixOf t = true
  · refine ⟨true, by unfold takeL; simp only [h1, h3.1, h3.2, if_true, Bool.false_eq_true, if_false], fun _ => ?_⟩
    rcases Nat.lt_or_ge j u.length with h4 | h4
    · exact h4
    · rw [pre_take h4] at h3
      have := (List.prefix_append u _).trans (List.isPrefixOf_iff_prefix.1 h3.2)
      rw [List.isPrefixOf_iff_prefix.2 this] at h
      exact absurd h.2 (by simp)
  · refine ⟨false, ?_, fun h => absurd h (by simp)⟩
    unfold takeL
    simp only [h1, Bool.false_eq_true, if_false]
    by_cases h5 : ((u ++ R).take j).length < t.length
    · have h6 : ((u ++ R).take j).isPrefixOf t = false := by
        rw [Bool.eq_false_iff]
        exact fun h => h3 ⟨h5, h⟩
      simp only [h5, h6, if_true, Bool.false_eq_true, if_false]
    · simp only [h5, if_false]
theorem tail3_dead (l : List UInt8) : tail3 (l, true, false) = (false, l, true, false) := by simp [tail3, take_dead, must_dead]
theorem tail2_dead (l : List UInt8) : tail2 (l, true, false) = ([], false, l, true, false) := by simp [tail2, take_dead, tail3_dead]
theorem tail3_feed (close : Bool) (X : List UInt8) (j : Nat) : ∃ cl s sh, tail3 ((E3 close ++ X).take j, false, false) = (cl, s, sh, false) ∧ ((sh = true ∧ j < (E3 close).length) ∨ (sh = false ∧ (E3 close).length ≤ j ∧ cl = close ∧ s = X.take (j - (E3 close).length))) := by
  cases close with
  | true =>
    have e : E3 true ++ X = closeL ++ (crlfL ++ X) := by simp [E3]
    have el : (E3 true).length = 21 := rfl
    rw [e]
    unfold tail3
    rw [take_yes]
    by_cases h : closeL.length ≤ j
    · rw [if_pos h]
      dsimp only
      rw [must_yes]
      have hc : closeL.length = 19 := rfl
      have hd : crlfL.length = 2 := rfl
      by_cases h2 : crlfL.length ≤ j - closeL.length
      · rw [if_pos h2]
        exact ⟨true, _, false, rfl, Or.inr ⟨rfl, by omega, rfl, by rw [show j - (E3 true).length = j - closeL.length - crlfL.length by omega]⟩⟩
      · rw [if_neg h2]
        exact ⟨true, _, true, rfl, Or.inl ⟨rfl, by omega⟩⟩
    · rw [if_neg h]
      dsimp only
      rw [must_dead]
      have hc : closeL.length = 19 := rfl
      exact ⟨false, _, true, rfl, Or.inl ⟨rfl, by omega⟩⟩
  | false =>
    have e : E3 false ++ X = crlfL ++ X := by simp [E3]
    have el : (E3 false).length = 2 := rfl
    have hd : crlfL.length = 2 := rfl
    rw [e]
    unfold tail3
    obtain ⟨sh, h1, h2⟩ := take_no closeL crlfL X j (by constructor <;> rfl)
    rw [h1]
    dsimp only
    cases sh with
    | true =>
      rw [must_dead]
      exact ⟨false, _, true, rfl, Or.inl ⟨rfl, by have := h2 rfl; omega⟩⟩
    | false =>
      rw [must_yes]
      by_cases h3 : crlfL.length ≤ j
      · rw [if_pos h3]
        exact ⟨false, _, false, rfl, Or.inr ⟨rfl, by omega, rfl, by rw [hd, el]⟩⟩
      · rw [if_neg h3]
        exact ⟨false, _, true, rfl, Or.inl ⟨rfl, by omega⟩⟩
theorem plGo_all : ∀ (C R : List UInt8) (k : Nat), (∀ c ∈ C, isPl c = true) → k + C.length ≤ 257 → plGo k (C ++ R) = plGo (k + C.length) R
  | [], R, k, _, _ => by simp
  | c :: C, R, k, h, hk => by
    have h1 := h c (by simp)
    simp only [List.length_cons] at hk
    have e : plGo k (c :: (C ++ R)) = if isPl c then (if k ≤ 256 then plGo (k + 1) (C ++ R) else k) else k := rfl
    rw [List.cons_append, e, h1, if_pos rfl, if_pos (by omega), plGo_all C R (k + 1) (fun x hx => h x (by simp [hx])) (by omega)]
    rw [List.length_cons, show k + 1 + C.length = k + (C.length + 1) by omega]
theorem cookie_feed (C R : List UInt8) (hC : ∀ c ∈ C, isPl c = true) (hn : C ≠ []) (hl : C.length ≤ 256) (j : Nat) : ∃ c s sh, cookieL ((C ++ crlfL ++ R).take j) = (c, s, sh, false) ∧ ((sh = true ∧ j < C.length + 2) ∨ (sh = false ∧ C.length + 2 ≤ j ∧ c = C ∧ s = R.take (j - (C.length + 2)))) := by
  have hpos : 0 < C.length := List.length_pos_iff.2 hn
  by_cases h : C.length < j
  · have e : (C ++ crlfL ++ R).take j = C ++ (crlfL ++ R).take (j - C.length) := by rw [List.append_assoc, pre_take (by omega)]
    have e2 : (crlfL ++ R).take (j - C.length) = 13 :: ([10] ++ R).take (j - C.length - 1) := by
      obtain ⟨i, hi⟩ : ∃ i, j - C.length = i + 1 := ⟨j - C.length - 1, by omega⟩
      rw [hi]
      simp [crlfL]
    have hg : plGo 0 (C ++ (crlfL ++ R).take (j - C.length)) = C.length := by
      rw [plGo_all C _ 0 hC (by omega), e2, Nat.zero_add]
      simp [plGo, isPl]
    rw [e]
    unfold cookieL
    rw [hg, if_neg (by omega), List.drop_left, List.take_left, if_neg (by rw [e2]; simp), must_yes]
    have hd : crlfL.length = 2 := rfl
    by_cases h2 : crlfL.length ≤ j - C.length
    · rw [if_pos h2]
      exact ⟨C, _, false, rfl, Or.inr ⟨rfl, by omega, rfl, by rw [hd, Nat.sub_sub]⟩⟩
    · rw [if_neg h2]
      exact ⟨C, _, true, rfl, Or.inl ⟨rfl, by omega⟩⟩
  · have e : (C ++ crlfL ++ R).take j = C.take j := by
      rw [List.append_assoc, List.take_append, show j - C.length = 0 by omega, List.take_zero, List.append_nil]
    have hg : plGo 0 (C.take j) = j := by
      have := plGo_all (C.take j) [] 0 (fun c hc => hC c (List.mem_of_mem_take hc)) (by rw [List.length_take]; omega)
      rw [List.append_nil] at this
      rw [this]
      simp [plGo]
      omega
    rw [e]
    unfold cookieL
    rw [hg, List.drop_eq_nil_of_le (by rw [List.length_take]; omega), if_pos rfl]
    rw [if_neg (by
      intro h
      rcases h with h | ⟨h, h2⟩
      · omega
      · subst h
        simp at h2)]
    exact ⟨_, _, true, rfl, Or.inl ⟨rfl, by omega⟩⟩
theorem tail2_feed (ck : List UInt8) (close : Bool) (hC : ∀ c ∈ ck, isPl c = true) (hl : ck.length ≤ 256) (X : List UInt8) (j : Nat) : ∃ c cl s sh, tail2 ((E2 ck close ++ X).take j, false, false) = (c, cl, s, sh, false) ∧ ((sh = true ∧ j < (E2 ck close).length) ∨ (sh = false ∧ (E2 ck close).length ≤ j ∧ c = ck ∧ cl = close ∧ s = X.take (j - (E2 ck close).length))) := by
  by_cases h : ck = []
  · subst h
    have e : E2 [] close = E3 close := by simp [E2]
    rw [e]
    obtain ⟨sh, h1, h2⟩ : ∃ sh, takeL cookL ((E3 close ++ X).take j, false, false) = (false, (E3 close ++ X).take j, sh, false) ∧ (sh = true → j < (E3 close).length) := by
      obtain ⟨u, V, hu, hap⟩ : ∃ u V, E3 close = u ++ V ∧ Apart cookL u := by
        cases close
        · exact ⟨crlfL, [], rfl, by constructor <;> rfl⟩
        · exact ⟨closeL, crlfL, rfl, by constructor <;> rfl⟩
      obtain ⟨sh, h1, h2⟩ := take_no cookL u (V ++ X) j hap
      rw [hu, List.append_assoc]
      refine ⟨sh, h1, fun h => ?_⟩
      have := h2 h
      rw [List.length_append]
      omega
    unfold tail2
    rw [h1]
    simp only [Bool.false_eq_true, if_false]
    cases sh with
    | true =>
      rw [tail3_dead]
      exact ⟨[], false, _, true, rfl, Or.inl ⟨rfl, h2 rfl⟩⟩
    | false =>
      obtain ⟨cl, s, sh, h3, h4⟩ := tail3_feed close X j
      rw [h3]
      refine ⟨[], cl, s, sh, rfl, ?_⟩
      rcases h4 with h4 | ⟨h4, h5, h6, h7⟩
      · exact Or.inl h4
      · exact Or.inr ⟨h4, h5, rfl, h6, h7⟩
  · have e : E2 ck close ++ X = cookL ++ (ck ++ crlfL ++ (E3 close ++ X)) := by simp [E2, h]
    have el : (E2 ck close).length = 12 + (ck.length + 2) + (E3 close).length := by
      have hd : crlfL.length = 2 := rfl
      have hd2 : cookL.length = 12 := rfl
      simp only [E2, h, if_false, List.length_append, hd, hd2]
      omega
    have hd2 : cookL.length = 12 := rfl
    rw [e]
    unfold tail2
    rw [take_yes]
    by_cases h1 : cookL.length ≤ j
    · rw [if_pos h1]
      simp only [if_true]
      obtain ⟨c, s, sh, h3, h4⟩ := cookie_feed ck (E3 close ++ X) hC h hl (j - cookL.length)
      rw [h3]
      dsimp only
      rcases h4 with ⟨rfl, h4⟩ | ⟨rfl, h4, rfl, rfl⟩
      · rw [tail3_dead]
        exact ⟨c, false, _, true, rfl, Or.inl ⟨rfl, by omega⟩⟩
      · obtain ⟨cl, s, sh, h5, h6⟩ := tail3_feed close X (j - cookL.length - (c.length + 2))
        rw [h5]
        refine ⟨c, cl, s, sh, rfl, ?_⟩
        rcases h6 with ⟨h6, h7⟩ | ⟨h6, h7, h8, h9⟩
        · exact Or.inl ⟨h6, by omega⟩
        · exact Or.inr ⟨h6, by omega, rfl, h8, by rw [h9]; congr 1; omega⟩
    · rw [if_neg h1]
      simp only [Bool.false_eq_true, if_false]
      rw [tail3_dead]
      exact ⟨[], false, _, true, rfl, Or.inl ⟨rfl, by omega⟩⟩
end Go.Proofs.YthacomeiinejaaaDoor
