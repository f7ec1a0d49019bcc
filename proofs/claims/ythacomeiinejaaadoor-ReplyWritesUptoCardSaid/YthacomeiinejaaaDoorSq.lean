/-
  Chapter 18, plain: a reply's bytes are read back; a part of them is told short.
-/
import Derived.Test.YthacomeiinejaaaDoorSp
set_option linter.unusedVariables false
set_option linter.unusedSimpArgs false
namespace Go.Proofs.YthacomeiinejaaaDoor
open Go.Lib (decDigits)
def val (m : Nat) (D : List UInt8) : Nat := D.foldl (fun a c => 10 * a + (c.toNat - 48)) m
theorem val_ge : ∀ (D : List UInt8) (m : Nat), m ≤ val m D
  | [], m => Nat.le_refl _
  | c :: D, m => by
    have := val_ge D (10 * m + (c.toNat - 48))
    have e : val m (c :: D) = val (10 * m + (c.toNat - 48)) D := rfl
    omega
theorem val_app (m : Nat) (D D2 : List UInt8) : val m (D ++ D2) = val (val m D) D2 := List.foldl_append
theorem dec_step {u : Nat} (h : ¬ u < 10) : decDigits u = decDigits (u / 10) ++ [UInt8.ofNat (48 + u % 10)] := by
  rw [decDigits, dif_neg h]
theorem dec_val (u : Nat) : val 0 (decDigits u) = u := by
  by_cases h : u < 10
  · rw [Go.Lib.decDigits_one h]
    simp [val]
    omega
  · rw [dec_step h, val_app, dec_val (u / 10)]
    simp [val]
    omega
theorem dec_dig (u : Nat) : ∀ c ∈ decDigits u, isDig c = true := by
  by_cases h : u < 10
  · rw [Go.Lib.decDigits_one h]
    intro c hc
    simp at hc
    subst hc
    simp [isDig]
    omega
  · rw [dec_step h]
    intro c hc
    rcases List.mem_append.1 hc with hc | hc
    · exact dec_dig (u / 10) c hc
    · simp at hc
      subst hc
      simp [isDig]
      omega
theorem dec_ne (u : Nat) : decDigits u ≠ [] := by
  by_cases h : u < 10
  · rw [Go.Lib.decDigits_one h]; simp
  · rw [dec_step h]; simp
theorem dec_head (u : Nat) (h0 : 1 ≤ u) (R : List UInt8) : (decDigits u ++ R).head? ≠ some 48 := by
  by_cases h : u < 10
  · rw [Go.Lib.decDigits_one h]
    simp
    intro e
    have := congrArg UInt8.toNat e
    simp at this
    omega
  · rw [dec_step h, List.append_assoc]
    exact dec_head (u / 10) (by omega) _
theorem numGo_all : ∀ (D R : List UInt8) (z : Bool) (k m : Nat), (∀ c ∈ D, isDig c = true) → val m D ≤ 65536 → (z = true → k + D.length ≤ 1) → numGo z k m (D ++ R) = numGo z (k + D.length) (val m D) R
  | [], R, z, k, m, _, _, _ => rfl
  | c :: D, R, z, k, m, h, hv, hz => by
    have h1 := h c (by simp)
    have hv2 : val m (c :: D) = val (10 * m + (c.toNat - 48)) D := rfl
    have hv3 := val_ge D (10 * m + (c.toNat - 48))
    have e : numGo z k m (c :: (D ++ R)) = if isDig c then (if 65536 < 10 * m + (c.toNat - 48) then none else if 1 < k + 1 ∧ z = true then none else numGo z (k + 1) (10 * m + (c.toNat - 48)) (D ++ R)) else some (m, k, c :: (D ++ R)) := rfl
    have hz2 : ¬ (1 < k + 1 ∧ z = true) := fun ⟨h1, h2⟩ => by
      have := hz h2
      simp only [List.length_cons] at this
      omega
    rw [List.cons_append, e, h1, if_pos rfl, if_neg (by omega), if_neg hz2, numGo_all D R z (k + 1) _ (fun x hx => h x (by simp [hx])) (by omega) (fun h => by have := hz h; simp only [List.length_cons] at this; omega)]
    rw [hv2, List.length_cons, show k + 1 + D.length = k + (D.length + 1) by omega]
theorem number_feed (n : Nat) (hn : n ≤ 65536) (R : List UInt8) (j : Nat) : ∃ v s sh, numberL ((decDigits n ++ crlfL ++ R).take j) = (v, s, sh, false) ∧ ((sh = true ∧ j < (decDigits n).length + 2) ∨ (sh = false ∧ (decDigits n).length + 2 ≤ j ∧ v = n ∧ s = R.take (j - ((decDigits n).length + 2)))) := by
  have hd : crlfL.length = 2 := rfl
  have hz : ∀ (Q : List UInt8) (k : Nat), k ≤ (decDigits n).length → ((decDigits n).take k ++ Q).head? == some 48 → Q = [] ∨ k ≠ 0 → k ≤ 1 := by
    intro Q k hk h hq
    rcases Nat.eq_zero_or_pos n with h0 | h0
    · subst h0
      have : (decDigits 0).length = 1 := by rw [Go.Lib.decDigits_one (by omega)]; rfl
      omega
    · rcases Nat.eq_zero_or_pos k with hk0 | hk0
      · omega
      · have := dec_head n h0 []
        rw [List.append_nil] at this
        cases hD : decDigits n with
        | nil => exact absurd hD (dec_ne n)
        | cons c D =>
          rw [hD] at this h
          obtain ⟨i, rfl⟩ : ∃ i, k = i + 1 := ⟨k - 1, by omega⟩
          simp at this h
          exact absurd h this
  by_cases h : (decDigits n).length < j
  · have e : (decDigits n ++ crlfL ++ R).take j = decDigits n ++ (crlfL ++ R).take (j - (decDigits n).length) := by rw [List.append_assoc, pre_take (by omega)]
    have e2 : (crlfL ++ R).take (j - (decDigits n).length) = 13 :: ([10] ++ R).take (j - (decDigits n).length - 1) := by
      obtain ⟨i, hi⟩ : ∃ i, j - (decDigits n).length = i + 1 := ⟨j - (decDigits n).length - 1, by omega⟩
      rw [hi]
      simp [crlfL]
    have hpos : 0 < (decDigits n).length := List.length_pos_iff.2 (dec_ne n)
    have hg : numGo ((decDigits n ++ (crlfL ++ R).take (j - (decDigits n).length)).head? == some 48) 0 0 (decDigits n ++ (crlfL ++ R).take (j - (decDigits n).length)) = some (n, (decDigits n).length, (crlfL ++ R).take (j - (decDigits n).length)) := by
      rw [numGo_all _ _ _ 0 0 (dec_dig n) (by rw [dec_val]; exact hn) (fun h => by
        have := hz ((crlfL ++ R).take (j - (decDigits n).length)) (decDigits n).length (Nat.le_refl _) (by rw [List.take_length]; exact h) (Or.inr (by omega))
        omega), dec_val, Nat.zero_add, e2]
      simp [numGo, isDig]
    rw [e]
    unfold numberL
    rw [hg]
    dsimp only
    rw [if_neg (by omega), must_yes]
    by_cases h2 : crlfL.length ≤ j - (decDigits n).length
    · rw [if_pos h2]
      exact ⟨n, _, false, rfl, Or.inr ⟨rfl, by omega, rfl, by rw [hd, Nat.sub_sub]⟩⟩
    · rw [if_neg h2]
      exact ⟨n, _, true, rfl, Or.inl ⟨rfl, by omega⟩⟩
  · have e : (decDigits n ++ crlfL ++ R).take j = (decDigits n).take j := by
      rw [List.append_assoc, List.take_append, show j - (decDigits n).length = 0 by omega, List.take_zero, List.append_nil]
    have hvv : val 0 ((decDigits n).take j) ≤ 65536 := by
      have h1 := val_ge ((decDigits n).drop j) (val 0 ((decDigits n).take j))
      rw [← val_app, List.take_append_drop, dec_val] at h1
      omega
    have hg : numGo (((decDigits n).take j).head? == some 48) 0 0 ((decDigits n).take j) = some (val 0 ((decDigits n).take j), j, []) := by
      have := numGo_all ((decDigits n).take j) [] (((decDigits n).take j).head? == some 48) 0 0 (fun c hc => dec_dig n c (List.mem_of_mem_take hc)) hvv (fun h => by
        have := hz [] j (by omega) (by rw [List.append_nil]; exact h) (Or.inl rfl)
        rw [List.length_take]
        omega)
      rw [List.append_nil] at this
      rw [this, List.length_take, Nat.min_eq_left (by omega), Nat.zero_add]
      rfl
    rw [e]
    unfold numberL
    rw [hg]
    dsimp only
    by_cases h0 : j = 0
    · rw [if_pos h0, if_pos rfl]
      exact ⟨_, _, true, rfl, Or.inl ⟨rfl, by omega⟩⟩
    · rw [if_neg h0]
      refine ⟨_, [], true, rfl, Or.inl ⟨rfl, by omega⟩⟩
theorem lines_ap : (stats.all fun p => stats.all fun q => !(lineL q).isPrefixOf (lineL p) || (p.1 == q.1 && p.2.data.toList == q.2.data.toList)) = true := by kernel_rfl
theorem line_eq {p q : Int × ByteArray} (hp : p ∈ stats) (hq : q ∈ stats) (h : lineL q <+: lineL p) : q = p := by
  have h1 := List.all_eq_true.1 lines_ap p hp
  have h2 := List.all_eq_true.1 h1 q hq
  rw [List.isPrefixOf_iff_prefix.2 h] at h2
  simp at h2
  obtain ⟨a, b⟩ := p
  obtain ⟨c, d⟩ := q
  obtain ⟨e1, e2⟩ := h2
  dsimp only at e1 e2
  subst e1
  have : d = b := by
    cases d; cases b
    simp at e2
    rw [e2]
  rw [this]
theorem status_feed (p : Int × ByteArray) (hp : p ∈ stats) (R : List UInt8) (j : Nat) : ∃ a s sh, statusL ((verL ++ lineL p ++ R).take j) = (a, s, sh, false) ∧ ((sh = true ∧ a = 0 ∧ j < 9 + (lineL p).length) ∨ (sh = false ∧ 9 + (lineL p).length ≤ j ∧ a = p.1 ∧ s = R.take (j - (9 + (lineL p).length)))) := by
  have hv : verL.length = 9 := rfl
  unfold statusL
  rw [List.append_assoc, must_yes]
  by_cases h : verL.length ≤ j
  · rw [if_pos h]
    simp only [Bool.false_eq_true, if_false]
    by_cases h2 : (lineL p).length ≤ j - verL.length
    · have e : (lineL p ++ R).take (j - verL.length) = lineL p ++ R.take (j - verL.length - (lineL p).length) := pre_take h2
      have hf : stats.find? (fun q => (lineL q).isPrefixOf (lineL p ++ R.take (j - verL.length - (lineL p).length))) = some p := by
        cases hq : stats.find? (fun q => (lineL q).isPrefixOf (lineL p ++ R.take (j - verL.length - (lineL p).length))) with
        | none =>
          rw [List.find?_eq_none] at hq
          exact absurd (isPre_app (lineL p) _) (hq p hp)
        | some q =>
          have h3 := List.find?_some hq
          have h4 := List.mem_of_find?_eq_some hq
          simp only [List.isPrefixOf_iff_prefix] at h3
          rcases List.prefix_or_prefix_of_prefix h3 (List.prefix_append (lineL p) _) with h5 | h5
          · rw [line_eq hp h4 h5]
          · rw [line_eq h4 hp h5]
      rw [e, hf]
      exact ⟨p.1, _, false, rfl, Or.inr ⟨rfl, by omega, rfl, by rw [List.drop_left]; congr 1; omega⟩⟩
    · have e : (lineL p ++ R).take (j - verL.length) = (lineL p).take (j - verL.length) := pre_short (by omega)
      have hf : stats.find? (fun q => (lineL q).isPrefixOf ((lineL p).take (j - verL.length))) = none := by
        rw [List.find?_eq_none]
        intro q hq h3
        simp only [List.isPrefixOf_iff_prefix] at h3
        have h4 := line_eq hp hq (h3.trans (List.take_prefix _ _))
        have h5 := h3.length_le
        rw [h4, List.length_take] at h5
        omega
      have ha : stats.any (fun q => ((lineL p).take (j - verL.length)).isPrefixOf (lineL q)) = true := by
        rw [List.any_eq_true]
        exact ⟨p, hp, List.isPrefixOf_iff_prefix.2 (List.take_prefix _ _)⟩
      rw [e, hf, ha]
      exact ⟨0, _, true, rfl, Or.inl ⟨rfl, rfl, by omega⟩⟩
  · rw [if_neg h]
    exact ⟨0, _, true, rfl, Or.inl ⟨rfl, rfl, by omega⟩⟩
theorem size_dead (a : Int) (l : List UInt8) : sizeL a (l, true, false) = (0, l, true, false) := by
  unfold sizeL
  rw [must_dead]
  by_cases h : a = 204
  · rw [if_pos h]
  · rw [if_neg h]; rfl
theorem mark_dead (ty : Bool) (z : Nat) (l : List UInt8) : mark ty z (l, true, false) = (l, true, false) := by simp [mark]
theorem size_feed (st : Int) (n : Nat) (h204 : st = 204 → n = 0) (hn : n ≤ 65536) (R : List UInt8) (j : Nat) : ∃ z s sh, sizeL st (((if st = 204 then [] else lenL ++ decDigits n ++ crlfL) ++ R).take j, false, false) = (z, s, sh, false) ∧ ((sh = true ∧ j < (if st = 204 then [] else lenL ++ decDigits n ++ crlfL).length) ∨ (sh = false ∧ (if st = 204 then [] else lenL ++ decDigits n ++ crlfL).length ≤ j ∧ z = n ∧ s = R.take (j - (if st = 204 then [] else lenL ++ decDigits n ++ crlfL).length))) := by
  have hl : lenL.length = 16 := rfl
  have hd : crlfL.length = 2 := rfl
  by_cases h : st = 204
  · simp only [h, if_true, List.nil_append]
    unfold sizeL
    rw [if_pos rfl]
    exact ⟨0, _, false, rfl, Or.inr ⟨rfl, Nat.zero_le _, (h204 h).symm, rfl⟩⟩
  · simp only [h, if_false]
    unfold sizeL
    rw [if_neg h, List.append_assoc, List.append_assoc, must_yes]
    by_cases h2 : lenL.length ≤ j
    · rw [if_pos h2]
      simp only [Bool.false_eq_true, if_false]
      rw [← List.append_assoc]
      obtain ⟨v, s, sh, h3, h4⟩ := number_feed n hn R (j - lenL.length)
      rw [h3]
      refine ⟨v, s, sh, rfl, ?_⟩
      simp only [List.length_append]
      rcases h4 with ⟨h4, h5⟩ | ⟨h4, h5, h6, h7⟩
      · exact Or.inl ⟨h4, by omega⟩
      · exact Or.inr ⟨h4, by omega, h6, by rw [h7]; congr 1; omega⟩
    · rw [if_neg h2]
      refine ⟨0, _, true, rfl, Or.inl ⟨rfl, ?_⟩⟩
      simp only [List.length_append]
      omega
theorem E1_begins (st : Int) (n : Nat) (ck : List UInt8) (close : Bool) : ∃ u V, E1 st n ck close = u ++ V ∧ Apart typeL u := by
  by_cases h : st = 204
  · by_cases h2 : ck = []
    · cases close
      · exact ⟨crlfL, [], by simp [E1, E2, E3, h, h2], by constructor <;> rfl⟩
      · exact ⟨closeL, crlfL, by simp [E1, E2, E3, h, h2], by constructor <;> rfl⟩
    · exact ⟨cookL, ck ++ crlfL ++ E3 close, by simp [E1, E2, h, h2], by constructor <;> rfl⟩
  · exact ⟨lenL, decDigits n ++ crlfL ++ E2 ck close, by simp [E1, h], by constructor <;> rfl⟩
theorem type_feed (st : Int) (n : Nat) (ck : List UInt8) (close : Bool) (X : List UInt8) (j : Nat) : ∃ ty s sh, takeL typeL ((E0 st n ck close ++ X).take j, false, false) = (ty, s, sh, false) ∧ ((sh = true ∧ j < (E0 st n ck close).length) ∨ (sh = false ∧ (if n = 0 then [] else typeL).length ≤ j ∧ ty = decide (0 < n) ∧ s = (E1 st n ck close ++ X).take (j - (if n = 0 then [] else typeL).length))) := by
  by_cases h : n = 0
  · obtain ⟨u, V, hu, hap⟩ := E1_begins st n ck close
    have e : E0 st n ck close = E1 st n ck close := by simp [E0, h]
    obtain ⟨sh, h1, h2⟩ := take_no typeL u (V ++ X) j hap
    rw [e]
    rw [← List.append_assoc, ← hu] at h1
    rw [h1]
    have hlen : u.length ≤ (E1 st n ck close).length := by rw [hu, List.length_append]; omega
    cases sh with
    | true => exact ⟨false, _, true, rfl, Or.inl ⟨rfl, by have := h2 rfl; omega⟩⟩
    | false => exact ⟨false, _, false, rfl, Or.inr ⟨rfl, by simp [h], by simp [h], by simp [h]⟩⟩
  · have e : E0 st n ck close ++ X = typeL ++ (E1 st n ck close ++ X) := by simp [E0, h]
    have el : (E0 st n ck close).length = typeL.length + (E1 st n ck close).length := by simp [E0, h]
    rw [e, take_yes]
    by_cases h2 : typeL.length ≤ j
    · rw [if_pos h2]
      exact ⟨true, _, false, rfl, Or.inr ⟨rfl, by simpa [h] using h2, by simp; omega, by simp [h]⟩⟩
    · rw [if_neg h2]
      exact ⟨false, _, true, rfl, Or.inl ⟨rfl, by omega⟩⟩
/-- The head of a reply, as many of its bytes as there are. -/
theorem head_feed (st : Int) (n : Nat) (ck : List UInt8) (close : Bool) (hst : (st, wordsB st) ∈ stats) (h204 : st = 204 → n = 0) (hn : n ≤ 65536) (hC : ∀ c ∈ ck, isPl c = true) (hl : ck.length ≤ 256) (X : List UInt8) (j : Nat) :
    ∃ a c cl z s sh, headL ((HL st n ck close ++ X).take j) = (a, c, cl, z, s, sh, false) ∧ ((sh = true ∧ j < (HL st n ck close).length) ∨ (sh = false ∧ (HL st n ck close).length ≤ j ∧ a = st ∧ c = ck ∧ cl = close ∧ z = n ∧ s = X.take (j - (HL st n ck close).length))) := by
  have hHL : (HL st n ck close).length = 9 + (lineL (st, wordsB st)).length + (E0 st n ck close).length := by
    have hv : verL.length = 9 := rfl
    unfold HL
    rw [List.length_append, List.length_append, hv]
  have hE0 : (E0 st n ck close).length = (if n = 0 then [] else typeL).length + (E1 st n ck close).length := by rw [E0, List.length_append]
  have hE1 : (E1 st n ck close).length = (if st = 204 then [] else lenL ++ decDigits n ++ crlfL).length + (E2 ck close).length := by rw [E1, List.length_append]
  unfold headL
  have e : HL st n ck close ++ X = verL ++ lineL (st, wordsB st) ++ (E0 st n ck close ++ X) := by rw [HL, List.append_assoc]
  rw [e]
  obtain ⟨a, s1, sh1, h1, h2⟩ := status_feed (st, wordsB st) hst (E0 st n ck close ++ X) j
  rw [h1]
  dsimp only at h2 ⊢
  rcases h2 with ⟨rfl, rfl, h2⟩ | ⟨rfl, h2, rfl, rfl⟩
  · rw [take_dead]
    dsimp only
    rw [size_dead]
    dsimp only
    rw [mark_dead, tail2_dead]
    exact ⟨0, [], false, 0, _, true, rfl, Or.inl ⟨rfl, by omega⟩⟩
  · obtain ⟨ty, s2, sh2, h3, h4⟩ := type_feed a n ck close X (j - (9 + (lineL (a, wordsB a)).length))
    rw [h3]
    dsimp only
    rcases h4 with ⟨rfl, h4⟩ | ⟨rfl, h4, rfl, rfl⟩
    · rw [size_dead]
      dsimp only
      rw [mark_dead, tail2_dead]
      exact ⟨a, [], false, 0, _, true, rfl, Or.inl ⟨rfl, by omega⟩⟩
    · rw [E1, List.append_assoc]
      obtain ⟨z, s3, sh3, h5, h6⟩ := size_feed a n h204 hn (E2 ck close ++ X) (j - (9 + (lineL (a, wordsB a)).length) - (if n = 0 then [] else typeL).length)
      rw [h5]
      dsimp only
      rcases h6 with ⟨rfl, h6⟩ | ⟨rfl, h6, rfl, rfl⟩
      · rw [mark_dead, tail2_dead]
        exact ⟨a, [], false, _, _, true, rfl, Or.inl ⟨rfl, by omega⟩⟩
      · have hm : ∀ s, mark (decide (0 < z)) z (s, false, false) = (s, false, false) := fun s => by simp [mark]
        rw [hm]
        obtain ⟨c, cl, s4, sh4, h7, h8⟩ := tail2_feed ck close hC hl X (j - (9 + (lineL (a, wordsB a)).length) - (if z = 0 then [] else typeL).length - (if a = 204 then [] else lenL ++ decDigits z ++ crlfL).length)
        rw [h7]
        refine ⟨a, c, cl, z, s4, sh4, rfl, ?_⟩
        rcases h8 with ⟨h8, h9⟩ | ⟨h8, h9, h10, h11, h12⟩
        · exact Or.inl ⟨h8, by omega⟩
        · exact Or.inr ⟨h8, by omega, rfl, h10, h11, rfl, by rw [h12]; congr 1; omega⟩
/-- A reply that may be. -/
structure OkR (st : Int) (body ck : List UInt8) : Prop where
  hst : (st, wordsB st) ∈ stats
  hno : st = 204 → body = []
  hlen : body.length ≤ 65536
  hpl : ∀ c ∈ ck, isPl c = true
  hck : ck.length ≤ 256
def writeL (st : Int) (body ck : List UInt8) (close : Bool) : List UInt8 := HL st body.length ck close ++ body
theorem parse_full {st : Int} {body ck : List UInt8} (close : Bool) (h : OkR st body ck) (behind : List UInt8) : parseL (writeL st body ck close ++ behind) = .ok st body ck close (writeL st body ck close).length := by
  obtain ⟨a, c, cl, z, s, sh, h1, h2⟩ := head_feed st body.length ck close h.hst (fun e => by rw [h.hno e]; rfl) h.hlen h.hpl h.hck (body ++ behind) (writeL st body ck close ++ behind).length
  have hw : (writeL st body ck close).length = (HL st body.length ck close).length + body.length := by unfold writeL; rw [List.length_append]
  rw [← List.append_assoc] at h1
  change headL ((writeL st body ck close ++ behind).take _) = _ at h1
  rw [List.take_length] at h1
  rcases h2 with ⟨rfl, h2⟩ | ⟨rfl, h2, rfl, rfl, rfl, rfl, rfl⟩
  · rw [List.length_append] at h2
    omega
  · unfold parseL
    rw [h1]
    have hs : ((body ++ behind).take ((writeL a body c cl ++ behind).length - (HL a body.length c cl).length)) = body ++ behind := by
      rw [List.take_of_length_le]
      rw [List.length_append, List.length_append]
      omega
    rw [hs]
    simp only [Bool.false_eq_true, if_false]
    rw [if_neg (by rw [List.length_append]; omega), List.take_left]
    congr 1
    rw [List.length_append, List.length_append]
    omega
theorem parse_cut {st : Int} {body ck : List UInt8} (close : Bool) (h : OkR st body ck) (j : Nat) (hj : j < (writeL st body ck close).length) : parseL ((writeL st body ck close).take j) = .short := by
  obtain ⟨a, c, cl, z, s, sh, h1, h2⟩ := head_feed st body.length ck close h.hst (fun e => by rw [h.hno e]; rfl) h.hlen h.hpl h.hck body j
  have hw : (writeL st body ck close).length = (HL st body.length ck close).length + body.length := by unfold writeL; rw [List.length_append]
  change headL ((writeL st body ck close).take _) = _ at h1
  unfold parseL
  rw [h1]
  rcases h2 with ⟨rfl, h2⟩ | ⟨rfl, h2, rfl, rfl, rfl, rfl, rfl⟩
  · rfl
  · simp only [Bool.false_eq_true, if_false]
    rw [if_pos (by rw [List.length_take]; omega)]
end Go.Proofs.YthacomeiinejaaaDoor
