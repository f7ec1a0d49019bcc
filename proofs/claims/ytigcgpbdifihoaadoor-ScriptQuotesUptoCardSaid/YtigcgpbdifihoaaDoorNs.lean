/-
  Chapter 28, plain: reading a quoted text, step by step. Inv s R q: whatever quoted text s begins with, q of it was read, and R is what is left.
-/
import Derived.Test.YtigcgpbdifihoaaDoorNr
set_option linter.unusedVariables false
set_option linter.unusedSimpArgs false
namespace Go.Proofs.YtigcgpbdifihoaaDoor
def Inv (s R q : List UInt8) : Prop := ∀ b0 r0, s = quoteL b0 ++ r0 → ∃ b2, b0 = q ++ b2 ∧ R = b2.flatMap quB ++ 34 :: r0
def Qd (s : List UInt8) : Prop := ∃ b0 r0, s = quoteL b0 ++ r0
theorem inv_start {R : List UInt8} : Inv (34 :: R) R [] := fun b0 r0 h => ⟨b0, rfl, by
  simp only [quoteL, List.cons_append, List.cons.injEq, true_and] at h
  rw [h]
  simp⟩
theorem u8_nat {a b : UInt8} (h : a.toNat = b.toNat) : a = b := UInt8.toNat_inj.1 h
/-- The three forms of a letter. -/
theorem quB_cases (x : UInt8) : ((x = 34 ∨ x = 92) ∧ quB x = [92, x]) ∨ (x ≠ 34 ∧ x ≠ 92 ∧ quB x = [x]) ∨ (quB x = [92, 120, hexB (x.toNat / 16), hexB (x.toNat % 16)]) := by
  unfold quB
  by_cases h1 : x.toNat = 34 ∨ x.toNat = 92
  · rw [if_pos h1]
    refine Or.inl ⟨?_, rfl⟩
    rcases h1 with h | h
    · exact Or.inl (u8_nat h)
    · exact Or.inr (u8_nat h)
  · rw [if_neg h1]
    by_cases h2 : 32 ≤ x.toNat ∧ x.toNat ≤ 126
    · rw [if_pos h2]
      refine Or.inr (Or.inl ⟨?_, ?_, rfl⟩)
      · rintro rfl
        exact h1 (Or.inl rfl)
      · rintro rfl
        exact h1 (Or.inr rfl)
    · rw [if_neg h2]
      exact Or.inr (Or.inr rfl)
theorem inv_nil {s q : List UInt8} (h : Inv s [] q) : ¬ Qd s := by
  rintro ⟨b0, r0, e⟩
  obtain ⟨b2, _, h2⟩ := h b0 r0 e
  simp at h2
theorem inv_end {s R q : List UInt8} (h : Inv s (34 :: R) q) : ∀ b0 r0, s = quoteL b0 ++ r0 → b0 = q ∧ r0 = R := by
  intro b0 r0 e
  obtain ⟨b2, e1, h2⟩ := h b0 r0 e
  cases b2 with
  | nil =>
    simp at h2
    exact ⟨by simpa using e1, h2.symm⟩
  | cons x b3 =>
    rw [List.flatMap_cons] at h2
    rcases quB_cases x with ⟨_, hx⟩ | ⟨hx, _, hq⟩ | hx
    · rw [hx] at h2
      simp at h2
    · rw [hq] at h2
      simp at h2
      exact absurd h2.1.symm hx
    · rw [hx] at h2
      simp at h2
theorem inv_plain {s R q : List UInt8} {c : UInt8} (h : Inv s (c :: R) q) (h34 : c ≠ 34) (h92 : c ≠ 92) : Inv s R (q ++ [c]) := by
  intro b0 r0 e
  obtain ⟨b2, e1, h2⟩ := h b0 r0 e
  cases b2 with
  | nil =>
    simp at h2
    exact absurd h2.1 h34
  | cons x b3 =>
    rw [List.flatMap_cons] at h2
    rcases quB_cases x with ⟨_, hx⟩ | ⟨_, _, hq⟩ | hx
    · rw [hx] at h2
      simp at h2
      exact absurd h2.1 h92
    · rw [hq] at h2
      simp at h2
      obtain ⟨rfl, h2⟩ := h2
      exact ⟨b3, by rw [e1]; simp, h2⟩
    · rw [hx] at h2
      simp at h2
      exact absurd h2.1 h92
theorem inv_esc {s R q : List UInt8} {d : UInt8} (h : Inv s (92 :: d :: R) q) (hd : d ≠ 120) : Inv s R (q ++ [d]) := by
  intro b0 r0 e
  obtain ⟨b2, e1, h2⟩ := h b0 r0 e
  cases b2 with
  | nil =>
    simp at h2
  | cons x b3 =>
    rw [List.flatMap_cons] at h2
    rcases quB_cases x with ⟨_, hx⟩ | ⟨_, hx, hq⟩ | hx
    · rw [hx] at h2
      simp at h2
      obtain ⟨rfl, h2⟩ := h2
      exact ⟨b3, by rw [e1]; simp, h2⟩
    · rw [hq] at h2
      simp at h2
      exact absurd h2.1.symm hx
    · rw [hx] at h2
      simp at h2
      exact absurd h2.1 hd
/-- Behind a stroke stands a quote, a stroke, or an x with two digits. -/
theorem inv_bad {s R q : List UInt8} (h : Inv s (92 :: R) q) (h1 : ∀ d R2, R = d :: R2 → d ≠ 34 ∧ d ≠ 92) (h2 : ∀ n R2, n < 256 → R ≠ 120 :: hexB (n / 16) :: hexB (n % 16) :: R2) : ¬ Qd s := by
  rintro ⟨b0, r0, e⟩
  obtain ⟨b2, e1, h3⟩ := h b0 r0 e
  cases b2 with
  | nil => simp at h3
  | cons x b3 =>
    rw [List.flatMap_cons] at h3
    rcases quB_cases x with ⟨h34, hx⟩ | ⟨_, hx, hq⟩ | hx
    · rw [hx] at h3
      simp at h3
      have := h1 _ _ h3
      rcases h34 with rfl | rfl
      · exact this.1 rfl
      · exact this.2 rfl
    · rw [hq] at h3
      simp at h3
      exact absurd h3.1.symm hx
    · rw [hx] at h3
      simp at h3
      exact h2 x.toNat _ (UInt8.toNat_lt x) h3
theorem inv_hex {s R q : List UInt8} {n : Nat} (hn : n < 256) (h : Inv s (92 :: 120 :: hexB (n / 16) :: hexB (n % 16) :: R) q) : Inv s R (q ++ [UInt8.ofNat n]) := by
  have inj : ∀ a b, a < 16 → b < 16 → hexB a = hexB b → a = b := by
    intro a b ha hb hab
    have h1 := hexB_nat a ha
    have h2 := hexB_nat b hb
    rw [hab, h2] at h1
    unfold hexN at h1
    split at h1 <;> split at h1 <;> omega
  intro b0 r0 e
  obtain ⟨b2, e1, h2⟩ := h b0 r0 e
  cases b2 with
  | nil => simp at h2
  | cons x b3 =>
    rw [List.flatMap_cons] at h2
    rcases quB_cases x with ⟨h34, hx⟩ | ⟨_, hx, hq⟩ | hx
    · rw [hx] at h2
      simp at h2
      rcases h34 with rfl | rfl
      · exact absurd h2.1 (by decide)
      · exact absurd h2.1 (by decide)
    · rw [hq] at h2
      simp at h2
      exact absurd h2.1.symm hx
    · rw [hx] at h2
      simp at h2
      have hxl := UInt8.toNat_lt x
      have i1 := inj _ _ (by omega) (by omega) h2.1
      have i2 := inj _ _ (by omega) (by omega) h2.2.1
      have hxn : x = UInt8.ofNat n := by
        have : x.toNat = n := by omega
        rw [← this]
        simp
      exact ⟨b3, by rw [e1, hxn]; simp, h2.2.2⟩
theorem quote_inj {a b : List UInt8} {r : List UInt8} (h : quoteL a = quoteL b ++ r) : a = b ∧ r = [] := by
  have hI : ∀ (a q P : List UInt8) (s : List UInt8), Inv s (a.flatMap quB ++ [34]) q → Inv s [34] (q ++ a) := by
    intro a
    induction a with
    | nil =>
      intro q P s h
      simpa using h
    | cons x r ih =>
      intro q P s h
      rw [List.flatMap_cons] at h
      have h3 : Inv s (r.flatMap quB ++ [34]) (q ++ [x]) := by
        rcases quB_cases x with ⟨h34, hx⟩ | ⟨h3, h9, hq⟩ | hx
        · rw [hx] at h
          exact inv_esc h (by rcases h34 with rfl | rfl <;> decide)
        · rw [hq] at h
          exact inv_plain h h3 h9
        · rw [hx] at h
          have := inv_hex (n := x.toNat) (UInt8.toNat_lt x) h
          simpa using this
      have := ih (q ++ [x]) P s h3
      simpa using this
  have h0 : Inv (quoteL a) (a.flatMap quB ++ [34]) [] := by
    have : quoteL a = 34 :: (a.flatMap quB ++ [34]) := by simp [quoteL]
    rw [this]
    exact inv_start
  have := inv_end (hI a [] [] _ h0) b r h
  exact ⟨by simpa using this.1.symm, this.2⟩
end Go.Proofs.YtigcgpbdifihoaaDoor
