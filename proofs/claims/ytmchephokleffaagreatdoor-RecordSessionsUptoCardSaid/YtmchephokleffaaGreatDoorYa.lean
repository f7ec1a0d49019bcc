/-
  Base64, plain: the bits left over are none just if coding again gives the text.
-/
set_option linter.unusedVariables false
set_option linter.unusedSimpArgs false
namespace Go.Proofs.YtmchephokleffaaGreatDoor.B64
def n64 (xs : List Nat) : Nat := xs.foldl (fun a x => a * 64 + x) 0
def n256 (bs : List UInt8) : Nat := bs.foldl (fun a b => a * 256 + b.toNat) 0
theorem n64_snoc (xs : List Nat) (x : Nat) : n64 (xs ++ [x]) = n64 xs * 64 + x := by simp [n64]
theorem n256_snoc (xs : List UInt8) (x : UInt8) : n256 (xs ++ [x]) = n256 xs * 256 + x.toNat := by simp [n256]
theorem n64_inj2 : ∀ (xs ys : List Nat) (a b : Nat), xs.length = ys.length → (∀ x ∈ xs, x < 64) → (∀ y ∈ ys, y < 64) → xs.foldl (fun a x => a * 64 + x) a = ys.foldl (fun a x => a * 64 + x) b → a = b ∧ xs = ys
  | [], [], a, b, _, _, _, h => ⟨h, rfl⟩
  | x :: xs, y :: ys, a, b, hl, hx, hy, h => by
    have ih := n64_inj2 xs ys (a * 64 + x) (b * 64 + y) (by simpa using hl) (fun z hz => hx z (by simp [hz])) (fun z hz => hy z (by simp [hz])) h
    have h1 := hx x (by simp)
    have h2 := hy y (by simp)
    have h3 := ih.1
    exact ⟨by omega, by rw [ih.2, show x = y by omega]⟩
/-- A letter read: the bits at hand, how many, the bytes so far. -/
def dst (st : Nat × Nat × List UInt8) (x : Nat) : Nat × Nat × List UInt8 :=
  if st.2.1 + 6 ≥ 8 then ((st.1 * 64 + x) % 2 ^ (st.2.1 - 2), st.2.1 - 2, st.2.2 ++ [UInt8.ofNat ((st.1 * 64 + x) / 2 ^ (st.2.1 - 2))]) else (st.1 * 64 + x, st.2.1 + 6, st.2.2)
def DI (xs : List Nat) (st : Nat × Nat × List UInt8) : Prop :=
  (st.2.1 = 0 ∨ st.2.1 = 2 ∨ st.2.1 = 4 ∨ st.2.1 = 6) ∧ st.1 < 2 ^ st.2.1 ∧ 6 * xs.length = 8 * st.2.2.length + st.2.1 ∧ n64 xs = n256 st.2.2 * 2 ^ st.2.1 + st.1
theorem u8_nat (n : Nat) (h : n < 256) : (UInt8.ofNat n).toNat = n := by
  simp
  omega
theorem DI.step {xs : List Nat} {st : Nat × Nat × List UInt8} (h : DI xs st) (x : Nat) (hx : x < 64) : DI (xs ++ [x]) (dst st x) := by
  obtain ⟨b, n, o⟩ := st
  obtain ⟨h1, h2, h3, h4⟩ := h
  simp only at h1 h2 h3 h4
  have hl : (xs ++ [x]).length = xs.length + 1 := by simp
  unfold DI dst
  rw [n64_snoc, hl]
  rcases h1 with rfl | rfl | rfl | rfl
  · dsimp only at h2 ⊢
    rw [if_neg (by omega)]
    dsimp only
    exact ⟨by simp, by omega, by omega, by omega⟩
  · dsimp only at h2 ⊢
    rw [if_pos (by omega)]
    dsimp only
    rw [n256_snoc, u8_nat _ (by omega)]
    simp only [List.length_append, List.length_singleton]
    exact ⟨by simp, by omega, by omega, by omega⟩
  · dsimp only at h2 ⊢
    rw [if_pos (by omega)]
    dsimp only
    rw [n256_snoc, u8_nat _ (by omega)]
    simp only [List.length_append, List.length_singleton]
    exact ⟨by simp, by omega, by omega, by omega⟩
  · dsimp only at h2 ⊢
    rw [if_pos (by omega)]
    dsimp only
    rw [n256_snoc, u8_nat _ (by omega)]
    simp only [List.length_append, List.length_singleton]
    exact ⟨by simp, by omega, by omega, by omega⟩
theorem DI.fold : ∀ (ys xs : List Nat) (st : Nat × Nat × List UInt8), DI xs st → (∀ y ∈ ys, y < 64) → DI (xs ++ ys) (ys.foldl dst st)
  | [], xs, st, h, _ => by simpa using h
  | y :: ys, xs, st, h, hy => by
    have := DI.fold ys (xs ++ [y]) (dst st y) (h.step y (hy y (by simp))) (fun z hz => hy z (by simp [hz]))
    simpa using this
theorem DI.start : DI [] (0, 0, []) := ⟨by simp, by simp, by simp, by simp [n64, n256]⟩
/-- Letters given out as long as there are six bits. -/
def em : Nat → Nat → Nat → List Nat → Nat × Nat × List Nat
  | 0, v, n, ds => (v, n, ds)
  | f + 1, v, n, ds => if n ≥ 6 then em f (v % 2 ^ (n - 6)) (n - 6) (ds ++ [v / 2 ^ (n - 6)]) else (v, n, ds)
def est (st : Nat × Nat × List Nat) (b : UInt8) : Nat × Nat × List Nat := em 3 (st.1 * 256 + b.toNat) (st.2.1 + 8) st.2.2
def EI (bs : List UInt8) (st : Nat × Nat × List Nat) : Prop :=
  (st.2.1 = 0 ∨ st.2.1 = 2 ∨ st.2.1 = 4) ∧ st.1 < 2 ^ st.2.1 ∧ 8 * bs.length = 6 * st.2.2.length + st.2.1 ∧ n256 bs = n64 st.2.2 * 2 ^ st.2.1 + st.1 ∧ ∀ d ∈ st.2.2, d < 64
theorem EI.step {bs : List UInt8} {st : Nat × Nat × List Nat} (h : EI bs st) (b : UInt8) : EI (bs ++ [b]) (est st b) := by
  obtain ⟨v, n, ds⟩ := st
  obtain ⟨h1, h2, h3, h4, h5⟩ := h
  simp only at h1 h2 h3 h4 h5
  have hl : (bs ++ [b]).length = bs.length + 1 := by simp
  have hb := b.toNat_lt
  unfold EI est
  rw [n256_snoc, hl]
  rcases h1 with rfl | rfl | rfl
  · simp only [em] at h2 ⊢
    rw [if_pos (by omega), if_neg (by omega)]
    simp only [n64_snoc, List.length_append, List.length_singleton, List.mem_append, List.mem_singleton]
    refine ⟨by simp, by omega, by omega, by omega, ?_⟩
    rintro d (hd | rfl)
    · exact h5 d hd
    · omega
  · simp only [em] at h2 ⊢
    rw [if_pos (by omega), if_neg (by omega)]
    simp only [n64_snoc, List.length_append, List.length_singleton, List.mem_append, List.mem_singleton]
    refine ⟨by simp, by omega, by omega, by omega, ?_⟩
    rintro d (hd | rfl)
    · exact h5 d hd
    · omega
  · simp only [em] at h2 ⊢
    rw [if_pos (by omega), if_pos (by omega), if_neg (by omega)]
    simp only [n64_snoc, List.length_append, List.length_singleton, List.mem_append, List.mem_singleton]
    refine ⟨by simp, by omega, by omega, by omega, ?_⟩
    rintro d ((hd | rfl) | rfl)
    · exact h5 d hd
    · omega
    · omega
theorem EI.fold : ∀ (cs bs : List UInt8) (st : Nat × Nat × List Nat), EI bs st → EI (bs ++ cs) (cs.foldl est st)
  | [], bs, st, h => by simpa using h
  | y :: ys, bs, st, h => by
    have := EI.fold ys (bs ++ [y]) (est st y) (h.step y)
    simpa using this
theorem EI.start : EI [] (0, 0, []) := ⟨by simp, by simp, by simp, by simp [n64, n256], by simp⟩
def fin (st : Nat × Nat × List Nat) : List Nat := if st.2.1 > 0 then st.2.2 ++ [st.1 * 2 ^ (6 - st.2.1)] else st.2.2
def enc (bs : List UInt8) : List Nat := fin (bs.foldl est (0, 0, []))
theorem enc_spec (bs : List UInt8) : ∃ pad, pad < 6 ∧ 6 * (enc bs).length = 8 * bs.length + pad ∧ n64 (enc bs) = n256 bs * 2 ^ pad ∧ ∀ d ∈ enc bs, d < 64 := by
  have h := EI.start.fold bs [] (0, 0, [])
  rw [List.nil_append] at h
  unfold enc
  generalize bs.foldl est (0, 0, []) = st at h
  obtain ⟨v, n, ds⟩ := st
  obtain ⟨h1, h2, h3, h4, h5⟩ := h
  simp only at h1 h2 h3 h4 h5
  unfold fin
  rcases h1 with rfl | rfl | rfl
  · rw [if_neg (by simp)]
    exact ⟨0, by omega, by simp only; omega, by simp only; omega, h5⟩
  · rw [if_pos (by simp)]
    simp only [n64_snoc, List.length_append, List.length_singleton, List.mem_append, List.mem_singleton]
    refine ⟨4, by omega, by omega, by omega, ?_⟩
    rintro d (hd | rfl)
    · exact h5 d hd
    · omega
  · rw [if_pos (by simp)]
    simp only [n64_snoc, List.length_append, List.length_singleton, List.mem_append, List.mem_singleton]
    refine ⟨2, by omega, by omega, by omega, ?_⟩
    rintro d (hd | rfl)
    · exact h5 d hd
    · omega
theorem enc_back (xs : List Nat) (hx : ∀ x ∈ xs, x < 64) : enc (xs.foldl dst (0, 0, [])).2.2 = xs ↔ (xs.foldl dst (0, 0, [])).2.1 < 6 ∧ (xs.foldl dst (0, 0, [])).1 = 0 := by
  have h := DI.start.fold xs [] (0, 0, []) hx
  rw [List.nil_append] at h
  generalize xs.foldl dst (0, 0, []) = st at h
  obtain ⟨b, n, o⟩ := st
  obtain ⟨h1, h2, h3, h4⟩ := h
  obtain ⟨pad, p1, p2, p3, p4⟩ := enc_spec o
  simp only at h1 h2 h3 h4 ⊢
  constructor
  · intro he
    rw [he] at p2 p3
    have : pad = n := by omega
    subst this
    exact ⟨p1, by omega⟩
  · rintro ⟨hn, rfl⟩
    have hp : pad = n := by omega
    subst hp
    exact (n64_inj2 (enc o) xs 0 0 (by omega) p4 hx (by show n64 _ = n64 _; omega)).2
/-! ### letters -/
def AL : List UInt8 := [65, 66, 67, 68, 69, 70, 71, 72, 73, 74, 75, 76, 77, 78, 79, 80, 81, 82, 83, 84, 85, 86, 87, 88, 89, 90, 97, 98, 99, 100, 101, 102, 103, 104, 105, 106, 107, 108, 109, 110, 111, 112, 113, 114, 115, 116, 117, 118, 119, 120, 121, 122, 48, 49, 50, 51, 52, 53, 54, 55, 56, 57, 45, 95]
def lix (c : UInt8) : Nat := AL.idxOf c
def alc (d : Nat) : UInt8 := AL.getD d 0
set_option maxRecDepth 100000 in
theorem lix_alc : ∀ d, d < 64 → lix (alc d) = d := by decide
theorem lix_le (c : UInt8) : lix c ≤ 64 := by
  have := List.idxOf_le_length (a := c) (l := AL)
  exact this
theorem alc_lix (c : UInt8) (h : lix c < 64) : alc (lix c) = c := by
  have h2 : AL.idxOf c < AL.length := h
  have := List.getElem_idxOf h2
  unfold alc lix
  rw [List.getD_eq_getElem?_getD, List.getElem?_eq_getElem h2, this]
  rfl
def udG : Nat × Nat × List UInt8 → List UInt8 → Option (Nat × Nat × List UInt8)
  | st, [] => some st
  | st, c :: l => if lix c < 64 then udG (dst st (lix c)) l else none
theorem udG_is : ∀ (l : List UInt8) (st : Nat × Nat × List UInt8), (∀ c ∈ l, lix c < 64) → udG st l = some ((l.map lix).foldl dst st)
  | [], st, _ => rfl
  | c :: l, st, h => by
    rw [udG, if_pos (h c (by simp)), udG_is l _ (fun d hd => h d (by simp [hd]))]
    rfl
theorem udG_all : ∀ (l : List UInt8) (st r : Nat × Nat × List UInt8), udG st l = some r → ∀ c ∈ l, lix c < 64
  | [], st, r, _, c, hc => by simp at hc
  | d :: l, st, r, h, c, hc => by
    rw [udG] at h
    by_cases hd : lix d < 64
    · rw [if_pos hd] at h
      rcases List.mem_cons.mp hc with rfl | hc
      · exact hd
      · exact udG_all l _ r h c hc
    · rw [if_neg hd] at h
      cases h
/-- The bytes of a text in base64. -/
def ub (s : List UInt8) : Option (List UInt8) := match udG (0, 0, []) s with
  | some (b, n, o) => if n < 6 ∧ b = 0 then some o else none
  | none => none
def b64 (o : List UInt8) : List UInt8 := (enc o).map alc
theorem ub_back (s : List UInt8) (b n : Nat) (o : List UInt8) (h : udG (0, 0, []) s = some (b, n, o)) : (n < 6 ∧ b = 0) ↔ b64 o = s := by
  have ha := udG_all s _ _ h
  rw [udG_is s _ ha] at h
  injection h with h
  have hx : ∀ x ∈ s.map lix, x < 64 := by
    intro x hx
    obtain ⟨c, hc, rfl⟩ := List.mem_map.mp hx
    exact ha c hc
  have he := enc_back (s.map lix) hx
  rw [h] at he
  rw [← he]
  unfold b64
  obtain ⟨pad, p1, p2, p3, p4⟩ := enc_spec o
  constructor
  · intro e
    simp only at e
    rw [e, List.map_map]
    conv => rhs; rw [← List.map_id s]
    exact List.map_congr_left (fun c hc => alc_lix c (ha c hc))
  · intro e
    simp only
    rw [← e, List.map_map]
    conv => lhs; rw [← List.map_id (enc o)]
    exact List.map_congr_left (fun d hd => (lix_alc d (p4 d hd)).symm)
theorem udG_inv : ∀ (l : List UInt8) (xs : List Nat) (st r : Nat × Nat × List UInt8), DI xs st → udG st l = some r → DI (xs ++ l.map lix) r
  | [], xs, st, r, h, e => by
    injection e with e
    subst e
    simpa using h
  | c :: l, xs, st, r, h, e => by
    rw [udG] at e
    by_cases hc : lix c < 64
    · rw [if_pos hc] at e
      have := udG_inv l (xs ++ [lix c]) _ r (h.step _ hc) e
      simpa using this
    · rw [if_neg hc] at e
      cases e
end Go.Proofs.YtmchephokleffaaGreatDoor.B64
