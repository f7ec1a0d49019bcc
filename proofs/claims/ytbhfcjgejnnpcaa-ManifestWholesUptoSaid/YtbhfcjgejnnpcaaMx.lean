/-
  Chapter 11, plain: what a level's order says of keys; a state's box.
-/
import Derived.Test.YtbhfcjgejnnpcaaMp
set_option linter.unusedVariables false
set_option linter.unusedSimpArgs false
namespace Go.Proofs.Ytbhfcjgejnnpcaa
open Go.RowKit Go.Proofs.YtbhfcjgejnnpcaaW.PrintWords Go.Proofs.Ytbhfcjgejnnpcaa.PManifest
def hasK (from_ to_ : ByteArray) (t : S44) : Bool := !lessB to_ t.f3 && !lessB t.f4 from_
def ovF (L : List (List S44)) (level : Int) (from_ to_ : ByteArray) : List S44 := if level < 0 ∨ level ≥ L.length then [] else (L.getD level.toNat []).filter (hasK from_ to_)
theorem less_trans {x y z : ByteArray} (h1 : lessB x y = true) (h2 : lessB z y = false) : lessB x z = true := by
  rw [lessB_iff] at h1 ⊢
  have h3 : ¬ z.toList < y.toList := fun e => by
    have := (lessB_iff z y).2 e
    rw [this] at h2
    cases h2
  refine Decidable.byContradiction fun h4 => h3 (List.lt_of_le_of_lt (List.not_lt.1 h4) h1)
theorem file_less {t : S44} (h : fileB t = true) : lessB t.f4 t.f3 = false := by
  unfold fileB at h
  simp only [Bool.and_eq_true, Bool.not_eq_true'] at h
  exact h.2
theorem less_tr {x y z : ByteArray} (h1 : lessB x y = true) (h2 : lessB y z = true) : lessB x z = true := by
  rw [lessB_iff] at h1 h2 ⊢
  exact List.lt_trans h1 h2
/-- The files behind one have their keys behind its last. -/
theorem ord_later (n : Int) (hn : n ≠ 0) : ∀ (r : List S44) (x : S44), ordB n (x :: r) = true → (∀ t ∈ r, fileB t = true) → ∀ z ∈ r, lessB x.f4 z.f3 = true
  | [], x, _, _, z, hz => by cases hz
  | y :: r, x, h, hf, z, hz => by
    rw [ordB_two, Bool.and_eq_true] at h
    have h1 : lessB x.f4 y.f3 = true := by
      have := h.1
      unfold apartB at this
      rw [if_neg hn] at this
      exact this
    rcases List.mem_cons.1 hz with rfl | hz
    · exact h1
    · exact less_tr (less_trans h1 (file_less (hf y List.mem_cons_self))) (ord_later n hn r y h.2 (fun t ht => hf t (List.mem_cons_of_mem _ ht)) z hz)
theorem ordB_tail (n : Int) (x : S44) (r : List S44) (h : ordB n (x :: r) = true) : ordB n r = true := by
  cases r with
  | nil => rfl
  | cons y r =>
    rw [ordB_two, Bool.and_eq_true] at h
    exact h.2
theorem key_one (n : Int) (hn : n ≠ 0) (key : ByteArray) : ∀ (l : List S44), ordB n l = true → (∀ t ∈ l, fileB t = true) → l.filter (hasK key key) = [] ∨ ∃ t, l.filter (hasK key key) = [t] ∧ lessB key t.f3 = false ∧ lessB t.f4 key = false
  | [], _, _ => Or.inl rfl
  | x :: r, h, hf => by
    by_cases hx : hasK key key x = true
    · refine Or.inr ⟨x, ?_, ?_, ?_⟩
      · rw [List.filter_cons_of_pos hx, List.filter_eq_nil_iff.2 fun z hz hk => ?_]
        have h1 := ord_later n hn r x h (fun t ht => hf t (List.mem_cons_of_mem _ ht)) z hz
        unfold hasK at hx hk
        simp only [Bool.and_eq_true, Bool.not_eq_true'] at hx hk
        have h2 : lessB key z.f3 = true := by
          rw [lessB_iff] at h1 ⊢
          have h3 : ¬ x.f4.toList < key.toList := fun e => by
            have := (lessB_iff x.f4 key).2 e
            rw [this] at hx
            exact absurd hx.2 (by decide)
          exact List.lt_of_le_of_lt (List.not_lt.1 h3) h1
        rw [h2] at hk
        exact absurd hk.1 (by decide)
      · unfold hasK at hx
        simp only [Bool.and_eq_true, Bool.not_eq_true'] at hx
        exact hx.1
      · unfold hasK at hx
        simp only [Bool.and_eq_true, Bool.not_eq_true'] at hx
        exact hx.2
    · rw [List.filter_cons_of_neg hx]
      exact key_one n hn key r (ordB_tail n x r h) (fun t ht => hf t (List.mem_cons_of_mem _ ht))
theorem ordFrom_at : ∀ (L : List (List S44)) (m n : Nat), ordFrom m L = true → n < L.length → ordB (m + n : Nat) (L.getD n []) = true
  | [], m, n, _, h => by simp at h
  | l :: r, m, 0, h, _ => by
    rw [ordFrom, Bool.and_eq_true] at h
    simpa using h.1
  | l :: r, m, n + 1, h, hl => by
    rw [ordFrom, Bool.and_eq_true] at h
    have := ordFrom_at r (m + 1) n h.2 (by simpa using hl)
    rw [show m + (n + 1) = m + 1 + n by omega]
    simpa using this
theorem allOk_file (next : Int) : ∀ (l : List S44) (ns : List Int), allOk next ns l = true → ∀ t ∈ l, fileB t = true
  | [], _, _, t, ht => by cases ht
  | x :: r, ns, h, t, ht => by
    rw [allOk] at h
    simp only [Bool.and_eq_true] at h
    rcases List.mem_cons.1 ht with rfl | ht
    · exact h.1
    · exact allOk_file next r _ h.2.2.2.2 t ht
theorem chk_lev {L : List (List S44)} {log next seq : Int} (h : chkB L log next seq = true) (n : Nat) (hn : n < L.length) (h0 : 0 < n) (key : ByteArray) : ovF L (n : Int) key key = [] ∨ ∃ t, ovF L (n : Int) key key = [t] ∧ lessB key t.f3 = false ∧ lessB t.f4 key = false := by
  unfold chkB at h
  simp only [Bool.and_eq_true] at h
  unfold ovF
  rw [if_neg (by omega), Int.toNat_natCast]
  have h1 := ordFrom_at L 0 n h.2.1 hn
  rw [Nat.zero_add] at h1
  refine key_one (n : Nat) (by omega) key _ h1 fun t ht => ?_
  have hm : L.getD n [] ∈ L := by
    rw [List.getD_eq_getElem?_getD, List.getElem?_eq_getElem hn]
    exact List.getElem_mem hn
  exact allOk_file next _ _ h.2.2.1 t (List.mem_flatten.2 ⟨_, hm, ht⟩)
theorem rcheck2 {L : List (List S44)} {log next seq : Int} (h : StOk L log next seq) (A : Option Addr) (c : Nat) (w : World) (hr : Kd.C (Kd.slice 44 k44) w A L.length L) (hc : L.length ≤ c) :
    Calls Try.prog 15 #[.agg #[.slice A L.length c, .int .i64 log, .int .i64 next, .int .u64 seq]] w fun e w' => e = .returned (.int .i64 (c110 (chkB L log next seq))) ∧ Below w.heap.size w w' :=
  rcheck_any L log next seq h.n h.each (by have := h.all; omega) A c w hr hc
/-- A state's box. -/
structure SBx (w : World) (sc : List Value) (W : World) : Prop where
  s : W.heap[w.heap.size]? = some (.cells sc.toArray 27 (0, 0))
  bel : Below w.heap.size w W
theorem SBx.next {w : World} {sc : List Value} {W W2 : World} (h : SBx w sc W) (hb : Below W.heap.size W W2) : SBx w sc W2 :=
  ⟨(hb.block _ (Array.getElem?_eq_some_iff.1 h.s).1).trans h.s, h.bel.trans (hb.mono h.bel.size)⟩
end Go.Proofs.Ytbhfcjgejnnpcaa
