/-
  Chapter 11, plain: levels in order are told by what they hold; the edit that makes a state makes it.
-/
import Derived.Test.YtbhfcjgejnnpcaaMs
set_option linter.unusedVariables false
set_option linter.unusedSimpArgs false
namespace Go.Proofs.Ytbhfcjgejnnpcaa
open Go.RowKit Go.Proofs.YtbhfcjgejnnpcaaW.PrintWords Go.Proofs.Ytbhfcjgejnnpcaa.PManifest
theorem ord_zero : ∀ (r : List S44) (x : S44), ordB 0 (x :: r) = true → ∀ z ∈ r, x.f0 < z.f0
  | [], x, _, z, hz => by cases hz
  | y :: r, x, h, z, hz => by
    rw [ordB_two, Bool.and_eq_true] at h
    have h1 : x.f0 < y.f0 := by
      have := h.1
      unfold apartB at this
      rw [if_pos rfl] at this
      exact of_decide_eq_true this
    rcases List.mem_cons.1 hz with rfl | hz
    · exact h1
    · have := ord_zero r y h.2 z hz
      omega
/-- A level that may be is strictly in order. -/
theorem strict_of (n : Nat) : ∀ (l : List S44), ordB (n : Nat) l = true → (∀ t ∈ l, fileB t = true) → l.Pairwise (LtT (n : Nat))
  | [], _, _ => List.Pairwise.nil
  | x :: r, h, hf => by
    refine List.Pairwise.cons (fun z hz => ?_) (strict_of n r (ordB_tail _ x r h) (fun t ht => hf t (List.mem_cons_of_mem _ ht)))
    unfold LtT
    by_cases h0 : (n : Int) = 0
    · rw [if_pos h0]
      rw [h0] at h
      exact ord_zero r x h z hz
    · rw [if_neg h0]
      have h1 := ord_later (n : Nat) h0 r x h (fun t ht => hf t (List.mem_cons_of_mem _ ht)) z hz
      have h2 := file_less (hf x List.mem_cons_self)
      left
      rw [lessB_iff] at h1
      have h3 : ¬ x.f4.toList < x.f3.toList := fun e => by
        rw [(lessB_iff _ _).2 e] at h2
        cases h2
      exact List.lt_of_le_of_lt (List.not_lt.1 h3) h1
/-- In order, and the same files: the same. -/
theorem same_of_perm (n : Int) : ∀ (l l2 : List S44), l.Pairwise (LtT n) → InOrd n l2 → l2.Perm l → l2 = l
  | [], l2, _, _, hp => List.perm_nil.1 hp
  | x :: r, [], _, _, hp => absurd hp.length_eq (by simp)
  | x :: r, y :: r2, h, h2, hp => by
    have e : y = x := by
      refine Classical.byContradiction fun hne => ?_
      have hy : y ∈ r := by
        rcases List.mem_cons.1 (hp.mem_iff.1 List.mem_cons_self) with e | e
        · exact absurd e hne
        · exact e
      have hx : x ∈ r2 := by
        rcases List.mem_cons.1 (hp.mem_iff.2 List.mem_cons_self) with e | e
        · exact absurd e.symm hne
        · exact e
      exact (List.pairwise_cons.1 h2).1 x hx ((List.pairwise_cons.1 h).1 y hy)
    subst e
    rw [same_of_perm n r r2 (List.pairwise_cons.1 h).2 (List.pairwise_cons.1 h2).2 hp.cons_inv]
theorem add_app : ∀ (a b : List S71) (LL : List (List S44)), addL LL (a ++ b) = (addL LL a).bind fun M => addL M b
  | [], b, LL => rfl
  | x :: r, b, LL => by
    rw [List.cons_append, addL, addL]
    split
    · rfl
    · exact add_app r b _
theorem set_same (LL : List (List S44)) (n : Nat) : LL.set n (LL.getD n []) = LL := by
  apply List.ext_getElem?
  intro i
  rw [List.getElem?_set]
  split
  · next h =>
    subst h
    split
    · next h2 => rw [List.getD_eq_getElem?_getD, List.getElem?_eq_getElem h2]; rfl
    · next h2 => rw [List.getElem?_eq_none (by omega)]
  · rfl
theorem add_map (n : Nat) (hn : n < 7) : ∀ (l : List S44) (LL : List (List S44)), n < LL.length → addL LL (l.map fun t => (⟨(n : Int), t⟩ : S71)) = some (LL.set n (LL.getD n [] ++ l))
  | [], LL, _ => by rw [List.map_nil, addL, List.append_nil, set_same]
  | x :: r, LL, hl => by
    rw [List.map_cons, addL, if_neg (by show ¬ ((n : Int) < 0 ∨ (n : Int) ≥ 7); omega)]
    show addL (LL.set (n : Int).toNat (LL.getD (n : Int).toNat [] ++ [x])) _ = _
    rw [Int.toNat_natCast, add_map n hn r _ (by rw [List.length_set]; exact hl), List.set_set]
    rw [show (LL.set n (LL.getD n [] ++ [x])).getD n [] = LL.getD n [] ++ [x] by rw [List.getD_eq_getElem?_getD, List.getElem?_set_self hl]; rfl]
    rw [List.append_assoc]
    rfl
theorem add_whole : ∀ (R P : List (List S44)), (P ++ R).length ≤ 7 → addL (pad7 P) (whF P.length R) = some (pad7 (P ++ R))
  | [], P, _ => by rw [whF, addL, List.append_nil]
  | l :: R, P, h => by
    have hn : P.length < 7 := by rw [List.length_append, List.length_cons] at h; omega
    have hl : P.length < (pad7 P).length := by unfold pad7; rw [List.length_append, List.length_replicate]; omega
    have h0 : (pad7 P).getD P.length [] = [] := by
      unfold pad7
      rw [List.getD_eq_getElem?_getD, List.getElem?_append_right (Nat.le_refl _), Nat.sub_self, List.getElem?_replicate, if_pos (by omega)]
      rfl
    rw [whF, add_app, add_map P.length hn l _ hl, Option.bind_some, h0, List.nil_append, pad_set P l hn]
    have ih := add_whole R (P ++ [l]) (by rw [List.append_assoc]; exact h)
    rw [List.length_append, List.length_singleton, List.append_assoc] at ih
    exact ih
theorem trim_pad (L : List (List S44)) : ∀ (m : Nat), trimL (L ++ List.replicate m []) = trimL L
  | 0 => by rw [List.replicate_zero, List.append_nil]
  | m + 1 => by rw [List.replicate_succ', ← List.append_assoc, trim_empty, trim_pad L m]
theorem trim_w0 {L : List (List S44)} (h : w0 L = false) : trimL L = L := by
  rcases List.eq_nil_or_concat L with rfl | ⟨M, x, rfl⟩
  · rfl
  · rw [List.concat_eq_append] at h ⊢
    cases x with
    | nil =>
      exfalso
      unfold w0 at h
      simp at h
    | cons x r => exact trim_full M x r
theorem chk_parts {L : List (List S44)} {log next seq : Int} (h : chkB L log next seq = true) : w0 L = false ∧ ordFrom 0 L = true ∧ (∀ t ∈ L.flatten, fileB t = true) ∧ w1 log next seq = false := by
  unfold chkB at h
  simp only [Bool.and_eq_true, Bool.not_eq_true'] at h
  exact ⟨h.1, h.2.1, allOk_file next _ _ h.2.2.1, h.2.2.2⟩
theorem pad_getD (L : List (List S44)) (i : Nat) : (pad7 L).getD i [] = L.getD i [] := by
  unfold pad7
  rw [List.getD_eq_getElem?_getD, List.getD_eq_getElem?_getD]
  by_cases h : i < L.length
  · rw [List.getElem?_append_left h]
  · rw [List.getElem?_append_right (by omega), List.getElem?_replicate, List.getElem?_eq_none (by omega)]
    split <;> rfl
theorem level_strict {L : List (List S44)} {log next seq : Int} (h : chkB L log next seq = true) (i : Nat) : (L.getD i []).Pairwise (LtT (i : Nat)) := by
  obtain ⟨_, h2, h3, _⟩ := chk_parts h
  by_cases hi : i < L.length
  · have h4 := ordFrom_at L 0 i h2 hi
    rw [Nat.zero_add] at h4
    exact strict_of i _ h4 fun t ht => h3 t (fl_at ht)
  · rw [List.getD_eq_getElem?_getD, List.getElem?_eq_none (by omega)]
    exact List.Pairwise.nil
theorem pad_len {L : List (List S44)} (h : L.length ≤ 7) : (pad7 L).length = 7 := by
  unfold pad7
  rw [List.length_append, List.length_replicate]
  omega
theorem srt_pad {L OL : List (List S44)} {log next seq : Int} (h : chkB L log next seq = true) (hS : Srt (pad7 L) OL) : OL = pad7 L := by
  have h7 := chk_seven h
  have hp := pad_len h7
  apply List.ext_getElem?
  intro i
  by_cases hi : i < 7
  · have h1 := hS.2 i (by omega)
    rw [pad_getD] at h1
    have h2 := same_of_perm (i : Nat) _ _ (level_strict h i) h1.2 h1.1
    have hO : OL.length = 7 := by rw [hS.1, hp]
    have h3 : OL.getD i [] = OL[i]'(by omega) := by rw [List.getD_eq_getElem?_getD, List.getElem?_eq_getElem (by omega)]; rfl
    have h4 : (pad7 L).getD i [] = (pad7 L)[i]'(by omega) := by rw [List.getD_eq_getElem?_getD, List.getElem?_eq_getElem (by omega)]; rfl
    rw [List.getElem?_eq_getElem (by omega), List.getElem?_eq_getElem (by omega), ← h3, ← h4, h2, pad_getD]
  · rw [List.getElem?_eq_none (by rw [hS.1]; omega), List.getElem?_eq_none (by omega)]
theorem app_whole {L : List (List S44)} {log next seq : Int} {o : Option (List (List S44))} (hck : chkB L log next seq = true) (h0 : 0 ≤ seq) (h : App [] 0 1 0 log next seq (whF 0 L) [] o) : o = some L := by
  obtain ⟨p0, _, _, p1⟩ := chk_parts hck
  have h7 := chk_seven hck
  unfold w1 at p1
  have p1' := of_decide_eq_false p1
  have hg : gdB [] 0 1 0 log next seq = false := by
    unfold gdB
    rw [show chkB [] 0 1 0 = true by decide +kernel]
    simp only [Bool.not_true, Bool.false_or, Bool.or_eq_false_iff, decide_eq_false_iff_not]
    omega
  unfold App at h
  rw [if_neg (by rw [hg]; decide)] at h
  have e1 : goneL (pad7 []) ([] : List S73) = some (pad7 []) := rfl
  have e2 := add_whole L [] (by simpa using h7)
  rw [List.nil_append, List.length_nil] at e2
  rw [e1] at h
  simp only at h
  rw [e2] at h
  simp only at h
  obtain ⟨OL, hS, rfl⟩ := h
  rw [srt_pad hck hS]
  have e3 : trimL (pad7 L) = L := by
    unfold pad7
    rw [trim_pad, trim_w0 p0]
  rw [e3, if_pos hck]
end Go.Proofs.Ytbhfcjgejnnpcaa
