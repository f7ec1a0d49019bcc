/-
  Plain facts about a log of records: what a scan finds of it, whole or cut off.
-/
import Derived.Test.YtlmlkamgpmnmgaaPure
import Derived.Test.YtlmlkamgpmnmgaaLayAny
set_option linter.unusedVariables false
set_option linter.unusedSimpArgs false
namespace Go.Proofs.Ytlmlkamgpmnmgaa
open Go.RowKit Go.Proofs.YtlmlkamgpmnmgaaW.PrintWords
/-- A log's bytes behind some bytes, where each record ends, and the records that are laid. -/
def logB : Nat → List ByteArray → List UInt8
  | _, [] => []
  | sz, s :: r => layO sz s ++ logB (layS sz s) r
def logE : Nat → List ByteArray → List Nat
  | _, [] => []
  | sz, s :: r => if fitsB sz s then layS sz s :: logE (layS sz s) r else logE sz r
def logW : Nat → List ByteArray → List ByteArray
  | _, [] => []
  | sz, s :: r => if fitsB sz s then s :: logW (layS sz s) r else logW sz r
/-- How many of the ends lie within n bytes. -/
def within (n : Nat) : List Nat → Nat
  | [] => 0
  | e :: r => if e ≤ n then within n r + 1 else 0
theorem logE_len : ∀ (r : List ByteArray) (sz : Nat), (logE sz r).length = (logW sz r).length
  | [], _ => rfl
  | s :: r, sz => by
    unfold logE logW
    split
    · simp [logE_len r]
    · exact logE_len r sz
theorem layO_no {sz : Nat} {s : ByteArray} (h : ¬ fitsB sz s) : layO sz s = [] ∧ layS sz s = sz := by unfold layO layS; rw [if_neg h, if_neg h]; exact ⟨rfl, rfl⟩
theorem layO_yes {sz : Nat} {s : ByteArray} (h : fitsB sz s) : layO sz s = layA sz s.data.toList ∧ layS sz s = sz + lenA sz s.data.toList.length := by unfold layO layS; rw [if_pos h, if_pos h, len_data]; exact ⟨rfl, rfl⟩
theorem lastE : ∀ (r : List ByteArray) (sz : Nat), (logE sz r).getLastD sz = sz + (logB sz r).length
  | [], sz => by simp [logE, logB]
  | s :: r, sz => by
    unfold logE logB
    by_cases h : fitsB sz s
    · obtain ⟨h1, h2⟩ := layO_yes h
      rw [if_pos h, h1, h2, List.getLastD_cons, lastE r, List.length_append, layA_len]
      omega
    · obtain ⟨h1, h2⟩ := layO_no h
      rw [if_neg h, h1, h2, lastE r]
      simp
/-- A whole log. -/
theorem scan_log : ∀ (r : List ByteArray) (L : List UInt8) (p : Nat) (rs : List ByteArray), p ≤ L.length → L.drop p = logB p r → scanF L p [] false rs p = (rs ++ logW p r, (logE p r).getLastD p, 1)
  | [], L, p, rs, hp, hd => by
    have : p = L.length := by
      have := congrArg List.length hd
      simp [logB] at this
      omega
    subst this
    rw [scan_end]
    simp [logW, logE]
  | s :: r, L, p, rs, hp, hd => by
    unfold logB at hd
    unfold logW logE
    by_cases h : fitsB p s
    · obtain ⟨h1, h2⟩ := layO_yes h
      rw [h1, h2] at hd
      rw [if_pos h, if_pos h, scan_layA hp hd, h2]
      have hlen : L.length - p = lenA p s.data.toList.length + (logB (p + lenA p s.data.toList.length) r).length := by
        have := congrArg List.length hd
        rwa [List.length_drop, List.length_append, layA_len] at this
      have hd2 : L.drop (p + lenA p s.data.toList.length) = logB (p + lenA p s.data.toList.length) r := by
        rw [← List.drop_drop, hd, List.drop_left' (layA_len _ _)]
      rw [scan_log r L _ _ (by omega) hd2, List.append_assoc, str_mk, List.getLastD_cons]
      rfl
    · obtain ⟨h1, h2⟩ := layO_no h
      rw [h1, h2, List.nil_append] at hd
      rw [if_neg h, if_neg h]
      exact scan_log r L p rs hp hd
theorem within_pos : ∀ (r : List ByteArray) (sz n : Nat), n < sz → within n (logE sz r) = 0
  | [], _, _, _ => rfl
  | s :: r, sz, n, h => by
    unfold logE
    by_cases hf : fitsB sz s
    · rw [if_pos hf]
      have := layS_eq sz s
      unfold within
      rw [if_neg (by omega)]
    · rw [if_neg hf]
      exact within_pos r sz n h
/-- A log that was cut off. -/
theorem scan_log_cut : ∀ (r : List ByteArray) (L : List UInt8) (p m : Nat) (rs : List ByteArray) (en : Nat), L.length = p + m → m ≤ (logB p r).length → L.drop p = (logB p r).take m →
    ∃ why, scanF L p [] false rs en = (rs ++ (logW p r).take (within (p + m) (logE p r)), ((logE p r).take (within (p + m) (logE p r))).getLastD en, why) ∧ (why = 1 ∨ why = 2)
  | [], L, p, m, rs, en, hL, hm, hd => by
    have hm0 : m = 0 := by simpa [logB] using hm
    subst hm0
    have : p = L.length := by omega
    subst this
    exact ⟨1, by rw [scan_end]; simp [logW, logE, within], .inl rfl⟩
  | s :: r, L, p, m, rs, en, hL, hm, hd => by
    unfold logB at hd hm
    unfold logW logE
    by_cases h : fitsB p s
    · obtain ⟨h1, h2⟩ := layO_yes h
      rw [h1, h2] at hd hm
      rw [if_pos h, if_pos h, h2]
      rw [List.length_append, layA_len] at hm
      by_cases hc : lenA p s.data.toList.length ≤ m
      · have hd1 : L.drop p = layA p s.data.toList ++ (logB (p + lenA p s.data.toList.length) r).take (m - lenA p s.data.toList.length) := by
          rw [hd, List.take_append, layA_len, List.take_of_length_le (by rw [layA_len]; exact hc)]
        have hd2 : L.drop (p + lenA p s.data.toList.length) = (logB (p + lenA p s.data.toList.length) r).take (m - lenA p s.data.toList.length) := by
          rw [← List.drop_drop, hd1, List.drop_left' (layA_len _ _)]
        obtain ⟨why, hs, hw⟩ := scan_log_cut r L (p + lenA p s.data.toList.length) (m - lenA p s.data.toList.length) (rs ++ [s]) (p + lenA p s.data.toList.length) (by omega) (by omega) hd2
        refine ⟨why, ?_, hw⟩
        rw [scan_layA (by omega) hd1]
        have hpm : p + lenA p s.data.toList.length + (m - lenA p s.data.toList.length) = p + m := by omega
        rw [hpm] at hs
        have hwi : within (p + m) ((p + lenA p s.data.toList.length) :: logE (p + lenA p s.data.toList.length) r) = within (p + m) (logE (p + lenA p s.data.toList.length) r) + 1 := by
          conv => lhs; unfold within
          rw [if_pos (by omega)]
        have hsm : (⟨s.data.toList.toArray⟩ : ByteArray) = s := str_mk s
        rw [hwi, hsm, hs, List.take_succ_cons, List.take_succ_cons, List.getLastD_cons, List.append_assoc]
        rfl
      · obtain ⟨why, hs, hw⟩ := scan_layA_cut (m := m) (recs := rs) (en := en) hL (by rw [hd, List.take_append_of_le_length (by rw [layA_len]; omega)]) (by omega)
        refine ⟨why, ?_, hw⟩
        have hwi : within (p + m) ((p + lenA p s.data.toList.length) :: logE (p + lenA p s.data.toList.length) r) = 0 := by
          unfold within
          rw [if_neg (by omega)]
        rw [hwi, hs]
        simp
    · obtain ⟨h1, h2⟩ := layO_no h
      rw [h1, h2, List.nil_append] at hd hm
      rw [if_neg h, if_neg h]
      exact scan_log_cut r L p m rs en hL hm hd
/-- A record that is not laid is too long, or much lies there already. -/
theorem lenF_small (k : Nat) : ∀ a n : Nat, a % 1024 = 0 → lenF k a n ≤ n + 7 * (n / 1017 + 1) := by
  induction k with
  | zero => intro a n _; simp [lenF]
  | succ k ih =>
    intro a n ha
    unfold lenF
    rw [room_zero a ha]
    by_cases h : n ≤ 1017
    · rw [if_pos h]; omega
    · rw [if_neg h]
      have := ih (a + 7 + 1017) (n - 1017) (by omega)
      have hd : n / 1017 = (n - 1017) / 1017 + 1 := by omega
      omega
theorem lenA_small (a n : Nat) (hn : n ≤ 262144) : lenA a n ≤ 264000 := by
  have hg := gapN_le a
  have hgn := gap_next a
  unfold lenA
  generalize hx : a + gapN a = x at *
  have hr := room_le x
  unfold lenF
  by_cases h : n ≤ room x
  · rw [if_pos h]; omega
  · rw [if_neg h]
    have := lenF_small (n + 1) (x + 7 + room x) (n - room x) (room_next x hgn)
    omega
theorem not_fits {sz : Nat} {s : ByteArray} (h : ¬ fitsB sz s) : 262144 < s.size ∨ 524288 < sz := by
  unfold fitsB at h
  by_cases h1 : s.size ≤ 262144
  · have := lenA_small sz s.size h1
    omega
  · omega
end Go.Proofs.Ytlmlkamgpmnmgaa
