/-
  Names and sessions: text.Name and its reference; what sessions may be.
-/
import Derived.Test.YtmchephokleffaaGreatDoorYf
import Derived.Test.YtmchephokleffaaGreatDoorYd
import Derived.Test.YtmchephokleffaaGreatDoorQ8
set_option linter.unusedVariables false
set_option linter.unusedSimpArgs false
namespace Go.Proofs.YtmchephokleffaaGreatDoor
open Go.RowKit Go.Proofs.YtmchephokleffaaGreatDoorW.PrintWords Go.Proofs.YtmchephokleffaaGreatDoorW.PrintMore Go.Proofs.YtmchephokleffaaGreatDoor.PRecord
theorem idxF (p : Nat → Bool) (s : ByteArray) : ∀ (f pos : Nat), decide (0 ≤ Lib.idxFuncFrom p true s f pos) = (ruF f s pos).any p
  | 0, pos => by simp [Lib.idxFuncFrom, ruF]
  | f + 1, pos => by
    have ih := idxF p s f (pos + (Utf8.decode s pos).2)
    rw [Lib.idxFuncFrom, ruF]
    by_cases h : pos < s.size
    · rw [if_pos h, if_pos h, List.any_cons]
      by_cases hp : p (Utf8.decode s pos).1 = true
      · rw [if_pos hp, hp, Bool.true_or, decide_eq_true (by omega)]
      · rw [if_neg hp, ih, Bool.eq_false_iff.mpr hp, Bool.false_or]
    · rw [if_neg h, if_neg h]
      rfl
/-- May a text be a name? -/
def namB (s : ByteArray) : Bool := vaB s && (decide (1 ≤ s.size) && (decide (s.size ≤ 64) && !(ruF s.size s 0).any hidR))
theorem pred_hidden (w : World) : PredAt Tryz.prog 107 #[] encR hidR w := fun W r _ => by
  unfold FnGives
  refine (text_hidden.calls (r : Int) (hidR r) W (hid_f r)).mono (fun e w' h => ⟨h.1, ?_⟩)
  obtain ⟨h1, h2⟩ := h
  first | exact h2.out | exact h2
theorem cf_hidden (args : Array Value) (W : World) : (callFunc 107 args).run Tryz.prog W = .ok (.enter 107 args) W := by go_simp
set_option maxHeartbeats 2000000 in
theorem name_any (s : ByteArray) (hs : s.size ≤ 1000000000) (w : World) :
    Calls Tryz.prog 52 #[.string s] w fun e w' => e = .returned (.bool (namB s)) ∧ Below w.heap.size w w' := by
  have hv := Lib.hid (valid_any s hs w)
  have hc := Lib.hid (fun W => by
    have := Tryz.strings_ContainsFunc 107 #[] cf_hidden hidR s W (pred_hidden W)
    rw [show Lib.idxFunc hidR true s = Lib.idxFuncFrom hidR true s s.size 0 from rfl, idxF] at this
    exact this)
  have hN : namB s = (vaB s && (decide (1 ≤ s.size) && (decide (s.size ≤ 64) && !(ruF s.size s 0).any hidR))) := rfl
  generalize (ruF s.size s 0).any hidR = H at *
  generalize vaB s = V at *
  cases V with
  | false =>
    rw [hN, Bool.false_and]
    clear hN hc
    go_enter Tryz.func52, Tryz.ntmps52
    go_wp2_with (fail)
    refine hv.out.mono ?_
    rintro e w2 ⟨rfl, hb2⟩
    go_wp2
    go_ret
    exact ⟨rfl, hb2⟩
  | true =>
    rw [Bool.true_and] at hN
    by_cases h1 : 1 ≤ s.size
    · have d1 : decide ((1 : Int) ≤ (s.size : Int)) = true := decide_eq_true (by omega)
      rw [decide_eq_true h1, Bool.true_and] at hN
      by_cases h2 : s.size ≤ 64
      · have d2 : decide ((s.size : Int) ≤ 64) = true := decide_eq_true (by omega)
        rw [decide_eq_true h2, Bool.true_and] at hN
        rw [hN]
        clear hN
        replace h1 := Lib.hid h1
        go_enter Tryz.func52, Tryz.ntmps52
        go_wp2_with (fail)
        refine hv.out.mono ?_
        rintro e w2 ⟨rfl, hb2⟩
        replace hb2 := Lib.hid hb2
        go_wp2_with (fail)
        refine (hc.out _).mono ?_
        rintro e w3 ⟨rfl, hb3⟩
        have hb := Lib.hid (hb2.out.trans (hb3.mono hb2.out.size))
        clear hb2 hb3 hc hv
        cases H with
        | true =>
          go_wp2
          go_ret
          exact ⟨rfl, hb.out⟩
        | false =>
          go_wp2
          go_ret
          exact ⟨rfl, hb.out⟩
      · have d2 : decide ((s.size : Int) ≤ 64) = false := decide_eq_false (by omega)
        rw [decide_eq_false h2, Bool.false_and] at hN
        rw [hN]
        clear hN hc
        replace h1 := Lib.hid h1
        go_enter Tryz.func52, Tryz.ntmps52
        go_wp2_with (fail)
        refine hv.out.mono ?_
        rintro e w2 ⟨rfl, hb2⟩
        go_wp2
        go_ret
        exact ⟨rfl, hb2⟩
    · have d1 : decide ((1 : Int) ≤ (s.size : Int)) = false := decide_eq_false (by omega)
      rw [decide_eq_false h1, Bool.false_and] at hN
      rw [hN]
      clear hN hc
      go_enter Tryz.func52, Tryz.ntmps52
      go_wp2_with (fail)
      refine hv.out.mono ?_
      rintro e w2 ⟨rfl, hb2⟩
      go_wp2
      go_ret
      exact ⟨rfl, hb2⟩
theorem rd_nI (P R : List Nat) (r : Nat) : rd (nI (P ++ r :: R)) (P.length : Int) = (r : Int) := by
  unfold rd nI
  rw [Int.toNat_natCast, List.getD_eq_getElem?_getD]
  simp
theorem ruF_le : ∀ (f : Nat) (s : ByteArray) (pos : Nat), ∀ r ∈ ruF f s pos, r ≤ 1114111
  | 0, s, pos, r, h => by simp [ruF] at h
  | f + 1, s, pos, r, h => by
    rw [ruF] at h
    by_cases hp : pos < s.size
    · rw [if_pos hp] at h
      rcases List.mem_cons.mp h with rfl | h
      · exact Lib.rune_le s pos
      · exact ruF_le f s _ r h
    · rw [if_neg hp] at h
      simp at h
theorem rnam_l0 : ∀ (R P : List Nat), (P ++ R).length ≤ 1000000000 → (∀ r ∈ R, r ≤ 1114111) → atriumref15_Name.l0 (R.length + 1) (nI (P ++ R)) (P.length : Nat) = some (!R.any hidR)
  | [], P, h, _ => by
    rw [show ([] : List Nat).length + 1 = 0 + 1 from rfl, atriumref15_Name.l0, if_neg (by simp [nI])]
    rfl
  | r :: R, P, h, hr => by
    have hl : (P ++ r :: R).length = P.length + 1 + R.length := by simp; omega
    have hr1 := hr r (by simp)
    have ih := rnam_l0 R (P ++ [r]) (by simpa using h) (fun x hx => hr x (by simp [hx]))
    simp only [List.append_assoc, List.singleton_append, List.length_append, List.length_cons, List.length_nil, Nat.zero_add] at ih
    have hlen : (nI (P ++ r :: R)).length = P.length + 1 + R.length := by unfold nI; rw [List.length_map]; exact hl
    rw [List.length_cons, atriumref15_Name.l0, if_pos (by rw [hlen]; omega), if_pos (by omega), rd_nI, w64s (r : Int) (by omega), Bd.w_succ _ (by omega), ih, List.any_cons]
    clear ih
    have hf := hid_f r
    unfold text_hidden.f at hf
    cases hh : hidR r with
    | true =>
      rw [hh] at hf
      revert hf
      repeat' split
      all_goals first | (intro _; rfl) | (intro h; exfalso; first | (simp at h; done) | (simp at h; omega) | omega)
    | false =>
      rw [hh] at hf
      revert hf
      repeat' split
      all_goals first | (intro _; rfl) | (intro h; exfalso; first | (simp at h; done) | (simp at h; omega) | omega)
theorem rnam_f (s : ByteArray) (hs : s.size ≤ 1000000000) (k : Nat) (hk : s.size + 30 ≤ k) : atriumref15_Name.f k s = some (namB s) := by
  have hN : namB s = (vaB s && (decide (1 ≤ s.size) && (decide (s.size ≤ 64) && !(ruF s.size s 0).any hidR))) := rfl
  unfold atriumref15_Name.f
  obtain ⟨k, rfl⟩ : ∃ j, k = j + 1 := ⟨k - 1, by omega⟩
  by_cases h1 : 1 ≤ s.size
  · rw [if_neg (by omega)]
    rw [decide_eq_true h1, Bool.true_and] at hN
    by_cases h2 : s.size ≤ 64
    · rw [decide_eq_true h2, Bool.true_and] at hN
      rw [if_neg (by omega), rval_f s hs (k + 1) (by omega), Option.bind_some, hN]
      cases vaB s with
      | false => rw [atriumref15_Name.j0, if_pos (by simp)]; rfl
      | true =>
        have hl := ruF_len s.size s 0
        have h := rnam_l0 (ruF s.size s 0) [] (by simpa using Nat.le_trans hl hs) (ruF_le s.size s 0)
        rw [List.nil_append] at h
        rw [atriumref15_Name.j0, if_neg (by simp), rrun_f s hs k (by omega), Option.bind_some, Bool.true_and]
        exact leo_up (f := fun k => atriumref15_Name.l0 k (nI (ruF s.size s 0)) 0) (fun k => (atriumref15_Name.mono_l k).2 _ _) h (by omega)
    · rw [if_pos (by omega), atriumref15_Name.j0, if_pos rfl, hN, decide_eq_false h2, Bool.false_and, Bool.and_false]
  · rw [if_pos (by omega), atriumref15_Name.j0, if_pos rfl, hN, decide_eq_false h1, Bool.false_and, Bool.and_false]
theorem rtok_up (s : ByteArray) (h : s.size ≤ 1000000000) : ∃ k, ∀ d, k ≤ d → atriumref22_Token.f d s = some (tokB s.data.toList) := by
  obtain ⟨k, hk⟩ := rtok_f s.data.toList (by rw [Bd.len_data']; exact h)
  rw [Bd.of_data] at hk
  exact ⟨k, fun d hd => leo_up (f := fun k => atriumref22_Token.f k s) (fun k => atriumref22_Token.mono s k) hk hd⟩
/-- May a session be? -/
def mayB (tk us da : ByteArray) : Bool := tokB tk.data.toList && (namB us && (decide (da.size ≤ 512) && vaB da))
theorem rmay_up (tk us da : ByteArray) (ex : Int) (h1 : tk.size ≤ 1000000000) (h2 : us.size ≤ 1000000000) (h3 : da.size ≤ 1000000000) : ∃ k, ∀ d, k ≤ d → atriumref22_May.f d tk us da ex = some (mayB tk us da) := by
  obtain ⟨k, hk⟩ := rtok_up tk h1
  refine ⟨k + us.size + da.size + 60, fun d hd => ?_⟩
  unfold atriumref22_May.f
  rw [hk d (by omega), Option.bind_some]
  unfold mayB
  cases tokB tk.data.toList with
  | false => rw [if_neg (by simp)]; rfl
  | true =>
    rw [if_pos rfl, rnam_f us h2 d (by omega), Option.bind_some]
    cases namB us with
    | false => rw [if_neg (by simp)]; rfl
    | true =>
      rw [if_pos rfl]
      by_cases h5 : da.size ≤ 512
      · rw [if_pos (by omega), rval_f da h3 d (by omega), Option.bind_some, decide_eq_true h5]
        rfl
      · rw [if_neg (by omega), decide_eq_false h5]
        rfl
theorem rmay_any (tk us da : ByteArray) (ex : Int) (h1 : tk.size ≤ 1000000000) (h2 : us.size ≤ 1000000000) (h3 : da.size ≤ 1000000000) (w : World) :
    Calls Tryz.prog 59 #[.agg #[.string tk, .string us, .string da, .int .u64 ex]] w fun e w' => e = .returned (.bool (mayB tk us da)) ∧ Below w.heap.size w w' := by
  obtain ⟨k, hk⟩ := rmay_up tk us da ex h1 h2 h3
  exact atriumref22_May.calls k tk us da ex _ w (hk k (Nat.le_refl _))
set_option maxHeartbeats 4000000 in
theorem session_any (tk us da : ByteArray) (ex : Int) (h1 : tk.size ≤ 1000000000) (h2 : us.size ≤ 1000000000) (h3 : da.size ≤ 1000000000) (w : World) :
    Calls Tryz.prog 54 #[.agg #[.string tk, .string us, .string da, .int .u64 ex]] w fun e w' => e = .returned (.bool (mayB tk us da)) ∧ Below w.heap.size w w' := by
  obtain ⟨W0, hW0⟩ : ∃ W0, W0 = w.alloc (.cells #[.string tk, .string us, .string da, .int .u64 ex] 42) := ⟨_, rfl⟩
  have hr0 : W0.heap[w.heap.size]? = some (.cells #[.string tk, .string us, .string da, .int .u64 ex] 42 (0, 0)) := by rw [hW0]; exact heap_alloc_new w _
  have hB0 := Lib.hid (show Below w.heap.size w W0 by rw [hW0]; exact (Below.refl _ _).alloc (Nat.le_refl _) _)
  have hz0 : w.heap.size < W0.heap.size := by rw [hW0]; simp
  have hcl : Hid (∀ W, Below W0.heap.size W0 W → W.cell? ⟨w.heap.size, 0, none⟩ = some (.string tk) ∧ W.cell? ⟨w.heap.size, 1, none⟩ = some (.string us) ∧ W.cell? ⟨w.heap.size, 2, none⟩ = some (.string da) ∧ Below w.heap.size w W) := Lib.hid (fun W h => by
    have h3 := (h.block _ hz0).trans hr0
    exact ⟨(blk_cell h3 0).trans rfl, (blk_cell h3 1).trans rfl, (blk_cell h3 2).trans rfl, hB0.out.trans (h.mono (Nat.le_of_lt hz0))⟩)
  have ht := Lib.hid (fun W => tok_any tk.data.toList (by rw [Bd.len_data']; exact h1) W)
  rw [Bd.of_data] at ht
  have hn := Lib.hid (fun W => name_any us h2 W)
  have hv := Lib.hid (fun W => valid_any da h3 W)
  have hM : mayB tk us da = (tokB tk.data.toList && (namB us && (decide (da.size ≤ 512) && vaB da))) := rfl
  generalize tokB tk.data.toList = T at *
  generalize namB us = N at *
  generalize vaB da = V at *
  obtain ⟨k0, k1, k2, _⟩ := hcl.out W0 (Below.refl _ _)
  rw [hW0] at k0 k1 k2
  have hW0H := Lib.hid hW0
  clear hr0 hB0 hW0
  cases T with
  | false =>
    rw [hM, Bool.false_and]
    clear hM hn hv
    go_enter Tryz.func54, Tryz.ntmps54
    go_wp2_with (fail)
    rw [← hW0H.out]
    refine (ht.out _).mono ?_
    rintro e w2 ⟨rfl, hb2⟩
    have hend := Lib.hid (hcl.out _ hb2).2.2.2
    clear k0 k1 k2 hb2
    go_wp2
    go_ret
    exact ⟨rfl, hend.out⟩
  | true =>
    rw [Bool.true_and] at hM
    cases N with
    | false =>
      rw [hM, Bool.false_and]
      clear hM hv
      go_enter Tryz.func54, Tryz.ntmps54
      go_wp2_with (fail)
      rw [← hW0H.out]
      refine (ht.out _).mono ?_
      rintro e w2 ⟨rfl, hb2⟩
      replace hb2 := Lib.hid hb2
      clear k0 k1 k2
      obtain ⟨k0, k1, k2, _⟩ := hcl.out _ hb2.out
      go_wp2_with (fail)
      refine (hn.out _).mono ?_
      rintro e w3 ⟨rfl, hb3⟩
      have hend := Lib.hid (hcl.out _ (hb2.out.trans (hb3.mono hb2.out.size))).2.2.2
      clear k0 k1 k2 hb2 hb3
      go_wp2
      go_ret
      exact ⟨rfl, hend.out⟩
    | true =>
      rw [Bool.true_and] at hM
      by_cases h5 : da.size ≤ 512
      · rw [decide_eq_true h5, Bool.true_and] at hM
        have d1 : decide ((da.size : Int) ≤ 512) = true := decide_eq_true (by omega)
        rw [hM]
        clear hM
        go_enter Tryz.func54, Tryz.ntmps54
        go_wp2_with (fail)
        rw [← hW0H.out]
        refine (ht.out _).mono ?_
        rintro e w2 ⟨rfl, hb2⟩
        replace hb2 := Lib.hid hb2
        clear k0 k1 k2
        obtain ⟨k0, k1, k2, _⟩ := hcl.out _ hb2.out
        go_wp2_with (fail)
        refine (hn.out _).mono ?_
        rintro e w3 ⟨rfl, hb3⟩
        have hb3 := Lib.hid (hb2.out.trans (hb3.mono hb2.out.size))
        clear k0 k1 k2 hb2
        obtain ⟨k0, k1, k2, _⟩ := hcl.out _ hb3.out
        go_wp2_with (fail)
        refine (hv.out _).mono ?_
        rintro e w4 ⟨rfl, hb4⟩
        have hend := Lib.hid (hcl.out _ (hb3.out.trans (hb4.mono hb3.out.size))).2.2.2
        clear k0 k1 k2 hb3 hb4
        go_wp2
        go_ret
        exact ⟨rfl, hend.out⟩
      · rw [decide_eq_false h5, Bool.false_and] at hM
        have d1 : decide ((da.size : Int) ≤ 512) = false := decide_eq_false (by omega)
        rw [hM]
        clear hM hv
        go_enter Tryz.func54, Tryz.ntmps54
        go_wp2_with (fail)
        rw [← hW0H.out]
        refine (ht.out _).mono ?_
        rintro e w2 ⟨rfl, hb2⟩
        replace hb2 := Lib.hid hb2
        clear k0 k1 k2
        obtain ⟨k0, k1, k2, _⟩ := hcl.out _ hb2.out
        go_wp2_with (fail)
        refine (hn.out _).mono ?_
        rintro e w3 ⟨rfl, hb3⟩
        have hb3 := Lib.hid (hb2.out.trans (hb3.mono hb2.out.size))
        clear k0 k1 k2 hb2
        obtain ⟨k0, k1, k2, hend⟩ := hcl.out _ hb3.out
        replace hend := Lib.hid hend
        go_wp2
        go_ret
        exact ⟨rfl, hend.out⟩
end Go.Proofs.YtmchephokleffaaGreatDoor
