/-
  Chapter 18: a cookie is read; a reply that tells what is wrong.
-/
import Derived.Test.YthacomeiinejaaaDoorSf
import Derived.Test.YthacomeiinejaaaDoorSq
set_option linter.unusedVariables false
set_option linter.unusedSimpArgs false
namespace Go.Proofs.YthacomeiinejaaaDoor
open Go.RowKit Go.Proofs.YthacomeiinejaaaDoorW.PrintWords Go.Proofs.YthacomeiinejaaaDoor.PReplyWrites
theorem plGo_lt {k : Nat} {c : UInt8} {l R : List UInt8} (h : l.drop k = c :: R) : l.drop (k + 1) = R := by
  rw [← List.drop_drop, h]
  rfl
theorem data_drop (s : ByteArray) (k : Nat) (h : k < s.size) : s.data.toList.drop k = s[k] :: s.data.toList.drop (k + 1) := by
  have h2 : k < s.data.toList.length := by rw [Array.length_toList]; exact h
  rw [List.drop_eq_getElem_cons h2]
  congr 1
theorem plGo_stop {s : ByteArray} {k : Nat} (h : k < s.size) (hc : isPl s[k] = false ∨ ¬ k ≤ 256) : plGo k (s.data.toList.drop k) = k := by
  rw [data_drop s k h]
  have e : plGo k (s[k] :: s.data.toList.drop (k + 1)) = if isPl s[k] then (if k ≤ 256 then plGo (k + 1) (s.data.toList.drop (k + 1)) else k) else k := rfl
  rw [e]
  rcases hc with hc | hc
  · rw [hc]; rfl
  · rw [if_neg hc]; split <;> rfl
theorem plGo_step {s : ByteArray} {k : Nat} (h : k < s.size) (hc : isPl s[k] = true) (hk : k ≤ 256) : plGo k (s.data.toList.drop k) = plGo (k + 1) (s.data.toList.drop (k + 1)) := by
  rw [data_drop s k h]
  have e : plGo k (s[k] :: s.data.toList.drop (k + 1)) = if isPl s[k] then (if k ≤ 256 then plGo (k + 1) (s.data.toList.drop (k + 1)) else k) else k := rfl
  rw [e, hc, if_pos rfl, if_pos hk]
set_option maxHeartbeats 1000000 in
set_option maxRecDepth 100000 in
theorem cookie_any (g : Nat) (l : List UInt8) (hlen : l.length ≤ 4611686018427387904) (w0 w : World) (hI : IsS47 w0 w g (B l) false false) (hB : Below w0.heap.size w0 w) :
    Calls Tryd.prog 35 #[.pointer (some ⟨g, 0, none⟩)] w fun e w' => e = .returned (.string (B (cookieL l).1)) ∧ IsS47 w0 w' g (B (cookieL l).2.1) (cookieL l).2.2.1 (cookieL l).2.2.2 ∧ Below w0.heap.size w0 w' ∧ KeepBut w w' g none := by
  obtain ⟨s, rfl⟩ : ∃ s : ByteArray, l = s.data.toList := ⟨B l, (B_data l).symm⟩
  rw [of_data] at hI
  have hsl : s.data.toList.length = s.size := by rw [Array.length_toList]; rfl
  rw [hsl] at hlen
  obtain ⟨hg, hge⟩ := hI
  have c0 := cellS47_0 hg
  have c1 := cellS47_1 hg
  have c2 := cellS47_2 hg
  have f0 := blk_frozen hg 0
  have f1 := blk_frozen hg 1
  have f2 := blk_frozen hg 2
  have hI : IsS47 w0 w g s false false := ⟨hg, hge⟩
  replace hI := Lib.hid hI
  replace hB := Lib.hid hB
  replace hsl := Lib.hid hsl
  have hgb := (cellS47_0 hg)
  clear hgb hg
  go_enter Tryd.func35, Tryd.ntmps35
  go_wp2
  go_loop [3] (fun i => ∃ k : Nat, k ≤ 257 ∧ k ≤ s.size ∧ i = .int .i64 k ∧ plGo 0 s.data.toList = plGo k (s.data.toList.drop k)) (fun i => 300 - (intOf i).toNat)
  case atStart => exact ⟨0, by omega, by omega, rfl, rfl⟩
  case round =>
    obtain ⟨k, hk, hks, rfl, hpl⟩ := hrel
    by_cases hlt : k < s.size
    · by_cases hp : isPl s[k] = true
      · have hp2 := hp
        simp only [isPl, Bool.and_eq_true, decide_eq_true_eq] at hp2
        by_cases h256 : k ≤ 256
        · have hst := Lib.hid (plGo_step hlt hp h256)
          replace hpl := Lib.hid hpl
          clear hp
          go_wp2
          go_round
          case rel => exact ⟨k + 1, by omega, by omega, by go_num, by rw [hpl.out, hst.out]⟩
          case measure => simp [intOf]; omega
        · have hstop := plGo_stop hlt (Or.inr h256)
          rw [hstop] at hpl
          have hc : cookieL s.data.toList = ([], s.data.toList, false, true) := by
            unfold cookieL
            rw [hpl, if_pos (Or.inl (by omega))]
          replace hc := Lib.hid hc
          clear hstop hpl hp
          have h257 : 256 < k := by omega
          go_wp2
          go_ret
          rw [hc.out, of_data]
          exact ⟨rfl, hI.out.set_2 _, hB.out.setCell hge _, (KeepBut.refl _ _ _).set_ 2 _⟩
      · have hp1 := Bool.eq_false_iff.2 hp
        have hstop := plGo_stop hlt (Or.inl hp1)
        rw [hstop] at hpl
        by_cases h32 : 32 ≤ s[k].toNat
        · have h126 : ¬ s[k].toNat ≤ 126 := by
            intro h
            apply hp
            simp [isPl]
            omega
          clear hp hp1
          clear hstop
          have hx := B_drop s.data.toList k
          have hx2 := B_take s.data.toList k
          rw [of_data] at hx hx2
          have hdl : (s.data.toList.drop k).length = s.size - k := by rw [List.length_drop, hsl.out]
          by_cases hb : 256 < k
          · have hc : cookieL s.data.toList = ([], s.data.toList, false, true) := by
              unfold cookieL
              rw [hpl, if_pos (Or.inl hb)]
            replace hc := Lib.hid hc
            replace hdl := Lib.hid hdl
            clear hx hx2 hpl
            go_wp2
            go_ret
            rw [hc.out, of_data]
            exact ⟨rfl, hI.out.set_2 _, hB.out.setCell hge _, (KeepBut.refl _ _ _).set_ 2 _⟩
          · by_cases hb2 : k = 0 ∧ s.data.toList ≠ []
            · have hc : cookieL s.data.toList = ([], s.data.toList, false, true) := by
                unfold cookieL
                rw [hpl, if_pos (Or.inr hb2)]
              replace hc := Lib.hid hc
              obtain ⟨rfl, hb3⟩ := hb2
              have hb4 : ¬ s.toList = [] := by rw [ByteArray.toList_eq]; exact hb3
              have hb5 : s.toList.isEmpty = false := by simpa using hb4
              replace hb3 := Lib.hid hb3
              replace hdl := Lib.hid hdl
              clear hx hx2 hpl
              go_wp2
              go_ret
              rw [hc.out, of_data]
              exact ⟨rfl, hI.out.set_2 _, hB.out.setCell hge _, (KeepBut.refl _ _ _).set_ 2 _⟩
            · have hc : cookieL s.data.toList = if s.data.toList.drop k = [] then ([], s.data.toList.drop k, true, false) else (s.data.toList.take k, mustL crlfL (s.data.toList.drop k, false, false)) := by
                unfold cookieL
                rw [hpl, if_neg (fun h => h.elim hb hb2)]
              have hk0 : k = 0 → s.toList.isEmpty = true := fun h0 => by
                have : s.data.toList = [] := Classical.byContradiction fun h => hb2 ⟨h0, h⟩
                rw [ByteArray.toList_eq, this]
                rfl
              have hk2 : ∀ h : s.data.toList.drop k ≠ [], 0 < k := fun h => by
                rcases Nat.eq_zero_or_pos k with h0 | h0
                · subst h0
                  exact absurd ⟨rfl, by simpa using h⟩ hb2
                · exact h0
              have hI2 := (hI.out.set_0 (B (s.data.toList.drop k)))
              have hB2 := hB.out.setCell hge (p := ⟨g, 0, none⟩) (.string (B (s.data.toList.drop k)))
              have hM := Lib.hid (must_any g crlfL (s.data.toList.drop k) false false w0 _ hI2 hB2)
              replace hI2 := Lib.hid hI2
              replace hB2 := Lib.hid hB2
              replace hpl := Lib.hid hpl
              clear hb2
              replace hc := Lib.hid hc
              generalize s.data.toList.drop k = R at *
              generalize s.data.toList.take k = P at *
              have hRl := B_toList R
              by_cases hR : R = []
              · subst hR
                have hc2 := Lib.hid (hc.out.trans (if_pos rfl))
                clear hc
                clear hk2 hM
                have hRb : (B []).toList.isEmpty = true := by rw [hRl]; rfl
                by_cases hz : k = 0
                · subst hz
                  have hs0 := hk0 rfl
                  clear hk0 hdl
                  go_wp2
                  go_ret
                  rw [hc2.out]
                  exact ⟨rfl, hI2.out.set_1 _, hB2.out.setCell hge _, ((KeepBut.refl _ _ _).set_ 0 _).set_ 1 _⟩
                · clear hk0 hdl
                  go_wp2
                  go_ret
                  rw [hc2.out]
                  exact ⟨rfl, hI2.out.set_1 _, hB2.out.setCell hge _, ((KeepBut.refl _ _ _).set_ 0 _).set_ 1 _⟩
              · have hc2 := Lib.hid (hc.out.trans (if_neg hR))
                clear hc
                have hRb : R.isEmpty = false := by simpa using hR
                have hz := hk2 hR
                clear hk0 hk2 hdl
                replace hR := Lib.hid hR
                go_wp2_with (first | (go_at_call 33; go_must (refine hM.out.mono ?_; rintro e w2 ⟨rfl, hI3, hB3, hK3⟩; replace hI3 := Lib.hid hI3; replace hB3 := Lib.hid hB3; replace hK3 := Lib.hid hK3)))
                go_ret
                rw [hc2.out]
                exact ⟨rfl, hI3.out, hB3.out, ⟨by have := hK3.out.1; simpa using this, fun i hi hg _ => (hK3.out.2 i (by simpa using hi) hg (by simp)).trans (Below.heap_setCell w ⟨g, 0, none⟩ _ i hg)⟩⟩
        · clear hp hp1
          clear hstop
          have hx := B_drop s.data.toList k
          have hx2 := B_take s.data.toList k
          rw [of_data] at hx hx2
          have hdl : (s.data.toList.drop k).length = s.size - k := by rw [List.length_drop, hsl.out]
          by_cases hb : 256 < k
          · have hc : cookieL s.data.toList = ([], s.data.toList, false, true) := by
              unfold cookieL
              rw [hpl, if_pos (Or.inl hb)]
            replace hc := Lib.hid hc
            replace hdl := Lib.hid hdl
            clear hx hx2 hpl
            go_wp2
            go_ret
            rw [hc.out, of_data]
            exact ⟨rfl, hI.out.set_2 _, hB.out.setCell hge _, (KeepBut.refl _ _ _).set_ 2 _⟩
          · by_cases hb2 : k = 0 ∧ s.data.toList ≠ []
            · have hc : cookieL s.data.toList = ([], s.data.toList, false, true) := by
                unfold cookieL
                rw [hpl, if_pos (Or.inr hb2)]
              replace hc := Lib.hid hc
              obtain ⟨rfl, hb3⟩ := hb2
              have hb4 : ¬ s.toList = [] := by rw [ByteArray.toList_eq]; exact hb3
              have hb5 : s.toList.isEmpty = false := by simpa using hb4
              replace hb3 := Lib.hid hb3
              replace hdl := Lib.hid hdl
              clear hx hx2 hpl
              go_wp2
              go_ret
              rw [hc.out, of_data]
              exact ⟨rfl, hI.out.set_2 _, hB.out.setCell hge _, (KeepBut.refl _ _ _).set_ 2 _⟩
            · have hc : cookieL s.data.toList = if s.data.toList.drop k = [] then ([], s.data.toList.drop k, true, false) else (s.data.toList.take k, mustL crlfL (s.data.toList.drop k, false, false)) := by
                unfold cookieL
                rw [hpl, if_neg (fun h => h.elim hb hb2)]
              have hk0 : k = 0 → s.toList.isEmpty = true := fun h0 => by
                have : s.data.toList = [] := Classical.byContradiction fun h => hb2 ⟨h0, h⟩
                rw [ByteArray.toList_eq, this]
                rfl
              have hk2 : ∀ h : s.data.toList.drop k ≠ [], 0 < k := fun h => by
                rcases Nat.eq_zero_or_pos k with h0 | h0
                · subst h0
                  exact absurd ⟨rfl, by simpa using h⟩ hb2
                · exact h0
              have hI2 := (hI.out.set_0 (B (s.data.toList.drop k)))
              have hB2 := hB.out.setCell hge (p := ⟨g, 0, none⟩) (.string (B (s.data.toList.drop k)))
              have hM := Lib.hid (must_any g crlfL (s.data.toList.drop k) false false w0 _ hI2 hB2)
              replace hI2 := Lib.hid hI2
              replace hB2 := Lib.hid hB2
              replace hpl := Lib.hid hpl
              clear hb2
              replace hc := Lib.hid hc
              generalize s.data.toList.drop k = R at *
              generalize s.data.toList.take k = P at *
              have hRl := B_toList R
              by_cases hR : R = []
              · subst hR
                have hc2 := Lib.hid (hc.out.trans (if_pos rfl))
                clear hc
                clear hk2 hM
                have hRb : (B []).toList.isEmpty = true := by rw [hRl]; rfl
                by_cases hz : k = 0
                · subst hz
                  have hs0 := hk0 rfl
                  clear hk0 hdl
                  go_wp2
                  go_ret
                  rw [hc2.out]
                  exact ⟨rfl, hI2.out.set_1 _, hB2.out.setCell hge _, ((KeepBut.refl _ _ _).set_ 0 _).set_ 1 _⟩
                · clear hk0 hdl
                  go_wp2
                  go_ret
                  rw [hc2.out]
                  exact ⟨rfl, hI2.out.set_1 _, hB2.out.setCell hge _, ((KeepBut.refl _ _ _).set_ 0 _).set_ 1 _⟩
              · have hc2 := Lib.hid (hc.out.trans (if_neg hR))
                clear hc
                have hRb : R.isEmpty = false := by simpa using hR
                have hz := hk2 hR
                clear hk0 hk2 hdl
                replace hR := Lib.hid hR
                go_wp2_with (first | (go_at_call 33; go_must (refine hM.out.mono ?_; rintro e w2 ⟨rfl, hI3, hB3, hK3⟩; replace hI3 := Lib.hid hI3; replace hB3 := Lib.hid hB3; replace hK3 := Lib.hid hK3)))
                go_ret
                rw [hc2.out]
                exact ⟨rfl, hI3.out, hB3.out, ⟨by have := hK3.out.1; simpa using this, fun i hi hg _ => (hK3.out.2 i (by simpa using hi) hg (by simp)).trans (Below.heap_setCell w ⟨g, 0, none⟩ _ i hg)⟩⟩
    · have hstop : plGo k (s.data.toList.drop k) = k := by
        rw [List.drop_eq_nil_of_le (by rw [hsl.out]; omega)]
        rfl
      rw [hstop] at hpl
      clear hstop
      have hx := B_drop s.data.toList k
      have hx2 := B_take s.data.toList k
      rw [of_data] at hx hx2
      have hdl : (s.data.toList.drop k).length = s.size - k := by rw [List.length_drop, hsl.out]
      by_cases hb : 256 < k
      · have hc : cookieL s.data.toList = ([], s.data.toList, false, true) := by
          unfold cookieL
          rw [hpl, if_pos (Or.inl hb)]
        replace hc := Lib.hid hc
        replace hdl := Lib.hid hdl
        clear hx hx2 hpl
        go_wp2
        go_ret
        rw [hc.out, of_data]
        exact ⟨rfl, hI.out.set_2 _, hB.out.setCell hge _, (KeepBut.refl _ _ _).set_ 2 _⟩
      · by_cases hb2 : k = 0 ∧ s.data.toList ≠ []
        · have hc : cookieL s.data.toList = ([], s.data.toList, false, true) := by
            unfold cookieL
            rw [hpl, if_pos (Or.inr hb2)]
          replace hc := Lib.hid hc
          obtain ⟨rfl, hb3⟩ := hb2
          have hb4 : ¬ s.toList = [] := by rw [ByteArray.toList_eq]; exact hb3
          have hb5 : s.toList.isEmpty = false := by simpa using hb4
          replace hb3 := Lib.hid hb3
          replace hdl := Lib.hid hdl
          clear hx hx2 hpl
          go_wp2
          go_ret
          rw [hc.out, of_data]
          exact ⟨rfl, hI.out.set_2 _, hB.out.setCell hge _, (KeepBut.refl _ _ _).set_ 2 _⟩
        · have hc : cookieL s.data.toList = if s.data.toList.drop k = [] then ([], s.data.toList.drop k, true, false) else (s.data.toList.take k, mustL crlfL (s.data.toList.drop k, false, false)) := by
            unfold cookieL
            rw [hpl, if_neg (fun h => h.elim hb hb2)]
          have hk0 : k = 0 → s.toList.isEmpty = true := fun h0 => by
            have : s.data.toList = [] := Classical.byContradiction fun h => hb2 ⟨h0, h⟩
            rw [ByteArray.toList_eq, this]
            rfl
          have hk2 : ∀ h : s.data.toList.drop k ≠ [], 0 < k := fun h => by
            rcases Nat.eq_zero_or_pos k with h0 | h0
            · subst h0
              exact absurd ⟨rfl, by simpa using h⟩ hb2
            · exact h0
          have hI2 := (hI.out.set_0 (B (s.data.toList.drop k)))
          have hB2 := hB.out.setCell hge (p := ⟨g, 0, none⟩) (.string (B (s.data.toList.drop k)))
          have hM := Lib.hid (must_any g crlfL (s.data.toList.drop k) false false w0 _ hI2 hB2)
          replace hI2 := Lib.hid hI2
          replace hB2 := Lib.hid hB2
          replace hpl := Lib.hid hpl
          clear hb2
          replace hc := Lib.hid hc
          generalize s.data.toList.drop k = R at *
          generalize s.data.toList.take k = P at *
          have hRl := B_toList R
          by_cases hR : R = []
          · subst hR
            have hc2 := Lib.hid (hc.out.trans (if_pos rfl))
            clear hc
            clear hk2 hM
            have hRb : (B []).toList.isEmpty = true := by rw [hRl]; rfl
            by_cases hz : k = 0
            · subst hz
              have hs0 := hk0 rfl
              clear hk0 hdl
              go_wp2
              go_ret
              rw [hc2.out]
              exact ⟨rfl, hI2.out.set_1 _, hB2.out.setCell hge _, ((KeepBut.refl _ _ _).set_ 0 _).set_ 1 _⟩
            · clear hk0 hdl
              go_wp2
              go_ret
              rw [hc2.out]
              exact ⟨rfl, hI2.out.set_1 _, hB2.out.setCell hge _, ((KeepBut.refl _ _ _).set_ 0 _).set_ 1 _⟩
          · have hc2 := Lib.hid (hc.out.trans (if_neg hR))
            clear hc
            have hRb : R.isEmpty = false := by simpa using hR
            have hz := hk2 hR
            clear hk0 hk2 hdl
            replace hR := Lib.hid hR
            go_wp2_with (first | (go_at_call 33; go_must (refine hM.out.mono ?_; rintro e w2 ⟨rfl, hI3, hB3, hK3⟩; replace hI3 := Lib.hid hI3; replace hB3 := Lib.hid hB3; replace hK3 := Lib.hid hK3)))
            go_ret
            rw [hc2.out]
            exact ⟨rfl, hI3.out, hB3.out, ⟨by have := hK3.out.1; simpa using this, fun i hi hg _ => (hK3.out.2 i (by simpa using hi) hg (by simp)).trans (Below.heap_setCell w ⟨g, 0, none⟩ _ i hg)⟩⟩
def errB (w : ByteArray) : ByteArray := ⟨#[123, 34, 101, 114, 114, 111, 114, 34, 58, 34]⟩ ++ w ++ ⟨#[34, 125]⟩
def errV (st : Int) (w : ByteArray) : Value := .agg #[.int .i64 st, .string (errB w), .string ⟨#[]⟩, .bool (st == 400 || st == 413 || st == 431)]
set_option maxRecDepth 100000 in
theorem err_any (st : Int) (w1 : ByteArray) (hw : w1.size ≤ 4611686018427387904) (w : World) :
    Calls Tryd.prog 16 #[.int .i64 st, .string w1] w fun e w' => e = .returned (errV st w1) ∧ Below w.heap.size w w' := by
  have hsz : (errB w1).size = 10 + w1.size + 2 := by
    rw [errB, ByteArray.size_append, ByteArray.size_append]
    rfl
  have hb : ∀ o, Below w.heap.size w (w.alloc o) := fun o => below_alloc (Below.refl _ _) o
  replace hsz := Lib.hid hsz
  replace hb := Lib.hid hb
  unfold errV
  by_cases h1 : st = 400
  · subst h1
    go_enter Tryd.func16, Tryd.ntmps16
    go_wp2
    exact bodyPost_ret (results_cell_row rfl _ _ w.heap.size 23 _ (0, 0) _ rfl (heap_alloc_new w _) Tryd.underlying23 rfl (by kernel_rfl)) rfl ⟨rfl, hb.out _⟩
  · by_cases h2 : st = 413
    · subst h2
      go_enter Tryd.func16, Tryd.ntmps16
      go_wp2
      exact bodyPost_ret (results_cell_row rfl _ _ w.heap.size 23 _ (0, 0) _ rfl (heap_alloc_new w _) Tryd.underlying23 rfl (by kernel_rfl)) rfl ⟨rfl, hb.out _⟩
    · go_enter Tryd.func16, Tryd.ntmps16
      go_wp2
      exact bodyPost_ret (results_cell_row rfl _ _ w.heap.size 23 _ (0, 0) _ rfl (heap_alloc_new w _) Tryd.underlying23 rfl (by kernel_rfl)) rfl ⟨rfl, hb.out _⟩
set_option maxRecDepth 100000 in
theorem rerr_any (st : Int) (w1 : ByteArray) (hw : w1.size ≤ 4611686018427387904) (w : World) :
    Calls Tryd.prog 17 #[.int .i64 st, .string w1] w fun e w' => e = .returned (errV st w1) ∧ Below w.heap.size w w' := by
  have hsz : (errB w1).size = 10 + w1.size + 2 := by
    rw [errB, ByteArray.size_append, ByteArray.size_append]
    rfl
  have hb : ∀ o, Below w.heap.size w (w.alloc o) := fun o => below_alloc (Below.refl _ _) o
  replace hsz := Lib.hid hsz
  replace hb := Lib.hid hb
  unfold errV
  by_cases h1 : st = 400
  · subst h1
    go_enter Tryd.func17, Tryd.ntmps17
    go_wp2
    exact bodyPost_ret (results_cell_row rfl _ _ w.heap.size 23 _ (0, 0) _ rfl (heap_alloc_new w _) Tryd.underlying23 rfl (by kernel_rfl)) rfl ⟨rfl, hb.out _⟩
  · by_cases h2 : st = 413
    · subst h2
      go_enter Tryd.func17, Tryd.ntmps17
      go_wp2
      exact bodyPost_ret (results_cell_row rfl _ _ w.heap.size 23 _ (0, 0) _ rfl (heap_alloc_new w _) Tryd.underlying23 rfl (by kernel_rfl)) rfl ⟨rfl, hb.out _⟩
    · go_enter Tryd.func17, Tryd.ntmps17
      go_wp2
      exact bodyPost_ret (results_cell_row rfl _ _ w.heap.size 23 _ (0, 0) _ rfl (heap_alloc_new w _) Tryd.underlying23 rfl (by kernel_rfl)) rfl ⟨rfl, hb.out _⟩
end Go.Proofs.YthacomeiinejaaaDoor
