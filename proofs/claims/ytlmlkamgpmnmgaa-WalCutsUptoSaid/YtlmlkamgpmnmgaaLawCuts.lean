/-
  The law of a log that was cut off, walked.
-/
import Derived.Test.YtlmlkamgpmnmgaaLaid
import Derived.Test.YtlmlkamgpmnmgaaLawLonger
set_option linter.unusedVariables false
set_option linter.unusedSimpArgs false
namespace Go.Proofs.Ytlmlkamgpmnmgaa
open Go.RowKit Go.Proofs.YtlmlkamgpmnmgaaW.PrintWords
theorem logB_le : ∀ (r : List ByteArray) (sz : Nat), sz ≤ 1048576 → sz + (logB sz r).length ≤ 1048576
  | [], sz, h => by simpa [logB] using h
  | s :: r, sz, h => by
    have h1 := layS_eq sz s
    have h2 := layS_le sz s h
    have h3 := logB_le r (layS sz s) h2
    rw [logB_cons, List.length_append]
    omega
theorem within_le (m : Nat) : ∀ es : List Nat, within m es ≤ es.length
  | [] => Nat.le_refl _
  | e :: r => by
    unfold within
    have := within_le m r
    split <;> simp <;> omega
theorem within_lt (m : Nat) : ∀ (es : List Nat) (j : Nat), j < within m es → es.getD j 0 ≤ m
  | [], j, h => by simp [within] at h
  | e :: r, j, h => by
    unfold within at h
    split at h
    · rename_i he
      cases j with
      | zero => simpa using he
      | succ j => simpa using within_lt m r j (by omega)
    · omega
theorem within_at (m : Nat) : ∀ (es : List Nat), within m es < es.length → m < es.getD (within m es) 0
  | [], h => by simp at h
  | e :: r, h => by
    unfold within at h ⊢
    split at h
    · rename_i he
      rw [if_pos he]
      simpa using within_at m r (by simpa using h)
    · rename_i he
      rw [if_neg he]
      simpa using he
def IRd (w : World) (A : Option Addr) (n : Nat) (l : List Nat) : Prop := ReadsInt w .i64 A n (l.map fun n : Nat => (n : Int))
theorem IRow.rd {w : World} {B : Nat} {v : Value} {l : List Nat} (h : IRow w B v l) : ∃ A c, v = .slice A l.length c ∧ IRd w A l.length l := by
  obtain ⟨A, c, rfl, hr⟩ := own_reads h
  rw [List.length_map] at hr ⊢
  exact ⟨A, c, rfl, hr⟩
theorem IRd.at_ {w : World} {A : Option Addr} {n : Nat} {l : List Nat} (h : IRd w A n l) (i : Nat) (hi : i < n) : ∃ ad, A = some ad ∧ w.cell? (ad.add i) = some (.int .i64 ((l.getD i 0 : Nat) : Int)) := by
  have hl : l.length = n := by have := h.1; simpa using this
  obtain ⟨ad, e, hc⟩ := h.2.2 (by omega)
  refine ⟨ad, e, ?_⟩
  rw [hc i hi]
  simp [List.getD_eq_getElem?_getD, List.getElem?_eq_getElem (show i < l.length by omega)]
theorem IRd.below {w w1 : World} {A : Option Addr} {n : Nat} {l : List Nat} (h : IRd w A n l) (hb : Below w.heap.size w w1) : IRd w1 A n l := ReadsInt.below h hb
theorem last_take (es : List Nat) (k : Nat) (hk : 0 < k) (h : k ≤ es.length) : (es.take k).getLastD 0 = es.getD (k - 1) 0 := by
  rw [List.getLastD_eq_getLast?, List.getLast?_eq_getElem?, List.length_take, Nat.min_eq_left h, List.getElem?_take_of_lt (by omega), List.getD_eq_getElem?_getD]
theorem last_whole (es : List Nat) (h : 0 < es.length) : es.getLastD 0 = es.getD (es.length - 1) 0 := by
  have := last_take es es.length h (Nat.le_refl _)
  rwa [List.take_length] at this
theorem bcuts (A : Option Addr) (n c h : Nat) (hh : h ≤ n) (hnc : n ≤ c) :
    (∀ W : World, (Instr.slice 33 (.slice A n c) none (some (.int .i64 (h : Int))) none).run Try.prog W = .ok (.slice A h c) W) := by
  intro W
  obtain ⟨i, hi, hz0, hz1, hz2⟩ := info_parts info_u8
  have hel : Try.prog.elem 33 = 5 := by simp [Program.elem, Try.underlying33]
  have hu : Try.prog.underlying 33 = some (.slice (Try.prog.elem 33)) := by rw [hel]; exact Try.underlying33
  rw [run_slice_h W 33 A n c hu .i64 (h : Int) (by omega) (by omega), hel]
  have h0 : Option.map (fun x : Addr => x.add 0) A = A := by cases A <;> simp [Addr.add]
  simp [sizeOf, typeInfo, hi, hz1, sliced, Result.andThen, h0]
theorem logE_count : ∀ (r : List ByteArray) (sz : Nat), (logE sz r).length ≤ r.length
  | [], _ => Nat.le_refl _
  | s :: r, sz => by
    unfold logE
    split
    · have := logE_count r (layS sz s); simp; omega
    · have := logE_count r sz; simp; omega
set_option maxHeartbeats 1000000 in
set_option maxRecDepth 100000 in
theorem cuts_core (W : World) (A : Option Addr) (n c : Nat) (recs : List ByteArray) (hr0 : SRd W A n recs) (a1 : Int) (all : List UInt8) (es : List Nat) (ws : List ByteArray) (N T m K why : Nat) (hTe : all.length = T) (hT : T ≤ 1048576) (hN : N ≤ 1048576) (hmT : m ≤ T) (hKe : within m es = K) (hKN : K ≤ N) (hEN : es.length = N)
    (hlaid0 : ∀ w : World, SRd w A n recs → Calls Try.prog 16 #[.slice A n c] w fun e w' => ∃ A1 c1 A2 c2 A3 c3, e = .returned (.tuple #[.slice A1 T c1, .slice A2 N c2, .slice A3 N c3, .bool true]) ∧ Rd w' A1 T all ∧ T ≤ c1 ∧ IRd w' A2 N es ∧ SRd w' A3 N ws ∧ N ≤ c3 ∧ Below w.heap.size w w')
    (last1 : Nat) (hS10 : ∀ (w : World) (A : Option Addr) (c : Nat), Rd w A T all → T ≤ c → Calls Try.prog 17 #[.slice A T c] w fun e w' => ∃ A4 c4, e = .returned (.tuple #[.slice A4 N c4, .int .i64 (last1 : Int), .int .i64 1]) ∧ SRd w' A4 N ws ∧ Below w.heap.size w w')
    (last2 : Nat) (hS20 : ∀ (w : World) (A : Option Addr) (c : Nat), Rd w A T all → T ≤ c → Calls Try.prog 17 #[.slice A m c] w fun e w' => ∃ A4 c4, e = .returned (.tuple #[.slice A4 K c4, .int .i64 (last2 : Int), .int .i64 (why : Int)]) ∧ SRd w' A4 K (ws.take K) ∧ Below w.heap.size w w')
    (hw : why = 1 ∨ why = 2) (hl1 : 0 < N → last1 = es.getD (N - 1) 0) (hla : K = 0 → last2 = 0) (hl3 : 0 < K → last2 = es.getD (K - 1) 0)
    (hx : (a1.tmod ((T : Int) + 1) < 0 ∧ wrap64 (wrap64 (a1.tmod ((T : Int) + 1) + (T : Int)) + 1) = (m : Int)) ∨ (¬ a1.tmod ((T : Int) + 1) < 0 ∧ a1.tmod ((T : Int) + 1) = (m : Int))) :
    Calls Try.prog 4 #[.slice A n c, .int .i64 a1] W fun e w' => e = .returned (.bool true) ∧ Below W.heap.size W w' := by
  have hl := Lib.hid (lives_any W)
  have hr := Lib.hid hr0
  have hlaid := Lib.hid hlaid0
  have hS1 := Lib.hid hS10
  have hS2 := Lib.hid hS20
  have hq1 : ∀ (w : World) (A A2 : Option Addr) (n c c2 : Nat) (ws : List ByteArray), SRd w A n ws → SRd w A2 n ws → Calls Try.prog 18 #[.slice A n c, .slice A2 n c2] w fun e w' => e = .returned (.bool true) ∧ Below w.heap.size w w' := fun w A A2 n c c2 ws h1 h2 => by
    refine (texts_any h1 h2).mono ?_
    rintro e w' ⟨rfl, hd⟩
    exact ⟨ret_bool (by simp), hd.below⟩
  replace hq1 := Lib.hid hq1
  have hwa := Lib.hid (fun j => within_lt m es j)
  have hwb := Lib.hid (within_at m es)
  replace hKe := Lib.hid hKe
  replace hEN := Lib.hid hEN
  replace hTe := Lib.hid hTe
  clear hr0 hlaid0 hS10 hS20
  rcases hx with ⟨hx1, hx2⟩ | ⟨hx1, hx2⟩
  · go_enter Try.func4, Try.ntmps4
    go_upto_region 10 with (first  | (go_at_call 7; go_must (refine hl.out.mono ?_; rintro e w1 ⟨rfl, hb1⟩; have hl2 := Lib.hid (hlaid.out w1 (hr.out.below hb1)); replace hb1 := Lib.hid hb1))  | (go_at_call 16; go_must (refine hl2.out.mono ?_; rintro e w2 ⟨A1, c1, A2, c2, A3, c3, rfl, hr1, hc1, hr2, hr3, hc3, hb2⟩; have hb3 := Lib.hid (hb1.out.trans (hb2.mono hb1.out.size)); have hs1 := Lib.hid (hS1.out w2 A1 c1 hr1 hc1); replace hb2 := Lib.hid hb2; replace hr1 := Lib.hid hr1; replace hr2 := Lib.hid hr2; replace hr3 := Lib.hid hr3))  | (go_at_call 17; go_must (refine hs1.out.mono ?_; rintro e w4 ⟨A4, c4, rfl, hr4, hb4⟩; have hq4 := Lib.hid (hq1.out w4 A4 A3 N c4 c3 ws hr4 (hr3.out.below hb4)); have hr24 := Lib.hid (hr2.out.below hb4); have hr14 := Lib.hid (hr1.out.below hb4); have hr34 := Lib.hid (hr3.out.below hb4); have hb5 := Lib.hid (hb3.out.trans (hb4.mono hb3.out.size)); replace hb4 := Lib.hid hb4; replace hr4 := Lib.hid hr4)))
    clear hx1 hx2 hl2 hs1 hr1 hr2 hr3 hr4 hlaid hS1
    rcases Nat.eq_zero_or_pos N with hN0 | hN0
    · subst hN0
      obtain rfl : K = 0 := by omega
      obtain rfl := hla rfl
      clear hl1 hl3 hla
      go_wp2_with (first | (go_at_call 18; go_must (refine hq4.out.mono ?_; rintro e w6 ⟨rfl, hb6⟩; have hr26 := hr24.out.below hb6; have hr16 := Lib.hid (hr14.out.below hb6); have hr36 := Lib.hid (hr34.out.below hb6); have hb7 := Lib.hid (hb5.out.trans (hb6.mono hb5.out.size)); have hs2 := Lib.hid (hS2.out w6 A1 c1 hr16.out hc1); replace hr26 := Lib.hid hr26; replace hb6 := Lib.hid hb6)))
      go_loopw [13] (fun i wr => i = .int .i64 0 ∧ wr = w6) (fun _ _ => 0)
      case atStart => exact ⟨rfl, rfl⟩
      case round =>
        obtain ⟨rfl, rfl⟩ := hrel
        have hcutB := fun W => bcuts A1 T c1 m hmT hc1 W
        have hcutS := fun W => scuts A3 0 c3 0 hKN hc3 W
        rcases hw with rfl | rfl
        · go_wp2_with (first | (go_at_call 17; go_must (refine hs2.out.mono ?_; rintro e w8 ⟨A5, c5, rfl, hr5, hb8⟩; have hr28 := Lib.hid (hr26.out.below hb8); have hr38 := (hr36.out.below hb8).take_ 0 hKN; have hb9 := Lib.hid (hb7.out.trans (hb8.mono hb7.out.size)); have hq8 := Lib.hid (hq1.out w8 A5 A3 0 c5 c3 _ hr5 hr38); replace hr5 := Lib.hid hr5; replace hr38 := Lib.hid hr38; replace hb8 := Lib.hid hb8)) | (go_at_call 18; go_must (refine hq8.out.mono ?_; rintro e w10 ⟨rfl, hb10⟩; have hb11 := Lib.hid (hb9.out.trans (hb10.mono hb9.out.size)); replace hb10 := Lib.hid hb10)))
          go_ret
          exact ⟨rfl, hb11.out⟩
        · go_wp2_with (first | (go_at_call 17; go_must (refine hs2.out.mono ?_; rintro e w8 ⟨A5, c5, rfl, hr5, hb8⟩; have hr28 := Lib.hid (hr26.out.below hb8); have hr38 := (hr36.out.below hb8).take_ 0 hKN; have hb9 := Lib.hid (hb7.out.trans (hb8.mono hb7.out.size)); have hq8 := Lib.hid (hq1.out w8 A5 A3 0 c5 c3 _ hr5 hr38); replace hr5 := Lib.hid hr5; replace hr38 := Lib.hid hr38; replace hb8 := Lib.hid hb8)) | (go_at_call 18; go_must (refine hq8.out.mono ?_; rintro e w10 ⟨rfl, hb10⟩; have hb11 := Lib.hid (hb9.out.trans (hb10.mono hb9.out.size)); replace hb10 := Lib.hid hb10)))
          go_ret
          exact ⟨rfl, hb11.out⟩
    · obtain ⟨q, rfl⟩ : ∃ q, N = q + 1 := ⟨N - 1, by omega⟩
      obtain ⟨ad2, hA2e, _⟩ := hr24.out.at_ q (by omega)
      subst hA2e
      have hl1 := hl1 hN0
      rw [Nat.add_sub_cancel] at hl1
      go_wp2_with (first | (go_at_call 18; go_must (refine hq4.out.mono ?_; rintro e w6 ⟨rfl, hb6⟩; have hr26 := hr24.out.below hb6; have hr16 := Lib.hid (hr14.out.below hb6); have hr36 := Lib.hid (hr34.out.below hb6); have hb7 := Lib.hid (hb5.out.trans (hb6.mono hb5.out.size)); have hs2 := Lib.hid (hS2.out w6 A1 c1 hr16.out hc1); obtain ⟨ad3, hA3e, hkq⟩ := hr26.at_ q (by omega); injection hA3e with hA3e; subst hA3e; rw [← hl1] at hkq; replace hr26 := Lib.hid hr26; replace hb6 := Lib.hid hb6)))
      replace hl1 := Lib.hid hl1
      go_loopw [13] (fun i wr => ∃ j : Nat, i = .int .i64 (j : Int) ∧ j ≤ K ∧ wr = w6) (fun i _ => K - (intOf i).toNat)
      case atStart => exact ⟨0, rfl, Nat.zero_le _, rfl⟩
      case round =>
        obtain ⟨j, rfl, hj, rfl⟩ := hrel
        by_cases hjK : j < K
        · obtain ⟨ad3, hA3e, hkj⟩ := hr26.out.at_ j (by omega)
          injection hA3e with hA3e
          subst hA3e
          have hle := hwa.out j (by rw [hKe.out]; exact hjK)
          generalize es.getD j 0 = ej at hkj hle
          have hlei : (ej : Int) ≤ (m : Int) := by omega
          go_wp2
          go_roundw
          case rel => exact ⟨j + 1, by go_num, by omega, by trivial⟩
          case measure => simp [intOf]; omega
        · obtain rfl : j = K := by omega
          by_cases hKq : j < q + 1
          · obtain ⟨ad3, hA3e, hkj⟩ := hr26.out.at_ j hKq
            injection hA3e with hA3e
            subst hA3e
            have hgt := hwb.out (by rw [hKe.out, hEN.out]; exact hKq)
            rw [hKe.out] at hgt
            generalize es.getD j 0 = ej at hkj hgt
            have hgti : ¬ (ej : Int) ≤ (m : Int) := by omega
            have hjqi : (j : Int) < (q : Int) + 1 := by omega
            go_upto_region 15 with (fail)
            rcases Nat.eq_zero_or_pos j with hj0 | hj0
            · subst hj0
              obtain rfl := hla rfl
              clear hl3 hla
              have hcutB := fun W => bcuts A1 T c1 m hmT hc1 W
              have hcutS := fun W => scuts A3 (q + 1) c3 0 hKN hc3 W
              rcases hw with rfl | rfl
              · go_wp2_with (first | (go_at_call 17; go_must (refine hs2.out.mono ?_; rintro e w8 ⟨A5, c5, rfl, hr5, hb8⟩; have hr28 := Lib.hid (hr26.out.below hb8); have hr38 := (hr36.out.below hb8).take_ 0 hKN; have hb9 := Lib.hid (hb7.out.trans (hb8.mono hb7.out.size)); have hq8 := Lib.hid (hq1.out w8 A5 A3 0 c5 c3 _ hr5 hr38); replace hr5 := Lib.hid hr5; replace hr38 := Lib.hid hr38; replace hb8 := Lib.hid hb8)) | (go_at_call 18; go_must (refine hq8.out.mono ?_; rintro e w10 ⟨rfl, hb10⟩; have hb11 := Lib.hid (hb9.out.trans (hb10.mono hb9.out.size)); replace hb10 := Lib.hid hb10)))
                go_ret
                exact ⟨rfl, hb11.out⟩
              · go_wp2_with (first | (go_at_call 17; go_must (refine hs2.out.mono ?_; rintro e w8 ⟨A5, c5, rfl, hr5, hb8⟩; have hr28 := Lib.hid (hr26.out.below hb8); have hr38 := (hr36.out.below hb8).take_ 0 hKN; have hb9 := Lib.hid (hb7.out.trans (hb8.mono hb7.out.size)); have hq8 := Lib.hid (hq1.out w8 A5 A3 0 c5 c3 _ hr5 hr38); replace hr5 := Lib.hid hr5; replace hr38 := Lib.hid hr38; replace hb8 := Lib.hid hb8)) | (go_at_call 18; go_must (refine hq8.out.mono ?_; rintro e w10 ⟨rfl, hb10⟩; have hb11 := Lib.hid (hb9.out.trans (hb10.mono hb9.out.size)); replace hb10 := Lib.hid hb10)))
                go_ret
                exact ⟨rfl, hb11.out⟩
            · obtain ⟨p, rfl⟩ : ∃ p, j = p + 1 := ⟨j - 1, by omega⟩
              have hl3 := hl3 hj0
              rw [Nat.add_sub_cancel] at hl3
              have hcutB := fun W => bcuts A1 T c1 m hmT hc1 W
              have hcutS := fun W => scuts A3 (q + 1) c3 (p + 1) hKN hc3 W
              rcases hw with rfl | rfl
              · go_wp2_with (first | (go_at_call 17; go_must (refine hs2.out.mono ?_; rintro e w8 ⟨A5, c5, rfl, hr5, hb8⟩; have hr28 := Lib.hid (hr26.out.below hb8); have hr38 := (hr36.out.below hb8).take_ (p + 1) hKN; have hb9 := Lib.hid (hb7.out.trans (hb8.mono hb7.out.size)); have hq8 := Lib.hid (hq1.out w8 A5 A3 (p + 1) c5 c3 _ hr5 hr38); replace hr5 := Lib.hid hr5; replace hr38 := Lib.hid hr38; replace hb8 := Lib.hid hb8)) | (go_at_call 18; go_must (refine hq8.out.mono ?_; rintro e w10 ⟨rfl, hb10⟩; have hb11 := Lib.hid (hb9.out.trans (hb10.mono hb9.out.size)); obtain ⟨ad3, hA3e, hkp⟩ := (hr28.out.below hb10).at_ p (by omega); injection hA3e with hA3e; subst hA3e; rw [← hl3] at hkp; replace hl3 := Lib.hid hl3; replace hb10 := Lib.hid hb10)))
                go_ret
                exact ⟨rfl, hb11.out⟩
              · go_wp2_with (first | (go_at_call 17; go_must (refine hs2.out.mono ?_; rintro e w8 ⟨A5, c5, rfl, hr5, hb8⟩; have hr28 := Lib.hid (hr26.out.below hb8); have hr38 := (hr36.out.below hb8).take_ (p + 1) hKN; have hb9 := Lib.hid (hb7.out.trans (hb8.mono hb7.out.size)); have hq8 := Lib.hid (hq1.out w8 A5 A3 (p + 1) c5 c3 _ hr5 hr38); replace hr5 := Lib.hid hr5; replace hr38 := Lib.hid hr38; replace hb8 := Lib.hid hb8)) | (go_at_call 18; go_must (refine hq8.out.mono ?_; rintro e w10 ⟨rfl, hb10⟩; have hb11 := Lib.hid (hb9.out.trans (hb10.mono hb9.out.size)); obtain ⟨ad3, hA3e, hkp⟩ := (hr28.out.below hb10).at_ p (by omega); injection hA3e with hA3e; subst hA3e; rw [← hl3] at hkp; replace hl3 := Lib.hid hl3; replace hb10 := Lib.hid hb10)))
                go_ret
                exact ⟨rfl, hb11.out⟩
          · have hKqi : ¬ (j : Int) < (q : Int) + 1 := by omega
            have hj0 : 0 < j := by omega
            · obtain ⟨p, rfl⟩ : ∃ p, j = p + 1 := ⟨j - 1, by omega⟩
              have hl3 := hl3 hj0
              rw [Nat.add_sub_cancel] at hl3
              have hcutB := fun W => bcuts A1 T c1 m hmT hc1 W
              have hcutS := fun W => scuts A3 (q + 1) c3 (p + 1) hKN hc3 W
              rcases hw with rfl | rfl
              · go_wp2_with (first | (go_at_call 17; go_must (refine hs2.out.mono ?_; rintro e w8 ⟨A5, c5, rfl, hr5, hb8⟩; have hr28 := Lib.hid (hr26.out.below hb8); have hr38 := (hr36.out.below hb8).take_ (p + 1) hKN; have hb9 := Lib.hid (hb7.out.trans (hb8.mono hb7.out.size)); have hq8 := Lib.hid (hq1.out w8 A5 A3 (p + 1) c5 c3 _ hr5 hr38); replace hr5 := Lib.hid hr5; replace hr38 := Lib.hid hr38; replace hb8 := Lib.hid hb8)) | (go_at_call 18; go_must (refine hq8.out.mono ?_; rintro e w10 ⟨rfl, hb10⟩; have hb11 := Lib.hid (hb9.out.trans (hb10.mono hb9.out.size)); obtain ⟨ad3, hA3e, hkp⟩ := (hr28.out.below hb10).at_ p (by omega); injection hA3e with hA3e; subst hA3e; rw [← hl3] at hkp; replace hl3 := Lib.hid hl3; replace hb10 := Lib.hid hb10)))
                go_ret
                exact ⟨rfl, hb11.out⟩
              · go_wp2_with (first | (go_at_call 17; go_must (refine hs2.out.mono ?_; rintro e w8 ⟨A5, c5, rfl, hr5, hb8⟩; have hr28 := Lib.hid (hr26.out.below hb8); have hr38 := (hr36.out.below hb8).take_ (p + 1) hKN; have hb9 := Lib.hid (hb7.out.trans (hb8.mono hb7.out.size)); have hq8 := Lib.hid (hq1.out w8 A5 A3 (p + 1) c5 c3 _ hr5 hr38); replace hr5 := Lib.hid hr5; replace hr38 := Lib.hid hr38; replace hb8 := Lib.hid hb8)) | (go_at_call 18; go_must (refine hq8.out.mono ?_; rintro e w10 ⟨rfl, hb10⟩; have hb11 := Lib.hid (hb9.out.trans (hb10.mono hb9.out.size)); obtain ⟨ad3, hA3e, hkp⟩ := (hr28.out.below hb10).at_ p (by omega); injection hA3e with hA3e; subst hA3e; rw [← hl3] at hkp; replace hl3 := Lib.hid hl3; replace hb10 := Lib.hid hb10)))
                go_ret
                exact ⟨rfl, hb11.out⟩
  · go_enter Try.func4, Try.ntmps4
    go_upto_region 10 with (first  | (go_at_call 7; go_must (refine hl.out.mono ?_; rintro e w1 ⟨rfl, hb1⟩; have hl2 := Lib.hid (hlaid.out w1 (hr.out.below hb1)); replace hb1 := Lib.hid hb1))  | (go_at_call 16; go_must (refine hl2.out.mono ?_; rintro e w2 ⟨A1, c1, A2, c2, A3, c3, rfl, hr1, hc1, hr2, hr3, hc3, hb2⟩; have hb3 := Lib.hid (hb1.out.trans (hb2.mono hb1.out.size)); have hs1 := Lib.hid (hS1.out w2 A1 c1 hr1 hc1); replace hb2 := Lib.hid hb2; replace hr1 := Lib.hid hr1; replace hr2 := Lib.hid hr2; replace hr3 := Lib.hid hr3))  | (go_at_call 17; go_must (refine hs1.out.mono ?_; rintro e w4 ⟨A4, c4, rfl, hr4, hb4⟩; have hq4 := Lib.hid (hq1.out w4 A4 A3 N c4 c3 ws hr4 (hr3.out.below hb4)); have hr24 := Lib.hid (hr2.out.below hb4); have hr14 := Lib.hid (hr1.out.below hb4); have hr34 := Lib.hid (hr3.out.below hb4); have hb5 := Lib.hid (hb3.out.trans (hb4.mono hb3.out.size)); replace hb4 := Lib.hid hb4; replace hr4 := Lib.hid hr4)))
    clear hx1 hx2 hl2 hs1 hr1 hr2 hr3 hr4 hlaid hS1
    rcases Nat.eq_zero_or_pos N with hN0 | hN0
    · subst hN0
      obtain rfl : K = 0 := by omega
      obtain rfl := hla rfl
      clear hl1 hl3 hla
      go_wp2_with (first | (go_at_call 18; go_must (refine hq4.out.mono ?_; rintro e w6 ⟨rfl, hb6⟩; have hr26 := hr24.out.below hb6; have hr16 := Lib.hid (hr14.out.below hb6); have hr36 := Lib.hid (hr34.out.below hb6); have hb7 := Lib.hid (hb5.out.trans (hb6.mono hb5.out.size)); have hs2 := Lib.hid (hS2.out w6 A1 c1 hr16.out hc1); replace hr26 := Lib.hid hr26; replace hb6 := Lib.hid hb6)))
      go_loopw [13] (fun i wr => i = .int .i64 0 ∧ wr = w6) (fun _ _ => 0)
      case atStart => exact ⟨rfl, rfl⟩
      case round =>
        obtain ⟨rfl, rfl⟩ := hrel
        have hcutB := fun W => bcuts A1 T c1 m hmT hc1 W
        have hcutS := fun W => scuts A3 0 c3 0 hKN hc3 W
        rcases hw with rfl | rfl
        · go_wp2_with (first | (go_at_call 17; go_must (refine hs2.out.mono ?_; rintro e w8 ⟨A5, c5, rfl, hr5, hb8⟩; have hr28 := Lib.hid (hr26.out.below hb8); have hr38 := (hr36.out.below hb8).take_ 0 hKN; have hb9 := Lib.hid (hb7.out.trans (hb8.mono hb7.out.size)); have hq8 := Lib.hid (hq1.out w8 A5 A3 0 c5 c3 _ hr5 hr38); replace hr5 := Lib.hid hr5; replace hr38 := Lib.hid hr38; replace hb8 := Lib.hid hb8)) | (go_at_call 18; go_must (refine hq8.out.mono ?_; rintro e w10 ⟨rfl, hb10⟩; have hb11 := Lib.hid (hb9.out.trans (hb10.mono hb9.out.size)); replace hb10 := Lib.hid hb10)))
          go_ret
          exact ⟨rfl, hb11.out⟩
        · go_wp2_with (first | (go_at_call 17; go_must (refine hs2.out.mono ?_; rintro e w8 ⟨A5, c5, rfl, hr5, hb8⟩; have hr28 := Lib.hid (hr26.out.below hb8); have hr38 := (hr36.out.below hb8).take_ 0 hKN; have hb9 := Lib.hid (hb7.out.trans (hb8.mono hb7.out.size)); have hq8 := Lib.hid (hq1.out w8 A5 A3 0 c5 c3 _ hr5 hr38); replace hr5 := Lib.hid hr5; replace hr38 := Lib.hid hr38; replace hb8 := Lib.hid hb8)) | (go_at_call 18; go_must (refine hq8.out.mono ?_; rintro e w10 ⟨rfl, hb10⟩; have hb11 := Lib.hid (hb9.out.trans (hb10.mono hb9.out.size)); replace hb10 := Lib.hid hb10)))
          go_ret
          exact ⟨rfl, hb11.out⟩
    · obtain ⟨q, rfl⟩ : ∃ q, N = q + 1 := ⟨N - 1, by omega⟩
      obtain ⟨ad2, hA2e, _⟩ := hr24.out.at_ q (by omega)
      subst hA2e
      have hl1 := hl1 hN0
      rw [Nat.add_sub_cancel] at hl1
      go_wp2_with (first | (go_at_call 18; go_must (refine hq4.out.mono ?_; rintro e w6 ⟨rfl, hb6⟩; have hr26 := hr24.out.below hb6; have hr16 := Lib.hid (hr14.out.below hb6); have hr36 := Lib.hid (hr34.out.below hb6); have hb7 := Lib.hid (hb5.out.trans (hb6.mono hb5.out.size)); have hs2 := Lib.hid (hS2.out w6 A1 c1 hr16.out hc1); obtain ⟨ad3, hA3e, hkq⟩ := hr26.at_ q (by omega); injection hA3e with hA3e; subst hA3e; rw [← hl1] at hkq; replace hr26 := Lib.hid hr26; replace hb6 := Lib.hid hb6)))
      replace hl1 := Lib.hid hl1
      go_loopw [13] (fun i wr => ∃ j : Nat, i = .int .i64 (j : Int) ∧ j ≤ K ∧ wr = w6) (fun i _ => K - (intOf i).toNat)
      case atStart => exact ⟨0, rfl, Nat.zero_le _, rfl⟩
      case round =>
        obtain ⟨j, rfl, hj, rfl⟩ := hrel
        by_cases hjK : j < K
        · obtain ⟨ad3, hA3e, hkj⟩ := hr26.out.at_ j (by omega)
          injection hA3e with hA3e
          subst hA3e
          have hle := hwa.out j (by rw [hKe.out]; exact hjK)
          generalize es.getD j 0 = ej at hkj hle
          have hlei : (ej : Int) ≤ (m : Int) := by omega
          go_wp2
          go_roundw
          case rel => exact ⟨j + 1, by go_num, by omega, by trivial⟩
          case measure => simp [intOf]; omega
        · obtain rfl : j = K := by omega
          by_cases hKq : j < q + 1
          · obtain ⟨ad3, hA3e, hkj⟩ := hr26.out.at_ j hKq
            injection hA3e with hA3e
            subst hA3e
            have hgt := hwb.out (by rw [hKe.out, hEN.out]; exact hKq)
            rw [hKe.out] at hgt
            generalize es.getD j 0 = ej at hkj hgt
            have hgti : ¬ (ej : Int) ≤ (m : Int) := by omega
            have hjqi : (j : Int) < (q : Int) + 1 := by omega
            go_upto_region 15 with (fail)
            rcases Nat.eq_zero_or_pos j with hj0 | hj0
            · subst hj0
              obtain rfl := hla rfl
              clear hl3 hla
              have hcutB := fun W => bcuts A1 T c1 m hmT hc1 W
              have hcutS := fun W => scuts A3 (q + 1) c3 0 hKN hc3 W
              rcases hw with rfl | rfl
              · go_wp2_with (first | (go_at_call 17; go_must (refine hs2.out.mono ?_; rintro e w8 ⟨A5, c5, rfl, hr5, hb8⟩; have hr28 := Lib.hid (hr26.out.below hb8); have hr38 := (hr36.out.below hb8).take_ 0 hKN; have hb9 := Lib.hid (hb7.out.trans (hb8.mono hb7.out.size)); have hq8 := Lib.hid (hq1.out w8 A5 A3 0 c5 c3 _ hr5 hr38); replace hr5 := Lib.hid hr5; replace hr38 := Lib.hid hr38; replace hb8 := Lib.hid hb8)) | (go_at_call 18; go_must (refine hq8.out.mono ?_; rintro e w10 ⟨rfl, hb10⟩; have hb11 := Lib.hid (hb9.out.trans (hb10.mono hb9.out.size)); replace hb10 := Lib.hid hb10)))
                go_ret
                exact ⟨rfl, hb11.out⟩
              · go_wp2_with (first | (go_at_call 17; go_must (refine hs2.out.mono ?_; rintro e w8 ⟨A5, c5, rfl, hr5, hb8⟩; have hr28 := Lib.hid (hr26.out.below hb8); have hr38 := (hr36.out.below hb8).take_ 0 hKN; have hb9 := Lib.hid (hb7.out.trans (hb8.mono hb7.out.size)); have hq8 := Lib.hid (hq1.out w8 A5 A3 0 c5 c3 _ hr5 hr38); replace hr5 := Lib.hid hr5; replace hr38 := Lib.hid hr38; replace hb8 := Lib.hid hb8)) | (go_at_call 18; go_must (refine hq8.out.mono ?_; rintro e w10 ⟨rfl, hb10⟩; have hb11 := Lib.hid (hb9.out.trans (hb10.mono hb9.out.size)); replace hb10 := Lib.hid hb10)))
                go_ret
                exact ⟨rfl, hb11.out⟩
            · obtain ⟨p, rfl⟩ : ∃ p, j = p + 1 := ⟨j - 1, by omega⟩
              have hl3 := hl3 hj0
              rw [Nat.add_sub_cancel] at hl3
              have hcutB := fun W => bcuts A1 T c1 m hmT hc1 W
              have hcutS := fun W => scuts A3 (q + 1) c3 (p + 1) hKN hc3 W
              rcases hw with rfl | rfl
              · go_wp2_with (first | (go_at_call 17; go_must (refine hs2.out.mono ?_; rintro e w8 ⟨A5, c5, rfl, hr5, hb8⟩; have hr28 := Lib.hid (hr26.out.below hb8); have hr38 := (hr36.out.below hb8).take_ (p + 1) hKN; have hb9 := Lib.hid (hb7.out.trans (hb8.mono hb7.out.size)); have hq8 := Lib.hid (hq1.out w8 A5 A3 (p + 1) c5 c3 _ hr5 hr38); replace hr5 := Lib.hid hr5; replace hr38 := Lib.hid hr38; replace hb8 := Lib.hid hb8)) | (go_at_call 18; go_must (refine hq8.out.mono ?_; rintro e w10 ⟨rfl, hb10⟩; have hb11 := Lib.hid (hb9.out.trans (hb10.mono hb9.out.size)); obtain ⟨ad3, hA3e, hkp⟩ := (hr28.out.below hb10).at_ p (by omega); injection hA3e with hA3e; subst hA3e; rw [← hl3] at hkp; replace hl3 := Lib.hid hl3; replace hb10 := Lib.hid hb10)))
                go_ret
                exact ⟨rfl, hb11.out⟩
              · go_wp2_with (first | (go_at_call 17; go_must (refine hs2.out.mono ?_; rintro e w8 ⟨A5, c5, rfl, hr5, hb8⟩; have hr28 := Lib.hid (hr26.out.below hb8); have hr38 := (hr36.out.below hb8).take_ (p + 1) hKN; have hb9 := Lib.hid (hb7.out.trans (hb8.mono hb7.out.size)); have hq8 := Lib.hid (hq1.out w8 A5 A3 (p + 1) c5 c3 _ hr5 hr38); replace hr5 := Lib.hid hr5; replace hr38 := Lib.hid hr38; replace hb8 := Lib.hid hb8)) | (go_at_call 18; go_must (refine hq8.out.mono ?_; rintro e w10 ⟨rfl, hb10⟩; have hb11 := Lib.hid (hb9.out.trans (hb10.mono hb9.out.size)); obtain ⟨ad3, hA3e, hkp⟩ := (hr28.out.below hb10).at_ p (by omega); injection hA3e with hA3e; subst hA3e; rw [← hl3] at hkp; replace hl3 := Lib.hid hl3; replace hb10 := Lib.hid hb10)))
                go_ret
                exact ⟨rfl, hb11.out⟩
          · have hKqi : ¬ (j : Int) < (q : Int) + 1 := by omega
            have hj0 : 0 < j := by omega
            · obtain ⟨p, rfl⟩ : ∃ p, j = p + 1 := ⟨j - 1, by omega⟩
              have hl3 := hl3 hj0
              rw [Nat.add_sub_cancel] at hl3
              have hcutB := fun W => bcuts A1 T c1 m hmT hc1 W
              have hcutS := fun W => scuts A3 (q + 1) c3 (p + 1) hKN hc3 W
              rcases hw with rfl | rfl
              · go_wp2_with (first | (go_at_call 17; go_must (refine hs2.out.mono ?_; rintro e w8 ⟨A5, c5, rfl, hr5, hb8⟩; have hr28 := Lib.hid (hr26.out.below hb8); have hr38 := (hr36.out.below hb8).take_ (p + 1) hKN; have hb9 := Lib.hid (hb7.out.trans (hb8.mono hb7.out.size)); have hq8 := Lib.hid (hq1.out w8 A5 A3 (p + 1) c5 c3 _ hr5 hr38); replace hr5 := Lib.hid hr5; replace hr38 := Lib.hid hr38; replace hb8 := Lib.hid hb8)) | (go_at_call 18; go_must (refine hq8.out.mono ?_; rintro e w10 ⟨rfl, hb10⟩; have hb11 := Lib.hid (hb9.out.trans (hb10.mono hb9.out.size)); obtain ⟨ad3, hA3e, hkp⟩ := (hr28.out.below hb10).at_ p (by omega); injection hA3e with hA3e; subst hA3e; rw [← hl3] at hkp; replace hl3 := Lib.hid hl3; replace hb10 := Lib.hid hb10)))
                go_ret
                exact ⟨rfl, hb11.out⟩
              · go_wp2_with (first | (go_at_call 17; go_must (refine hs2.out.mono ?_; rintro e w8 ⟨A5, c5, rfl, hr5, hb8⟩; have hr28 := Lib.hid (hr26.out.below hb8); have hr38 := (hr36.out.below hb8).take_ (p + 1) hKN; have hb9 := Lib.hid (hb7.out.trans (hb8.mono hb7.out.size)); have hq8 := Lib.hid (hq1.out w8 A5 A3 (p + 1) c5 c3 _ hr5 hr38); replace hr5 := Lib.hid hr5; replace hr38 := Lib.hid hr38; replace hb8 := Lib.hid hb8)) | (go_at_call 18; go_must (refine hq8.out.mono ?_; rintro e w10 ⟨rfl, hb10⟩; have hb11 := Lib.hid (hb9.out.trans (hb10.mono hb9.out.size)); obtain ⟨ad3, hA3e, hkp⟩ := (hr28.out.below hb10).at_ p (by omega); injection hA3e with hA3e; subst hA3e; rw [← hl3] at hkp; replace hl3 := Lib.hid hl3; replace hb10 := Lib.hid hb10)))
                go_ret
                exact ⟨rfl, hb11.out⟩
end Go.Proofs.Ytlmlkamgpmnmgaa
