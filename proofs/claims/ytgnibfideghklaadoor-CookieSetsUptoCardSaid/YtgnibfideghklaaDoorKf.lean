/-
  Chapter 19: what may stand in a name, and in a pair: walked.
-/
import Derived.Test.YtgnibfideghklaaDoorKe
set_option linter.unusedVariables false
set_option linter.unusedSimpArgs false
namespace Go.Proofs.YtgnibfideghklaaDoor
open Go.RowKit Go.Proofs.YtgnibfideghklaaDoorW.PrintWords Go.Proofs.YtgnibfideghklaaDoor.PCookieReads
theorem idx_has : ∀ (l : List UInt8) (x : UInt8), (Lib.indexByte l x < 0) ↔ l.contains x = false
  | [], x => by simp [Lib.indexByte]
  | b :: l, x => by
    have ih := idx_has l x
    have hge := Lib.indexByte_ge l x
    rw [Lib.indexByte, List.contains_cons]
    by_cases h : b = x
    · subst h
      simp
    · have h1 : (b == x) = false := by simpa using h
      have h2 : (x == b) = false := by simpa using fun e : x = b => h e.symm
      rw [h1, h2, Bool.false_or, ← ih]
      simp only [Bool.false_eq_true, if_false]
      split
      · rename_i h3
        have : Lib.indexByte l x = -1 := by simpa using h3
        omega
      · rename_i h3
        have : Lib.indexByte l x ≠ -1 := by simpa using h3
        omega
theorem tok_fail {l P R : List UInt8} {c : UInt8} (h : l = P ++ c :: R) (ho : tokB c = false) : tokL l = false := by
  rw [h, tokL, List.all_append, List.all_cons, ho, Bool.false_and, Bool.and_false, Bool.false_and]
set_option maxHeartbeats 400000 in
set_option maxRecDepth 100000 in
theorem token_any (l : List UInt8) (hl : l.length < 4611686018427387904) (w : World) :
    Calls Tryd.prog 39 #[.string (B l)] w fun e w' => e = .returned (.bool (tokL l)) ∧ Below w.heap.size w w' := by
  have hL := Lib.hid (fun (c : UInt8) (v : Int) (hv : (c.toNat : Int) = v) (W : World) => by
    have := text_letter.calls v (letB c) W (by rw [← hv]; exact letter_f c)
    exact this)
  have hI := Lib.hid (fun (c : UInt8) (v : Int) (hv : (c.toNat : Int) = v) (W : World) => by
    have := Tryd.strings_IndexByte (B marksL) v W
    rw [B_data, show v.toNat.toUInt8 = c by rw [← hv]; simp] at this
    exact this)
  obtain ⟨s, hsB⟩ : ∃ s, s = B l := ⟨_, rfl⟩
  have hbt : ∀ (P R : List UInt8) (c : UInt8), l = P ++ c :: R → bt s (P.length : Int) = (c.toNat : Int) := fun P R c h => by rw [hsB, h]; exact bt_mid P R c
  have hsz : l.length = s.size := by rw [hsB, B_size]
  have hto : s.toList = l := by rw [hsB, B_toList]
  rw [← hsB]
  replace hbt := Lib.hid hbt
  replace hto := Lib.hid hto
  clear hsB
  have hl2 : s.size < 4611686018427387904 := by omega
  replace hsz := Lib.hid hsz
  clear hl
  go_enter Tryd.func39, Tryd.ntmps39
  go_wp2
  go_loopw [6] (fun i wr => ∃ P R, l = P ++ R ∧ i = .int .i64 (P.length : Nat) ∧ P.all tokB = true ∧ Below w.heap.size w wr) (fun i _ => s.size - (intOf i).toNat)
  case atStart => exact ⟨[], l, rfl, rfl, rfl, Below.refl _ _⟩
  case round =>
    obtain ⟨P, R, hl2, rfl, hall, hb⟩ := hrel
    replace hl2 := Lib.hid hl2
    replace hb := Lib.hid hb
    have hn : P.length + R.length = s.size := by rw [← hsz.out, hl2.out]; simp
    cases R with
    | nil =>
      have hq : tokL l = !l.isEmpty := by
        unfold tokL
        rw [hl2.out, List.append_nil, hall, Bool.true_and]
      have hto2 := hto.out
      replace hq := Lib.hid hq
      replace hn : ¬ (P.length < s.size) := by simp at hn; omega
      clear hall
      go_wp2
      go_ret
      exact ⟨by rw [hq.out]; rfl, hb.out⟩
    | cons c R =>
      replace hn : P.length + 1 + R.length = s.size := by simp at hn; omega
      have hf := fun h => tok_fail hl2.out h
      have ht : tokB c = (letB c || marksL.contains c) := rfl
      have hidx := idx_has marksL c
      obtain ⟨v, hv⟩ : ∃ v : Int, (c.toNat : Int) = v := ⟨_, rfl⟩
      have hx := bt_at s (P.length : Int)
      rw [hbt.out P R c hl2.out, hv] at hx
      obtain ⟨x, hxP⟩ : ∃ x : Int, (P.length : Int) = x := ⟨_, rfl⟩
      rw [hxP] at hx ⊢
      have p4 : (0 ≤ x) = True := eq_true (by omega)
      have q4 : (x < (s.size : Int)) = True := eq_true (by omega)
      have hw : wrap64 (x + 1) = x + 1 := IntWalk.wrap64_in _ (by omega)
      have h0 : 0 ≤ x := by omega
      have h1 : x < (s.size : Int) := by omega
      have hxs : s.size - (x + 1).toNat < s.size - x.toNat := by omega
      replace hn := Lib.hid hn
      replace hxP := Lib.hid hxP
      have hL1 := Lib.hid (hL.out c v hv)
      have hI1 := Lib.hid (hI.out c v hv)
      clear hv
      obtain ⟨r, hr⟩ : ∃ r : Int, Lib.indexByte marksL c = r := ⟨_, rfl⟩
      rw [hr] at hI1 hidx
      clear hr
      cases hlet : letB c with
      | true =>
        rw [hlet] at hL1 ht
        replace ht := Lib.hid (show tokB c = true from ht)
        clear hidx hf hlet hI1
        replace hall := Lib.hid hall
        go_wp2_with (first | (go_at_call 53; go_must (refine (hL1.out _).mono ?_; rintro e w2 ⟨rfl, hd⟩; replace hb := Lib.hid (hb.out.trans ((drawn_below hd).mono hb.out.size)); clear hd)))
        go_roundw
        case rel => exact ⟨P ++ [c], R, by rw [hl2.out]; simp, by rw [List.length_append, List.length_singleton, ← hxP.out]; go_num, by rw [List.all_append, hall.out, List.all_cons, ht.out]; rfl, hb.out⟩
        case measure => simp [intOf]; exact hxs
      | false =>
        rw [hlet] at hL1 ht
        cases hm : marksL.contains c with
        | true =>
          rw [hm] at ht
          have hr0 : ¬ r < 0 := fun e => by rw [hidx.1 e] at hm; cases hm
          replace ht := Lib.hid (show tokB c = true from ht)
          clear hidx hf hlet hm
          replace hall := Lib.hid hall
          go_wp2_with (first  | (go_at_call 53; go_must (refine (hL1.out _).mono ?_; rintro e w2 ⟨rfl, hd⟩; replace hb := Lib.hid (hb.out.trans ((drawn_below hd).mono hb.out.size)); clear hd))  | (go_at_call 54; go_must (refine (hI1.out _).mono ?_; rintro e w2 ⟨rfl, rfl⟩)))
          go_roundw
          case rel => exact ⟨P ++ [c], R, by rw [hl2.out]; simp, by rw [List.length_append, List.length_singleton, ← hxP.out]; go_num, by rw [List.all_append, hall.out, List.all_cons, ht.out]; rfl, hb.out⟩
          case measure => simp [intOf]; exact hxs
        | false =>
          rw [hm] at ht
          have hr0 : r < 0 := hidx.2 hm
          have hq := Lib.hid (hf ht)
          clear hidx hf hlet hm ht hall
          go_wp2_with (first  | (go_at_call 53; go_must (refine (hL1.out _).mono ?_; rintro e w2 ⟨rfl, hd⟩; replace hb := Lib.hid (hb.out.trans ((drawn_below hd).mono hb.out.size)); clear hd))  | (go_at_call 54; go_must (refine (hI1.out _).mono ?_; rintro e w2 ⟨rfl, rfl⟩)))
          go_ret
          exact ⟨by rw [hq.out]; rfl, hb.out⟩
set_option maxRecDepth 100000 in
theorem right_any (n v : List UInt8) (hn : n.length < 4611686018427387904) (hv : v.length < 4611686018427387904) (w : World) :
    Calls Tryd.prog 24 #[.string (B n), .string (B v)] w fun e w' => e = .returned (.bool (pairRt (n, v))) ∧ Below w.heap.size w w' := by
  have hT := Lib.hid (fun W => token_any n hn W)
  have hb := bare_len v
  have hB := Lib.hid (fun W => cookie_bare.calls (B v) _ W (bare_f v hv))
  have hO := Lib.hid (fun W => octets_any (bareL v) (by omega) W)
  have e : pairRt (n, v) = (tokL n && octL (bareL v)) := rfl
  rw [e]
  cases ht : tokL n with
  | false =>
    rw [ht] at hT
    go_enter Tryd.func24, Tryd.ntmps24
    go_wp2_with (first | (go_at_call 39; go_must (refine (hT.out _).mono ?_; rintro e w2 ⟨rfl, hb2⟩; replace hb2 := Lib.hid hb2)))
    go_ret
    exact ⟨rfl, hb2.out⟩
  | true =>
    rw [ht] at hT
    go_enter Tryd.func24, Tryd.ntmps24
    go_wp2_with (first  | (go_at_call 39; go_must (refine (hT.out _).mono ?_; rintro e w2 ⟨rfl, hb2⟩; replace hb2 := Lib.hid hb2))  | (go_at_call 20; go_must (refine (hB.out _).mono ?_; rintro e w3 ⟨rfl, hd⟩; replace hb2 := Lib.hid (hb2.out.trans ((drawn_below hd).mono hb2.out.size)); clear hd))  | (go_at_call 40; go_must (refine (hO.out _).mono ?_; rintro e w4 ⟨rfl, hb4⟩; replace hb2 := Lib.hid (hb2.out.trans (hb4.mono hb2.out.size)); clear hb4)))
    go_ret
    exact ⟨rfl, hb2.out⟩
end Go.Proofs.YtgnibfideghklaaDoor
