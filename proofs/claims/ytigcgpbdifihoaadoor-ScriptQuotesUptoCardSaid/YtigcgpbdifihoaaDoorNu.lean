/-
  Chapter 28: the printed reference's Unquote, its loop.
-/
import Derived.Test.YtigcgpbdifihoaaDoorNt
set_option linter.unusedVariables false
set_option linter.unusedSimpArgs false
namespace Go.Proofs.YtigcgpbdifihoaaDoor
open Go.RowKit Go.Proofs.YtigcgpbdifihoaaDoorW.PrintWords Go.Proofs.YtigcgpbdifihoaaDoor.PScriptQuotes
theorem bt_in (s P R : List UInt8) (c : UInt8) (h : s = P ++ c :: R) : bt (B s) (P.length : Int) = ((c.toNat : Nat) : Int) := by
  subst h
  exact bt_mid P R c
theorem bt_off (s P R : List UInt8) (c : UInt8) (D : List UInt8) (h : s = P ++ (D ++ c :: R)) : bt (B s) ((P.length : Int) + (D.length : Int)) = ((c.toNat : Nat) : Int) := by
  have := bt_in s (P ++ D) R c (by rw [h]; simp)
  rw [List.length_append] at this
  rw [← this]
  congr 1
def outU (o : Option (List UInt8)) : Option (ByteArray × Bool) := some (B (o.getD []), o.isSome)
theorem outU_some (b : List UInt8) : outU (some b) = some (B b, true) := rfl
theorem outU_none : outU none = some (⟨#[]⟩, false) := rfl
theorem un_end (s P q : List UInt8) (k : Nat) (hs : s.length < 100000000) (h : s = P ++ [34]) (hq : q.length ≤ P.length) (hk : 2 * s.length + 3 ≤ k) (hI : Inv s [34] q ∨ ¬ ∃ b, s = quoteL b) :
    ∃ o, atriumref28_Unquote.l0 k (B s) (nums q) (P.length : Int) = outU o ∧ UQ s o := by
  obtain ⟨k, rfl⟩ : ∃ j, k = j + 1 := ⟨k - 1, by omega⟩
  have hn : s.length = P.length + 1 := by rw [h]; simp
  have hsz : (B s).size = P.length + 1 := by rw [B_size, hn]
  have hw : wrap64 (((B s).size : Int) - 1) = (P.length : Int) := by rw [hsz, IntWalk.wrap64_in _ (by omega)]; omega
  rw [atriumref28_Unquote.l0, if_neg (by rw [hw]; omega), nums_str, rquote_f q (by omega) k (by omega), Option.bind_some, B_toList, B_toList]
  by_cases he : quoteL q = s
  · rw [if_pos he]
    exact ⟨some q, (outU_some q).symm, fun b hb => by cases hb; exact he, fun b hb => by
      rw [hb] at he
      exact congrArg some (quote_inj (a := q) (b := b) (r := []) (by rw [he, List.append_nil])).1⟩
  · rw [if_neg he]
    refine ⟨none, outU_none.symm, uq_none ?_⟩
    rintro ⟨b, hb⟩
    rcases hI with hI | hI
    · have := (inv_end hI b [] (by rw [hb, List.append_nil])).1
      rw [this] at hb
      exact he hb.symm
    · exact hI ⟨b, hb⟩
theorem w_small (x : Int) (h0 : 0 ≤ x + 1) (h1 : x < 1000000000) : wrap64 x = x := IntWalk.wrap64_in _ (by omega)
theorem un_wn {x0 : ByteArray} {i n : Int} (hn : (x0.size : Int) = n) (hi : 0 ≤ i) (hin : i < n - 1) (hb : n < 100000000) : wrap64 ((x0.size : Int) - 1) = n - 1 := by rw [hn]; exact w_small _ (by omega) (by omega)
theorem un_plain {x0 : ByteArray} {i n : Int} (hn : (x0.size : Int) = n) (hi : 0 ≤ i) (hin : i < n - 1) (hb : n < 100000000) {x4 : List Int} (h4 : x4.length < 100000000) (k : Nat) (c : UInt8) (hc : bt x0 i = (c.toNat : Int)) (h : c ≠ 92) : atriumref28_Unquote.l0 (k + 1) x0 x4 i = atriumref28_Unquote.l0 k x0 (x4 ++ [(c.toNat : Int)]) (i + 1) := by
  have hc2 : ¬ ((c.toNat : Int) = 92) := fun e => h (u8_nat (Int.ofNat.inj e))
  rw [atriumref28_Unquote.l0, un_wn hn hi hin hb, if_pos hin, if_pos hi, if_pos (by rw [hn]; omega), hc, if_neg hc2, if_pos (by omega), w_small (i + 1) (by omega) (by omega)]
theorem un_stop {x0 : ByteArray} {i n : Int} (hn : (x0.size : Int) = n) (hi : 0 ≤ i) (hin : i < n - 1) (hb : n < 100000000) {x4 : List Int} (h4 : x4.length < 100000000) (k : Nat) (hc : bt x0 i = 92) (h : i + 1 ≥ n - 1) : atriumref28_Unquote.l0 (k + 1) x0 x4 i = some (⟨#[]⟩, false) := by
  rw [atriumref28_Unquote.l0, un_wn hn hi hin hb, if_pos hin, if_pos hi, if_pos (by rw [hn]; omega), hc, if_pos rfl, w_small (i + 1) (by omega) (by omega), if_pos h]
theorem un_one {x0 : ByteArray} {i n : Int} (hn : (x0.size : Int) = n) (hi : 0 ≤ i) (hin : i < n - 1) (hb : n < 100000000) {x4 : List Int} (h4 : x4.length < 100000000) (k : Nat) (d : UInt8) (hc : bt x0 i = 92) (h : i + 1 < n - 1) (hd : bt x0 (i + 1) = (d.toNat : Int)) (hx : d ≠ 120) : atriumref28_Unquote.l0 (k + 1) x0 x4 i = atriumref28_Unquote.l0 k x0 (x4 ++ [(d.toNat : Int)]) (i + 2) := by
  have hd2 : ¬ ((d.toNat : Int) = 120) := fun e => hx (u8_nat (Int.ofNat.inj e))
  rw [atriumref28_Unquote.l0, un_wn hn hi hin hb, if_pos hin, if_pos hi, if_pos (by rw [hn]; omega), hc, if_pos rfl, w_small (i + 1) (by omega) (by omega), if_neg (by omega), if_pos (by omega), if_pos (by rw [hn]; omega), hd, if_neg hd2, if_pos (by omega), w_small (i + 1 + 1) (by omega) (by omega), Int.add_assoc]
  rfl
theorem un_short {x0 : ByteArray} {i n : Int} (hn : (x0.size : Int) = n) (hi : 0 ≤ i) (hin : i < n - 1) (hb : n < 100000000) {x4 : List Int} (h4 : x4.length < 100000000) (k : Nat) (hc : bt x0 i = 92) (h : i + 1 < n - 1) (hd : bt x0 (i + 1) = 120) (h3 : i + 3 ≥ n - 1) : atriumref28_Unquote.l0 (k + 2) x0 x4 i = some (⟨#[]⟩, false) := by
  rw [atriumref28_Unquote.l0, un_wn hn hi hin hb, if_pos hin, if_pos hi, if_pos (by rw [hn]; omega), hc, if_pos rfl, w_small (i + 1) (by omega) (by omega), if_neg (by omega), if_pos (by omega), if_pos (by rw [hn]; omega), hd, if_pos rfl, w_small (i + 3) (by omega) (by omega), if_pos h3, atriumref28_Unquote.j2, if_pos rfl]
theorem un_bad1 {x0 : ByteArray} {i n : Int} (hn : (x0.size : Int) = n) (hi : 0 ≤ i) (hin : i < n - 1) (hb : n < 100000000) {x4 : List Int} (h4 : x4.length < 100000000) (k : Nat) (x1 : UInt8) (hc : bt x0 i = 92) (hd : bt x0 (i + 1) = 120) (h3 : i + 3 < n - 1) (h1 : bt x0 (i + 2) = (x1.toNat : Int)) (d1 : digI x1 < 0) : atriumref28_Unquote.l0 (k + 2) x0 x4 i = some (⟨#[]⟩, false) := by
  rw [atriumref28_Unquote.l0, un_wn hn hi hin hb, if_pos hin, if_pos hi, if_pos (by rw [hn]; omega), hc, if_pos rfl, w_small (i + 1) (by omega) (by omega), if_neg (by omega), if_pos (by omega), if_pos (by rw [hn]; omega), hd, if_pos rfl, w_small (i + 3) (by omega) (by omega), if_neg (by omega), w_small (i + 2) (by omega) (by omega), if_pos (by omega), if_pos (by rw [hn]; omega), h1, digit_f, Option.bind_some, if_pos d1, atriumref28_Unquote.j2, if_pos rfl]
theorem un_bad2 {x0 : ByteArray} {i n : Int} (hn : (x0.size : Int) = n) (hi : 0 ≤ i) (hin : i < n - 1) (hb : n < 100000000) {x4 : List Int} (h4 : x4.length < 100000000) (k : Nat) (x1 x2 : UInt8) (hc : bt x0 i = 92) (hd : bt x0 (i + 1) = 120) (h3 : i + 3 < n - 1) (h1 : bt x0 (i + 2) = (x1.toNat : Int)) (h2 : bt x0 (i + 3) = (x2.toNat : Int)) (d1 : ¬ digI x1 < 0) (d2 : digI x2 < 0) : atriumref28_Unquote.l0 (k + 2) x0 x4 i = some (⟨#[]⟩, false) := by
  rw [atriumref28_Unquote.l0, un_wn hn hi hin hb, if_pos hin, if_pos hi, if_pos (by rw [hn]; omega), hc, if_pos rfl, w_small (i + 1) (by omega) (by omega), if_neg (by omega), if_pos (by omega), if_pos (by rw [hn]; omega), hd, if_pos rfl, w_small (i + 3) (by omega) (by omega), if_neg (by omega), w_small (i + 2) (by omega) (by omega), if_pos (by omega), if_pos (by rw [hn]; omega), h1, digit_f, Option.bind_some, if_neg d1, if_pos (by omega), if_pos (by rw [hn]; omega), h2, digit_f, Option.bind_some, atriumref28_Unquote.j2, if_pos (decide_eq_true d2)]
theorem un_hex {x0 : ByteArray} {i n : Int} (hn : (x0.size : Int) = n) (hi : 0 ≤ i) (hin : i < n - 1) (hb : n < 100000000) {x4 : List Int} (h4 : x4.length < 100000000) (k a b : Nat) (ha : a < 16) (hb2 : b < 16) (hc : bt x0 i = 92) (hd : bt x0 (i + 1) = 120) (h3 : i + 3 < n - 1) (h1 : bt x0 (i + 2) = ((hexB a).toNat : Int)) (h2 : bt x0 (i + 3) = ((hexB b).toNat : Int)) : atriumref28_Unquote.l0 (k + 3) x0 x4 i = atriumref28_Unquote.l0 (k + 1) x0 (x4 ++ [((UInt8.ofNat (16 * a + b)).toNat : Int)]) (i + 4) := by
  have d1 := dig_hex a ha
  have d2 := dig_hex b hb2
  have e16 : (wrap64 ((wrap64 (16 * (a : Int))) + (b : Int))) % 256 = (((UInt8.ofNat (16 * a + b)).toNat : Nat) : Int) := by
    rw [w_small (16 * (a : Int)) (by omega) (by omega), w_small _ (by omega) (by omega)]
    simp
  rw [atriumref28_Unquote.l0, un_wn hn hi hin hb, if_pos hin, if_pos hi, if_pos (by rw [hn]; omega), hc, if_pos rfl, w_small (i + 1) (by omega) (by omega), if_neg (by omega), if_pos (by omega), if_pos (by rw [hn]; omega), hd, if_pos rfl, w_small (i + 3) (by omega) (by omega), if_neg (by omega), w_small (i + 2) (by omega) (by omega), if_pos (by omega), if_pos (by rw [hn]; omega), h1, digit_f, Option.bind_some, d1, if_neg (by omega), if_pos (by omega), if_pos (by rw [hn]; omega), h2, digit_f, Option.bind_some, d2, atriumref28_Unquote.j2, if_neg (by simp), w_small (i + 2) (by omega) (by omega), if_pos (by omega), if_pos (by rw [hn]; omega), h1, digit_f, Option.bind_some, d1, w_small (i + 3) (by omega) (by omega), if_pos (by omega), if_pos (by rw [hn]; omega), h2, digit_f, Option.bind_some, d2, if_pos (by omega), e16, w_small (i + 3 + 1) (by omega) (by omega), Int.add_assoc]
  rfl
set_option maxHeartbeats 1000000 in
theorem un_step (s : List UInt8) (hs : s.length < 10000000) (n : Nat) (IH : ∀ (R P q : List UInt8) (k : Nat), R.length ≤ n → s = P ++ (R ++ [34]) → 1 ≤ P.length → q.length ≤ P.length → 2 * R.length + 2 * s.length + 3 ≤ k → (Inv s (R ++ [34]) q ∨ ¬ ∃ b, s = quoteL b) → ∃ o, atriumref28_Unquote.l0 k (B s) (nums q) (P.length : Int) = outU o ∧ UQ s o)
    (c : UInt8) (R P q : List UInt8) (k : Nat) (hn : (c :: R).length ≤ n + 1) (h : s = P ++ (c :: R ++ [34])) (h1 : 1 ≤ P.length) (hq : q.length ≤ P.length) (hk : 2 * (c :: R).length + 2 * s.length + 3 ≤ k) (hI : Inv s (c :: R ++ [34]) q ∨ ¬ ∃ b, s = quoteL b) :
    ∃ o, atriumref28_Unquote.l0 k (B s) (nums q) (P.length : Int) = outU o ∧ UQ s o := by
  rw [List.length_cons] at hn hk
  obtain ⟨k, rfl⟩ : ∃ j, k = j + 3 := ⟨k - 3, by omega⟩
  have hl : s.length = P.length + R.length + 2 := by rw [h]; simp; omega
  have hsz : ((B s).size : Int) = (P.length : Int) + (R.length : Int) + 2 := by rw [B_size, hl]; omega
  have hq4 : (nums q).length < 100000000 := by rw [nums_len]; omega
  have one : ∀ (q2 : List UInt8) (c2 : UInt8), nums q2 ++ [((c2.toNat : Nat) : Int)] = nums (q2 ++ [c2]) := fun q2 c2 => by rw [← nums_app]; rfl
  have hb0 := bt_in s P (R ++ [34]) c (by rw [h]; simp)
  by_cases h92 : c = 92
  · subst h92
    cases R with
    | nil =>
      rw [List.length_nil] at hsz
      rw [un_stop hsz (by omega) (by omega) (by omega) hq4 (k + 2) hb0 (by omega)]
      refine ⟨none, outU_none.symm, uq_none ?_⟩
      rcases hI with hI | hI
      · exact not_qd (inv_nil (inv_esc (R := []) (d := 34) hI (by decide)))
      · exact hI
    | cons d R =>
      have hb1 : bt (B s) ((P.length : Int) + 1) = ((d.toNat : Nat) : Int) := bt_off s P (R ++ [34]) d [92] (by rw [h]; simp)
      simp only [List.length_cons] at hsz hl hn hk
      by_cases h120 : d = 120
      · subst h120
        have hbad : (∀ x R2, R ++ [34] = x :: R2 → ∀ y R3, R2 = y :: R3 → ¬ ∃ m, m < 256 ∧ x = hexB (m / 16) ∧ y = hexB (m % 16)) → UQ s none := fun hh => uq_none (by
          rcases hI with hI | hI
          · refine not_qd (inv_bad hI (fun d2 R2 e => ?_) fun m R2 hm e => ?_)
            · injection (show 120 :: (R ++ [34]) = _ from e) with e1 e2
              rw [← e1]
              decide
            · injection (show 120 :: (R ++ [34]) = _ from e) with e1 e2
              exact hh _ _ e2 _ _ rfl ⟨m, hm, rfl, rfl⟩
          · exact hI)
        match R, h, hI, hbad, hl, hsz, hn, hk, hb1, hb0 with
        | [], _, _, hbad, _, hsz, _, _, hb1, hb0 =>
          rw [List.length_nil] at hsz
          rw [un_short hsz (by omega) (by omega) (by omega) hq4 (k + 1) hb0 (by omega) hb1 (by omega)]
          refine ⟨none, outU_none.symm, hbad fun x R2 e y R3 e2 => ?_⟩
          subst e2
          cases e
        | [x1], _, _, hbad, _, hsz, _, _, hb1, hb0 =>
          simp only [List.length_cons, List.length_nil] at hsz
          rw [un_short hsz (by omega) (by omega) (by omega) hq4 (k + 1) hb0 (by omega) hb1 (by omega)]
          refine ⟨none, outU_none.symm, hbad fun x R2 e y R3 e2 => ?_⟩
          subst e2
          cases e
          rintro ⟨m, hm, _, hy⟩
          exact hex_ne34 (m % 16) (by omega) hy.symm
        | x1 :: x2 :: R, h, hI, hbad, hl, hsz, hn, hk, hb1, hb0 =>
          simp only [List.length_cons] at hl hsz hn hk
          have hb2 : bt (B s) ((P.length : Int) + 2) = ((x1.toNat : Nat) : Int) := bt_off s P (x2 :: R ++ [34]) x1 [92, 120] (by rw [h]; simp)
          have hb3 : bt (B s) ((P.length : Int) + 3) = ((x2.toNat : Nat) : Int) := bt_off s P (R ++ [34]) x2 [92, 120, x1] (by rw [h]; simp)
          by_cases d1 : digI x1 < 0
          · rw [un_bad1 hsz (by omega) (by omega) (by omega) hq4 (k + 1) x1 hb0 hb1 (by omega) hb2 d1]
            refine ⟨none, outU_none.symm, hbad fun x R2 e y R3 e2 => ?_⟩
            subst e2
            injection e with e1 e2
            rintro ⟨m, hm, hx, _⟩
            rw [e1, hx, dig_hex _ (by omega)] at d1
            omega
          · by_cases d2 : digI x2 < 0
            · rw [un_bad2 hsz (by omega) (by omega) (by omega) hq4 (k + 1) x1 x2 hb0 hb1 (by omega) hb2 hb3 d1 d2]
              refine ⟨none, outU_none.symm, hbad fun x R2 e y R3 e2 => ?_⟩
              subst e2
              injection e with e1 e2
              injection e2 with e2 e3
              rintro ⟨m, hm, _, hy⟩
              rw [e2, hy, dig_hex _ (by omega)] at d2
              omega
            · obtain ⟨a, ha, rfl, ea⟩ := hex_dig x1 d1
              obtain ⟨b, hb, rfl, eb⟩ := hex_dig x2 d2
              have hP : ((P.length : Int) + 4) = ((P ++ [92, 120, hexB a, hexB b]).length : Nat) := by simp
              rw [un_hex hsz (by omega) (by omega) (by omega) hq4 k a b ha hb hb0 hb1 (by omega) hb2 hb3, one, hP]
              refine IH R (P ++ [92, 120, hexB a, hexB b]) (q ++ [UInt8.ofNat (16 * a + b)]) (k + 1) (by omega) (by rw [h]; simp) (by simp) (by simp; omega) (by omega) ?_
              rcases hI with hI | hI
              · refine Or.inl (inv_hex (n := 16 * a + b) (by omega) ?_)
                rw [show (16 * a + b) / 16 = a by omega, show (16 * a + b) % 16 = b by omega]
                exact hI
              · exact Or.inr hI
      · have hP : ((P.length : Int) + 2) = ((P ++ [92, d]).length : Nat) := by simp
        rw [un_one hsz (by omega) (by omega) (by omega) hq4 (k + 2) d hb0 (by omega) hb1 h120, one, hP]
        refine IH R (P ++ [92, d]) (q ++ [d]) (k + 2) (by omega) (by rw [h]; simp) (by simp) (by simp; omega) (by omega) ?_
        rcases hI with hI | hI
        · exact Or.inl (inv_esc hI h120)
        · exact Or.inr hI
  · have hP : ((P.length : Int) + 1) = ((P ++ [c]).length : Nat) := by simp
    rw [un_plain hsz (by omega) (by omega) (by omega) hq4 (k + 2) c hb0 h92, one, hP]
    refine IH R (P ++ [c]) (q ++ [c]) (k + 2) (by omega) (by rw [h]; simp) (by simp) (by simp; omega) (by omega) ?_
    rcases hI with hI | hI
    · by_cases h34 : c = 34
      · subst h34
        refine Or.inr ?_
        rintro ⟨b, hb⟩
        have := (inv_end hI b [] (by rw [hb, List.append_nil])).2
        simp at this
      · exact Or.inl (inv_plain hI h34 h92)
    · exact Or.inr hI
theorem un_loop (s : List UInt8) (hs : s.length < 10000000) : ∀ (n : Nat) (R P q : List UInt8) (k : Nat), R.length ≤ n → s = P ++ (R ++ [34]) → 1 ≤ P.length → q.length ≤ P.length → 2 * R.length + 2 * s.length + 3 ≤ k → (Inv s (R ++ [34]) q ∨ ¬ ∃ b, s = quoteL b) → ∃ o, atriumref28_Unquote.l0 k (B s) (nums q) (P.length : Int) = outU o ∧ UQ s o
  | n, [], P, q, k, hn, h, h1, hq, hk, hI => un_end s P q k (by omega) h hq (by simpa using hk) hI
  | 0, c :: R, P, q, k, hn, h, h1, hq, hk, hI => by simp at hn
  | n + 1, c :: R, P, q, k, hn, h, h1, hq, hk, hI => un_step s hs n (fun R P q k => un_loop s hs n R P q k) c R P q k hn h h1 hq hk hI
theorem un_f (s : List UInt8) (hs : s.length < 10000000) (k : Nat) (hk : 4 * s.length + 10 ≤ k) : ∃ o, atriumref28_Unquote.f k (B s) = outU o ∧ UQ s o := by
  obtain ⟨k, rfl⟩ : ∃ j, k = j + 1 := ⟨k - 1, by omega⟩
  have bad : (∀ b, s ≠ quoteL b) → atriumref28_Unquote.j0 (k + 1) (B s) true = outU none ∧ UQ s none := fun h => ⟨by rw [atriumref28_Unquote.j0, if_pos rfl]; exact outU_none.symm, uq_none fun ⟨b, e⟩ => h b e⟩
  rw [atriumref28_Unquote.f, B_size]
  by_cases h2 : s.length < 2
  · rw [if_pos (by omega)]
    refine ⟨none, bad fun b e => ?_⟩
    rw [e, quoteL, List.length_append, List.length_cons, List.length_singleton] at h2
    omega
  rw [if_neg (by omega), if_pos (by omega)]
  obtain ⟨c, R, rfl⟩ : ∃ c R, s = c :: R := by
    cases s with
    | nil => simp at h2
    | cons c R => exact ⟨c, R, rfl⟩
  have hb0 := bt_in (c :: R) [] R c rfl
  rw [List.length_nil] at hb0
  have hb0' : bt (B (c :: R)) 0 = (c.toNat : Int) := hb0
  rw [hb0']
  by_cases h34 : c = 34
  · subst h34
    obtain ⟨M, d, rfl⟩ : ∃ M d, R = M ++ [d] := by
      refine ⟨R.dropLast, R.getLast (by rintro rfl; simp at h2), (List.dropLast_concat_getLast _).symm⟩
    have hl : ((34 :: (M ++ [d]) : List UInt8).length : Int) = (M.length : Int) + 2 := by simp; omega
    have hb1 := bt_in (34 :: (M ++ [d])) (34 :: M) [] d (by simp)
    have hb1' : bt (B (34 :: (M ++ [d]))) ((M.length : Int) + 2 - 1) = (d.toNat : Int) := by
      rw [← hb1]
      congr 1
      simp
      omega
    rw [if_pos (by decide), hl, w_small _ (by omega) (by simp at hs; omega), if_pos (by omega), if_pos (by omega), hb1']
    by_cases hd : d = 34
    · subst hd
      have e : ((((34 : UInt8).toNat : Nat) : Int) != 34) = false := by decide
      rw [e, atriumref28_Unquote.j0, if_neg (by decide)]
      exact un_loop (34 :: (M ++ [34])) hs M.length M [34] [] k (Nat.le_refl _) (by simp) (by simp) (by simp) (by simp at hk ⊢; omega) (Or.inl inv_start)
    · have e : (((d.toNat : Nat) : Int) != 34) = true := by
        rw [bne_iff_ne]
        intro e
        exact hd (u8_nat (Int.ofNat.inj e))
      rw [e]
      refine ⟨none, bad fun b e => hd ?_⟩
      have := congrArg List.getLast? e
      rw [quoteL, ← List.cons_append, List.getLast?_concat, List.getLast?_concat] at this
      injection this
  · have hne : ¬ (((c.toNat : Nat) : Int) = 34) := fun e => h34 (u8_nat (Int.ofNat.inj e))
    rw [if_neg hne]
    refine ⟨none, bad fun b e => h34 ?_⟩
    rw [quoteL] at e
    injection e
end Go.Proofs.YtigcgpbdifihoaaDoor
