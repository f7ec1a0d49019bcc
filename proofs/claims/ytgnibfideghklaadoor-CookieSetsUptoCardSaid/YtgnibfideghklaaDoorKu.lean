/-
  Chapter 19: digits, walked (the program's); what the reference's digits and beginnings come to.
-/
import Derived.Test.YtgnibfideghklaaDoorKt
import Derived.Laws.RangeAny
import Derived.Laws.RangeString
set_option linter.unusedVariables false
set_option linter.unusedSimpArgs false
namespace Go.Proofs.YtgnibfideghklaaDoor
open Go.RowKit Go.Proofs.YtgnibfideghklaaDoorW.PrintWords Go.Proofs.YtgnibfideghklaaDoor.PCookieReads
def digM (m : Int) (l : List UInt8) : Int × Int := if badD l = true then (0, 150) else if l.all digB = true then (if m < (valD 0 l : Nat) then (0, 3) else ((valD 0 l : Nat), 0)) else (0, 150)
theorem digM_R (l : List UInt8) : digM 2147483647 l = digR l := by
  unfold digM digR
  by_cases h : 2147483647 < valD 0 l
  · rw [if_pos (show (2147483647 : Int) < (valD 0 l : Nat) by omega), if_pos h]
  · rw [if_neg (show ¬ (2147483647 : Int) < (valD 0 l : Nat) by omega), if_neg h]
theorem dig_iff (c : UInt8) : digB c = true ↔ 48 ≤ c.toNat ∧ c.toNat ≤ 57 := by simp [digB]
theorem valD_lt : ∀ (l : List UInt8) (n : Nat), l.all digB = true → valD n l < (n + 1) * 10 ^ l.length
  | [], n, _ => by simp [valD]
  | c :: r, n, h => by
    rw [List.all_cons, Bool.and_eq_true] at h
    have hc := (dig_iff c).1 h.1
    have ih := valD_lt r (10 * n + (c.toNat - 48)) h.2
    have e : valD n (c :: r) = valD (10 * n + (c.toNat - 48)) r := rfl
    rw [e, List.length_cons, Nat.pow_succ]
    have h2 : (10 * n + (c.toNat - 48) + 1) * 10 ^ r.length ≤ (10 * (n + 1)) * 10 ^ r.length := Nat.mul_le_mul_right _ (by omega)
    have e2 : (10 * (n + 1)) * 10 ^ r.length = (n + 1) * (10 ^ r.length * 10) := by rw [Nat.mul_comm 10 (n + 1), Nat.mul_assoc, Nat.mul_comm 10]
    omega
theorem valD_small {P : List UInt8} (h : P.all digB = true) (hl : P.length ≤ 17) : valD 0 P < 100000000000000000 := by
  have h1 := valD_lt P 0 h
  have h2 : 10 ^ P.length ≤ 10 ^ 17 := Nat.pow_le_pow_right (by omega) hl
  have e : (10 : Nat) ^ 17 = 100000000000000000 := by decide
  rw [e] at h2
  omega
theorem iter_below (w : World) (s : ByteArray) (pos : Nat) : Below w.heap.size w (w.iter s pos) := by
  unfold World.iter
  exact below_alloc (Below.refl _ _) _
theorem digM_fail {m : Int} {l P R : List UInt8} {c : UInt8} (h : l = P ++ c :: R) (hb : badD l = false) (ho : digB c = false) : digM m l = (0, 150) := by
  unfold digM
  rw [if_neg (by rw [hb]; decide), if_neg]
  rw [h, List.all_append, List.all_cons, ho]
  simp
set_option maxHeartbeats 1000000 in
set_option maxRecDepth 100000 in
theorem digits_bad (l : List UInt8) (hl : l.length < 4611686018427387904) (m : Int) (w : World) (hb : badD l = true) :
    Calls Tryd.prog 34 #[.string (B l), .int .i64 m] w fun e w' => e = .returned (.tuple #[.int .i64 0, .int .i64 150]) ∧ Below w.heap.size w w' := by
  have hs := B_size l
  unfold badD at hb
  by_cases h1 : l.length < 1
  · clear hb
    generalize B l = s at *
    have h1 : s.size < 1 := by omega
    clear hs
    go_enter Tryd.func34, Tryd.ntmps34
    go_wp2
    go_ret2
    exact ⟨rfl, Below.refl _ _⟩
  · by_cases h2 : 18 < l.length
    · clear hb
      generalize B l = s at *
      have h1 : ¬ s.size < 1 := by omega
      have h2 : 18 < s.size := by omega
      clear hs
      go_enter Tryd.func34, Tryd.ntmps34
      go_wp2
      go_ret2
      exact ⟨rfl, Below.refl _ _⟩
    · rw [decide_eq_false h1, decide_eq_false h2, Bool.false_or, Bool.false_or, Bool.and_eq_true, decide_eq_true_eq, beq_iff_eq] at hb
      cases l with
      | nil => simp at h1
      | cons a t =>
        have ha : a = 48 := by simpa using hb.2
        have hx := bt_at (B (a :: t)) 0
        rw [show bt (B (a :: t)) 0 = (a.toNat : Int) from bt_mid [] t a, ha] at hx
        have hx3 : ∀ h : 0 < (B (a :: t)).size, (((B (a :: t))[0]'h).toNat : Int) = 48 := fun h => by rw [ha]; exact hx h
        have hsz : 1 < (B (a :: t)).size := by rw [B_size]; exact hb.1
        have hsz2 : ¬ 18 < (B (a :: t)).size := by rw [B_size]; exact h2
        clear hx hs hb ha h1 h2 hl
        generalize B (a :: t) = s at *
        have hsz0 : 0 < s.size := by omega
        go_enter Tryd.func34, Tryd.ntmps34
        go_wp2
        go_ret2
        exact ⟨rfl, Below.refl _ _⟩
set_option maxHeartbeats 1000000 in
set_option maxRecDepth 100000 in
theorem digits_any (l : List UInt8) (hl : l.length < 4611686018427387904) (m : Int) (w : World) :
    Calls Tryd.prog 34 #[.string (B l), .int .i64 m] w fun e w' => e = .returned (.tuple #[.int .i64 (digM m l).1, .int .i64 (digM m l).2]) ∧ Below w.heap.size w w' := by
  cases hb : badD l with
  | true =>
    have : digM m l = (0, 150) := by unfold digM; rw [if_pos hb]
    rw [this]
    exact digits_bad l hl m w hb
  | false =>
    have hs := B_size l
    have hfail := Lib.hid (fun (P R : List UInt8) (c : UInt8) (h : l = P ++ c :: R) (ho : digB c = false) => digM_fail (m := m) h hb ho)
    have hgood : l.all digB = true → digM m l = (if m < (valD 0 l : Nat) then ((0 : Int), (3 : Int)) else (((valD 0 l : Nat) : Int), (0 : Int))) := fun h => by
      unfold digM
      rw [if_neg (by rw [hb]; decide), if_pos h]
    replace hgood := Lib.hid hgood
    have hbt : ∀ (P R : List UInt8) (c : UInt8), l = P ++ c :: R → bt (B l) (P.length : Int) = (c.toNat : Int) := fun P R c h => by rw [h]; exact bt_mid P R c
    unfold badD at hb
    simp only [Bool.or_eq_false_iff, decide_eq_false_iff_not, Bool.and_eq_false_iff] at hb
    obtain ⟨⟨h1, h2⟩, h3⟩ := hb
    have hx3 : (l.length = 1) ∨ (1 < l.length ∧ ∃ v : Int, (∀ h : 0 < (B l).size, (((B l)[0]'h).toNat : Int) = v) ∧ (v == 48) = false) := by
      rcases h3 with h3 | h3
      · exact .inl (by omega)
      · cases l with
        | nil => simp at h1
        | cons a t =>
          by_cases ht : t = []
          · subst ht; exact .inl rfl
          · refine .inr ⟨by have := List.length_pos_iff.2 ht; simp; omega, (a.toNat : Int), fun h => ?_, ?_⟩
            · have hx := bt_at (B (a :: t)) 0
              rw [show bt (B (a :: t)) 0 = (a.toNat : Int) from bt_mid [] t a] at hx
              exact hx h
            · have : a ≠ 48 := by simpa using h3
              refine beq_eq_false_iff_ne.2 fun e => this ?_
              have := (u8_eq a 48 (by omega)).2 (by omega)
              exact this
    clear h3
    replace hbt := Lib.hid hbt
    obtain ⟨s, hsB⟩ : ∃ s, s = B l := ⟨_, rfl⟩
    rw [← hsB] at hs hx3 hbt ⊢
    clear hsB
    have hs1 : 0 < s.size := by omega
    have hs2 : ¬ 18 < s.size := by omega
    replace hs := Lib.hid hs
    clear h1 h2 hl
    have d1 : decide ((s.size : Int) < 1) = false := decide_eq_false (by omega)
    have d2 : decide (18 < (s.size : Int)) = false := decide_eq_false (by omega)
    have hen : ∀ P : List UInt8, P.length ≤ 17 → P.all digB = true → valD 0 P < 100000000000000000 := fun P h1 h2 => valD_small h2 h1
    replace hen := Lib.hid hen
    have hdone : ∀ (e : Ending), l.all digB = true → (e = .returned (.tuple (if m < (valD 0 l : Nat) then #[.int .i64 0, .int .i64 3] else #[.int .i64 (valD 0 l : Nat), .int .i64 0]))) → e = .returned (.tuple #[.int .i64 (digM m l).1, .int .i64 (digM m l).2]) := fun e h he => by
      rw [hgood.out h, he]
      by_cases hm : m < (valD 0 l : Nat)
      · rw [if_pos hm, if_pos hm]
      · rw [if_neg hm, if_neg hm]
    replace hdone := Lib.hid hdone
    clear hgood
    have hx4 : (Hid (s.size = 1) ∧ decide (1 < (s.size : Int)) = false) ∨ (decide (1 < (s.size : Int)) = true ∧ ∃ v : Int, (∀ h : 0 < s.size, ((s[0]'h).toNat : Int) = v) ∧ (v == 48) = false) := by
      have := hs.out
      rcases hx3 with h | ⟨h, h2⟩
      · exact .inl ⟨Lib.hid (by omega), decide_eq_false (by omega)⟩
      · exact .inr ⟨decide_eq_true (by omega), h2⟩
    clear hx3
    rcases hx4 with ⟨g1, g2⟩ | ⟨g1, v, g2, g3⟩
    all_goals
      go_enter Tryd.func34, Tryd.ntmps34
      go_wp2
      clear d1 d2 g1 g2
      go_loopw [6] (fun n wr => ∃ (P R : List UInt8), l = P ++ R ∧ n = .int .i64 (valD 0 P : Nat) ∧ P.all digB = true ∧ wr = w.iter s P.length) (fun _ wr => s.size - wr.iterPos w.heap.size)
      case atStart => exact ⟨[], l, rfl, rfl, rfl, rfl⟩
      case round =>
        obtain ⟨P, R, hl2, rfl, hall, rfl⟩ := hrel
        replace hl2 := Lib.hid hl2
        have hb := Lib.hid (iter_below w s P.length)
        cases R with
        | nil =>
          have hn : ¬ P.length < s.size := by rw [hs.out, hl2.out]; simp
          have hnx : ∀ ty, (Instr.next (.pointer (some ⟨w.heap.size, 0, none⟩)) true ty).run Tryd.prog (w.iter s P.length) = _ := fun ty => run_next_end w s P.length ty hn
          have e : P = l := by rw [hl2.out, List.append_nil]
          subst e
          obtain ⟨n, hnv⟩ : ∃ n : Int, ((valD 0 P : Nat) : Int) = n := ⟨_, rfl⟩
          rw [hnv] at hdone ⊢
          have hd := Lib.hid (fun e h => hdone.out e hall h)
          clear hdone hall
          replace hnv := Lib.hid hnv
          by_cases hm : m < n
          · go_wp2
            go_ret2
            exact ⟨hd.out _ (by rw [if_pos hm]; rfl), hb.out⟩
          · go_wp2
            go_ret2
            exact ⟨hd.out _ (by rw [if_neg (by omega)]; rfl), hb.out⟩
        | cons c R =>
          have hn : P.length < s.size := by rw [hs.out, hl2.out]; simp
          have hbc := hbt.out P R c hl2.out
          have hx := bt_at s (P.length : Int) hn
          rw [hbc] at hx
          simp only [Int.toNat_natCast] at hx
          have hcs : (s[P.length]'hn).toNat = c.toNat := by omega
          have hen1 := hen.out P (by omega) hall
          obtain ⟨n, hnv⟩ : ∃ n : Nat, valD 0 P = n := ⟨_, rfl⟩
          rw [hnv] at hen1 ⊢
          have hn2 : valD 0 (P ++ [c]) = 10 * n + (c.toNat - 48) := by rw [valD_app, hnv]; rfl
          replace hn2 := Lib.hid hn2
          replace hnv := Lib.hid hnv
          have hf := hfail.out P R c hl2.out
          by_cases ha : c.toNat < 128
          · have hnx : ∀ ty, (Instr.next (.pointer (some ⟨w.heap.size, 0, none⟩)) true ty).run Tryd.prog (w.iter s P.length) = .ok (.tuple #[.bool true, .int .i64 P.length, .int .i32 (c.toNat : Nat)]) (w.iter s (P.length + 1)) := fun ty => by
              rw [run_next_ascii w s P.length ty hn (by omega), hcs]
            have hi := dig_iff c
            clear hx hbc hcs
            replace hb := Lib.hid (iter_below w s (P.length + 1))
            cases ho : digB c with
            | false =>
              have hq := Lib.hid (hf ho)
              have hr : c.toNat < 48 ∨ 57 < c.toNat := by
                have : ¬ (48 ≤ c.toNat ∧ c.toNat ≤ 57) := fun e => by rw [hi.2 e] at ho; cases ho
                omega
              clear hf hi ho
              generalize c.toNat = z at *
              rcases hr with hr | hr
              · go_wp2
                go_ret2
                exact ⟨by rw [hq.out]; rfl, hb.out⟩
              · go_wp2
                go_ret2
                exact ⟨by rw [hq.out]; rfl, hb.out⟩
            | true =>
              obtain ⟨c1, c2⟩ := hi.1 ho
              have hall2 := Lib.hid (show (P ++ [c]).all digB = true by rw [List.all_append, hall, List.all_cons, ho]; rfl)
              clear hf hi ho hall
              generalize c.toNat = z at *
              go_wp2
              go_roundw
              case rel => exact ⟨P ++ [c], R, by rw [hl2.out]; simp, by rw [hn2.out]; go_num, hall2.out, by rw [List.length_append, List.length_singleton]⟩
              case measure => simp; omega
          · have ho : digB c = false := Bool.eq_false_iff.2 fun e => by have := (dig_iff c).1 e; omega
            have hq := Lib.hid (hf ho)
            have hdh := decode_high s P.length hn (by omega)
            have hnx : ∀ ty, (Instr.next (.pointer (some ⟨w.heap.size, 0, none⟩)) true ty).run Tryd.prog (w.iter s P.length) = _ := fun ty => run_next_any w s P.length ty hn
            replace hb := Lib.hid (iter_below w s (P.length + (Utf8.decode s P.length).2))
            obtain ⟨r, hr⟩ : ∃ r, (Utf8.decode s P.length).1 = r := ⟨_, rfl⟩
            obtain ⟨r2, hr2⟩ : ∃ r, (Utf8.decode s P.length).2 = r := ⟨_, rfl⟩
            rw [hr, hr2] at hnx
            rw [hr2] at hb
            rw [hr, hr2] at hdh
            clear hr hr2 hf ho hx hbc hcs ha
            obtain ⟨hr1, _⟩ := hdh
            go_wp2
            go_ret2
            exact ⟨by rw [hq.out]; rfl, hb.out⟩
end Go.Proofs.YtgnibfideghklaaDoor
