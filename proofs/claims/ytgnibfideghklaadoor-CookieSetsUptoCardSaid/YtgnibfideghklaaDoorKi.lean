/-
  Chapter 19: what may stand in a path; whether a Set-Cookie may be: walked.
-/
import Derived.Test.YtgnibfideghklaaDoorKh
set_option linter.unusedVariables false
set_option linter.unusedSimpArgs false
namespace Go.Proofs.YtgnibfideghklaaDoor
open Go.RowKit Go.Proofs.YtgnibfideghklaaDoorW.PrintWords Go.Proofs.YtgnibfideghklaaDoor.PCookieReads
def pathB (c : UInt8) : Bool := decide (33 ≤ c.toNat) && decide (c.toNat ≤ 126) && !(c == 59)
def pathL (l : List UInt8) : Bool := (l.isEmpty || l.head? == some 47) && l.all pathB
theorem path_iff (c : UInt8) : pathB c = true ↔ 33 ≤ c.toNat ∧ c.toNat ≤ 126 ∧ c.toNat ≠ 59 := by
  have h3 := u8_eq c 59 (by omega)
  have e3 : UInt8.ofNat 59 = 59 := rfl
  rw [e3] at h3
  simp only [pathB, Bool.and_eq_true, decide_eq_true_eq, Bool.not_eq_true', beq_eq_false_iff_ne, ne_eq, h3]
  omega
theorem path_fail {l P R : List UInt8} {c : UInt8} (h : l = P ++ c :: R) (ho : pathB c = false) : pathL l = false := by
  rw [h, pathL, List.all_append, List.all_cons, ho, Bool.false_and, Bool.and_false, Bool.and_false]
set_option maxHeartbeats 1000000 in
set_option maxRecDepth 100000 in
theorem path_any (l : List UInt8) (hl : l.length < 4611686018427387904) (w : World) :
    Calls Tryd.prog 47 #[.string (B l)] w fun e w' => e = .returned (.bool (pathL l)) ∧ Below w.heap.size w w' := by
  cases hhd : (l.isEmpty || l.head? == some 47) with
  | false =>
    have hq : pathL l = false := by unfold pathL; rw [hhd, Bool.false_and]
    rw [hq]
    cases l with
    | nil => simp at hhd
    | cons a t =>
      have hx := bt_at (B (a :: t)) 0
      rw [show bt (B (a :: t)) 0 = (a.toNat : Int) from bt_mid [] t a] at hx
      have ha : ¬ a.toNat = 47 := fun e => by
        have := (u8_eq a 47 (by omega)).2 e
        rw [this] at hhd
        simp at hhd
      have hx2 : (((a.toNat : Nat) : Int) != 47) = true := bne_iff_ne.2 (by omega)
      have hx3 : ∀ h : 0 < (B (a :: t)).size, (((B (a :: t))[0]'h).toNat : Int) = (a.toNat : Int) := fun h => hx h
      clear hx
      have hto : (B (a :: t)).toList.isEmpty = false := by rw [B_toList]; rfl
      have hsz : 0 < (B (a :: t)).size := by rw [B_size]; simp
      generalize (a.toNat : Int) = v at *
      generalize B (a :: t) = s at *
      clear hhd hq ha hl
      go_enter Tryd.func47, Tryd.ntmps47
      go_wp2
      go_ret
      exact ⟨rfl, Below.refl _ _⟩
  | true =>
    have kb := fun W => print_bytes (P := Tryd.prog) 9 58 5 Tryd.underlying9 Tryd.underlying58 Tryd.underlying5 (B l) W
    have hs := B_size l
    have hr := bytes_reads w 5 (B l) (by rw [hs]; omega)
    have hb := bytes_below (Below.refl w.heap.size w) (Nat.le_refl _) 5 (B l)
    have kbw := kb w
    clear kb
    generalize hVV : Lib.bytesWorld w 5 (B l) = V at *
    clear hVV
    replace hb := Lib.hid hb
    have hcell : ∀ (P R : List UInt8) (c : UInt8), l = P ++ c :: R → V.cell? ⟨w.heap.size, P.length, none⟩ = some (.int .u8 (c.toNat : Int)) := fun P R c h => by
      obtain ⟨ad, e, hc⟩ := hr.at_ (P.length : Int) (by omega) (by rw [hs, h]; simp; omega)
      injection e with e
      subst e
      rw [rd_bytesOf, h, bt_mid, add_plain] at hc
      simpa using hc
    replace hcell := Lib.hid hcell
    clear hr
    have hpath : ∀ b, l.all pathB = b → pathL l = b := fun b h => by unfold pathL; rw [hhd, h, Bool.true_and]
    have hsz : l.length = (B l).size := hs.symm
    have hto : (B l).toList.isEmpty = l.isEmpty := by rw [B_toList]
    have hx : l.isEmpty = false → ∀ h : 0 < (B l).size, (((B l)[0]'h).toNat : Int) = 47 := fun hne h => by
      rw [show (((B l)[0]'h).toNat : Int) = bt (B l) 0 from bt_at (B l) 0 h]
      cases l with
      | nil => simp at hne
      | cons a t =>
        have : a = 47 := by simpa using hhd
        rw [this]
        exact bt_mid [] t 47
    replace hsz := Lib.hid hsz
    clear hs hhd
    generalize B l = s at *
    have hl2 : s.size < 4611686018427387904 := by have := hsz.out; omega
    clear hl
    have hgo : ∀ W0, W0 = w → Calls Tryd.prog 47 #[.string s] W0 fun e w' => e = .returned (.bool (pathL l)) ∧ Below w.heap.size w w' := fun W0 hW0 => by
      subst hW0
      cases hem : l.isEmpty with
      | true =>
        rw [hem] at hto
        have hq : pathL l = true := by
          apply hpath
          cases l with
          | nil => rfl
          | cons a t => simp at hem
        have hsz0 : s.size = 0 := by
          cases l with
          | nil => exact hsz.out.symm
          | cons a t => simp at hem
        rw [hq]
        clear hx hpath hem hcell
        go_enter Tryd.func47, Tryd.ntmps47
        go_upto_region 4 with (fail)
        go_loopw [15] (fun i wr => i = .int .i64 0 ∧ Below W0.heap.size W0 wr) (fun i _ => 0)
        case atStart => exact ⟨rfl, hb.out⟩
        case round =>
          obtain ⟨rfl, hb2⟩ := hrel
          go_wp2
          go_ret
          exact ⟨rfl, hb2⟩
      | false =>
        rw [hem] at hto
        have hx2 := hx hem
        have hsz0 : 0 < s.size := by
          cases l with
          | nil => simp at hem
          | cons a t => have := hsz.out; simp at this; omega
        clear hx hem
        replace hpath := Lib.hid hpath
        go_enter Tryd.func47, Tryd.ntmps47
        go_upto_region 4 with (fail)
        clear hx2 hto kbw
        go_loopw [15] (fun i wr => ∃ P R, l = P ++ R ∧ i = .int .i64 (P.length : Nat) ∧ P.all pathB = true ∧ Hid (∀ (P R : List UInt8) (c : UInt8), l = P ++ c :: R → wr.cell? ⟨W0.heap.size, P.length, none⟩ = some (.int .u8 (c.toNat : Int))) ∧ Below W0.heap.size W0 wr) (fun i _ => s.size - (intOf i).toNat)
        case atStart => exact ⟨[], l, rfl, rfl, rfl, hcell, hb.out⟩
        case round =>
          clear hcell hb
          obtain ⟨P, R, hl2, rfl, hall, hcell, hb⟩ := hrel
          replace hb := Lib.hid hb
          replace hl2 := Lib.hid hl2
          cases R with
          | nil =>
            have hn : P.length = s.size := by rw [← hsz.out, hl2.out]; simp
            have hq : pathL l = true := hpath.out _ (by rw [hl2.out, List.append_nil]; exact hall)
            replace hq := Lib.hid hq
            clear hall
            go_wp2
            go_ret
            exact ⟨by rw [hq.out]; rfl, hb.out⟩
          | cons c R =>
            have hn : P.length + 1 + R.length = s.size := by rw [← hsz.out, hl2.out]; simp; omega
            have hc := hcell.out P R c hl2.out
            have hi := path_iff c
            have hf := fun h => path_fail hl2.out h
            obtain ⟨v, hv⟩ : ∃ v : Int, (c.toNat : Int) = v := ⟨_, rfl⟩
            rw [hv] at hc
            have hi2 : pathB c = true ↔ 33 ≤ v ∧ v ≤ 126 ∧ v ≠ 59 := by rw [hi]; omega
            have hfail : ¬ (33 ≤ v ∧ v ≤ 126 ∧ v ≠ 59) → pathL l = false := fun h => hf (Bool.eq_false_iff.2 fun e => h (hi2.1 e))
            replace hi2 := Lib.hid hi2
            replace hfail := Lib.hid hfail
            clear hi hf hv
            by_cases h1 : v < 33
            · have hq := Lib.hid (hfail.out (by omega))
              go_wp2
              go_ret
              exact ⟨by rw [hq.out]; rfl, hb.out⟩
            by_cases h2 : 126 < v
            · have hq := Lib.hid (hfail.out (by omega))
              go_wp2
              go_ret
              exact ⟨by rw [hq.out]; rfl, hb.out⟩
            by_cases h5 : v = 59
            · have hq := Lib.hid (hfail.out (by omega))
              subst h5
              go_wp2
              go_ret
              exact ⟨by rw [hq.out]; rfl, hb.out⟩
            have ho := hi2.out.2 (by omega)
            clear hfail hi2
            replace ho := Lib.hid ho
            replace hall := Lib.hid hall
            have g5 : (v == 59) = false := beq_eq_false_iff_ne.2 h5
            clear h5
            go_wp2
            go_roundw
            case rel => exact ⟨P ++ [c], R, (by rw [hl2.out]; simp), (by rw [List.length_append, List.length_singleton]; go_num), (by rw [List.all_append, hall.out, List.all_cons, ho.out]; rfl), hcell, hb.out⟩
            case measure => simp [intOf]; omega
    exact hgo w rfl
end Go.Proofs.YtgnibfideghklaaDoor
