/-
  Chapter 19: what may stand in a value, in a name, and in a pair: walked.
-/
import Derived.Test.YtgnibfideghklaaDoorKc
import Derived.Test.YtgnibfideghklaaDoorShelf
import Derived.WalkKit
import Derived.WalkLawsBesides
import Derived.WalkSpells
import Derived.Deep.LoopGhost
import Derived.Deep.QuietTactic
import Derived.BigQuiet
import Derived.Deep.DeepFit
set_option linter.unusedVariables false
set_option linter.unusedSimpArgs false
namespace Go.Proofs.YtgnibfideghklaaDoor
open Go.RowKit Go.Proofs.YtgnibfideghklaaDoorW.PrintWords Go.Proofs.YtgnibfideghklaaDoor.PCookieReads
theorem oct_fail {l P R : List UInt8} {c : UInt8} (h : l = P ++ c :: R) (ho : octB c = false) : octL l = false := by
  rw [h, octL, List.all_append, List.all_cons, ho, Bool.false_and, Bool.and_false]
theorem drawn_below {w w' : World} (h : Drawn0 w w') : Below w.heap.size w w' := by
  obtain ⟨n, rfl⟩ := h
  exact pw_below_drewN (Below.refl _ _) n
set_option maxHeartbeats 400000 in
set_option maxRecDepth 100000 in
theorem octets_any (l : List UInt8) (hl : l.length < 4611686018427387904) (w : World) :
    Calls Tryd.prog 40 #[.string (B l)] w fun e w' => e = .returned (.bool (octL l)) ∧ Below w.heap.size w w' := by
  have kb := fun W => print_bytes (P := Tryd.prog) 9 58 5 Tryd.underlying9 Tryd.underlying58 Tryd.underlying5 (B l) W
  have hs := B_size l
  go_enter Tryd.func40, Tryd.ntmps40
  go_wp2
  have hr := bytes_reads w 5 (B l) (by rw [hs]; omega)
  have hb := bytes_below (Below.refl w.heap.size w) (Nat.le_refl _) 5 (B l)
  clear kb
  generalize Lib.bytesWorld w 5 (B l) = V at *
  replace hb := Lib.hid hb
  have hcell : ∀ (P R : List UInt8) (c : UInt8), l = P ++ c :: R → V.cell? ⟨w.heap.size, P.length, none⟩ = some (.int .u8 (c.toNat : Int)) := fun P R c h => by
    obtain ⟨ad, e, hc⟩ := hr.at_ (P.length : Int) (by omega) (by rw [hs, h]; simp; omega)
    injection e with e
    subst e
    rw [rd_bytesOf, h, bt_mid, add_plain] at hc
    simpa using hc
  replace hcell := Lib.hid hcell
  clear hr
  go_loopw [8] (fun i wr => ∃ P R, l = P ++ R ∧ i = .int .i64 (P.length : Nat) ∧ P.all octB = true ∧ Hid (∀ (P R : List UInt8) (c : UInt8), l = P ++ c :: R → wr.cell? ⟨w.heap.size, P.length, none⟩ = some (.int .u8 (c.toNat : Int))) ∧ Below w.heap.size w wr) (fun i _ => l.length - (intOf i).toNat)
  case atStart => exact ⟨[], l, rfl, rfl, rfl, hcell, hb.out⟩
  case round =>
    clear hcell hb
    obtain ⟨P, R, hl2, rfl, hall, hcell, hb⟩ := hrel
    replace hb := Lib.hid hb
    replace hl2 := Lib.hid hl2
    cases R with
    | nil =>
      have hn : P.length = l.length := by rw [hl2.out]; simp
      have hq : octL l = true := by rw [hl2.out, List.append_nil]; exact hall
      replace hq := Lib.hid hq
      clear hall
      go_wp2
      go_ret
      exact ⟨by rw [hq.out]; rfl, hb.out⟩
    | cons c R =>
      have hn : P.length + 1 + R.length = l.length := by rw [hl2.out]; simp; omega
      have hc := hcell.out P R c hl2.out
      have hi := oct_iff c
      have hf := fun h => oct_fail hl2.out h
      obtain ⟨v, hv⟩ : ∃ v : Int, (c.toNat : Int) = v := ⟨_, rfl⟩
      rw [hv] at hc
      have hi2 : octB c = true ↔ 33 ≤ v ∧ v ≤ 126 ∧ v ≠ 34 ∧ v ≠ 44 ∧ v ≠ 59 ∧ v ≠ 92 := by rw [hi]; omega
      have hfail : ¬ (33 ≤ v ∧ v ≤ 126 ∧ v ≠ 34 ∧ v ≠ 44 ∧ v ≠ 59 ∧ v ≠ 92) → octL l = false := fun h => hf (Bool.eq_false_iff.2 fun e => h (hi2.1 e))
      replace hi2 := Lib.hid hi2
      replace hfail := Lib.hid hfail
      clear hi hf hv
      by_cases h1 : v < 33
      · have hq := Lib.hid (hfail.out (by omega))
        go_wp2
        go_ret
        exact ⟨by rw [hq.out]; rfl, hb.out⟩
      by_cases h2 : 126 < v
      · have hq := Lib.hid (hfail.out (by omega))
        go_wp2
        go_ret
        exact ⟨by rw [hq.out]; rfl, hb.out⟩
      by_cases h3 : v = 34
      · have hq := Lib.hid (hfail.out (by omega))
        subst h3
        go_wp2
        go_ret
        exact ⟨by rw [hq.out]; rfl, hb.out⟩
      by_cases h4 : v = 44
      · have hq := Lib.hid (hfail.out (by omega))
        subst h4
        go_wp2
        go_ret
        exact ⟨by rw [hq.out]; rfl, hb.out⟩
      by_cases h5 : v = 59
      · have hq := Lib.hid (hfail.out (by omega))
        subst h5
        go_wp2
        go_ret
        exact ⟨by rw [hq.out]; rfl, hb.out⟩
      by_cases h6 : v = 92
      · have hq := Lib.hid (hfail.out (by omega))
        subst h6
        go_wp2
        go_ret
        exact ⟨by rw [hq.out]; rfl, hb.out⟩
      have ho := hi2.out.2 (by omega)
      clear hfail hi2
      replace ho := Lib.hid ho
      replace hall := Lib.hid hall
      have g3 : (v == 34) = false := beq_eq_false_iff_ne.2 h3
      have g4 : (v == 44) = false := beq_eq_false_iff_ne.2 h4
      have g5 : (v == 59) = false := beq_eq_false_iff_ne.2 h5
      have g6 : (v == 92) = false := beq_eq_false_iff_ne.2 h6
      clear h3 h4 h5 h6
      go_wp2
      go_roundw
      case rel => exact ⟨P ++ [c], R, (by rw [hl2.out]; simp), (by rw [List.length_append, List.length_singleton]; go_num), (by rw [List.all_append, hall.out, List.all_cons, ho.out]; rfl), hcell, hb.out⟩
      case measure => simp [intOf]; omega
end Go.Proofs.YtgnibfideghklaaDoor
