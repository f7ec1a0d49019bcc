/-
  Chapter 28: a writer's line, walked.
-/
import Derived.Test.YtigcgpbdifihoaaDoorNe
import Derived.Deep.CutBlock
import Derived.Deep.DeepCutAuto
set_option linter.unusedVariables false
set_option linter.unusedSimpArgs false
namespace Go.Proofs.YtigcgpbdifihoaaDoor
open Go.RowKit Go.Proofs.YtigcgpbdifihoaaDoorW.PrintWords Go.Proofs.YtigcgpbdifihoaaDoor.PScriptRequests
attribute [local go_sem high] as_s as_qs as_qq as_us as_uq as_uu as_is as_iq as_iu as_ii
set_option maxHeartbeats 400000 in
set_option maxRecDepth 100000 in
theorem line_any (ws : List Wd) (hw : ∀ x ∈ ws, x.ok) {C D b k cap : Nat} {l : List UInt8} {g : Bool} {w : World} (hlen : l.length + (lineL ws).length ≤ 140737488355328)
    (h : IB 63 [.bool g] C b l w) (hC : C ≤ w.heap.size) (htab : TB C w) (hn : ws.length < 1000000000)
    (hrow : w.ownsRow D 20 1 (.slice (some ⟨k, 0, none⟩) ws.length cap) ws.length (ws.map Wd.val)) :
    Calls Tryd.prog 20 #[.pointer (some ⟨b, 0, none⟩), .slice (some ⟨k, 0, none⟩) ws.length cap] w fun e w' => e = .returned (.tuple #[]) ∧ IB 63 [.bool (g || ws.any Wd.bad)] C b (l ++ lineL ws) w' ∧ Fr C b w w' := by
  have hcell := row_cell h (by decide) hrow
  clear hrow
  rw [lineL, List.length_append, List.length_singleton] at hlen
  have hCb := h.ge
  replace h := Lib.hid h
  replace hcell := Lib.hid hcell
  replace htab := Lib.hid htab
  go_enter Tryd.func20, Tryd.ntmps20
  go_wp2
  go_loopw [13] (fun i wr => ∃ P R, ws = P ++ R ∧ i = .int .i64 (P.length : Nat) ∧ Hid (IB 63 [.bool (g || P.any Wd.bad)] C b (l ++ wordsL P) wr) ∧ Hid (Fr C b w wr)) (fun i _ => ws.length - (intOf i).toNat)
  case atStart => exact ⟨[], ws, rfl, rfl, by rw [wordsL, List.append_nil, List.any_nil, Bool.or_false]; exact h, Lib.hid (Fr.refl _ _ _)⟩
  case round =>
    obtain ⟨P, R, hl2, rfl, hi, hf⟩ := hrel
    clear h
    cases R with
    | nil =>
      rw [List.append_nil] at hl2
      subst hl2
      have hC2 : C ≤ wr.heap.size := Nat.le_trans hC hf.out.1.size
      have hQ : lineL ws = wordsL ws ++ [10] := rfl
      generalize wordsL ws = Q at *
      replace hQ := Lib.hid hQ
      go_wp2_with (first | (go_at_call 26; go_must ((with_reducible refine (wb_int (okt_writer _) hi.out hC2 10 10 e10 (by simp; omega)).mono ?_); rintro e w2 ⟨rfl, h1, hf1⟩)))
      go_end0
      exact ⟨rfl, by rw [hQ.out, ← List.append_assoc]; exact h1.ib, hf.out.trans hf1⟩
    | cons x R =>
      have hn2 : P.length + 1 + R.length = ws.length := by rw [hl2]; simp; omega
      have c1 := hcell.out wr hf.out P x R hl2
      have hx := hw x (by rw [hl2]; simp)
      have hC2 : C ≤ wr.heap.size := Nat.le_trans hC hf.out.1.size
      have hPn : P.length < ws.length := by omega
      replace hl2 := Lib.hid hl2
      replace hn2 := Lib.hid hn2
      go_upto_block 2 with (fail)
      go_cut [6] (fun v V => v = .string (B x.txt) ∧ IB 63 [.bool (g || (P ++ [x]).any Wd.bad)] C b (l ++ wordsL P) V ∧ Fr C b w V)
      case first =>
        have hany : (P ++ [x]).any Wd.bad = (P.any Wd.bad || x.bad) := by simp
        obtain ⟨q, hq0⟩ : ∃ q, (g || P.any Wd.bad) = q := ⟨_, rfl⟩
        rw [hq0] at hi
        replace hany : Hid ((g || (P ++ [x]).any Wd.bad) = (q || x.bad)) := Lib.hid (by rw [hany, ← hq0, Bool.or_assoc])
        clear hq0
        cases x with
        | str m =>
          unfold Wd.val
          go_wp2
          go_meet
          exact ⟨rfl, by rw [hany.out]; exact (Bool.or_false q).symm ▸ hi.out, hf.out⟩
        | quo m =>
          have hq := quote_any m hx wr
          unfold Wd.val
          go_wp2_with (go_at_call 12; go_must (refine hq.mono ?_; rintro e w2 ⟨rfl, hb2⟩))
          go_meet
          exact ⟨rfl, by rw [hany.out]; exact (Bool.or_false q).symm ▸ hi.out.below hb2, hf.out.trans (Fr.of_below hC2 hb2)⟩
        | great m =>
          have hq := fmt_any m hx wr (htab.out.next hf.out.1).tab
          unfold Wd.val
          go_wp2_with (go_at_call 38; go_must (refine hq.mono ?_; rintro e w2 ⟨rfl, hb2⟩))
          go_meet
          exact ⟨rfl, by rw [hany.out]; exact (Bool.or_false q).symm ▸ hi.out.below hb2, hf.out.trans (Fr.of_below hC2 hb2)⟩
        | num m =>
          obtain ⟨c2, f2⟩ := hi.out.cell2
          have hT := Lib.hid (htab.out.next hf.out.1)
          have hs := Lib.hid (fun W (hW : Below C wr W) => short_any m hx.1 hx.2 W (hT.out.next hW).tab)
          have hi2 := Lib.hid (fun W (hW : Below C wr W) => itoa_any m hx.1 hx.2 W (hT.out.next hW).tab)
          unfold Wd.val
          cases q
          · go_wp2_with (first | (go_at_call 39; go_must (refine (hs.out _ (Below.refl _ _)).mono ?_; rintro e w2 ⟨rfl, hb2⟩; have hi3 := Lib.hid (hi.out.below hb2); obtain ⟨c3, f3⟩ := hi3.out.cell2; have hF := Lib.hid ((Fr.of_below (b := b) hC2 hb2).flag hCb (.bool (!shortB m))); have hi4 := Lib.hid (hi3.out.flag (!shortB m)); clear hb2 c2 f2 hi hi3 hs)) | (go_at_call 24; go_must (refine (hi2.out _ hF.out.1).mono ?_; rintro e w3 ⟨rfl, hb3⟩)))
            go_meet
            exact ⟨rfl, by rw [hany.out]; exact hi4.out.below hb3, hf.out.trans (hF.out.trans (Fr.of_below (Nat.le_trans hC2 hF.out.1.size) hb3))⟩
          · have hF := Lib.hid ((Fr.refl C b wr).flag hCb (.bool true))
            have hi4 := Lib.hid (hi.out.flag true)
            go_wp2_with (first | (go_at_call 24; go_must (refine (hi2.out _ hF.out.1).mono ?_; rintro e w3 ⟨rfl, hb3⟩)))
            go_meet
            exact ⟨rfl, by rw [hany.out]; exact hi4.out.below hb3, hf.out.trans (hF.out.trans (Fr.of_below (Nat.le_trans hC2 hF.out.1.size) hb3))⟩
      case rest =>
      clear hi hf c1
      obtain ⟨rfl, hi, hf⟩ := hcut
      replace hf := Lib.hid hf
      have hC3 := Nat.le_trans hC hf.out.1.size
      have b1 := words_len P R x
      rw [← hl2.out] at b1
      have hend : ∀ W, IB 63 [.bool (g || (P ++ [x]).any Wd.bad)] C b (l ++ wordsL (P ++ [x])) W → Fr C b w W → ∃ P' R', ws = P' ++ R' ∧ Value.int .i64 (P.length + 1 : Nat) = .int .i64 (P'.length : Nat) ∧ Hid (IB 63 [.bool (g || P'.any Wd.bad)] C b (l ++ wordsL P') W) ∧ Hid (Fr C b w W) :=
        fun W h1 h2 => ⟨P ++ [x], R, by rw [hl2.out]; simp, by simp, Lib.hid h1, Lib.hid h2⟩
      replace hend := Lib.hid hend
      generalize (g || (P ++ [x]).any Wd.bad) = q at *
      replace hi := Lib.hid hi
      have hm : ws.length - (P.length + 1) < ws.length - P.length := by omega
      by_cases hP : P = []
      · subst hP
        rw [List.nil_append, words_one] at hend
        generalize x.txt = X at *
        go_wp2_with (first | (go_at_call 27; go_must (refine (ws_any (okt_writer q) hi.out hC3 X (by have e0 : wordsL ([] : List Wd) = [] := rfl; rw [e0] at b1 ⊢; simp at b1 ⊢; omega)).mono ?_; rintro e w2 ⟨rfl, h1, hf1⟩)))
        go_roundw
        case rel => exact hend.out _ (by rw [← List.append_nil l]; exact h1.ib) (hf.out.trans hf1)
        case measure => simp [intOf]; omega
      · have b2 := words_len1 P R x hP
        have hP2 : 0 < P.length := List.length_pos_iff.2 hP
        rw [words_app P x hP] at hend
        rw [← hl2.out] at b2
        generalize x.txt = X at *
        generalize wordsL P = Q at *
        go_wp2_with (first | (go_at_call 26; go_must ((with_reducible refine (wb_int (okt_writer q) hi.out hC3 32 32 e32 (by simp; omega)).mono ?_); rintro e w2 ⟨rfl, h1, hf1⟩; replace hi := Lib.hid h1.ib; replace hf := Lib.hid (hf.out.trans hf1); clear h1 hf1; replace hC3 := Nat.le_trans hC hf.out.1.size)) | (go_at_call 27; go_must (refine (ws_any (okt_writer q) hi.out hC3 X (by simp; omega)).mono ?_; rintro e w3 ⟨rfl, h1, hf1⟩)))
        go_roundw
        case rel => exact hend.out _ (by simpa using h1.ib) (hf.out.trans hf1)
        case measure => simp [intOf]; omega
end Go.Proofs.YtigcgpbdifihoaaDoor
