/-
  The law of what is found of the first bytes, walked.
-/
import Derived.Test.YtlmlkamgpmnmgaaLives
import Derived.Test.YtlmlkamgpmnmgaaTexts
import Derived.Test.YtlmlkamgpmnmgaaPure
set_option linter.unusedVariables false
set_option linter.unusedSimpArgs false
namespace Go.Proofs.Ytlmlkamgpmnmgaa
open Go.RowKit Go.Proofs.YtlmlkamgpmnmgaaW.PrintWords
theorem row_empty (w : World) (B : Nat) (hB : B ≤ w.heap.size) : Row (w.alloc (.cells #[] 5)) B (.slice (some ⟨w.heap.size, 0, none⟩) 0 0) [] := by
  have h := own_lit w B 5 .u8 [] hB (by simp)
  exact h
theorem scuts (A : Option Addr) (n c h : Nat) (hh : h ≤ n) (hnc : n ≤ c) :
    (∀ W : World, (Instr.slice 22 (.slice A n c) none (some (.int .i64 (h : Int))) none).run Try.prog W = .ok (.slice A h c) W) := by
  intro W
  obtain ⟨i, hi, hz0, hz1, hz2⟩ := info_parts info_str
  have hel : Try.prog.elem 22 = 9 := by simp [Program.elem, Try.underlying22]
  have hu : Try.prog.underlying 22 = some (.slice (Try.prog.elem 22)) := by rw [hel]; exact Try.underlying22
  rw [run_slice_h W 22 A n c hu .i64 (h : Int) (by omega) (by omega), hel]
  have h0 : Option.map (fun x : Addr => x.add 0) A = A := by cases A <;> simp [Addr.add]
  simp [sizeOf, typeInfo, hi, hz1, sliced, Result.andThen, h0]
theorem SRow.rd_of {w : World} {B : Nat} {A : Option Addr} {n c : Nat} {l : List ByteArray} (h : SRow w B (.slice A n c) l) : SRd w A n l ∧ n ≤ c := by
  obtain ⟨A1, c1, he, hr, hc⟩ := h.rd
  injection he with h1 h2 h3
  subst h1 h2 h3
  exact ⟨hr, hc⟩
set_option maxHeartbeats 400000 in
set_option maxRecDepth 100000 in
theorem longer_walk (W : World) (A : Option Addr) (n c : Nat) (l : List UInt8) (hr : Rd W A n l) (hnc : n ≤ c) (hn : n ≤ 1048576) (A2 : Option Addr) (n2 c2 : Nat) (l2 : List UInt8) (hr2 : Rd W A2 n2 l2) (hnc2 : n2 ≤ c2) (hn2 : n2 ≤ 1048576) :
    Calls Try.prog 5 #[.slice A n c, .slice A2 n2 c2] W fun e w' => e = .returned (.bool true) ∧ Below W.heap.size W w' := by
  have hl := Lib.hid (lives_any W)
  have hlen := Lib.hid hr.len
  have hlen2 := Lib.hid hr2.len
  have hP := scanR_longer l l2
  have hPl := hP.length_le
  have hPt : (scanR l).1 = (scanR (l ++ l2)).1.take (scanR l).1.length := by
    obtain ⟨t, ht⟩ := hP
    rw [← ht, List.take_left]
  replace hP := Lib.hid hP
  replace hPt := Lib.hid hPt
  replace hr := Lib.hid hr
  replace hr2 := Lib.hid hr2
  have hE := row_empty
  replace hE := Lib.hid hE
  go_enter Try.func5, Try.ntmps5
  go_upto_region 4 with (first  | (go_at_call 7; go_must (refine hl.out.mono ?_; rintro e w1 ⟨rfl, hb1⟩; have hr1 := Lib.hid (hr.out.below hb1); have hs1 := Lib.hid (scan_any hr1.out hnc (by omega)); replace hb1 := Lib.hid hb1))  | (go_at_call 17; go_must (refine hs1.out.mono ?_; rintro e w2 ⟨v2, rfl, ho2, hb2⟩; have hb3 := Lib.hid (hb1.out.trans (hb2.mono hb1.out.size)); have hr3 := Lib.hid (hr.out.below hb3.out); have hr3b := Lib.hid (hr2.out.below hb3.out); obtain ⟨A3, c3, hve, _, _⟩ := ho2.rd; subst hve; replace hb2 := Lib.hid hb2; replace ho2 := Lib.hid ho2; replace hs1 := Lib.hid hs1)))
  clear hs1
  have hcut : ∀ A c W, (scanR (l ++ l2)).1.length ≤ c → (Instr.slice 22 (.slice A (scanR (l ++ l2)).1.length c) none (some (.int .i64 ((scanR l).1.length : Int))) none).run Try.prog W = .ok (.slice A (scanR l).1.length c) W := fun A c W hc => scuts A _ c _ hPl hc W
  replace hcut := Lib.hid hcut
  have hq : ∀ (w : World) (A A2 : Option Addr) (c c2 : Nat), SRd w A (scanR l).1.length (scanR l).1 → SRd w A2 (scanR (l ++ l2)).1.length (scanR (l ++ l2)).1 → Calls Try.prog 18 #[.slice A (scanR l).1.length c, .slice A2 (scanR l).1.length c2] w fun e w' => e = .returned (.bool true) ∧ Drawn0 w w' := fun w A A2 c c2 h1 h2 => by
    have h3 : SRd w A2 (scanR l).1.length (scanR l).1 := by
      have := h2.take_ (scanR l).1.length hPl
      rwa [← hPt.out] at this
    refine (texts_any h1 h3).mono ?_
    rintro e w' ⟨rfl, hd⟩
    exact ⟨ret_bool (by simp), hd⟩
  replace hq := Lib.hid hq
  have hz : ((scanR l).1.length : Int) ≤ ((scanR (l ++ l2)).1.length : Int) := by omega
  go_wp2_with (first  | (at_builtin; refine w_append_row (w0 := w2) w2.heap.size rfl (.tmp 20) (.tmp 21) rfl rfl rfl (hE.out w2 w2.heap.size (Nat.le_refl _)) (hr3.out.alloc _) ((Below.refl w2.heap.size w2).alloc (Nat.le_refl _) _) (by simp) (by simp; omega) ?_; intro v4 w4 ho4 hb4 hg4; have hr4 := Lib.hid (hr3b.out.below hb4.out))  | (at_builtin; refine w_append_row (w0 := w2) w2.heap.size rfl (.tmp 22) (.tmp 23) rfl rfl rfl ho4.out hr4.out hb4.out hb4.out.size (by simp [hlen.out]; omega) ?_; intro v5 w5 ho5 hb5 hg5; obtain ⟨A5, c5, hve5, hr5, hc5⟩ := ho5.out.rd; rw [List.nil_append, List.length_append, hlen.out, hlen2.out] at hve5 hr5 hc5; subst hve5; have hs5 := Lib.hid (scan_any hr5 hc5 (by omega)); replace hr5 := Lib.hid hr5)  | (go_at_call 17; go_must (refine hs5.out.mono ?_; rintro e w6 ⟨v6, rfl, ho6, hb6⟩; obtain ⟨A6, c6, hve6, hr6, hc6⟩ := ho6.rd; subst hve6; have hcut6 := fun W => hcut.out A6 c6 W hc6; have hb7 := Lib.hid (hb3.out.trans ((hb5.out.trans (hb6.mono hb5.out.size)).mono hb3.out.size)); have hr7 := ho2.out.rd_of.1.below (hb5.out.trans (hb6.mono hb5.out.size)); have hq6 := Lib.hid (hq.out w6 A3 A6 c3 c6 hr7 hr6); replace hr6 := Lib.hid hr6; replace hr7 := Lib.hid hr7; replace ho6 := Lib.hid ho6; replace hb6 := Lib.hid hb6))  | (go_at_call 18; go_must (refine hq6.out.mono ?_; rintro e w8 ⟨rfl, hd8⟩; have hb8 := Lib.hid (hb7.out.trans ((hd8.below).mono hb7.out.size)); replace hd8 := Lib.hid hd8)))
  go_ret
  exact ⟨rfl, hb8.out⟩
end Go.Proofs.Ytlmlkamgpmnmgaa
