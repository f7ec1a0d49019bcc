/-
  Chapter 19: the laws CookieParses and CookiePrints, walked.
-/
import Derived.Test.YtgnibfideghklaaDoorKq
set_option linter.unusedVariables false
set_option linter.unusedSimpArgs false
namespace Go.Proofs.YtgnibfideghklaaDoor
open Go.RowKit Go.Proofs.YtgnibfideghklaaDoorW.PrintWords Go.Proofs.YtgnibfideghklaaDoor.PCookieReads
theorem same_any (L : List S43) (hL : L.length < 4611686018427387904) (A0 A1 : Option Addr) (c0 c1 : Nat) (w : World) (h0 : Kd.C k43 w A0 L.length L) (hc0 : L.length ≤ c0) (h1 : Kd.C k43 w A1 L.length L) (hc1 : L.length ≤ c1) :
    Calls Tryd.prog 13 #[.slice A0 L.length c0, .slice A1 L.length c1] w fun e w' => e = .returned (.bool true) ∧ Below w.heap.size w w' :=
  (atriumlaw19_samePairs.calls _ A0 c0 L A1 c1 L true w h0 hc0 h1 hc1 (same_f L hL)).mono fun e w' ⟨he, hd⟩ => ⟨he, drawn_below hd⟩
theorem rparse_any (l : List UInt8) (hl : l.length < 4294967296) (w : World) :
    Calls Tryd.prog 12 #[.string (B l)] w fun e w' => ∃ v, e = .returned (.tuple #[v, .int .i64 (resP (parseC l)).2]) ∧ Kd.R k43 43 w' w.heap.size (fun _ => True) v (resP (parseC l)).1 ∧ Below w.heap.size w w' :=
  atriumref19_Parse.calls _ _ _ _ w (parse_f hl (2 * l.length + 40) (Nat.le_refl _))
theorem rprint_any (L : List (List UInt8 × List UInt8)) (hS : Small L) (A0 : Option Addr) (c0 : Nat) (w : World) (hC : Kd.C k43 w A0 L.length (L.map SP)) (hc : L.length ≤ c0) :
    Calls Tryd.prog 15 #[.slice A0 L.length c0] w fun e w' => e = .returned (.tuple #[.string (resPr L).1, .int .i64 (resPr L).2]) ∧ Below w.heap.size w w' := by
  have hf := rprint_f L hS 8589934612 (fun p hp => by have := hS p hp; omega)
  have := atriumref19_Print.calls _ A0 c0 (L.map SP) _ _ w (by rw [List.length_map]; exact hC) (by rw [List.length_map]; exact hc) hf
  rw [List.length_map] at this
  exact this.mono fun e w' ⟨he, hd⟩ => ⟨he, drawn_below hd⟩
/-- What a call of either Parse leaves, opened. -/
def Pairs (ps : List S43) (n : Int) (w : World) (e : Ending) (w' : World) : Prop := ∃ A c, e = .returned (.tuple #[.slice A ps.length c, .int .i64 n]) ∧ Hid (∀ W, Below w'.heap.size w' W → Kd.C k43 W A ps.length ps) ∧ ps.length ≤ c ∧ Below w.heap.size w w'
theorem pairs_of {ps : List S43} {n : Int} {w : World} {e : Ending} {w' : World} (h : ∃ v, e = .returned (.tuple #[v, .int .i64 n]) ∧ Kd.R k43 43 w' w.heap.size (fun _ => True) v ps ∧ Below w.heap.size w w') : Pairs ps n w e w' := by
  obtain ⟨v, he, hr, hb⟩ := h
  obtain ⟨A, c, rfl, hle, hC⟩ := Kd.R_reads hr
  exact ⟨A, c, he, Lib.hid fun W hW => Kd.C_below hC hW, hle, hb⟩
set_option maxHeartbeats 1000000 in
set_option maxRecDepth 100000 in
theorem parses_walk (W : World) (hm : MaxL W) (ht : Tab W) (s : ByteArray) (hs : s.size ≤ 1048576) :
    Calls Tryd.prog 4 #[.string s] W fun e w' => e = .returned (.bool true) ∧ Below W.heap.size W w' := by
  obtain ⟨l, rfl⟩ : ∃ l, s = B l := ⟨_, (of_data s).symm⟩
  rw [B_size] at hs
  have hP := Lib.hid (fun w (h : Below W.heap.size W w) => (parse_any l (by omega) w (hm.below h)).mono fun e w' h => pairs_of h)
  have hR := Lib.hid (fun w => (rparse_any l (by omega) w).mono fun e w' h => pairs_of h)
  have hL := Lib.hid (fun w (h : Below W.heap.size W w) => lives_any w (hm.below h) (ht.below h))
  have e0 : ((B l).toList == (B l).toList) = true := by simp
  cases hp : parseC l with
  | none =>
    rw [hp] at hP hR
    have hS := Lib.hid (fun A0 A1 c0 c1 w => same_any [] (by decide) A0 A1 c0 c1 w)
    clear hp hs
    go_enter Tryd.func4, Tryd.ntmps4
    go_wp2_with (first  | (go_at_call 11; go_must (refine (hP.out _ (Below.refl _ _)).mono ?_; rintro e w1 ⟨A0, c0, rfl, hC0, hl0, hb⟩; replace hb := Lib.hid hb))  | (go_at_call 12; go_must (refine (hR.out _).mono ?_; rintro e w2 ⟨A1, c1, rfl, hC1, hl1, hb2⟩; have hq0 := Lib.hid hb2; replace hb := Lib.hid (hb.out.trans (hb2.mono hb.out.size)); clear hb2))  | (go_at_call 10; go_must (refine (hL.out _ hb.out).mono ?_; rintro e w3 ⟨rfl, hb3⟩; have k0 := Lib.hid (hC0.out _ (hq0.out.trans (hb3.mono hq0.out.size))); have k1 := Lib.hid (hC1.out _ hb3); replace hb := Lib.hid (hb.out.trans (hb3.mono hb.out.size)); clear hb3))  | (go_at_call 13; go_must (refine (hS.out _ _ _ _ _ k0.out hl0 k1.out hl1).mono ?_; rintro e w4 ⟨rfl, hb4⟩; replace hb := Lib.hid (hb.out.trans (hb4.mono hb.out.size)); clear hb4)))
    go_ret
    exact ⟨rfl, hb.out⟩
  | some ps =>
    rw [hp] at hP hR
    obtain ⟨h16, hsm⟩ := pairs_small hp
    have hS0 : Small ps := fun p hp => by have := hsm p hp; omega
    have hS := Lib.hid (fun A0 A1 c0 c1 w => same_any (ps.map SP) (by rw [List.length_map]; omega) A0 A1 c0 c1 w)
    have hPr : ∀ A c w, Kd.C k43 w A (ps.map SP).length (ps.map SP) → Calls Tryd.prog 14 #[.slice A (ps.map SP).length c] w fun e w' => e = .returned (.tuple #[.string (B l), .int .i64 0]) ∧ Below w.heap.size w w' := fun A c w h => by
      rw [List.length_map] at h ⊢
      have := print_any ps hS0 A c w h (by omega)
      rw [resPr_some (parse_print hp)] at this
      exact this
    replace hPr := Lib.hid hPr
    have e1 : (resP (some ps)).1 = ps.map SP := rfl
    have e2 : (resP (some ps)).2 = 0 := rfl
    rw [e1, e2] at hP hR
    clear hp hs h16 hsm hS0 e1 e2
    generalize ps.map SP = qs at *
    go_enter Tryd.func4, Tryd.ntmps4
    go_wp2_with (first  | (go_at_call 11; go_must (refine (hP.out _ (Below.refl _ _)).mono ?_; rintro e w1 ⟨A0, c0, rfl, hC0, hl0, hb⟩; replace hb := Lib.hid hb; replace hl0 := Lib.hid hl0))  | (go_at_call 12; go_must (refine (hR.out _).mono ?_; rintro e w2 ⟨A1, c1, rfl, hC1, hl1, hb2⟩; have hq0 := Lib.hid hb2; replace hb := Lib.hid (hb.out.trans (hb2.mono hb.out.size)); clear hb2; replace hl1 := Lib.hid hl1))  | (go_at_call 10; go_must (refine (hL.out _ hb.out).mono ?_; rintro e w3 ⟨rfl, hb3⟩; replace hq0 := Lib.hid (hq0.out.trans (hb3.mono hq0.out.size)); have k0 := Lib.hid (hC0.out _ hq0.out); have k1 := Lib.hid (hC1.out _ hb3); replace hb := Lib.hid (hb.out.trans (hb3.mono hb.out.size)); clear hb3))  | (go_at_call 13; go_must (refine (hS.out _ _ _ _ _ k0.out hl0.out k1.out hl1.out).mono ?_; rintro e w4 ⟨rfl, hb4⟩; have k2 := Lib.hid (Kd.C_below k0.out hb4); replace hb := Lib.hid (hb.out.trans (hb4.mono hb.out.size)); clear hb4))  | (go_at_call 14; go_must (refine (hPr.out _ _ _ k2.out).mono ?_; rintro e w5 ⟨rfl, hb5⟩; replace hb := Lib.hid (hb.out.trans (hb5.mono hb.out.size)); clear hb5)))
    go_ret
    exact ⟨rfl, hb.out⟩
end Go.Proofs.YtgnibfideghklaaDoor
