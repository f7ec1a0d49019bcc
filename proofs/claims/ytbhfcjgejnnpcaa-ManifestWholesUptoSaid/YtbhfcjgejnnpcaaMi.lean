/-
  Chapter 11: where a file of a number lies (slices.IndexFunc), walked.
-/
import Derived.Test.YtbhfcjgejnnpcaaMh
set_option linter.unusedVariables false
set_option linter.unusedSimpArgs false
namespace Go.Proofs.Ytbhfcjgejnnpcaa
open Go.RowKit Go.Proofs.YtbhfcjgejnnpcaaW.PrintWords Go.Proofs.Ytbhfcjgejnnpcaa.PManifest
def ixI (num : Int) (l : List S44) : Int := match l.findIdx? (fun t => t.f0 == num) with | some k => (k : Int) | none => -1
theorem ix_hit (num : Int) (P R : List S44) (t : S44) (hP : ∀ x ∈ P, (x.f0 == num) = false) (ht : (t.f0 == num) = true) : ixI num (P ++ t :: R) = (P.length : Int) := by
  unfold ixI
  rw [List.findIdx?_append, List.findIdx?_eq_none_iff.2 (by intro x hx; simpa using hP x hx), List.findIdx?_cons, if_pos ht]
  simp
theorem ix_none (num : Int) (P : List S44) (hP : ∀ x ∈ P, (x.f0 == num) = false) : ixI num P = -1 := by
  unfold ixI
  rw [List.findIdx?_eq_none_iff.2 (by intro x hx; simpa using hP x hx)]
set_option maxRecDepth 100000 in
theorem same_any (t : S44) (gb : Nat) (num : Int) (W : World) (hp : W.cell? ⟨gb, 1, none⟩ = some (.int .i64 num)) :
    Calls Try.prog 36 #[.agg #[.int .i64 t.f0, .int .i64 t.f1, .int .i64 t.f2, .string t.f3, .string t.f4], .pointer (some ⟨gb, 0, none⟩)] W fun e w' => e = .returned (.bool (t.f0 == num)) ∧ Below W.heap.size W w' := by
  have hb := below_alloc (Below.refl W.heap.size W) (.cells #[.int .i64 t.f0, .int .i64 t.f1, .int .i64 t.f2, .string t.f3, .string t.f4] 44)
  have hp2 := pw_cell_below hb hp
  replace hb := Lib.hid hb
  go_enter Try.func36, Try.ntmps36
  go_wp2
  go_ret
  exact ⟨rfl, hb.out⟩
set_option maxHeartbeats 1000000 in
set_option maxRecDepth 100000 in
theorem index_any (l : List S44) (hl : l.length < 1000000000) (num : Int) (gb : Nat) (A : Option Addr) (c : Nat) (w : World) (hr : Kd.C k44 w A l.length l) (hc : l.length ≤ c) (hp : w.cell? ⟨gb, 1, none⟩ = some (.int .i64 num)) :
    Calls Try.prog 35 #[.slice A l.length c, .func (.func 36) #[] #[.pointer (some ⟨gb, 0, none⟩)]] w fun e w' => e = .returned (.int .i64 (ixI num l)) ∧ Below w.heap.size w w' := by
  replace hr := Lib.hid hr
  replace hp := Lib.hid hp
  go_enter Try.func35, Try.ntmps35
  go_wp2
  go_loopw [8] (fun i wr => ∃ P R, l = P ++ R ∧ i = .int .i64 (P.length : Nat) ∧ Hid (∀ x ∈ P, (x.f0 == num) = false) ∧ Hid (Below w.heap.size w wr)) (fun i _ => l.length - (intOf i).toNat)
  case atStart => exact ⟨[], l, rfl, rfl, Lib.hid (by simp), Lib.hid (Below.refl _ _)⟩
  case round =>
    rename World => wr
    obtain ⟨P, R, hls, rfl, hP, hb⟩ := hrel
    cases R with
    | nil =>
      have hn : P.length = l.length := by rw [hls]; simp
      have hq : ixI num l = -1 := by rw [hls, List.append_nil]; exact ix_none num P hP.out
      replace hq := Lib.hid hq
      replace hls := Lib.hid hls
      go_wp2
      go_ret
      exact ⟨by rw [hq.out]; rfl, hb.out⟩
    | cons t R =>
      have hn : P.length + 1 + R.length = l.length := by rw [hls]; simp; omega
      obtain ⟨ad, rfl, c0, c1, c2, c3, c4⟩ := at_T44 (Kd.C_below hr.out hb.out) (P.length : Int) (by omega) (by omega)
      have e5 : rd_T44 l (P.length : Int) = t := by rw [hls]; exact rd_mid _ _ _ _ rfl
      rw [e5, Int.toNat_natCast] at c0 c1 c2 c3 c4
      have hcall := Lib.hid (same_any t gb num wr (pw_cell_below hb.out hp.out))
      cases hx : (t.f0 == num) with
      | true =>
        have hq : ixI num l = (P.length : Int) := by rw [hls]; exact ix_hit num P R t hP.out hx
        rw [hx] at hcall
        replace hx := Lib.hid hx
        replace hq := Lib.hid hq
        replace hls := Lib.hid hls
        clear e5
        go_wp2_with (first | (go_at_call 36; go_must (refine hcall.out.mono ?_; rintro e w4 ⟨rfl, hb4⟩; replace hb4 := Lib.hid hb4)))
        go_ret
        exact ⟨by rw [hq.out]; rfl, hb.out.trans (hb4.out.mono hb.out.size)⟩
      | false =>
        have hls2 : Hid (l = (P ++ [t]) ++ R) := Lib.hid (by rw [hls]; simp)
        have hP2 : Hid (∀ x ∈ P ++ [t], (x.f0 == num) = false) := Lib.hid (fun x h => by
          rcases List.mem_append.1 h with h | h
          · exact hP.out x h
          · simp at h
            rw [h]
            exact hx)
        rw [hx] at hcall
        replace hx := Lib.hid hx
        clear hls e5
        go_wp2_with (first | (go_at_call 36; go_must (refine hcall.out.mono ?_; rintro e w4 ⟨rfl, hb4⟩; replace hb4 := Lib.hid hb4; clear c0 c1 c2 c3 c4)))
        go_roundw
        case rel => exact ⟨P ++ [t], R, hls2.out, by simp, hP2, Lib.hid (hb.out.trans (hb4.out.mono hb.out.size))⟩
        case measure => simp [intOf]; omega
end Go.Proofs.Ytbhfcjgejnnpcaa
