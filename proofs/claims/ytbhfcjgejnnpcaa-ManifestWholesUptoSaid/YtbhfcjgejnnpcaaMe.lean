/-
  Chapter 11: levels up to the last one that has files: Clip, trimmed.
-/
import Derived.Test.YtbhfcjgejnnpcaaMd
set_option linter.unusedVariables false
set_option linter.unusedSimpArgs false
namespace Go.Proofs.Ytbhfcjgejnnpcaa
open Go.RowKit Go.Proofs.YtbhfcjgejnnpcaaW.PrintWords Go.Proofs.Ytbhfcjgejnnpcaa.PManifest
def trimL (L : List (List S44)) : List (List S44) := (L.reverse.dropWhile (·.isEmpty)).reverse
theorem trim_nil : trimL [] = [] := rfl
theorem trim_empty (M : List (List S44)) : trimL (M ++ [[]]) = trimL M := by
  unfold trimL
  rw [List.reverse_append, List.reverse_singleton, List.singleton_append, List.dropWhile_cons_of_pos rfl]
theorem trim_full (M : List (List S44)) (x : S44) (r : List S44) : trimL (M ++ [x :: r]) = M ++ [x :: r] := by
  unfold trimL
  rw [List.reverse_append, List.reverse_singleton, List.singleton_append, List.dropWhile_cons_of_neg (by simp)]
  simp
theorem infoL : (Try.prog.info? 41).map (·.size) = some 1 := by kernel_rfl
theorem sliceL_h (W : World) (A : Option Addr) (hA : ∀ ad, A = some ad → ad.add 0 = ad) (n c m : Nat) (hm : m ≤ c) : (Instr.slice 22 (.slice A n c) none (some (.int .i64 (m : Int))) none).run Try.prog W = .ok (.slice A m c) W := by
  have hel : Try.prog.elem 22 = 41 := by simp [Program.elem, Try.underlying22]
  have hu : Try.prog.underlying 22 = some (.slice (Try.prog.elem 22)) := by rw [hel]; exact Try.underlying22
  obtain ⟨i, hi, hsz⟩ := Option.map_eq_some_iff.1 infoL
  rw [run_slice_h W 22 A n c hu .i64 (m : Int) (Int.natCast_nonneg _) (by omega), hel]
  cases A with
  | none => simp [Go.sizeOf, typeInfo, hi, hsz, sliced, Result.andThen]
  | some ad => simp [Go.sizeOf, typeInfo, hi, hsz, sliced, Result.andThen, hA ad rfl]
theorem sliceL_hm (W : World) (A : Option Addr) (hA : ∀ ad, A = some ad → ad.add 0 = ad) (n c m : Nat) (hm : m ≤ c) : (Instr.slice 22 (.slice A n c) none (some (.int .i64 (m : Int))) (some (.int .i64 (m : Int)))).run Try.prog W = .ok (.slice A m m) W := by
  have hel : Try.prog.elem 22 = 41 := by simp [Program.elem, Try.underlying22]
  have hu : Try.prog.underlying 22 = some (.slice (Try.prog.elem 22)) := by rw [hel]; exact Try.underlying22
  obtain ⟨i, hi, hsz⟩ := Option.map_eq_some_iff.1 infoL
  rw [run_slice_hm W 22 A n c hu .i64 .i64 (m : Int) (m : Int) (Int.natCast_nonneg _) (by omega) (by omega), hel]
  cases A with
  | none => simp [Go.sizeOf, typeInfo, hi, hsz, sliced, Result.andThen]
  | some ad => simp [Go.sizeOf, typeInfo, hi, hsz, sliced, Result.andThen, hA ad rfl]
set_option maxRecDepth 100000 in
theorem clip_any (A : Option Addr) (hA : ∀ ad, A = some ad → ad.add 0 = ad) (n c : Nat) (hc : n ≤ c) (hn : n < 1000000000) (w : World) :
    Calls Try.prog 71 #[.slice A n c] w fun e w' => e = .returned (.slice A n n) ∧ w = w' := by
  have s1 := fun W => sliceL_hm W A hA n c n hc
  go_enter Try.func71, Try.ntmps71
  go_wp2
  go_ret
  exact ⟨rfl, rfl⟩
set_option maxHeartbeats 1000000 in
set_option maxRecDepth 100000 in
theorem trimmed_any (L : List (List S44)) (hL : L.length < 1000000) (A : Option Addr) (hA : ∀ ad, A = some ad → ad.add 0 = ad) (c : Nat) (hc : L.length ≤ c) (w : World) (hr : Kd.C (Kd.slice 44 k44) w A L.length L) :
    Calls Try.prog 39 #[.slice A L.length c] w fun e w' => e = .returned (.slice A (trimL L).length (trimL L).length) ∧ w = w' := by
  have hcl : ∀ (M R : List (List S44)) (x : List S44), L = M ++ x :: R → ∃ (ad : Addr) (A0 : Option Addr) (c0 : Nat), A = some ad ∧ w.cell? (ad.add M.length) = some (.slice A0 x.length c0) := fun M R x h => by
    have hl : L.length = M.length + 1 + R.length := by rw [h]; simp; omega
    obtain ⟨ad, A0, c0, e1, e2, _⟩ := at_L3 hr (M.length : Int) (by omega) (by omega)
    have e3 : rd_L3 L (M.length : Int) = x := by rw [h]; exact rdL_mid _ _ _ _ rfl
    rw [e3, Int.toNat_natCast] at e2
    exact ⟨ad, A0, c0, e1, e2⟩
  have s1 : ∀ n m, m ≤ c → ∀ W, (Instr.slice 22 (.slice A n c) none (some (.int .i64 (m : Int))) none).run Try.prog W = .ok (.slice A m c) W := fun n m hm W => sliceL_h W A hA n c m hm
  have hclip := Lib.hid (fun n (h : n ≤ c) (h2 : n < 1000000000) W => clip_any A hA n c h h2 W)
  replace hcl := Lib.hid hcl
  replace s1 := Lib.hid s1
  replace hA := Lib.hid hA
  clear hr
  go_enter Try.func39, Try.ntmps39
  go_wp2
  go_loop [0] (fun v => ∃ M R, L = M ++ R ∧ v = .slice A M.length c ∧ Hid (trimL L = trimL M)) (fun v => match v with | .slice _ n _ => n | _ => 0)
  case atStart => exact ⟨L, [], by simp, rfl, Lib.hid rfl⟩
  case round =>
    obtain ⟨M, R, hLs, rfl, hT⟩ := hrel
    have hn : M.length + R.length = L.length := by rw [hLs]; simp
    rcases List.eq_nil_or_concat M with hM | ⟨M0, x, hM⟩
    · subst hM
      rw [trim_nil] at hT
      replace hLs := Lib.hid hLs
      clear hcl
      go_wp2_with (first | (go_at_call 71; go_must (refine (hclip.out 0 (by omega) (by omega) _).mono ?_; rintro e w' ⟨rfl, rfl⟩)))
      go_ret
      exact ⟨by rw [hT.out]; rfl, rfl⟩
    · rw [List.concat_eq_append] at hM
      subst hM
      obtain ⟨ad, A0, c0, rfl, e2⟩ := hcl.out M0 R x (by rw [hLs]; simp)
      have i1 : IntKind.i64.wrap ((M0.length : Int) + 1 - 1) = (M0.length : Int) := by rw [Int.add_sub_cancel]; exact IntWalk.i64_in _ (by simp at hn; omega)
      have hs := s1.out (M0.length + 1) M0.length (by simp at hn; omega)
      have hn2 : M0.length + 1 + R.length = L.length := by rw [← hn]; simp
      rw [List.length_append, List.length_singleton]
      clear hcl s1 hn
      cases x with
      | nil =>
        rw [trim_empty] at hT
        have hLs2 : Hid (L = M0 ++ [] :: R) := Lib.hid (by rw [hLs]; simp)
        clear hLs
        go_wp2
        go_round
        case rel => exact ⟨M0, [] :: R, hLs2.out, rfl, hT⟩
        case measure => simp
      | cons x r =>
        rw [trim_full] at hT
        have k : (((x :: r).length : Int) == 0) = false := beq_eq_false_iff_ne.2 (by simp; omega)
        replace hLs := Lib.hid hLs
        go_wp2_with (first | (go_at_call 71; go_must (refine (hclip.out (M0.length + 1) (by omega) (by omega) _).mono ?_; rintro e w' ⟨rfl, rfl⟩)))
        go_ret
        exact ⟨by rw [hT.out]; simp, rfl⟩
end Go.Proofs.Ytbhfcjgejnnpcaa
