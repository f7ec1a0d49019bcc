/-
  Chapter 19: the chapter's example, walked.
-/
import Derived.Test.YtgnibfideghklaaDoorKm
set_option linter.unusedVariables false
set_option linter.unusedSimpArgs false
namespace Go.Proofs.YtgnibfideghklaaDoor
open Go.RowKit Go.Proofs.YtgnibfideghklaaDoorW.PrintWords Go.Proofs.YtgnibfideghklaaDoor.PCookieReads
def exL : List UInt8 := [97, 61, 49, 59, 32, 98, 61, 34, 50, 34]
def exP : List (List UInt8 × List UInt8) := [([97], [49]), ([98], [34, 50, 34])]
theorem ex_parse : parseC exL = some exP := by decide +kernel
theorem ex_find : findC [98] [exL] = some [50] := by decide +kernel
def exC : Ck := ⟨[115, 105, 100], [120], [47], 0, false, true, false, []⟩
def exS : List UInt8 := [115, 105, 100, 61, 120, 59, 32, 80, 97, 116, 104, 61, 47, 59, 32, 72, 116, 116, 112, 79, 110, 108, 121]
theorem ex_set : setR exC = (exS, 0) := by decide +kernel
theorem strs_C (W : World) (V : List (List UInt8)) (hV : V.length ≤ 1000) : Kd.C Kd.string (W.alloc (.cells (V.map fun l => Value.string (B l)).toArray 9)) (some ⟨W.heap.size, 0, none⟩) V.length (V.map B) := by
  have h0 := own_lit_of (enc := Value.string) W W.heap.size 9 (V.map B) (Nat.le_refl _) (by rw [List.length_map]; omega)
  have h1 := Kd.R_of_own (h1 := fun _ => rfl) (ok := fun _ => True) h0 (fun _ _ => trivial)
  obtain ⟨A, c, hv, hle, hC⟩ := Kd.R_reads h1
  injection hv with hA _ hc
  subst hA
  rw [List.length_map] at hC
  have e : encs Value.string (V.map B) = V.map fun l => Value.string (B l) := by
    unfold encs
    rw [List.map_map]
    rfl
  rw [e] at hC
  exact hC
set_option maxHeartbeats 1000000 in
set_option maxRecDepth 100000 in
theorem lives_any (w : World) (hm : MaxL w) (ht : Tab w) :
    Calls Tryd.prog 10 #[] w fun e w' => e = .returned (.bool true) ∧ Below w.heap.size w w' := by
  have hP : Calls Tryd.prog 11 #[.string ⟨#[97, 61, 49, 59, 32, 98, 61, 34, 50, 34]⟩] w fun e w' => ∃ g c, e = .returned (.tuple #[.slice (some ⟨g, 0, none⟩) 2 c, .int .i64 0]) ∧ Below w.heap.size w w' ∧ Hid (∀ W, Below w'.heap.size w' W → W.cell? ⟨g, 3, none⟩ = some (.string ⟨#[34, 50, 34]⟩)) := by
    refine (parse_any exL (by decide) w hm).mono ?_
    rintro e w' ⟨x, he, hr, hb⟩
    rw [ex_parse] at he hr
    obtain ⟨g, cap, hv, _, _, _⟩ := Kd.R_form hr (by decide)
    obtain ⟨A, c, hx, _, hC⟩ := Kd.R_reads hr
    rw [hv] at hx
    injection hx with hA _ hc
    subst hA hc hv
    have hC2 : Kd.C k43 w' (some ⟨g, 0, none⟩) exP.length (exP.map SP) := hC
    refine ⟨g, cap, he, hb, Lib.hid fun W hW => ?_⟩
    obtain ⟨ad2, e2, k3, k4⟩ := pair_at (Kd.C_below hC2 hW) (P := [([97], [49])]) (p := ([98], [34, 50, 34])) (R := []) rfl
    injection e2 with e2
    subst e2
    rw [add_plain] at k4
    exact k4
  have hF : ∀ W, MaxL W → Calls Tryd.prog 8 #[.slice (some ⟨W.heap.size, 0, none⟩) 1 1, .string ⟨#[98]⟩] (W.alloc (.cells #[.string ⟨#[97, 61, 49, 59, 32, 98, 61, 34, 50, 34]⟩] 9)) fun e w' => e = .returned (.tuple #[.string ⟨#[50]⟩, .bool true]) ∧ Below W.heap.size W w' := fun W h => by
    have hb := below_alloc (Below.refl W.heap.size W) (.cells #[.string ⟨#[97, 61, 49, 59, 32, 98, 61, 34, 50, 34]⟩] 9)
    refine (find_any [exL] (some ⟨W.heap.size, 0, none⟩) 1 [98] _ (strs_C W [exL] (by decide)) (by decide) (by decide) (h.below hb)).mono ?_
    rintro e w' ⟨he, hb2⟩
    rw [ex_find] at he
    exact ⟨he, hb.trans (hb2.mono hb.size)⟩
  have hS : ∀ W, Tab W → Calls Tryd.prog 16 #[.agg #[.string ⟨#[115, 105, 100]⟩, .string ⟨#[120]⟩, .string ⟨#[47]⟩, .int .i64 0, .bool false, .bool true, .bool false, .string ⟨#[]⟩]] W fun e w' => e = .returned (.tuple #[.string ⟨#[115, 105, 100, 61, 120, 59, 32, 80, 97, 116, 104, 61, 47, 59, 32, 72, 116, 116, 112, 79, 110, 108, 121]⟩, .int .i64 0]) ∧ Below W.heap.size W w' := fun W h => by
    refine (set_any exC ⟨by decide, by decide, by decide, by decide, by decide, by decide⟩ W h).mono ?_
    rintro e w' ⟨he, hb2⟩
    rw [ex_set] at he
    exact ⟨he, hb2⟩
  replace hP := Lib.hid hP
  replace hF := Lib.hid hF
  replace hS := Lib.hid hS
  replace hm := Lib.hid hm
  replace ht := Lib.hid ht
  go_enter Tryd.func10, Tryd.ntmps10
  go_wp2_with (first  | (go_at_call 11; go_must (refine hP.out.mono ?_; rintro e w1 ⟨g, c, rfl, hb1, hk⟩; replace hb := Lib.hid hb1; clear hb1))  | (go_at_call 8; go_must (refine (hF.out _ (hm.out.below hb.out)).mono ?_; rintro e w2 ⟨rfl, hb2⟩; replace hb1 := hb; replace hb := Lib.hid (hb.out.trans (hb2.mono hb.out.size)); replace hb2 := Lib.hid hb2))  | (go_at_call 16; go_must (refine (hS.out _ (ht.out.below hb.out)).mono ?_; rintro e w3 ⟨rfl, hb3⟩; have k4 := hk.out _ (hb2.out.trans (hb3.mono hb2.out.size)); replace hb := Lib.hid (hb.out.trans (hb3.mono hb.out.size)); clear hb3)))
  go_ret
  exact ⟨rfl, hb.out⟩
end Go.Proofs.YtgnibfideghklaaDoor
