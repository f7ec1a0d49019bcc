/-
  Chapter 18: the law of the bytes of a reply, walked (printed by gen_writes.py).
-/
import Derived.Test.YthacomeiinejaaaDoorSr
import Derived.Test.YthacomeiinejaaaDoorSv
set_option linter.unusedVariables false
set_option linter.unusedSimpArgs false
namespace Go.Proofs.YthacomeiinejaaaDoor
open Go.RowKit Go.Proofs.YthacomeiinejaaaDoorW.PrintWords Go.Proofs.YthacomeiinejaaaDoor.PReplyWrites
set_option maxHeartbeats 8000000 in
set_option maxRecDepth 100000 in
theorem writes_core (W : World) (htab : Tab W) (st : Int) (w1 : (Lit.int .i64 st).wf = true) (body ck : List UInt8) (cl : Bool) (bh : List UInt8) (hbh : bh.length ≤ 1048576) :
    Calls Tryd.prog 3 #[repV st body ck cl, .string (B bh)] W fun e w' => e = .returned (.bool true) ∧ Below W.heap.size W w' := by
  have hA := Lib.hid (fun V h => awake_any V h)
  have hC := fun V => check_any st w1 body ck cl V
  have hRc := fun V => rcheck_any st body ck cl V
  have hW := fun V h => write_any st w1 body ck cl V h
  have hV := fun V => rwrite_any st w1 body ck cl V
  have ht := Lib.hid htab
  have hR0 := (Rep.drew (w0 := W) (W := W.alloc (.cells #[.int .i64 st, .string (B body), .string (B ck), .bool cl] 23)) ⟨heap_alloc_new W _, below_alloc (Below.refl _ _) _⟩)
  obtain ⟨c, hc⟩ : ∃ c, chkB st body ck = c := ⟨_, rfl⟩
  simp only [hc] at hC hRc hW hV
  unfold repV at hC hRc hW hV ⊢
  clear htab
  cases c with
  | false =>
    simp only [Bool.false_eq_true, if_false] at hC hRc hW hV
    have hP := Lib.hid (fun V (h : Tab V) => parse_any [] (by simp) V h)
    replace hW := Lib.hid hW
    replace hV := Lib.hid hV
    replace hC := Lib.hid hC
    replace hRc := Lib.hid hRc
    go_enter Tryd.func3, Tryd.ntmps3
    go_upto_region 1 with (first | assumption)
    go_region_held3 (fun V => V.cell? ⟨W.heap.size, 0, none⟩ = some (.int .i64 st) ∧ V.cell? ⟨W.heap.size, 1, none⟩ = some (.string (B body)) ∧ V.cell? ⟨W.heap.size, 2, none⟩ = some (.string (B ck)) ∧ V.cell? ⟨W.heap.size, 3, none⟩ = some (.bool cl) ∧ Rep W W.heap.size (.int .i64 st) (.string (B body)) (.string (B ck)) (.bool cl) V) (first | exact hR0 | assumption | exact Rep.next (And.right (And.right (And.right (And.right (by assumption))))) (by assumption)) (first | (go_at_call 9; refine (hA.out _ (ht.out.below (And.right (And.right (And.right (And.right (by assumption : _ ∧ _ ∧ _ ∧ _ ∧ Rep W W.heap.size (.int .i64 st) (.string (B body)) (.string (B ck)) (.bool cl) _))))).bel)).mono ?_; rintro e4 w4 ⟨rfl, hb4⟩) | (go_at_call 10; refine (hC.out _).mono ?_; rintro e4 w4 ⟨rfl, hb4⟩) | (go_at_call 11; refine (hRc.out _).mono ?_; rintro e4 w4 ⟨rfl, hb4⟩))
    all_goals (rename_i hS; obtain ⟨q0, q1, q2, q3, hR⟩ := hS; replace hR := Lib.hid hR)
    all_goals (go_wp2_with (first  | (go_at_call 12; have _t := hW; go_must (refine (hW.out _ (ht.out.below hR.out.bel)).mono ?_; rintro e w2 ⟨rfl, hb2⟩; obtain ⟨q0, q1, q2, q3, hR2⟩ := hR.out.next hb2; replace hR := Lib.hid hR2; clear hR2 hb2; clear hW))  | (go_at_call 13; have _t := hV; go_must (refine (hV.out _).mono ?_; rintro e w2 ⟨rfl, hb2⟩; obtain ⟨q0, q1, q2, q3, hR2⟩ := hR.out.next hb2; replace hR := Lib.hid hR2; clear hR2 hb2; clear hV))  | (go_at_call 14; have _t := hP; go_must (refine (hP.out _ (ht.out.below hR.out.bel)).mono ?_; rintro e w2 ⟨rfl, hb2⟩; obtain ⟨q0, q1, q2, q3, hR2⟩ := hR.out.next hb2; replace hR := Lib.hid hR2; clear hR2 hb2; obtain ⟨p0, p1, p2, p3, hR2⟩ := hR.out.next (below_alloc (Below.refl _ _) (.cells #[.int .i64 st, .string (B body), .string (B ck), .bool cl] 23)); replace hR := Lib.hid hR2; clear hR2; clear hP))))
    all_goals go_ret
    all_goals exact ⟨rfl, hR.out.bel⟩
  | true =>
    simp only [if_true] at hC hRc hW hV
    have hok := chk_ok hc
    have hll := len_write cl hok
    have hP := fun V h => parse_any (writeL st body ck cl ++ bh) (by rw [List.length_append]; omega) V h
    simp only [parse_full cl hok bh, toldV_ok] at hP
    have heq := fun V => rep_eql V st st (B body) (B body) (B ck) (B ck) cl cl
    have e0 : (st == st && ((B body).toList == (B body).toList && ((B ck).toList == (B ck).toList && (cl == cl)))) = true := by simp
    simp only [e0] at heq
    clear e0 hok hc
    generalize writeL st body ck cl = L at *
    have rs := B_size L
    have rs2 := B_size bh
    have r1 : B L ++ B bh = B (L ++ bh) := B_app L bh
    have rl : (9223372036854775807 < (L.length : Int) + (bh.length : Int)) = False := by rw [eq_iff_iff, iff_false]; omega
    replace hP := Lib.hid hP
    replace hW := Lib.hid hW
    replace hV := Lib.hid hV
    replace hC := Lib.hid hC
    replace hRc := Lib.hid hRc
    go_enter Tryd.func3, Tryd.ntmps3
    go_upto_region 1 with (first | assumption)
    go_region_held3 (fun V => V.cell? ⟨W.heap.size, 0, none⟩ = some (.int .i64 st) ∧ V.cell? ⟨W.heap.size, 1, none⟩ = some (.string (B body)) ∧ V.cell? ⟨W.heap.size, 2, none⟩ = some (.string (B ck)) ∧ V.cell? ⟨W.heap.size, 3, none⟩ = some (.bool cl) ∧ Rep W W.heap.size (.int .i64 st) (.string (B body)) (.string (B ck)) (.bool cl) V) (first | exact hR0 | assumption | exact Rep.next (And.right (And.right (And.right (And.right (by assumption))))) (by assumption)) (first | (go_at_call 9; refine (hA.out _ (ht.out.below (And.right (And.right (And.right (And.right (by assumption : _ ∧ _ ∧ _ ∧ _ ∧ Rep W W.heap.size (.int .i64 st) (.string (B body)) (.string (B ck)) (.bool cl) _))))).bel)).mono ?_; rintro e4 w4 ⟨rfl, hb4⟩) | (go_at_call 10; refine (hC.out _).mono ?_; rintro e4 w4 ⟨rfl, hb4⟩) | (go_at_call 11; refine (hRc.out _).mono ?_; rintro e4 w4 ⟨rfl, hb4⟩))
    all_goals (rename_i hS; obtain ⟨q0, q1, q2, q3, hR⟩ := hS; replace hR := Lib.hid hR)
    all_goals (go_wp2_with (first  | (go_at_call 12; have _t := hW; go_must (refine (hW.out _ (ht.out.below hR.out.bel)).mono ?_; rintro e w2 ⟨rfl, hb2⟩; obtain ⟨q0, q1, q2, q3, hR2⟩ := hR.out.next hb2; replace hR := Lib.hid hR2; clear hR2 hb2; clear hW))  | (go_at_call 13; have _t := hV; go_must (refine (hV.out _).mono ?_; rintro e w2 ⟨rfl, hb2⟩; obtain ⟨q0, q1, q2, q3, hR2⟩ := hR.out.next hb2; replace hR := Lib.hid hR2; clear hR2 hb2; clear hV))  | (go_at_call 14; have _t := hP; go_must (refine (hP.out _ (ht.out.below hR.out.bel)).mono ?_; rintro e w2 ⟨rfl, hb2⟩; obtain ⟨q0, q1, q2, q3, hR2⟩ := hR.out.next hb2; replace hR := Lib.hid hR2; clear hR2 hb2; obtain ⟨p0, p1, p2, p3, hR2⟩ := hR.out.next (below_alloc (Below.refl _ _) (.cells #[.int .i64 st, .string (B body), .string (B ck), .bool cl] 23)); replace hR := Lib.hid hR2; clear hR2; clear hP))))
    all_goals go_ret
    all_goals exact ⟨rfl, hR.out.bel⟩
theorem writes_walk (W : World) (htab : Tab W) (a0 : Int) (w0 : (Lit.int .i64 a0).wf = true) (b0 c0 : ByteArray) (e0 : Bool) (zb0 : b0.size ≤ 1048576) (zc0 : c0.size ≤ 1048576) (b1 : ByteArray) (z1 : b1.size ≤ 1048576) :
    Calls Tryd.prog 3 #[.agg #[.int .i64 a0, .string b0, .string c0, .bool e0], .string b1] W fun e w' => e = .returned (.bool true) ∧ Below W.heap.size W w' := by
  have h := writes_core W htab a0 w0 b0.data.toList c0.data.toList e0 b1.data.toList (by rw [len_data']; exact z1)
  unfold repV at h
  rw [of_data, of_data, of_data] at h
  exact h
end Go.Proofs.YthacomeiinejaaaDoor
