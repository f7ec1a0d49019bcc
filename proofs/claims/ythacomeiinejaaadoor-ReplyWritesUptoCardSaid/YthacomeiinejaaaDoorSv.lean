/-
  Chapter 18: the reference's Write, walked.
-/
import Derived.Test.YthacomeiinejaaaDoorSr
set_option linter.unusedVariables false
set_option linter.unusedSimpArgs false
namespace Go.Proofs.YthacomeiinejaaaDoor
open Go.RowKit Go.Proofs.YthacomeiinejaaaDoorW.PrintWords Go.Proofs.YthacomeiinejaaaDoor.PReplyWrites
set_option maxHeartbeats 8000000 in
set_option maxRecDepth 100000 in
theorem rwrite_any (st : Int) (hst : (Lit.int .i64 st).wf = true) (body ck : List UInt8) (cl : Bool) (w : World) :
    Calls Tryd.prog 13 #[repV st body ck cl] w fun e w' => e = .returned (.tuple #[.string (B (if chkB st body ck = true then writeL st body ck cl else [])), .int .i64 (if chkB st body ck = true then 0 else 180)]) ∧ Below w.heap.size w w' := by
  have hC := Lib.hid (fun V => rcheck_any st body ck cl V)
  have hst2 := hst
  simp only [Lit.wf, IntKind.min, IntKind.max, IntKind.signed, IntKind.bits, Bool.and_eq_true, decide_eq_true_eq, if_true] at hst2
  obtain ⟨c, hc⟩ : ∃ c, chkB st body ck = c := ⟨_, rfl⟩
  rw [hc] at hC ⊢
  cases c with
  | false =>
    rw [if_neg (by simp), if_neg (by simp)]
    rw [if_neg (by simp)] at hC
    unfold repV at hC ⊢
    go_enter Tryd.func13, Tryd.ntmps13
    go_wp2_with (first | (go_at_call 11; go_must (refine (hC.out _).mono ?_; rintro e w1 ⟨rfl, hb1⟩; replace hb1 := Lib.hid ((below_alloc (Below.refl w.heap.size w) _).trans (hb1.mono (by simp))))))
    go_ret2
    exact ⟨rfl, hb1.out⟩
  | true =>
    rw [if_pos rfl, if_pos rfl]
    rw [if_pos rfl] at hC
    have hok := chk_ok hc
    obtain ⟨hr0, hr1⟩ := st_range hok
    clear hok
    simp only [chkB, Bool.and_eq_true, decide_eq_true_eq] at hc
    obtain ⟨⟨⟨⟨hw, hbl⟩, h204⟩, hkl⟩, hpl⟩ := hc
    obtain ⟨W, hW⟩ : ∃ W, wordsB st = B W := ⟨_, (of_data _).symm⟩
    have hWd : (wordsB st).data.toList = W := by rw [hW, B_data]
    have hWl : W.length ≤ 64 := by
      rw [← hWd, len_data']
      unfold wordsB
      cases hf : stats.find? (fun p => p.1 == st) with
      | none => exact Nat.zero_le _
      | some q => exact (st_small q (List.mem_of_find?_eq_some hf)).1
    have hline : lineL (st, wordsB st) = Lib.itoa st ++ [32] ++ W ++ crlfL := by rw [lineL, hWd]
    have hfin : writeL st body ck cl = verL ++ (Lib.itoa st ++ [32] ++ W ++ crlfL) ++ E0 st body.length ck cl ++ body := by rw [writeL, HL, hline]
    have hWo := fun V => (rwords_any st V).mono (R' := fun e w' => e = .returned (.string (wordsB st)) ∧ Below V.heap.size V w') (by rintro e w' ⟨h, n, rfl⟩; exact ⟨h, pw_below_drewN (Below.refl _ _) n⟩)
    simp only [hW] at hWo
    replace hWo := Lib.hid hWo
    have hIt := (fun V (_ : Hs w w.heap.size st body ck cl V) => digits_any st.toNat (by omega) V)
    have hsn : ((st.toNat : Nat) : Int) = st := by omega
    have hsi : Lib.decDigits st.toNat = Lib.itoa st := by conv => rhs; rw [← hsn, Lib.itoa_nonneg]
    simp only [hsn, hsi] at hIt
    replace hIt := Lib.hid hIt
    clear hsn hsi
    have hIl := Lib.itoa_length_le st (by omega) (by omega)
    have hIn := Lib.hid (fun V (_ : Hs w w.heap.size st body ck cl V) => digits_any body.length (by omega) V)
    have hIln := Lib.itoa_length_le (body.length : Int) (by omega) (by omega)
    have hdd : Lib.itoa (body.length : Int) = Lib.decDigits body.length := Lib.itoa_nonneg _
    obtain ⟨D, hD⟩ : ∃ D, Lib.decDigits body.length = D := ⟨_, rfl⟩
    rw [hD] at hIn
    rw [hdd, hD] at hIln
    replace hD := Lib.hid hD
    clear hdd
    have rs := B_size
    have rt := B_toList
    have r0 : ∀ l m, B l ++ B m = B (l ++ m) := B_app
    have r1 : ∀ l, B l ++ (⟨#[67, 111, 110, 116, 101, 110, 116, 45, 84, 121, 112, 101, 58, 32, 97, 112, 112, 108, 105, 99, 97, 116, 105, 111, 110, 47, 106, 115, 111, 110, 13, 10]⟩ : ByteArray) = B (l ++ typeL) := fun l => B_app l typeL
    have r2 : ∀ m, (⟨#[67, 111, 110, 116, 101, 110, 116, 45, 76, 101, 110, 103, 116, 104, 58, 32]⟩ : ByteArray) ++ B m = B (lenL ++ m) := fun m => B_app lenL m
    have r3 : ∀ l, B l ++ (⟨#[13, 10]⟩ : ByteArray) = B (l ++ crlfL) := fun l => B_app l crlfL
    have r4 : ∀ m, (⟨#[83, 101, 116, 45, 67, 111, 111, 107, 105, 101, 58, 32]⟩ : ByteArray) ++ B m = B (cookL ++ m) := fun m => B_app cookL m
    have r5 : ∀ l, B l ++ (⟨#[67, 111, 110, 110, 101, 99, 116, 105, 111, 110, 58, 32, 99, 108, 111, 115, 101, 13, 10]⟩ : ByteArray) = B (l ++ closeL) := fun l => B_app l closeL
    have r6 : ∀ m, (⟨#[72, 84, 84, 80, 47, 49, 46, 49, 32]⟩ : ByteArray) ++ B m = B (verL ++ m) := fun m => B_app verL m
    have r7 : ∀ l, B l ++ (⟨#[32]⟩ : ByteArray) = B (l ++ [32]) := fun l => B_app l [32]
    have n1 : typeL.length = 32 := rfl
    have n2 : lenL.length = 16 := rfl
    have n3 : crlfL.length = 2 := rfl
    have n4 : cookL.length = 12 := rfl
    have n5 : closeL.length = 19 := rfl
    have n6 : verL.length = 9 := rfl
    clear hw hpl hW hWd hline hst hst2
    unfold repV at hC ⊢
    go_enter Tryd.func13, Tryd.ntmps13
    go_upto_region 4 with (first | (go_at_call 11; go_must (refine (hC.out _).mono ?_; rintro e w1 ⟨rfl, hb1⟩; have hH : Hs w w.heap.size st body ck cl w1 := (Hs.next ⟨heap_alloc_new w _, below_alloc (Below.refl w.heap.size w) _⟩ hb1).2; clear hb1; have hH := Lib.hid hH)))
    have m1 : (9223372036854775807 < 9 + (Lib.itoa st).length) = False := eq_false (by omega)
    have m2 : (9223372036854775807 < 9 + (Lib.itoa st).length + 1) = False := eq_false (by omega)
    have m3 : (9223372036854775807 < 9 + ((Lib.itoa st).length + 1) + W.length) = False := eq_false (by omega)
    have m4 : (9223372036854775807 < 9 + ((Lib.itoa st).length + (W.length + 1)) + 2) = False := eq_false (by omega)
    have hH0 := hH.drew
    clear hC
    go_cut [5] (fun v V => v = .string (B (verL ++ (Lib.itoa st ++ 32 :: (W ++ crlfL)))) ∧ Hs w w.heap.size st body ck cl V)
    case first =>
      go_region_held3 (fun V => V.cell? ⟨w.heap.size, 0, none⟩ = some (.int .i64 st) ∧ Hs w w.heap.size st body ck cl V) (first | exact hH0 | assumption | exact Hs.next (And.right (by assumption)) (by assumption)) (first | (go_at_call 25; refine (hIt.out _ (And.right (by assumption))).mono ?_; rintro e4 w4 ⟨rfl, hb4⟩) | (go_at_call 19; refine (hWo.out _).mono ?_; rintro e4 w4 ⟨rfl, hb4⟩))
      all_goals (try go_wp2)
      all_goals go_meet
      all_goals exact ⟨rfl, And.right (by assumption)⟩
    case rest =>
      obtain ⟨rfl, hHc⟩ := hcut
      replace hHc := Lib.hid hHc
      clear hH hH0 hIt hWo
      have q0 := (blk_cell hHc.out.blk 0).trans rfl
      have q1 := (blk_cell hHc.out.blk 1).trans rfl
      have q2 := (blk_cell hHc.out.blk 2).trans rfl
      have q3 := (blk_cell hHc.out.blk 3).trans rfl
      replace hfin := Lib.hid hfin
      by_cases hb : body = []
      · subst hb
        have hD2 : Lib.decDigits 0 = D := hD.out
        replace hD := Lib.hid hD2
        clear hD2
        by_cases h4 : st = 204
        · clear h204
          subst h4
          by_cases hk : ck = []
          · have hke : ck.isEmpty = true := by simp [hk]
            cases cl with
            | true =>
              go_wp2
              go_ret2
              exact ⟨congrArg (fun x => Ending.returned (Value.tuple #[.string (B x), .int .i64 0])) (by rw [hfin.out]; simp [E0, E1, E2, E3, hk]), hHc.out.bel⟩
            | false =>
              go_wp2
              go_ret2
              exact ⟨congrArg (fun x => Ending.returned (Value.tuple #[.string (B x), .int .i64 0])) (by rw [hfin.out]; simp [E0, E1, E2, E3, hk]), hHc.out.bel⟩
          · have hke : ck.isEmpty = false := by simp [hk]
            cases cl with
            | true =>
              go_wp2
              go_ret2
              exact ⟨congrArg (fun x => Ending.returned (Value.tuple #[.string (B x), .int .i64 0])) (by rw [hfin.out]; simp [E0, E1, E2, E3, hk]), hHc.out.bel⟩
            | false =>
              go_wp2
              go_ret2
              exact ⟨congrArg (fun x => Ending.returned (Value.tuple #[.string (B x), .int .i64 0])) (by rw [hfin.out]; simp [E0, E1, E2, E3, hk]), hHc.out.bel⟩
        · clear h204
          by_cases hk : ck = []
          · have hke : ck.isEmpty = true := by simp [hk]
            cases cl with
            | true =>
              go_wp2_with (first | (go_at_call 25; go_must (refine (hIn.out _ hHc.out).mono ?_; rintro e4 w4 ⟨rfl, hb4⟩; have hH4 := (Hs.next hHc.out hb4).2; have p0 := (blk_cell hH4.blk 0).trans rfl; have p1 := (blk_cell hH4.blk 1).trans rfl; have p2 := (blk_cell hH4.blk 2).trans rfl; have p3 := (blk_cell hH4.blk 3).trans rfl; clear hb4; replace hHc := Lib.hid hH4; clear hH4)))
              go_ret2
              exact ⟨congrArg (fun x => Ending.returned (Value.tuple #[.string (B x), .int .i64 0])) (by rw [hfin.out]; simp [E0, E1, E2, E3, h4, hk, hD.out]), hHc.out.bel⟩
            | false =>
              go_wp2_with (first | (go_at_call 25; go_must (refine (hIn.out _ hHc.out).mono ?_; rintro e4 w4 ⟨rfl, hb4⟩; have hH4 := (Hs.next hHc.out hb4).2; have p0 := (blk_cell hH4.blk 0).trans rfl; have p1 := (blk_cell hH4.blk 1).trans rfl; have p2 := (blk_cell hH4.blk 2).trans rfl; have p3 := (blk_cell hH4.blk 3).trans rfl; clear hb4; replace hHc := Lib.hid hH4; clear hH4)))
              go_ret2
              exact ⟨congrArg (fun x => Ending.returned (Value.tuple #[.string (B x), .int .i64 0])) (by rw [hfin.out]; simp [E0, E1, E2, E3, h4, hk, hD.out]), hHc.out.bel⟩
          · have hke : ck.isEmpty = false := by simp [hk]
            cases cl with
            | true =>
              go_wp2_with (first | (go_at_call 25; go_must (refine (hIn.out _ hHc.out).mono ?_; rintro e4 w4 ⟨rfl, hb4⟩; have hH4 := (Hs.next hHc.out hb4).2; have p0 := (blk_cell hH4.blk 0).trans rfl; have p1 := (blk_cell hH4.blk 1).trans rfl; have p2 := (blk_cell hH4.blk 2).trans rfl; have p3 := (blk_cell hH4.blk 3).trans rfl; clear hb4; replace hHc := Lib.hid hH4; clear hH4)))
              go_ret2
              exact ⟨congrArg (fun x => Ending.returned (Value.tuple #[.string (B x), .int .i64 0])) (by rw [hfin.out]; simp [E0, E1, E2, E3, h4, hk, hD.out]), hHc.out.bel⟩
            | false =>
              go_wp2_with (first | (go_at_call 25; go_must (refine (hIn.out _ hHc.out).mono ?_; rintro e4 w4 ⟨rfl, hb4⟩; have hH4 := (Hs.next hHc.out hb4).2; have p0 := (blk_cell hH4.blk 0).trans rfl; have p1 := (blk_cell hH4.blk 1).trans rfl; have p2 := (blk_cell hH4.blk 2).trans rfl; have p3 := (blk_cell hH4.blk 3).trans rfl; clear hb4; replace hHc := Lib.hid hH4; clear hH4)))
              go_ret2
              exact ⟨congrArg (fun x => Ending.returned (Value.tuple #[.string (B x), .int .i64 0])) (by rw [hfin.out]; simp [E0, E1, E2, E3, h4, hk, hD.out]), hHc.out.bel⟩
      · have hbe : body.isEmpty = false := by simp [hb]
        by_cases h4 : st = 204
        · exfalso; simp [h4, hb] at h204
        · clear h204
          by_cases hk : ck = []
          · have hke : ck.isEmpty = true := by simp [hk]
            cases cl with
            | true =>
              go_wp2_with (first | (go_at_call 25; go_must (refine (hIn.out _ hHc.out).mono ?_; rintro e4 w4 ⟨rfl, hb4⟩; have hH4 := (Hs.next hHc.out hb4).2; have p0 := (blk_cell hH4.blk 0).trans rfl; have p1 := (blk_cell hH4.blk 1).trans rfl; have p2 := (blk_cell hH4.blk 2).trans rfl; have p3 := (blk_cell hH4.blk 3).trans rfl; clear hb4; replace hHc := Lib.hid hH4; clear hH4)))
              go_ret2
              exact ⟨congrArg (fun x => Ending.returned (Value.tuple #[.string (B x), .int .i64 0])) (by rw [hfin.out]; simp [E0, E1, E2, E3, hb, h4, hk, hD.out]), hHc.out.bel⟩
            | false =>
              go_wp2_with (first | (go_at_call 25; go_must (refine (hIn.out _ hHc.out).mono ?_; rintro e4 w4 ⟨rfl, hb4⟩; have hH4 := (Hs.next hHc.out hb4).2; have p0 := (blk_cell hH4.blk 0).trans rfl; have p1 := (blk_cell hH4.blk 1).trans rfl; have p2 := (blk_cell hH4.blk 2).trans rfl; have p3 := (blk_cell hH4.blk 3).trans rfl; clear hb4; replace hHc := Lib.hid hH4; clear hH4)))
              go_ret2
              exact ⟨congrArg (fun x => Ending.returned (Value.tuple #[.string (B x), .int .i64 0])) (by rw [hfin.out]; simp [E0, E1, E2, E3, hb, h4, hk, hD.out]), hHc.out.bel⟩
          · have hke : ck.isEmpty = false := by simp [hk]
            cases cl with
            | true =>
              go_wp2_with (first | (go_at_call 25; go_must (refine (hIn.out _ hHc.out).mono ?_; rintro e4 w4 ⟨rfl, hb4⟩; have hH4 := (Hs.next hHc.out hb4).2; have p0 := (blk_cell hH4.blk 0).trans rfl; have p1 := (blk_cell hH4.blk 1).trans rfl; have p2 := (blk_cell hH4.blk 2).trans rfl; have p3 := (blk_cell hH4.blk 3).trans rfl; clear hb4; replace hHc := Lib.hid hH4; clear hH4)))
              go_ret2
              exact ⟨congrArg (fun x => Ending.returned (Value.tuple #[.string (B x), .int .i64 0])) (by rw [hfin.out]; simp [E0, E1, E2, E3, hb, h4, hk, hD.out]), hHc.out.bel⟩
            | false =>
              go_wp2_with (first | (go_at_call 25; go_must (refine (hIn.out _ hHc.out).mono ?_; rintro e4 w4 ⟨rfl, hb4⟩; have hH4 := (Hs.next hHc.out hb4).2; have p0 := (blk_cell hH4.blk 0).trans rfl; have p1 := (blk_cell hH4.blk 1).trans rfl; have p2 := (blk_cell hH4.blk 2).trans rfl; have p3 := (blk_cell hH4.blk 3).trans rfl; clear hb4; replace hHc := Lib.hid hH4; clear hH4)))
              go_ret2
              exact ⟨congrArg (fun x => Ending.returned (Value.tuple #[.string (B x), .int .i64 0])) (by rw [hfin.out]; simp [E0, E1, E2, E3, hb, h4, hk, hD.out]), hHc.out.bel⟩
end Go.Proofs.YthacomeiinejaaaDoor
