/-
  Sessions: their values, written and read back, walked.
-/
import Derived.Test.YtmchephokleffaaGreatDoorYg
import Derived.Test.YtmchephokleffaaGreatDoorVx
set_option linter.unusedVariables false
set_option linter.unusedSimpArgs false
namespace Go.Proofs.YtmchephokleffaaGreatDoor
open Go.RowKit Go.Proofs.YtmchephokleffaaGreatDoorW.PrintWords Go.Proofs.YtmchephokleffaaGreatDoorW.PrintMore Go.Proofs.YtmchephokleffaaGreatDoor.PRecord
/-- A session's value. -/
def encSes (tk us da : ByteArray) (ex : Nat) : Option ByteArray := if mayB tk us da = true then some (Bd.B ((vr us.size ++ us.data.toList) ++ (vr da.size ++ da.data.toList) ++ be 8 ex)) else none
theorem may_len {tk us da : ByteArray} (h : mayB tk us da = true) : us.size ≤ 64 ∧ da.size ≤ 512 := by
  unfold mayB namB at h
  simp only [Bool.and_eq_true, decide_eq_true_eq] at h
  exact ⟨h.2.1.2.2.1, h.2.2.1⟩
set_option maxHeartbeats 4000000 in
theorem encSes_any (tk us da : ByteArray) (ex : Nat) (h1 : tk.size ≤ 1000000000) (h2 : us.size ≤ 1000000000) (h3 : da.size ≤ 1000000000) (hx : ex < 18446744073709551616) (w : World) :
    Calls Tryz.prog 22 #[.agg #[.string tk, .string us, .string da, .int .u64 (ex : Int)]] w fun e w' => e = .returned (ledV (encSes tk us da ex)) ∧ Below w.heap.size w w' := by
  obtain ⟨W0, hW0⟩ : ∃ W0, W0 = w.alloc (.cells #[.string tk, .string us, .string da, .int .u64 (ex : Int)] 42) := ⟨_, rfl⟩
  have hr0 : W0.heap[w.heap.size]? = some (.cells #[.string tk, .string us, .string da, .int .u64 (ex : Int)] 42 (0, 0)) := by rw [hW0]; exact heap_alloc_new w _
  have hB0 := Lib.hid (show Below w.heap.size w W0 by rw [hW0]; exact (Below.refl _ _).alloc (Nat.le_refl _) _)
  have hz0 : w.heap.size < W0.heap.size := by rw [hW0]; simp
  have hcl : Hid (∀ W, Below W0.heap.size W0 W → W.cell? ⟨w.heap.size, 0, none⟩ = some (.string tk) ∧ W.cell? ⟨w.heap.size, 1, none⟩ = some (.string us) ∧ W.cell? ⟨w.heap.size, 2, none⟩ = some (.string da) ∧ W.cell? ⟨w.heap.size, 3, none⟩ = some (.int .u64 (ex : Int)) ∧ Below w.heap.size w W) := Lib.hid (fun W h => by
    have h3 := (h.block _ hz0).trans hr0
    exact ⟨(blk_cell h3 0).trans rfl, (blk_cell h3 1).trans rfl, (blk_cell h3 2).trans rfl, (blk_cell h3 3).trans rfl, hB0.out.trans (h.mono (Nat.le_of_lt hz0))⟩)
  have hs := Lib.hid (fun W => session_any tk us da (ex : Int) h1 h2 h3 W)
  have hE : encSes tk us da ex = if mayB tk us da = true then some (Bd.B ((vr us.size ++ us.data.toList) ++ (vr da.size ++ da.data.toList) ++ be 8 ex)) else none := rfl
  have hml := fun h => may_len (tk := tk) (us := us) (da := da) h
  obtain ⟨k0, k1, k2, k3, _⟩ := hcl.out W0 (Below.refl _ _)
  rw [hW0] at k0 k1 k2 k3
  have hW0H := Lib.hid hW0
  clear hr0 hB0 hW0
  cases hM : mayB tk us da with
  | false =>
    rw [hM] at hs hE
    rw [if_neg (by simp)] at hE
    replace hE := Lib.hid hE
    clear hM hml
    go_enter Tryz.func22, Tryz.ntmps22
    go_wp2_with (fail)
    rw [← hW0H.out]
    refine (hs.out _).mono ?_
    rintro e w2 ⟨rfl, hb2⟩
    have hend := Lib.hid (hcl.out _ hb2).2.2.2.2
    clear k0 k1 k2 k3 hb2
    go_wp2
    go_ret2
    exact ⟨by rw [hE.out]; rfl, hend.out⟩
  | true =>
    obtain ⟨hu, hd⟩ := hml hM
    rw [hM] at hs hE
    rw [if_pos rfl] at hE
    have hX : (vr us.size ++ us.data.toList).length ≤ 74 := by rw [List.length_append, Bd.len_data']; have := (vr_len us.size).1; omega
    have hY : (vr da.size ++ da.data.toList).length ≤ 522 := by rw [List.length_append, Bd.len_data']; have := (vr_len da.size).1; omega
    obtain ⟨X, hXe⟩ : ∃ X, vr us.size ++ us.data.toList = X := ⟨_, rfl⟩
    obtain ⟨Y, hYe⟩ : ∃ Y, vr da.size ++ da.data.toList = Y := ⟨_, rfl⟩
    rw [hXe] at hX hE
    rw [hYe] at hY hE
    replace hXe := Lib.hid hXe
    replace hYe := Lib.hid hYe
    replace hE := Lib.hid hE
    clear hM hml
    go_enter Tryz.func22, Tryz.ntmps22
    go_wp2_with (fail)
    rw [← hW0H.out]
    refine (hs.out _).mono ?_
    rintro e w2 ⟨rfl, hb2⟩
    have hA2 := Lib.hid hb2
    have hle : w.heap.size ≤ w2.heap.size := by have := hb2.size; omega
    clear k0 k1 k2 k3 hb2
    go_wp2_with (fail)
    refine (NewWriter_any 1048576 w2).mono ?_
    rintro e w3 ⟨rfl, hcw3, hb3⟩
    rw [show max (1048576 : Int) 0 = 1048576 from rfl] at hcw3
    replace hcw3 := Lib.hid hcw3
    have hB3 := Lib.hid hb3
    clear hb3
    have hto : Hid (∀ W, Below w2.heap.size w2 W → Below W0.heap.size W0 W) := Lib.hid (fun W h => hA2.out.trans (h.mono hA2.out.size))
    obtain ⟨k0, k1, k2, k3, _⟩ := hcl.out _ (hto.out _ hB3.out)
    go_wp2_with (fail)
    refine (text_w us (by omega) hcw3.out (by omega) (by omega) (by simp; omega)).mono ?_
    rw [hXe.out]
    rintro e w4 ⟨rfl, hcw4, hb4⟩
    replace hcw4 := hcw4.fit (by simp; omega)
    have hB4 := Lib.hid (hB3.out.trans hb4)
    clear k0 k1 k2 k3 hcw3 hb4 hB3
    obtain ⟨k0, k1, k2, k3, _⟩ := hcl.out _ (hto.out _ hB4.out)
    go_wp2_with (fail)
    refine (text_w da (by omega) hcw4.out (by omega) (by omega) (by simp; omega)).mono ?_
    rw [hYe.out]
    rintro e w5 ⟨rfl, hcw5, hb5⟩
    replace hcw5 := hcw5.fit (by simp; omega)
    have hB5 := Lib.hid (hB4.out.trans hb5)
    clear k0 k1 k2 k3 hcw4 hb5 hB4
    obtain ⟨k0, k1, k2, k3, _⟩ := hcl.out _ (hto.out _ hB5.out)
    go_wp2_with (fail)
    refine (U64_any ex hcw5.out hx (by omega) (by omega) (by simp; omega)).mono ?_
    rintro e w6 ⟨rfl, hcw6, hb6⟩
    replace hcw6 := hcw6.fit (by simp [be_len]; omega)
    have hB6 := Lib.hid (hB5.out.trans hb6)
    clear k0 k1 k2 k3 hcw5 hb6 hB5
    go_wp2_with (fail)
    refine (Done_any hcw6.out).mono ?_
    rintro e w7 ⟨rfl, rfl⟩
    rw [show doneS ([] ++ X ++ Y ++ be 8 ex) false = Bd.B (X ++ Y ++ be 8 ex) from rfl, show doneE false = 0 from rfl]
    have hend := Lib.hid (hcl.out _ (hto.out _ hB6.out)).2.2.2.2
    clear hcw6
    go_wp2
    go_ret2
    exact ⟨by rw [hE.out, List.append_assoc]; rfl, hend.out⟩
set_option maxHeartbeats 4000000 in
set_option maxRecDepth 100000 in
theorem rencSes_any (tk us da : ByteArray) (ex : Nat) (h1 : tk.size ≤ 1000000000) (h2 : us.size ≤ 1000000000) (h3 : da.size ≤ 1000000000) (hx : ex < 18446744073709551616) (w : World) :
    Calls Tryz.prog 23 #[.agg #[.string tk, .string us, .string da, .int .u64 (ex : Int)]] w fun e w' => e = .returned (ledV (encSes tk us da ex)) ∧ Below w.heap.size w w' := by
  obtain ⟨W0, hW0⟩ : ∃ W0, W0 = w.alloc (.cells #[.string tk, .string us, .string da, .int .u64 (ex : Int)] 42) := ⟨_, rfl⟩
  have hr0 : W0.heap[w.heap.size]? = some (.cells #[.string tk, .string us, .string da, .int .u64 (ex : Int)] 42 (0, 0)) := by rw [hW0]; exact heap_alloc_new w _
  have hB0 := Lib.hid (show Below w.heap.size w W0 by rw [hW0]; exact (Below.refl _ _).alloc (Nat.le_refl _) _)
  have hz0 : w.heap.size < W0.heap.size := by rw [hW0]; simp
  have hcl : Hid (∀ W, Below W0.heap.size W0 W → W.cell? ⟨w.heap.size, 0, none⟩ = some (.string tk) ∧ W.cell? ⟨w.heap.size, 1, none⟩ = some (.string us) ∧ W.cell? ⟨w.heap.size, 2, none⟩ = some (.string da) ∧ W.cell? ⟨w.heap.size, 3, none⟩ = some (.int .u64 (ex : Int)) ∧ Below w.heap.size w W) := Lib.hid (fun W h => by
    have h3 := (h.block _ hz0).trans hr0
    exact ⟨(blk_cell h3 0).trans rfl, (blk_cell h3 1).trans rfl, (blk_cell h3 2).trans rfl, (blk_cell h3 3).trans rfl, hB0.out.trans (h.mono (Nat.le_of_lt hz0))⟩)
  have hs := Lib.hid (fun W => rmay_any tk us da (ex : Int) h1 h2 h3 W)
  have hE : encSes tk us da ex = if mayB tk us da = true then some (Bd.B ((vr us.size ++ us.data.toList) ++ (vr da.size ++ da.data.toList) ++ be 8 ex)) else none := rfl
  have hml := fun h => may_len (tk := tk) (us := us) (da := da) h
  obtain ⟨k0, k1, k2, k3, _⟩ := hcl.out W0 (Below.refl _ _)
  rw [hW0] at k0 k1 k2 k3
  have hW0H := Lib.hid hW0
  clear hr0 hB0 hW0
  cases hM : mayB tk us da with
  | false =>
    rw [hM] at hs hE
    rw [if_neg (by simp)] at hE
    replace hE := Lib.hid hE
    clear hM hml
    go_enter Tryz.func23, Tryz.ntmps23
    go_wp2_with (fail)
    rw [← hW0H.out]
    refine (hs.out _).mono ?_
    rintro e w2 ⟨rfl, hb2⟩
    have hend := Lib.hid (hcl.out _ hb2).2.2.2.2
    clear k0 k1 k2 k3 hb2
    go_wp2
    go_ret2
    exact ⟨by rw [hE.out]; rfl, hend.out⟩
  | true =>
    obtain ⟨hu, hd⟩ := hml hM
    rw [hM] at hs hE
    rw [if_pos rfl] at hE
    have hX : (vr us.size ++ us.data.toList).length ≤ 74 := by rw [List.length_append, Bd.len_data']; have := (vr_len us.size).1; omega
    have hY : (vr da.size ++ da.data.toList).length ≤ 522 := by rw [List.length_append, Bd.len_data']; have := (vr_len da.size).1; omega
    have hZ : (be 8 ex).length = 8 := be_len 8 ex
    have hna := Lib.hid (fun W => rtext_any us h2 W)
    have hnb := Lib.hid (fun W => rtext_any da h3 W)
    have hnc := Lib.hid (fun W => number_any ex W)
    generalize vr us.size ++ us.data.toList = X at *
    generalize vr da.size ++ da.data.toList = Y at *
    generalize be 8 ex = Z at *
    have s1 : ∀ V : World, (Op.stringOp .add (Bd.B X) (Bd.B Y)).run Tryz.prog V = .ok (.string (Bd.B (X ++ Y))) V := fun V => by
      have := cat_run (Bd.B X) (Bd.B Y) (by rw [Bd.B_size, Bd.B_size]; omega) V
      rw [Bd.B_app] at this
      exact this
    have s2 : ∀ V : World, (Op.stringOp .add (Bd.B (X ++ Y)) (Bd.B Z)).run Tryz.prog V = .ok (.string (Bd.B (X ++ Y ++ Z))) V := fun V => by
      have := cat_run (Bd.B (X ++ Y)) (Bd.B Z) (by rw [Bd.B_size, Bd.B_size, List.length_append]; omega) V
      rw [Bd.B_app] at this
      exact this
    generalize hQ3 : Bd.B (X ++ Y ++ Z) = Q3 at *
    generalize Bd.B (X ++ Y) = Q2 at *
    generalize Bd.B X = BX at *
    generalize Bd.B Y = BY at *
    generalize Bd.B Z = BZ at *
    replace hQ3 := Lib.hid hQ3
    replace hE := Lib.hid hE
    clear hM hml hX hY hZ
    go_enter Tryz.func23, Tryz.ntmps23
    go_wp2_with (fail)
    rw [← hW0H.out]
    refine (hs.out _).mono ?_
    rintro e w2 ⟨rfl, hb2⟩
    have hA2 := Lib.hid hb2
    clear k0 k1 k2 k3 hb2 hs
    go_upto_region 3 with (fail)
    have hall : Hid (∀ W, Below w2.heap.size w2 W → W.cell? ⟨w.heap.size, 1, none⟩ = some (.string us) ∧ W.cell? ⟨w.heap.size, 2, none⟩ = some (.string da) ∧ W.cell? ⟨w.heap.size, 3, none⟩ = some (.int .u64 (ex : Int)) ∧ Below w2.heap.size w2 W) := Lib.hid (fun W h => by
      obtain ⟨_, m1, m2, m3, _⟩ := hcl.out _ (hA2.out.trans (h.mono hA2.out.size))
      exact ⟨m1, m2, m3, h⟩)
    obtain ⟨k1, k2, k3, _⟩ := hall.out w2 (Below.refl _ _)
    go_region_held3 (fun W => W.cell? ⟨w.heap.size, 1, none⟩ = some (.string us) ∧ W.cell? ⟨w.heap.size, 2, none⟩ = some (.string da) ∧ W.cell? ⟨w.heap.size, 3, none⟩ = some (.int .u64 (ex : Int)) ∧ Below w2.heap.size w2 W)  (first | exact hall.out _ (Below.refl _ _) | exact hall.out _ (below_drew (Below.refl _ _)) | exact hall.out _ (below_then3 (And.right (And.right (And.right (by assumption : _ ∧ _ ∧ _ ∧ Below w2.heap.size w2 _)))) (by assumption)))  (first | (go_at_call 60; first | ((with_reducible refine (hna.out _).mono ?_); rintro e4 w4 ⟨rfl, hb4⟩) | ((with_reducible refine (hnb.out _).mono ?_); rintro e4 w4 ⟨rfl, hb4⟩)) | (go_at_call 61; (with_reducible refine (hnc.out _).mono ?_); rintro e4 w4 ⟨rfl, hb4⟩) | fail)
    all_goals
      go_wp2
      go_ret2
      exact ⟨by rw [hE.out]; rfl, (hcl.out _ (hA2.out.trans ((And.right (And.right (And.right (by assumption : _ ∧ _ ∧ _ ∧ Below w2.heap.size w2 _)))).mono hA2.out.size))).2.2.2.2⟩
end Go.Proofs.YtmchephokleffaaGreatDoor
