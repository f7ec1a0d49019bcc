/-
  Chapter 22: varints and texts written; an entry's value, written, walked.
-/
import Derived.Test.YtmchephokleffaaGreatDoorVq
set_option linter.unusedVariables false
set_option linter.unusedSimpArgs false
namespace Go.Proofs.YtmchephokleffaaGreatDoor
open Go.RowKit Go.Proofs.YtmchephokleffaaGreatDoorW.PrintWords Go.Proofs.YtmchephokleffaaGreatDoor.PRecord
set_option maxHeartbeats 1000000 in
theorem varint_w {B g : Nat} {most : Int} {l : List UInt8} {over : Bool} (n : Nat) (hn : n < 18446744073709551616) {w : World} (hcw : CW w B g most l over)
    (hm0 : -4611686018427387904 ≤ most) (hm1 : most ≤ 4611686018427387904) (hl : l.length + 10 ≤ 140737488355328) :
    Calls Tryz.prog 153 #[.pointer (some ⟨g, 0, none⟩), .int .u64 (n : Int)] w fun e w' => e = .returned (.tuple #[]) ∧ CW w' B g most (putL most l (vr n) over) (putO most l (vr n) over) ∧ Below B w w' := by
  have hbase := hcw.lt
  have HC := Lib.hid hcw
  have hv := Lib.hid (cv_any n hn w)
  have hvl := (vr_len n).1
  clear hcw
  go_enter Tryz.func153, Tryz.ntmps153
  go_wp2_with (fail)
  refine hv.out.mono ?_
  rintro e w2 ⟨v, rfl, hrow, hb2⟩
  obtain ⟨A, c, rfl, hr, hc⟩ := hrow.rd
  have hcw2 := Lib.hid (HC.out.below hb2)
  have HB := Lib.hid hb2
  replace hr := Lib.hid hr
  clear hrow hb2 HC hv
  go_wp2_with (fail)
  refine (put_any hcw2.out hr.out hc hm0 hm1 (by omega)).mono ?_
  rintro e w3 ⟨rfl, hcw3, hb3⟩
  go_wp2
  go_end0
  exact ⟨rfl, hcw3, (HB.out.mono hbase).trans hb3⟩
set_option maxHeartbeats 1000000 in
theorem text_w {B g : Nat} {most : Int} {l : List UInt8} {over : Bool} (s : ByteArray) (hs : s.size ≤ 1000000000) {w : World} (hcw : CW w B g most l over)
    (hm0 : -4611686018427387904 ≤ most) (hm1 : most ≤ 4611686018427387904) (hl : l.length + 10 + s.size ≤ 140737488355328) :
    Calls Tryz.prog 56 #[.pointer (some ⟨g, 0, none⟩), .string s] w fun e w' => e = .returned (.tuple #[]) ∧ CW w' B g most (putL most l (vr s.size ++ s.data.toList) over) (putO most l (vr s.size ++ s.data.toList) over) ∧ Below B w w' := by
  have hbase := hcw.lt
  have HC := Lib.hid hcw
  have hv := Lib.hid (cv_any s.size (by omega) w)
  have hvl := (vr_len s.size).1
  have hle : (vr s.size ++ s.data.toList).length ≤ 10 + s.size := by rw [List.length_append, len_data]; omega
  obtain ⟨L, hL⟩ : ∃ L, vr s.size ++ s.data.toList = L := ⟨_, rfl⟩
  have hsd : s.data.toList.length = s.size := len_data s
  rw [hL] at hle ⊢
  replace hL := Lib.hid hL
  replace hsd := Lib.hid hsd
  clear hcw
  go_enter Tryz.func56, Tryz.ntmps56
  go_wp2_with (fail)
  refine hv.out.mono ?_
  rintro e w2 ⟨v, rfl, hrow, hb2⟩
  have hrow := Lib.hid hrow
  have HB := Lib.hid hb2
  clear hb2 hv
  go_wp2_with (first | (at_builtin; go_must (refine w_append_str (w0 := w) w.heap.size rfl (.tmp 8) (.tmp 9) rfl rfl rfl hrow.out HB.out HB.out.size (by omega) ?_); intro v1 w3 ho3 hb3 hg3; replace ho3 := ho3.out; rw [hL.out] at ho3; obtain ⟨A, c, rfl, hr, hc⟩ := ho3.rd; have hcw3 := Lib.hid (HC.out.below hb3.out); replace hr := Lib.hid hr; clear hrow HB ho3 hg3) | fail)
  refine (put_any hcw3.out hr.out hc hm0 hm1 (by omega)).mono ?_
  rintro e w4 ⟨rfl, hcw4, hb4⟩
  go_wp2
  go_end0
  exact ⟨rfl, hcw4, (hb3.out.mono hbase).trans hb4⟩
set_option maxHeartbeats 1000000 in
theorem rtext_any (s : ByteArray) (hs : s.size ≤ 1000000000) (w : World) :
    Calls Tryz.prog 60 #[.string s] w fun e w' => e = .returned (.string (Bd.B (vr s.size ++ s.data.toList))) ∧ Below w.heap.size w w' := by
  have hv := Lib.hid (rvarint_any s.size (by omega) w)
  have hvl := (vr_len s.size).1
  have hcat : ∀ V : World, (binOp .add 9 (.string (Bd.B (vr s.size))) (.string s)).run Tryz.prog V = .ok (.string (Bd.B (vr s.size ++ s.data.toList))) V := fun V => by
    have e := Bd.B_app (vr s.size) s.data.toList
    rw [Bd.of_data] at e
    rw [cat_run _ _ (by rw [Bd.B_size]; omega), e]
  obtain ⟨X, hX⟩ : ∃ X, vr s.size ++ s.data.toList = X := ⟨_, rfl⟩
  rw [hX] at hcat ⊢
  generalize Bd.B (vr s.size) = V at *
  generalize Bd.B X = Y at *
  clear hvl hX
  have hc2 : ∀ W : World, (Op.stringOp .add V s).run Tryz.prog W = .ok (.string Y) W := fun W => hcat W
  go_enter Tryz.func60, Tryz.ntmps60
  go_wp2_with (fail)
  refine hv.out.mono ?_
  rintro e w2 ⟨rfl, hb2⟩
  go_wp2
  go_ret
  exact ⟨rfl, hb2⟩
/-- An entry's value. -/
def encEnt (nu ki : Int) (ti : Nat) (su : ByteArray) : Option ByteArray := if nu < 1 ∨ ki < 1 ∨ 128 < su.size then none else some (Bd.B (vr nu.toNat ++ vr ki.toNat ++ vr ti ++ (vr su.size ++ su.data.toList)))
set_option maxHeartbeats 2000000 in
theorem encEnt_bad (nu ki : Int) (ti : Nat) (su : ByteArray) (hbad : nu < 1 ∨ ki < 1 ∨ 128 < su.size) (w : World) :
    Calls Tryz.prog 119 #[.agg #[.int .i64 nu, .int .i64 ki, .int .u64 (ti : Int), .string su]] w fun e w' => e = .returned (ledV (encEnt nu ki ti su)) ∧ Below w.heap.size w w' := by
  have hE : Hid (encEnt nu ki ti su = none) := Lib.hid (by unfold encEnt; rw [if_pos hbad])
  have hB0 := Lib.hid ((Below.refl w.heap.size w).alloc (Nat.le_refl _) (.cells #[.int .i64 nu, .int .i64 ki, .int .u64 (ti : Int), .string su] 121))
  by_cases h1 : nu < 1
  · have d1 : decide (nu < 1) = true := decide_eq_true h1
    clear hbad
    go_enter Tryz.func119, Tryz.ntmps119
    go_wp2
    go_ret2
    exact ⟨by rw [hE.out]; rfl, hB0.out⟩
  · have d1 : decide (nu < 1) = false := decide_eq_false h1
    by_cases h2 : ki < 1
    · have d2 : decide (ki < 1) = true := decide_eq_true h2
      clear hbad
      go_enter Tryz.func119, Tryz.ntmps119
      go_wp2
      go_ret2
      exact ⟨by rw [hE.out]; rfl, hB0.out⟩
    · have d2 : decide (ki < 1) = false := decide_eq_false h2
      have d3 : decide ((128 : Int) < (su.size : Int)) = true := decide_eq_true (by omega)
      clear hbad
      go_enter Tryz.func119, Tryz.ntmps119
      go_wp2
      go_ret2
      exact ⟨by rw [hE.out]; rfl, hB0.out⟩
set_option maxHeartbeats 2000000 in
theorem rencEnt_bad (nu ki : Int) (ti : Nat) (su : ByteArray) (hbad : nu < 1 ∨ ki < 1 ∨ 128 < su.size) (w : World) :
    Calls Tryz.prog 136 #[.agg #[.int .i64 nu, .int .i64 ki, .int .u64 (ti : Int), .string su]] w fun e w' => e = .returned (ledV (encEnt nu ki ti su)) ∧ Below w.heap.size w w' := by
  have hE : Hid (encEnt nu ki ti su = none) := Lib.hid (by unfold encEnt; rw [if_pos hbad])
  have hB0 := Lib.hid ((Below.refl w.heap.size w).alloc (Nat.le_refl _) (.cells #[.int .i64 nu, .int .i64 ki, .int .u64 (ti : Int), .string su] 121))
  by_cases h1 : nu < 1
  · have d1 : decide (nu < 1) = true := decide_eq_true h1
    clear hbad
    go_enter Tryz.func136, Tryz.ntmps136
    go_wp2
    go_ret2
    exact ⟨by rw [hE.out]; rfl, hB0.out⟩
  · have d1 : decide (nu < 1) = false := decide_eq_false h1
    by_cases h2 : ki < 1
    · have d2 : decide (ki < 1) = true := decide_eq_true h2
      clear hbad
      go_enter Tryz.func136, Tryz.ntmps136
      go_wp2
      go_ret2
      exact ⟨by rw [hE.out]; rfl, hB0.out⟩
    · have d2 : decide (ki < 1) = false := decide_eq_false h2
      have d3 : decide ((128 : Int) < (su.size : Int)) = true := decide_eq_true (by omega)
      clear hbad
      go_enter Tryz.func136, Tryz.ntmps136
      go_wp2
      go_ret2
      exact ⟨by rw [hE.out]; rfl, hB0.out⟩
set_option maxHeartbeats 2000000 in
theorem encEnt_ok (n m ti : Nat) (su : ByteArray) (hn : 1 ≤ n) (hn2 : n < 9223372036854775808) (hm : 1 ≤ m) (hm2 : m < 9223372036854775808) (ht : ti < 18446744073709551616) (hs : su.size ≤ 128) (w : World) :
    Calls Tryz.prog 119 #[.agg #[.int .i64 (n : Int), .int .i64 (m : Int), .int .u64 (ti : Int), .string su]] w fun e w' => e = .returned (ledV (encEnt (n : Int) (m : Int) ti su)) ∧ Below w.heap.size w w' := by
  have hE : Hid (encEnt (n : Int) (m : Int) ti su = some (Bd.B (vr n ++ vr m ++ vr ti ++ (vr su.size ++ su.data.toList)))) := Lib.hid (by unfold encEnt; rw [if_neg (by omega)]; rfl)
  obtain ⟨W0, hW0⟩ : ∃ W0, W0 = w.alloc (.cells #[.int .i64 (n : Int), .int .i64 (m : Int), .int .u64 (ti : Int), .string su] 121) := ⟨_, rfl⟩
  have hr0 : W0.heap[w.heap.size]? = some (.cells #[.int .i64 (n : Int), .int .i64 (m : Int), .int .u64 (ti : Int), .string su] 121 (0, 0)) := by rw [hW0]; exact heap_alloc_new w _
  have hB0 := Lib.hid (show Below w.heap.size w W0 by rw [hW0]; exact (Below.refl _ _).alloc (Nat.le_refl _) _)
  have hz0 : w.heap.size < W0.heap.size := by rw [hW0]; simp
  have hcl : Hid (∀ W, Below W0.heap.size W0 W → W.cell? ⟨w.heap.size, 0, none⟩ = some (.int .i64 (n : Int)) ∧ W.cell? ⟨w.heap.size, 1, none⟩ = some (.int .i64 (m : Int)) ∧ W.cell? ⟨w.heap.size, 2, none⟩ = some (.int .u64 (ti : Int)) ∧ W.cell? ⟨w.heap.size, 3, none⟩ = some (.string su)) := Lib.hid (fun W h => by
    have h3 := (h.block _ hz0).trans hr0
    exact ⟨(blk_cell h3 0).trans rfl, (blk_cell h3 1).trans rfl, (blk_cell h3 2).trans rfl, (blk_cell h3 3).trans rfl⟩)
  clear hr0
  have d1 : decide ((n : Int) < 1) = false := decide_eq_false (by omega)
  have d2 : decide ((m : Int) < 1) = false := decide_eq_false (by omega)
  have d3 : decide ((128 : Int) < (su.size : Int)) = false := decide_eq_false (by omega)
  have lv := fun x => (vr_len x).1
  have hsl : su.data.toList.length = su.size := len_data su
  have lv1 := lv n
  have lv2 := lv m
  have lv3 := lv ti
  have lv4 : (vr su.size ++ su.data.toList).length ≤ 138 := by rw [List.length_append, hsl]; have := lv su.size; omega
  clear lv
  replace hsl := Lib.hid hsl
  obtain ⟨k0, k1, k2, k3⟩ := hcl.out W0 (Below.refl _ _)
  rw [hW0] at k0 k1 k2 k3
  have hW0H := Lib.hid hW0
  clear hW0
  generalize hT : vr su.size ++ su.data.toList = T at *
  have hT := Lib.hid hT
  go_enter Tryz.func119, Tryz.ntmps119
  go_wp2_with (fail)
  rw [← hW0H.out]
  clear k0 k1 k2 k3 d1 d2 d3
  refine (NewWriter_any 1048576 W0).mono ?_
  rintro e w2 ⟨rfl, hcw2, hb2⟩
  rw [show max (1048576 : Int) 0 = 1048576 from rfl] at hcw2
  replace hcw2 := Lib.hid hcw2
  replace hb2 := Lib.hid hb2
  obtain ⟨k0, k1, k2, k3⟩ := hcl.out w2 hb2.out
  go_wp2_with (fail)
  refine (varint_w n (by omega) hcw2.out (by omega) (by omega) (by simp)).mono ?_
  rintro e w3 ⟨rfl, hcw3, hb3⟩
  replace hcw3 := hcw3.fit (by simp; omega)
  have hB3 := Lib.hid (hb2.out.trans hb3)
  clear k0 k1 k2 k3 hcw2 hb3 hb2
  obtain ⟨k0, k1, k2, k3⟩ := hcl.out w3 hB3.out
  go_wp2_with (fail)
  refine (varint_w m (by omega) hcw3.out (by omega) (by omega) (by simp; omega)).mono ?_
  rintro e w4 ⟨rfl, hcw4, hb4⟩
  replace hcw4 := hcw4.fit (by simp; omega)
  have hB4 := Lib.hid (hB3.out.trans hb4)
  clear k0 k1 k2 k3 hcw3 hb4 hB3
  obtain ⟨k0, k1, k2, k3⟩ := hcl.out w4 hB4.out
  go_wp2_with (fail)
  refine (varint_w ti ht hcw4.out (by omega) (by omega) (by simp; omega)).mono ?_
  rintro e w5 ⟨rfl, hcw5, hb5⟩
  replace hcw5 := hcw5.fit (by simp; omega)
  have hB5 := Lib.hid (hB4.out.trans hb5)
  clear k0 k1 k2 k3 hcw4 hb5 hB4
  obtain ⟨k0, k1, k2, k3⟩ := hcl.out w5 hB5.out
  go_wp2_with (fail)
  refine (text_w su (by omega) hcw5.out (by omega) (by omega) (by simp; omega)).mono ?_
  rw [hT.out]
  rintro e w6 ⟨rfl, hcw6, hb6⟩
  replace hcw6 := hcw6.fit (by simp; omega)
  have hB6 := Lib.hid (hB5.out.trans hb6)
  clear k0 k1 k2 k3 hcw5 hb6 hB5
  go_wp2_with (fail)
  refine (Done_any hcw6.out).mono ?_
  rintro e w7 ⟨rfl, rfl⟩
  rw [show doneS ([] ++ vr n ++ vr m ++ vr ti ++ T) false = Bd.B (vr n ++ vr m ++ vr ti ++ T) from rfl, show doneE false = 0 from rfl]
  have hend := Lib.hid (hB0.out.trans (hB6.out.mono (Nat.le_of_lt hz0)))
  clear hcw6
  go_wp2
  go_ret2
  exact ⟨by rw [hE.out, List.append_assoc, List.append_assoc]; rfl, hend.out⟩
set_option maxHeartbeats 4000000 in
set_option maxRecDepth 100000 in
theorem rencEnt_ok (n m ti : Nat) (su : ByteArray) (hn : 1 ≤ n) (hn2 : n < 9223372036854775808) (hm : 1 ≤ m) (hm2 : m < 9223372036854775808) (ht : ti < 18446744073709551616) (hs : su.size ≤ 128) (w : World) :
    Calls Tryz.prog 136 #[.agg #[.int .i64 (n : Int), .int .i64 (m : Int), .int .u64 (ti : Int), .string su]] w fun e w' => e = .returned (ledV (encEnt (n : Int) (m : Int) ti su)) ∧ Below w.heap.size w w' := by
  have hE : Hid (encEnt (n : Int) (m : Int) ti su = some (Bd.B (vr n ++ vr m ++ vr ti ++ (vr su.size ++ su.data.toList)))) := Lib.hid (by unfold encEnt; rw [if_neg (by omega)]; rfl)
  obtain ⟨W0, hW0⟩ : ∃ W0, W0 = w.alloc (.cells #[.int .i64 (n : Int), .int .i64 (m : Int), .int .u64 (ti : Int), .string su] 121) := ⟨_, rfl⟩
  have hr0 : W0.heap[w.heap.size]? = some (.cells #[.int .i64 (n : Int), .int .i64 (m : Int), .int .u64 (ti : Int), .string su] 121 (0, 0)) := by rw [hW0]; exact heap_alloc_new w _
  have hB0 := Lib.hid (show Below w.heap.size w W0 by rw [hW0]; exact (Below.refl _ _).alloc (Nat.le_refl _) _)
  have hz0 : w.heap.size < W0.heap.size := by rw [hW0]; simp
  have hcl : Hid (∀ W, Below W0.heap.size W0 W → W.cell? ⟨w.heap.size, 0, none⟩ = some (.int .i64 (n : Int)) ∧ W.cell? ⟨w.heap.size, 1, none⟩ = some (.int .i64 (m : Int)) ∧ W.cell? ⟨w.heap.size, 2, none⟩ = some (.int .u64 (ti : Int)) ∧ W.cell? ⟨w.heap.size, 3, none⟩ = some (.string su) ∧ Below W0.heap.size W0 W) := Lib.hid (fun W h => by
    have h3 := (h.block _ hz0).trans hr0
    exact ⟨(blk_cell h3 0).trans rfl, (blk_cell h3 1).trans rfl, (blk_cell h3 2).trans rfl, (blk_cell h3 3).trans rfl, h⟩)
  clear hr0
  have d1 : decide ((n : Int) < 1) = false := decide_eq_false (by omega)
  have d2 : decide ((m : Int) < 1) = false := decide_eq_false (by omega)
  have d3 : decide ((128 : Int) < (su.size : Int)) = false := decide_eq_false (by omega)
  have c1 : IntKind.u64.wrap (n : Int) = (n : Int) := IntWalk.u64_in _ (by omega)
  have c2 : IntKind.u64.wrap (m : Int) = (m : Int) := IntWalk.u64_in _ (by omega)
  have b1 : (0 : Int) ≤ (n : Int) := by omega
  have b2 : (0 : Int) ≤ (m : Int) := by omega
  have b3 : (n : Int) ≤ 9223372036854775807 := by omega
  have b4 : (m : Int) ≤ 9223372036854775807 := by omega
  have hna := Lib.hid (fun W => rvarint_any n (by omega) W)
  have hnb := Lib.hid (fun W => rvarint_any m (by omega) W)
  have hnc := Lib.hid (fun W => rvarint_any ti ht W)
  have hnd := Lib.hid (fun W => rtext_any su (by omega) W)
  have lv := fun x => (vr_len x).1
  have hsl : su.data.toList.length = su.size := len_data su
  have lv1 := lv n
  have lv2 := lv m
  have lv3 := lv ti
  have lv4 : (vr su.size ++ su.data.toList).length ≤ 138 := by rw [List.length_append, hsl]; have := lv su.size; omega
  clear lv
  replace hsl := Lib.hid hsl
  generalize vr su.size ++ su.data.toList = T at *
  generalize vr n = X at *
  generalize vr m = Y at *
  generalize vr ti = Z at *
  have s1 : ∀ V : World, (Op.stringOp .add (Bd.B X) (Bd.B Y)).run Tryz.prog V = .ok (.string (Bd.B (X ++ Y))) V := fun V => by
    have := cat_run (Bd.B X) (Bd.B Y) (by rw [Bd.B_size, Bd.B_size]; omega) V
    rw [Bd.B_app] at this
    exact this
  have s2 : ∀ V : World, (Op.stringOp .add (Bd.B (X ++ Y)) (Bd.B Z)).run Tryz.prog V = .ok (.string (Bd.B (X ++ Y ++ Z))) V := fun V => by
    have := cat_run (Bd.B (X ++ Y)) (Bd.B Z) (by rw [Bd.B_size, Bd.B_size, List.length_append]; omega) V
    rw [Bd.B_app] at this
    exact this
  have s3 : ∀ V : World, (Op.stringOp .add (Bd.B (X ++ Y ++ Z)) (Bd.B T)).run Tryz.prog V = .ok (.string (Bd.B (X ++ Y ++ Z ++ T))) V := fun V => by
    have := cat_run (Bd.B (X ++ Y ++ Z)) (Bd.B T) (by rw [Bd.B_size, Bd.B_size, List.length_append, List.length_append]; omega) V
    rw [Bd.B_app] at this
    exact this
  generalize hQ4 : Bd.B (X ++ Y ++ Z ++ T) = Q4 at *
  generalize Bd.B (X ++ Y ++ Z) = Q3 at *
  generalize Bd.B (X ++ Y) = Q2 at *
  generalize Bd.B X = BX at *
  generalize Bd.B Y = BY at *
  generalize Bd.B Z = BZ at *
  generalize Bd.B T = BT at *
  replace hQ4 := Lib.hid hQ4
  clear lv1 lv2 lv3 lv4
  obtain ⟨k0, k1, k2, k3, _⟩ := hcl.out W0 (Below.refl _ _)
  rw [hW0] at k0 k1 k2 k3
  have hW0H := Lib.hid hW0
  clear hW0
  go_enter Tryz.func136, Tryz.ntmps136
  go_upto_region 3 with (fail)
  rw [← hW0H.out] at k0 k1 k2 k3 ⊢
  go_region_held3 (fun W => W.cell? ⟨w.heap.size, 0, none⟩ = some (.int .i64 (n : Int)) ∧ W.cell? ⟨w.heap.size, 1, none⟩ = some (.int .i64 (m : Int)) ∧ W.cell? ⟨w.heap.size, 2, none⟩ = some (.int .u64 (ti : Int)) ∧ W.cell? ⟨w.heap.size, 3, none⟩ = some (.string su) ∧ Below W0.heap.size W0 W)  (first | exact hcl.out _ (Below.refl _ _) | exact hcl.out _ (below_drew (Below.refl _ _)) | exact hcl.out _ (below_then3 (And.right (And.right (And.right (And.right (by assumption : _ ∧ _ ∧ _ ∧ _ ∧ Below W0.heap.size W0 _))))) (by assumption)))  (first | (go_at_call 111; first | ((with_reducible refine (hna.out _).mono ?_); rintro e4 w4 ⟨rfl, hb4⟩) | ((with_reducible refine (hnb.out _).mono ?_); rintro e4 w4 ⟨rfl, hb4⟩) | ((with_reducible refine (hnc.out _).mono ?_); rintro e4 w4 ⟨rfl, hb4⟩)) | (go_at_call 60; (with_reducible refine (hnd.out _).mono ?_); rintro e4 w4 ⟨rfl, hb4⟩) | fail)
  all_goals
    go_wp2
    go_ret2
    exact ⟨by rw [hE.out]; rfl, hB0.out.trans ((And.right (And.right (And.right (And.right (by assumption : _ ∧ _ ∧ _ ∧ _ ∧ Below W0.heap.size W0 _))))).mono (Nat.le_of_lt hz0))⟩
end Go.Proofs.YtmchephokleffaaGreatDoor
