/-
  The log's reader: what is passed over, walked.
-/
import Derived.Test.YtlmlkamgpmnmgaaDoorZer
import Derived.Test.YtlmlkamgpmnmgaaDoorLay
set_option linter.unusedVariables false
set_option linter.unusedSimpArgs false
namespace Go.Proofs.YtlmlkamgpmnmgaaDoor
open Go.RowKit Go.Proofs.YtlmlkamgpmnmgaaDoorW.PrintWords
/-- 'xs[l:h]'. -/
theorem cut2_any (A : Option Addr) (n c l h : Nat) (hl : l ≤ h) (hh : h ≤ n) (hnc : n ≤ c) :
    ∃ A' : Option Addr, (∀ W : World, (Instr.slice 23 (.slice A n c) (some (.int .i64 (l : Int))) (some (.int .i64 (h : Int))) none).run Tryd.prog W = .ok (.slice A' (h - l) (c - l)) W) ∧
      (∀ (w : World) (xs : List UInt8), Rd w A n xs → Rd w A' (h - l) ((xs.drop l).take (h - l))) := by
  obtain ⟨i, hi, hz0, hz1, hz2⟩ := info_parts info_u8
  refine ⟨if c = l then A else A.map (·.add l), fun W => ?_, fun w xs hr => ?_⟩
  · have hel : Tryd.prog.elem 23 = 5 := by simp [Program.elem, Tryd.underlying23]
    have hu : Tryd.prog.underlying 23 = some (.slice (Tryd.prog.elem 23)) := by rw [hel]; exact Tryd.underlying23
    rw [run_slice_lh W 23 A n c hu .i64 .i64 (l : Int) (h : Int) (Int.natCast_nonneg _) (by omega) (by omega), hel]
    simp [sizeOf, typeInfo, hi, hz1, sliced, Result.andThen]
  · have h1 : Rd w (if c = l then A else A.map (·.add l)) (n - l) (xs.drop l) := by
      have := ReadsInt.drop_ (c := c) hr l (by omega) hnc
      unfold Rd
      rw [bi_drop]
      exact this
    exact h1.take (h - l) (by omega)
theorem cut2_at (A : Option Addr) (n c l h : Nat) (li hi : Int) (e1 : li = (l : Int)) (e2 : hi = (h : Int)) (hl : l ≤ h) (hh : h ≤ n) (hnc : n ≤ c) :
    ∃ A' : Option Addr, (∀ W : World, (Instr.slice 23 (.slice A n c) (some (.int .i64 li)) (some (.int .i64 hi)) none).run Tryd.prog W = .ok (.slice A' (h - l) (c - l)) W) ∧
      (∀ (w : World) (xs : List UInt8), Rd w A n xs → Rd w A' (h - l) ((xs.drop l).take (h - l))) := by
  subst e1
  subst e2
  exact cut2_any A n c l h hl hh hnc
structure RS (wS w : World) (g : Nat) (A : Option Addr) (n c : Nat) (L : List UInt8) (v : Value) (pos : Nat) (rec : List UInt8) (inn : Bool) : Prop where
  ge : wS.heap.size ≤ g
  blk : w.heap[g]? = some (.cells #[.slice A n c, .int .i64 (pos : Int), v, .bool inn] 92 (0, 0))
  row : Row w wS.heap.size v rec
  rd : Rd wS A n L
  nc : n ≤ c
  bel : Below wS.heap.size wS w
/-- What is passed over: why the log ends (0: it goes on), and where one is then. -/
def skipR (L : List UInt8) (pos : Nat) (inn : Bool) : Nat × Nat :=
  if gapN pos = 0 then (0, pos) else
    if allZero ((L.drop pos).take (gapN pos)) = true then
      if L.length < pos + gapN pos then (if L.length = pos ∧ inn = false then (1, pos) else (2, pos)) else (0, pos + gapN pos)
    else (3, pos)
theorem RS.rdw {wS w : World} {g : Nat} {A : Option Addr} {n c : Nat} {L : List UInt8} {v : Value} {pos : Nat} {rec : List UInt8} {inn : Bool} (h : RS wS w g A n c L v pos rec inn) : Rd w A n L := h.rd.below h.bel
theorem RS.drewN {wS w : World} {g : Nat} {A : Option Addr} {n c : Nat} {L : List UInt8} {v : Value} {pos : Nat} {rec : List UInt8} {inn : Bool} (h : RS wS w g A n c L v pos rec inn) (m : Nat) : RS wS (w.drewN m) g A n c L v pos rec inn :=
  ⟨h.ge, h.blk, h.row, h.rd, h.nc, pw_below_drewN h.bel m⟩
theorem RS.drew {wS w : World} {g : Nat} {A : Option Addr} {n c : Nat} {L : List UInt8} {v : Value} {pos : Nat} {rec : List UInt8} {inn : Bool} (h : RS wS w g A n c L v pos rec inn) : RS wS w.drew g A n c L v pos rec inn :=
  ⟨h.ge, h.blk, h.row, h.rd, h.nc, h.bel.drew⟩
theorem RS.below {wS w w1 : World} {g : Nat} {A : Option Addr} {n c : Nat} {L : List UInt8} {v : Value} {pos : Nat} {rec : List UInt8} {inn : Bool} (h : RS wS w g A n c L v pos rec inn) (hb : Below w.heap.size w w1) : RS wS w1 g A n c L v pos rec inn :=
  ⟨h.ge, by rw [hb.block g (blk_lt h.blk)]; exact h.blk, h.row.below hb, h.rd, h.nc, h.bel.trans (hb.mono h.bel.size)⟩
theorem RS.set1 {wS w : World} {g : Nat} {A : Option Addr} {n c : Nat} {L : List UInt8} {v : Value} {pos : Nat} {rec : List UInt8} {inn : Bool} (h : RS wS w g A n c L v pos rec inn) (p2 : Nat) : RS wS (w.setCell ⟨g, 1, none⟩ (.int .i64 (p2 : Int))) g A n c L v p2 rec inn :=
  ⟨h.ge, blk_set h.blk 1 _, h.row.frame (fun q hq => Below.heap_setCell _ _ _ _ (fun e => own_ne h.row h.blk (by decide) (by rw [hq]; exact congrArg some e.symm))), h.rd, h.nc, h.bel.setCell (p := ⟨g, 1, none⟩) h.ge _⟩
set_option maxHeartbeats 800000 in
theorem skips_short {wS w : World} {g : Nat} {A : Option Addr} {n c : Nat} {L : List UInt8} {v : Value} {pos : Nat} {rec : List UInt8} {inn : Bool} (h : RS wS w g A n c L v pos rec inn) (hp : pos ≤ n) (hn : n ≤ 281474976710656) (hg0 : ¬ gapN pos = 0) (hsh : n < pos + gapN pos) :
    Calls Tryd.prog 62 #[.pointer (some ⟨g, 0, none⟩)] w fun e w' => e = .returned (.int .i64 (((skipR L pos inn).1 : Nat) : Int)) ∧ RS wS w' g A n c L v (skipR L pos inn).2 rec inn ∧ Kept w w' (fun k => k = g) := by
  have HR := Lib.hid h
  have hLn := Lib.hid h.rd.len
  have hrdw := Lib.hid h.rdw
  obtain ⟨hge, hb, hrow, hrd, hnc, hbel⟩ := h
  obtain ⟨A1, c1, rfl, _, _⟩ := hrow.rd
  have k0 : w.cell? ⟨g, 0, none⟩ = some (.slice A n c) := (blk_cell hb 0).trans rfl
  have k1 : w.cell? ⟨g, 1, none⟩ = some (.int .i64 (pos : Int)) := (blk_cell hb 1).trans rfl
  have k3 : w.cell? ⟨g, 3, none⟩ = some (.bool inn) := (blk_cell hb 3).trans rfl
  have f1 := blk_frozen hb 1
  have hgap := Lib.hid (gap_any pos (by omega) w)
  have hgl := gapN_le pos
  clear hrow hrd hbel
  have hgz : (((gapN pos : Nat) : Int) == 0) = false := by rw [beq_eq_false_iff_ne]; omega
  have e0 : skipR L pos inn = if allZero ((L.drop pos).take (gapN pos)) = true then
    if L.length < pos + gapN pos then (if L.length = pos ∧ inn = false then (1, pos) else (2, pos)) else (0, pos + gapN pos)
  else (3, pos) := by
    conv => lhs; unfold skipR
    rw [if_neg hg0]
  rw [e0]
  clear e0
  generalize gapN pos = gp at *
  have hmin : min (n : Int) ((pos : Int) + (gp : Int)) = (n : Int) := by omega
  obtain ⟨A', hcut, hA'⟩ := cut2_any A n c pos n hp (Nat.le_refl _) hnc
  have hR2 := Lib.hid (hA' w L hrdw.out)
  clear hA'
  have hth : (L.drop pos).take gp = (L.drop pos).take (n - pos) := by
    rw [List.take_of_length_le (by rw [List.length_drop, hLn.out]; omega), List.take_of_length_le (by rw [List.length_drop, hLn.out]; omega)]
  rw [hth, hLn.out, if_pos hsh]
  clear hth
  generalize (L.drop pos).take (n - pos) = T at *
  have hlt2 : n - pos < gp := by omega
  cases hz : allZero T with
  | false =>
    rw [if_neg (by simp)]
    go_enter Tryd.func62, Tryd.ntmps62
    go_wp2_with (first | (go_at_call 12; go_must (refine hgap.out.mono ?_; rintro e w3 ⟨rfl, rfl⟩)))
    go_quiet (fail)
    go_wp2_with (first | (go_at_call 75; go_must (refine (zeros_any (hR2.out.drewN _) (by omega)).mono ?_; rintro e w4 ⟨rfl, rfl⟩)))
    go_ret
    exact ⟨rfl, HR.out.drewN _, (Kept.refl _ _).drewN _⟩
  | true =>
    rw [if_pos rfl]
    by_cases hnp : n = pos
    · have hz0 : (((n - pos : Nat) : Int) == 0) = true := by rw [beq_iff_eq]; omega
      clear hmin
      have hmin : min (n : Int) ((pos : Int) + (gp : Int)) = (n : Int) := by omega
      cases inn with
      | false =>
        rw [if_pos ⟨hnp, rfl⟩]
        replace hnp := Lib.hid hnp
        go_enter Tryd.func62, Tryd.ntmps62
        go_wp2_with (first | (go_at_call 12; go_must (refine hgap.out.mono ?_; rintro e w3 ⟨rfl, rfl⟩)))
        go_quiet (fail)
        go_wp2_with (first | (go_at_call 75; go_must (refine (zeros_any (hR2.out.drewN _) (by omega)).mono ?_; rintro e w4 ⟨rfl, rfl⟩)))
        go_ret
        exact ⟨rfl, HR.out.drewN _, (Kept.refl _ _).drewN _⟩
      | true =>
        rw [if_neg (by simp)]
        replace hnp := Lib.hid hnp
        go_enter Tryd.func62, Tryd.ntmps62
        go_wp2_with (first | (go_at_call 12; go_must (refine hgap.out.mono ?_; rintro e w3 ⟨rfl, rfl⟩)))
        go_quiet (fail)
        go_wp2_with (first | (go_at_call 75; go_must (refine (zeros_any (hR2.out.drewN _) (by omega)).mono ?_; rintro e w4 ⟨rfl, rfl⟩)))
        go_ret
        exact ⟨rfl, HR.out.drewN _, (Kept.refl _ _).drewN _⟩
    · have hz0 : (((n - pos : Nat) : Int) == 0) = false := by rw [beq_eq_false_iff_ne]; omega
      rw [if_neg (fun h => hnp h.1)]
      go_enter Tryd.func62, Tryd.ntmps62
      go_wp2_with (first | (go_at_call 12; go_must (refine hgap.out.mono ?_; rintro e w3 ⟨rfl, rfl⟩)))
      go_quiet (fail)
      go_wp2_with (first | (go_at_call 75; go_must (refine (zeros_any (hR2.out.drewN _) (by omega)).mono ?_; rintro e w4 ⟨rfl, rfl⟩)))
      go_ret
      exact ⟨rfl, HR.out.drewN _, (Kept.refl _ _).drewN _⟩
set_option maxHeartbeats 400000 in
theorem skips_long {wS w : World} {g : Nat} {A : Option Addr} {n c : Nat} {L : List UInt8} {v : Value} {pos : Nat} {rec : List UInt8} {inn : Bool} (h : RS wS w g A n c L v pos rec inn) (hp : pos ≤ n) (hn : n ≤ 281474976710656) (hg0 : ¬ gapN pos = 0) (hsh : pos + gapN pos < n) :
    Calls Tryd.prog 62 #[.pointer (some ⟨g, 0, none⟩)] w fun e w' => e = .returned (.int .i64 (((skipR L pos inn).1 : Nat) : Int)) ∧ RS wS w' g A n c L v (skipR L pos inn).2 rec inn ∧ Kept w w' (fun k => k = g) := by
  have HR := Lib.hid h
  have hLn := Lib.hid h.rd.len
  have hrdw := Lib.hid h.rdw
  obtain ⟨hge, hb, hrow, hrd, hnc, hbel⟩ := h
  obtain ⟨A1, c1, rfl, _, _⟩ := hrow.rd
  have k0 : w.cell? ⟨g, 0, none⟩ = some (.slice A n c) := (blk_cell hb 0).trans rfl
  have k1 : w.cell? ⟨g, 1, none⟩ = some (.int .i64 (pos : Int)) := (blk_cell hb 1).trans rfl
  have k3 : w.cell? ⟨g, 3, none⟩ = some (.bool inn) := (blk_cell hb 3).trans rfl
  have f1 := blk_frozen hb 1
  have hgap := Lib.hid (gap_any pos (by omega) w)
  have hgl := gapN_le pos
  clear hrow hrd hbel
  have hgz : (((gapN pos : Nat) : Int) == 0) = false := by rw [beq_eq_false_iff_ne]; omega
  have e0 : skipR L pos inn = if allZero ((L.drop pos).take (gapN pos)) = true then
    if L.length < pos + gapN pos then (if L.length = pos ∧ inn = false then (1, pos) else (2, pos)) else (0, pos + gapN pos)
  else (3, pos) := by
    conv => lhs; unfold skipR
    rw [if_neg hg0]
  rw [e0]
  clear e0
  generalize gapN pos = gp at *
  have hmin : min (n : Int) ((pos : Int) + (gp : Int)) = (pos : Int) + (gp : Int) := by omega
  obtain ⟨A', hcut, hA'⟩ := cut2_any A n c pos (pos + gp) (by omega) (by omega) hnc
  have hR2 := Lib.hid (hA' w L hrdw.out)
  clear hA'
  rw [show pos + gp - pos = gp from by omega] at hR2 hcut
  rw [Int.natCast_add] at hcut
  rw [hLn.out, if_neg (show ¬ n < pos + gp by omega)]
  generalize (L.drop pos).take gp = T at *
  cases hz : allZero T with
  | false =>
    rw [if_neg (by simp)]
    go_enter Tryd.func62, Tryd.ntmps62
    go_wp2_with (first | (go_at_call 12; go_must (refine hgap.out.mono ?_; rintro e w3 ⟨rfl, rfl⟩)))
    go_quiet (fail)
    go_wp2_with (first | (go_at_call 75; go_must (refine (zeros_any (hR2.out.drewN _) (by omega)).mono ?_; rintro e w4 ⟨rfl, rfl⟩)))
    go_ret
    exact ⟨rfl, HR.out.drewN _, (Kept.refl _ _).drewN _⟩
  | true =>
    rw [if_pos rfl]
    go_enter Tryd.func62, Tryd.ntmps62
    go_wp2_with (first | (go_at_call 12; go_must (refine hgap.out.mono ?_; rintro e w3 ⟨rfl, rfl⟩)))
    go_quiet (fail)
    go_wp2_with (first | (go_at_call 75; go_must (refine (zeros_any (hR2.out.drewN _) (by omega)).mono ?_; rintro e w4 ⟨rfl, rfl⟩)))
    go_ret
    exact ⟨rfl, (HR.out.drewN _).set1 _, Kept.setCell (S := fun k => k = g) ((Kept.refl _ _).drewN _) (p := ⟨g, 1, none⟩) (.inl rfl) _⟩
set_option maxHeartbeats 400000 in
theorem skips_eq {wS w : World} {g : Nat} {A : Option Addr} {n c : Nat} {L : List UInt8} {v : Value} {pos : Nat} {rec : List UInt8} {inn : Bool} (h : RS wS w g A n c L v pos rec inn) (hp : pos ≤ n) (hn : n ≤ 281474976710656) (hg0 : ¬ gapN pos = 0) (hsh : pos + gapN pos ≤ n) (hsh2 : n ≤ pos + gapN pos) :
    Calls Tryd.prog 62 #[.pointer (some ⟨g, 0, none⟩)] w fun e w' => e = .returned (.int .i64 (((skipR L pos inn).1 : Nat) : Int)) ∧ RS wS w' g A n c L v (skipR L pos inn).2 rec inn ∧ Kept w w' (fun k => k = g) := by
  have HR := Lib.hid h
  have hLn := Lib.hid h.rd.len
  have hrdw := Lib.hid h.rdw
  obtain ⟨hge, hb, hrow, hrd, hnc, hbel⟩ := h
  obtain ⟨A1, c1, rfl, _, _⟩ := hrow.rd
  have k0 : w.cell? ⟨g, 0, none⟩ = some (.slice A n c) := (blk_cell hb 0).trans rfl
  have k1 : w.cell? ⟨g, 1, none⟩ = some (.int .i64 (pos : Int)) := (blk_cell hb 1).trans rfl
  have k3 : w.cell? ⟨g, 3, none⟩ = some (.bool inn) := (blk_cell hb 3).trans rfl
  have f1 := blk_frozen hb 1
  have hgap := Lib.hid (gap_any pos (by omega) w)
  have hgl := gapN_le pos
  clear hrow hrd hbel
  have hgz : (((gapN pos : Nat) : Int) == 0) = false := by rw [beq_eq_false_iff_ne]; omega
  have e0 : skipR L pos inn = if allZero ((L.drop pos).take (gapN pos)) = true then
    if L.length < pos + gapN pos then (if L.length = pos ∧ inn = false then (1, pos) else (2, pos)) else (0, pos + gapN pos)
  else (3, pos) := by
    conv => lhs; unfold skipR
    rw [if_neg hg0]
  rw [e0]
  clear e0
  generalize gapN pos = gp at *
  have hmin : min (n : Int) ((pos : Int) + (gp : Int)) = (n : Int) := by omega
  obtain ⟨A', hcut, hA'⟩ := cut2_any A n c pos n hp (Nat.le_refl _) hnc
  have hR2 := Lib.hid (hA' w L hrdw.out)
  clear hA'
  have hth : (L.drop pos).take gp = (L.drop pos).take (n - pos) := by rw [show gp = n - pos from by omega]
  rw [hth]
  clear hth
  have hlt2 : ¬ n - pos < gp := by omega
  rw [hLn.out, if_neg (show ¬ n < pos + gp by omega)]
  generalize (L.drop pos).take (n - pos) = T at *
  cases hz : allZero T with
  | false =>
    rw [if_neg (by simp)]
    go_enter Tryd.func62, Tryd.ntmps62
    go_wp2_with (first | (go_at_call 12; go_must (refine hgap.out.mono ?_; rintro e w3 ⟨rfl, rfl⟩)))
    go_quiet (fail)
    go_wp2_with (first | (go_at_call 75; go_must (refine (zeros_any (hR2.out.drewN _) (by omega)).mono ?_; rintro e w4 ⟨rfl, rfl⟩)))
    go_ret
    exact ⟨rfl, HR.out.drewN _, (Kept.refl _ _).drewN _⟩
  | true =>
    rw [if_pos rfl]
    go_enter Tryd.func62, Tryd.ntmps62
    go_wp2_with (first | (go_at_call 12; go_must (refine hgap.out.mono ?_; rintro e w3 ⟨rfl, rfl⟩)))
    go_quiet (fail)
    go_wp2_with (first | (go_at_call 75; go_must (refine (zeros_any (hR2.out.drewN _) (by omega)).mono ?_; rintro e w4 ⟨rfl, rfl⟩)))
    go_ret
    exact ⟨rfl, (HR.out.drewN _).set1 _, Kept.setCell (S := fun k => k = g) ((Kept.refl _ _).drewN _) (p := ⟨g, 1, none⟩) (.inl rfl) _⟩
set_option maxHeartbeats 400000 in
theorem skips_any {wS w : World} {g : Nat} {A : Option Addr} {n c : Nat} {L : List UInt8} {v : Value} {pos : Nat} {rec : List UInt8} {inn : Bool} (h : RS wS w g A n c L v pos rec inn) (hp : pos ≤ n) (hn : n ≤ 281474976710656) :
    Calls Tryd.prog 62 #[.pointer (some ⟨g, 0, none⟩)] w fun e w' => e = .returned (.int .i64 (((skipR L pos inn).1 : Nat) : Int)) ∧ RS wS w' g A n c L v (skipR L pos inn).2 rec inn ∧ Kept w w' (fun k => k = g) := by
  by_cases hg1 : gapN pos = 0
  · have HR := Lib.hid h
    have hLn := Lib.hid h.rd.len
    have hrdw := Lib.hid h.rdw
    obtain ⟨hge, hb, hrow, hrd, hnc, hbel⟩ := h
    obtain ⟨A1, c1, rfl, _, _⟩ := hrow.rd
    have k0 : w.cell? ⟨g, 0, none⟩ = some (.slice A n c) := (blk_cell hb 0).trans rfl
    have k1 : w.cell? ⟨g, 1, none⟩ = some (.int .i64 (pos : Int)) := (blk_cell hb 1).trans rfl
    have k3 : w.cell? ⟨g, 3, none⟩ = some (.bool inn) := (blk_cell hb 3).trans rfl
    have f1 := blk_frozen hb 1
    have hgap := Lib.hid (gap_any pos (by omega) w)
    have hgl := gapN_le pos
    clear hrow hrd hbel
    have hg0 := hg1
    have e1 : skipR L pos inn = (0, pos) := by unfold skipR; rw [if_pos hg0]
    rw [e1]
    clear e1
    have hgz : (((gapN pos : Nat) : Int) == 0) = true := by rw [beq_iff_eq]; omega
    have hg0 := Lib.hid hg0
    go_enter Tryd.func62, Tryd.ntmps62
    go_wp2_with (first | (go_at_call 12; go_must (refine hgap.out.mono ?_; rintro e w3 ⟨rfl, rfl⟩)))
    go_ret
    exact ⟨rfl, HR.out, Kept.refl _ _⟩
  · by_cases hsh : n < pos + gapN pos
    · exact skips_short h hp hn hg1 hsh
    · by_cases hsh2 : n ≤ pos + gapN pos
      · exact skips_eq h hp hn hg1 (by omega) hsh2
      · exact skips_long h hp hn hg1 (by omega)
end Go.Proofs.YtlmlkamgpmnmgaaDoor
