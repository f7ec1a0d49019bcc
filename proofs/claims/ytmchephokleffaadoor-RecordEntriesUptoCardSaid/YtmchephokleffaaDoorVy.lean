/-
  Chapter 22: the law RecordEntries, walked.
-/
import Derived.Test.YtmchephokleffaaDoorVx
import Derived.Test.YtmchephokleffaaDoorVl
set_option linter.unusedVariables false
set_option linter.unusedSimpArgs false
namespace Go.Proofs.YtmchephokleffaaDoor
open Go.RowKit Go.Proofs.YtmchephokleffaaDoorW.PrintWords Go.Proofs.YtmchephokleffaaDoor.PRecord
theorem eqEntry (d : Nat) (w : World) (x0 y0 : Int) (x1 y1 : Int) (x2 y2 : Int) (x3 y3 : ByteArray) :
    (Op.equalIn (d + 2) 33 (.agg #[.int .i64 x0, .int .i64 x1, .int .u64 x2, .string x3]) (.agg #[.int .i64 y0, .int .i64 y1, .int .u64 y2, .string y3])).run Tryd.prog w = .ok (x0 == y0 && (x1 == y1 && (x2 == y2 && (x3.toList == y3.toList)))) w := by
  refine eqA_of Tryd.underlying33 (by kernel_rfl) ?_
  refine eqf_cons (by rfl) (by go_simp; rfl) (by go_simp; rfl) (by go_simp) ?_
  refine eqf_cons (by rfl) (by go_simp; rfl) (by go_simp; rfl) (by go_simp) ?_
  refine eqf_cons (by rfl) (by go_simp; rfl) (by go_simp; rfl) (by go_simp) ?_
  exact eqf_last (by rfl) (by go_simp; rfl) (by go_simp; rfl) (by go_simp)
attribute [local go_sem high] eqEntry
theorem cutB (a r : List UInt8) : (Bd.B (a ++ r)).extract a.length (Bd.B (a ++ r)).size = Bd.B r := by
  rw [← Bd.of_data ((Bd.B (a ++ r)).extract a.length (Bd.B (a ++ r)).size), ext_drop, Bd.B_data, List.drop_left' rfl]
theorem vtO_vr (n : Nat) (r : List UInt8) (h : n < 18446744073709551616) : vtO (some (Bd.B (vr n ++ r))) = (n, some (Bd.B r)) := by
  rw [vtO_yes (show rv (Bd.B (vr n ++ r)).data.toList = some (n, (vr n).length) by rw [Bd.B_data]; exact rv_vr n r h), cutB]
theorem teO_vr (su : ByteArray) (h : su.size < 18446744073709551616) : teO (some (Bd.B (vr su.size ++ su.data.toList))) = (su, some ⟨#[]⟩) := by
  have h1 : rv (Bd.B (vr su.size ++ su.data.toList)).data.toList = some (su.size, (vr su.size).length) := by rw [Bd.B_data]; exact rv_vr _ _ h
  simp only [teO, h1, cutB, Bd.of_data]
  rw [if_neg (by omega)]
  have e1 : su.extract 0 su.size = su := by
    apply ByteArray.ext
    rw [ByteArray.data_extract]
    exact Array.extract_size
  have e2 : su.extract su.size su.size = ⟨#[]⟩ := by
    apply ByteArray.ext
    apply Array.eq_empty_of_size_eq_zero
    show (su.extract su.size su.size).size = 0
    rw [ByteArray.size_extract]
    omega
  rw [e1, e2]
theorem dec_encE (nu ki : Int) (ti : Nat) (su s : ByteArray) (hn : nu < 9223372036854775808) (hk : ki < 9223372036854775808) (ht : ti < 18446744073709551616) (h : encEnt nu ki ti su = some s) : s.size ≤ 1000 ∧ decEnt s = some (nu, ki, ti, su) := by
  have hs := h
  unfold encEnt at h
  by_cases hb : nu < 1 ∨ ki < 1 ∨ 128 < su.size
  · rw [if_pos hb] at h
    cases h
  · rw [if_neg hb] at h
    injection h with h
    obtain ⟨n, rfl⟩ := Int.eq_ofNat_of_zero_le (show 0 ≤ nu by omega)
    obtain ⟨m, rfl⟩ := Int.eq_ofNat_of_zero_le (show 0 ≤ ki by omega)
    simp only [Int.toNat_natCast, List.append_assoc] at h
    have l1 := vr_len n
    have l2 := vr_len m
    have l3 := vr_len ti
    have l4 := vr_len su.size
    have hsz : s.size ≤ 1000 := by
      rw [← h, Bd.B_size]
      simp only [List.length_append, len_data]
      omega
    refine ⟨hsz, ?_⟩
    have q1 : vtO (some s) = (n, some (Bd.B (vr m ++ (vr ti ++ (vr su.size ++ su.data.toList))))) := by rw [← h]; exact vtO_vr n _ (by omega)
    have q2 := vtO_vr m (vr ti ++ (vr su.size ++ su.data.toList)) (by omega)
    have q3 := vtO_vr ti (vr su.size ++ su.data.toList) ht
    have q4 := teO_vr su (by omega)
    have w0 : wrap64 (n : Int) = (n : Int) := IntWalk.wrap64_in _ (by omega)
    have w1 : wrap64 (m : Int) = (m : Int) := IntWalk.wrap64_in _ (by omega)
    unfold decEnt
    simp only [q1, q2, q3, q4, w0, w1]
    rw [if_pos ⟨rfl, hs⟩]
set_option maxHeartbeats 4000000 in
set_option maxRecDepth 100000 in
theorem entries_any (nu ki : Int) (ti : Nat) (hd v : ByteArray) (hn : nu < 9223372036854775808) (hk : ki < 9223372036854775808) (h1 : ti < 18446744073709551616) (hv : v.size ≤ 1048576) (w : World) :
    Calls Tryd.prog 5 #[.agg #[.int .i64 nu, .int .i64 ki, .int .u64 (ti : Int), .string hd], .string v] w fun e w' => e = .returned (.bool true) ∧ Below w.heap.size w w' := by
  obtain ⟨W0, hW0⟩ : ∃ W0, W0 = w.alloc (.cells #[.int .i64 nu, .int .i64 ki, .int .u64 (ti : Int), .string hd] 33) := ⟨_, rfl⟩
  have hr0 : W0.heap[w.heap.size]? = some (.cells #[.int .i64 nu, .int .i64 ki, .int .u64 (ti : Int), .string hd] 33 (0, 0)) := by rw [hW0]; exact heap_alloc_new w _
  have hB0 := Lib.hid (show Below w.heap.size w W0 by rw [hW0]; exact (Below.refl _ _).alloc (Nat.le_refl _) _)
  have hz0 : w.heap.size < W0.heap.size := by rw [hW0]; simp
  have hcl : Hid (∀ W, Below W0.heap.size W0 W → W.cell? ⟨w.heap.size, 0, none⟩ = some (.int .i64 nu) ∧ W.cell? ⟨w.heap.size, 1, none⟩ = some (.int .i64 ki) ∧ W.cell? ⟨w.heap.size, 2, none⟩ = some (.int .u64 (ti : Int)) ∧ W.cell? ⟨w.heap.size, 3, none⟩ = some (.string hd) ∧ Below w.heap.size w W) := Lib.hid (fun W h => by
    have h3 := (h.block _ hz0).trans hr0
    exact ⟨(blk_cell h3 0).trans rfl, (blk_cell h3 1).trans rfl, (blk_cell h3 2).trans rfl, (blk_cell h3 3).trans rfl, hB0.out.trans (h.mono (Nat.le_of_lt hz0))⟩)
  have hE := Lib.hid (fun W => encEnt_any nu ki ti hd hn hk h1 W)
  have hF := Lib.hid (fun W => rencEnt_any nu ki ti hd hn hk h1 W)
  have hG := Lib.hid (fun W => decEnt_any v (by omega) W)
  have hH := Lib.hid (fun W => rdecEnt_any v (by omega) W)
  have hA := Lib.hid (fun W => awake_any W)
  have hrt : Hid (∀ s, encEnt nu ki ti hd = some s → ∀ W, Calls Tryd.prog 13 #[.string s] W fun e w' => e = .returned (.tuple #[.agg #[.int .i64 nu, .int .i64 ki, .int .u64 (ti : Int), .string hd], .int .i64 0]) ∧ Below W.heap.size W w') := Lib.hid (fun s hs W => by
    obtain ⟨hz, hd2⟩ := dec_encE nu ki ti hd s hn hk h1 hs
    have := decEnt_any s (by omega) W
    rw [hd2] at this
    exact this)
  obtain ⟨O, hO⟩ : ∃ O, encEnt nu ki ti hd = O := ⟨_, rfl⟩
  rw [hO] at hE hF hrt
  obtain ⟨a, b, c, t, f, hld⟩ : ∃ (a b : Int) (c : Nat) (t : ByteArray) (f : Int), enV (decEnt v) = .tuple #[.agg #[.int .i64 a, .int .i64 b, .int .u64 (c : Int), .string t], .int .i64 f] := by
    cases decEnt v with
    | none => exact ⟨0, 0, 0, ⟨#[]⟩, 221, rfl⟩
    | some p => exact ⟨p.1, p.2.1, p.2.2.1, p.2.2.2, 0, rfl⟩
  rw [hld] at hG hH
  replace hO := Lib.hid hO
  have hW0H := Lib.hid hW0
  clear hr0 hB0 hW0 hld
  go_enter Tryd.func5, Tryd.ntmps5
  go_wp2_with (fail)
  rw [← hW0H.out]
  refine (hA.out _).mono ?_
  rintro e w2 ⟨rfl, hb2⟩
  have hB2 := Lib.hid hb2
  clear hb2 hA
  obtain ⟨k0, k1, k2, k3, _⟩ := hcl.out _ hB2.out
  go_wp2_with (fail)
  refine (hE.out _).mono ?_
  rintro e w3 ⟨rfl, hb3⟩
  have hB3 := Lib.hid (hB2.out.trans (hb3.mono hB2.out.size))
  clear hb3 hB2 hE k0 k1 k2 k3
  obtain ⟨k0, k1, k2, k3, _⟩ := hcl.out _ hB3.out
  cases O with
  | none =>
    simp only [ledV] at hF ⊢
    go_wp2_with (fail)
    refine (hF.out _).mono ?_
    rintro e w4 ⟨rfl, hb4⟩
    have hB4 := Lib.hid (hB3.out.trans (hb4.mono hB3.out.size))
    clear hb4 hB3 hF k0 k1 k2 k3
    go_wp2_with (fail)
    refine (hG.out _).mono ?_
    rintro e w5 ⟨rfl, hb5⟩
    have hB5 := Lib.hid (below_alloc (hB4.out.trans (hb5.mono hB4.out.size)) (.cells #[.int .i64 a, .int .i64 b, .int .u64 (c : Int), .string t] 33))
    have hbx := heap_alloc_new w5 (.cells #[.int .i64 a, .int .i64 b, .int .u64 (c : Int), .string t] 33)
    replace hbx := Lib.hid hbx
    clear hb5 hB4 hG
    go_wp2_with (fail)
    refine (hH.out _).mono ?_
    rintro e w6 ⟨rfl, hb6⟩
    have hB6 := Lib.hid (below_alloc (hB5.out.trans (hb6.mono hB5.out.size)) (.cells #[.int .i64 a, .int .i64 b, .int .u64 (c : Int), .string t] 33))
    have hbx6 := (below_alloc hb6 (.cells #[.int .i64 a, .int .i64 b, .int .u64 (c : Int), .string t] 33)).block w5.heap.size (by simp)
    rw [hbx.out] at hbx6
    have q0 := (blk_cell hbx6 0).trans rfl
    have q1 := (blk_cell hbx6 1).trans rfl
    have q2 := (blk_cell hbx6 2).trans rfl
    have q3 := (blk_cell hbx6 3).trans rfl
    have hend := Lib.hid (hcl.out _ hB6.out).2.2.2.2
    clear hb6 hB5 hH hbx hbx6
    go_wp2
    go_ret
    exact ⟨rfl, hend.out⟩
  | some s =>
    simp only [ledV] at hF ⊢
    go_wp2_with (fail)
    refine (hF.out _).mono ?_
    rintro e w4 ⟨rfl, hb4⟩
    have hB4 := Lib.hid (hB3.out.trans (hb4.mono hB3.out.size))
    clear hb4 hB3 hF k0 k1 k2 k3
    go_wp2_with (fail)
    refine (hG.out _).mono ?_
    rintro e w5 ⟨rfl, hb5⟩
    have hB5 := Lib.hid (below_alloc (hB4.out.trans (hb5.mono hB4.out.size)) (.cells #[.int .i64 a, .int .i64 b, .int .u64 (c : Int), .string t] 33))
    have hbx := heap_alloc_new w5 (.cells #[.int .i64 a, .int .i64 b, .int .u64 (c : Int), .string t] 33)
    replace hbx := Lib.hid hbx
    clear hb5 hB4 hG
    go_wp2_with (fail)
    refine (hH.out _).mono ?_
    rintro e w6 ⟨rfl, hb6⟩
    have hB6 := Lib.hid (below_alloc (hB5.out.trans (hb6.mono hB5.out.size)) (.cells #[.int .i64 a, .int .i64 b, .int .u64 (c : Int), .string t] 33))
    have hbx6 := (below_alloc hb6 (.cells #[.int .i64 a, .int .i64 b, .int .u64 (c : Int), .string t] 33)).block w5.heap.size (by simp)
    rw [hbx.out] at hbx6
    have q0 := (blk_cell hbx6 0).trans rfl
    have q1 := (blk_cell hbx6 1).trans rfl
    have q2 := (blk_cell hbx6 2).trans rfl
    have q3 := (blk_cell hbx6 3).trans rfl
    have hbk := Lib.hid (hrt.out s rfl)
    clear hb6 hB5 hH hbx hbx6 hrt
    go_wp2_with (fail)
    refine (hbk.out _).mono ?_
    rintro e w7 ⟨rfl, hb7⟩
    have hB7 := Lib.hid (below_alloc (hB6.out.trans (hb7.mono hB6.out.size)) (.cells #[.int .i64 nu, .int .i64 ki, .int .u64 (ti : Int), .string hd] 33))
    clear hb7 hB6 hbk q0 q1 q2 q3
    obtain ⟨k0, k1, k2, k3, hend⟩ := hcl.out _ hB7.out
    replace hend := Lib.hid hend
    go_wp2
    go_ret
    exact ⟨rfl, hend.out⟩
theorem u64_wf {x : Int} (h : (Lit.int .u64 x).wf = true) : ∃ n : Nat, x = (n : Int) ∧ n < 18446744073709551616 := by
  have h2 : 0 ≤ x ∧ x ≤ 18446744073709551615 := by
    simp only [Lit.wf, IntKind.min, IntKind.max, IntKind.signed, IntKind.bits, Bool.and_eq_true, decide_eq_true_eq] at h
    simpa using h
  exact ⟨x.toNat, by omega, by omega⟩
theorem i64_wf {x : Int} (h : (Lit.int .i64 x).wf = true) : x < 9223372036854775808 := by
  have h2 : -9223372036854775808 ≤ x ∧ x ≤ 9223372036854775807 := by
    simp only [Lit.wf, IntKind.min, IntKind.max, IntKind.signed, IntKind.bits, Bool.and_eq_true, decide_eq_true_eq] at h
    simpa using h
  omega
theorem entries_walk (W : World) (i0 i1 i2 : Int) (hd : ByteArray) (hw : (Lit.int .i64 i0).wf = true ∧ (Lit.int .i64 i1).wf = true ∧ (Lit.int .u64 i2).wf = true) (v : ByteArray) (hv : v.size ≤ 1048576) :
    Calls Tryd.prog 5 #[.agg #[.int .i64 i0, .int .i64 i1, .int .u64 i2, .string hd], .string v] W fun e w' => e = .returned (.bool true) ∧ Below W.heap.size W w' := by
  obtain ⟨n, rfl, hn⟩ := u64_wf hw.2.2
  exact entries_any i0 i1 n hd v (i64_wf hw.1) (i64_wf hw.2.1) hn hv W
end Go.Proofs.YtmchephokleffaaDoor
