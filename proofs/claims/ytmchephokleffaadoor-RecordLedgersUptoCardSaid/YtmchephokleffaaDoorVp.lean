/-
  Chapter 22: the law RecordLedgers, walked.
-/
import Derived.Test.YtmchephokleffaaDoorVm
set_option linter.unusedVariables false
set_option linter.unusedSimpArgs false
namespace Go.Proofs.YtmchephokleffaaDoor
open Go.RowKit Go.Proofs.YtmchephokleffaaDoorW.PrintWords Go.Proofs.YtmchephokleffaaDoor.PRecord
attribute [local go_sem high] eqLedger
theorem beN_fold (k n : Nat) : ∀ a : Nat, (be k n).foldl (fun a b => a * 256 + b.toNat) a = a * 256 ^ k + n % 256 ^ k := by
  induction k with
  | zero => intro a; simp [be, Nat.mod_one]
  | succ k ih =>
    intro a
    simp only [be, List.foldl_cons, ih]
    have h : (UInt8.ofNat (n / 256 ^ k)).toNat = n / 256 ^ k % 256 := by simp
    rw [h, Nat.mod_pow_succ, Nat.pow_succ, Nat.add_mul, Nat.mul_comm (n / 256 ^ k % 256), Nat.mul_assoc, Nat.mul_comm 256 (256 ^ k)]
    omega
theorem beN_be (k n : Nat) (h : n < 256 ^ k) : beN (be k n) = n := by
  have := beN_fold k n 0
  rw [Nat.zero_mul, Nat.zero_add, Nat.mod_eq_of_lt h] at this
  exact this
theorem dec_enc (nx en : Nat) (hd s : ByteArray) (h1 : nx < 18446744073709551616) (h2 : en < 18446744073709551616) (h : encLed nx en hd = some s) : s.size = 48 ∧ decLed s = some (nx, en, hd) := by
  unfold encLed at h
  by_cases hb : hd.size ≠ 32 ∨ nx = 0
  · rw [if_pos hb] at h
    cases h
  · rw [if_neg hb] at h
    injection h with h
    have hs : hd.data.toList.length = 32 := by rw [len_data]; omega
    have hsz : s.size = 48 := by rw [← h, Bd.B_size]; simp only [List.length_append, be_len, hs]
    have q1 : (s.extract 0 8).data.toList = be 8 nx := by
      rw [ext_take, ← h, Bd.B_data, List.append_assoc, List.take_left' (be_len 8 nx)]
    have q2 : (s.extract 8 16).data.toList = be 8 en := by
      rw [ext_mid, ← h, Bd.B_data, List.append_assoc, List.drop_left' (be_len 8 nx), List.take_left' (be_len 8 en)]
    have q3 : s.extract 16 s.size = hd := by
      rw [← Bd.of_data (s.extract 16 s.size), ext_drop, ← h, Bd.B_data, List.drop_left' (by rw [List.length_append, be_len, be_len]), Bd.of_data]
    have m1 : beN (be 8 nx) = nx := beN_be 8 nx h1
    have m2 : beN (be 8 en) = en := beN_be 8 en h2
    refine ⟨hsz, ?_⟩
    unfold decLed
    rw [q1, q2, q3, m1, m2, if_neg (by omega)]
set_option maxHeartbeats 4000000 in
set_option maxRecDepth 100000 in
theorem ledgers_any (nx en : Nat) (hd v : ByteArray) (h1 : nx < 18446744073709551616) (h2 : en < 18446744073709551616) (hv : v.size ≤ 1048576) (w : World) :
    Calls Tryd.prog 4 #[.agg #[.int .u64 (nx : Int), .int .u64 (en : Int), .string hd], .string v] w fun e w' => e = .returned (.bool true) ∧ Below w.heap.size w w' := by
  obtain ⟨W0, hW0⟩ : ∃ W0, W0 = w.alloc (.cells #[.int .u64 (nx : Int), .int .u64 (en : Int), .string hd] 25) := ⟨_, rfl⟩
  have hr0 : W0.heap[w.heap.size]? = some (.cells #[.int .u64 (nx : Int), .int .u64 (en : Int), .string hd] 25 (0, 0)) := by rw [hW0]; exact heap_alloc_new w _
  have hB0 := Lib.hid (show Below w.heap.size w W0 by rw [hW0]; exact (Below.refl _ _).alloc (Nat.le_refl _) _)
  have hz0 : w.heap.size < W0.heap.size := by rw [hW0]; simp
  have hcl : Hid (∀ W, Below W0.heap.size W0 W → W.cell? ⟨w.heap.size, 0, none⟩ = some (.int .u64 (nx : Int)) ∧ W.cell? ⟨w.heap.size, 1, none⟩ = some (.int .u64 (en : Int)) ∧ W.cell? ⟨w.heap.size, 2, none⟩ = some (.string hd) ∧ Below w.heap.size w W) := Lib.hid (fun W h => by
    have h3 := (h.block _ hz0).trans hr0
    exact ⟨(blk_cell h3 0).trans rfl, (blk_cell h3 1).trans rfl, (blk_cell h3 2).trans rfl, hB0.out.trans (h.mono (Nat.le_of_lt hz0))⟩)
  have hE := Lib.hid (fun W => encLed_any nx en hd h1 h2 W)
  have hF := Lib.hid (fun W => rencLed_any nx en hd h1 h2 W)
  have hG := Lib.hid (fun W => decLed_any v (by omega) W)
  have hH := Lib.hid (fun W => rdecLed_any v W)
  have hA := Lib.hid (fun W => awake_any W)
  have hrt : Hid (∀ s, encLed nx en hd = some s → ∀ W, Calls Tryd.prog 9 #[.string s] W fun e w' => e = .returned (.tuple #[.agg #[.int .u64 (nx : Int), .int .u64 (en : Int), .string hd], .int .i64 0]) ∧ Below W.heap.size W w') := Lib.hid (fun s hs W => by
    obtain ⟨hz, hd2⟩ := dec_enc nx en hd s h1 h2 hs
    have := decLed_any s (by omega) W
    rw [hd2] at this
    exact this)
  obtain ⟨O, hO⟩ : ∃ O, encLed nx en hd = O := ⟨_, rfl⟩
  rw [hO] at hE hF hrt
  obtain ⟨a, b, t, f, hld⟩ : ∃ (a b : Nat) (t : ByteArray) (f : Int), ldV (decLed v) = .tuple #[.agg #[.int .u64 (a : Int), .int .u64 (b : Int), .string t], .int .i64 f] := by
    cases decLed v with
    | none => exact ⟨0, 0, ⟨#[]⟩, 221, rfl⟩
    | some p => exact ⟨p.1, p.2.1, p.2.2, 0, rfl⟩
  rw [hld] at hG hH
  replace hO := Lib.hid hO
  have hW0H := Lib.hid hW0
  clear hr0 hB0 hW0 hld
  go_enter Tryd.func4, Tryd.ntmps4
  go_wp2_with (fail)
  rw [← hW0H.out]
  refine (hA.out _).mono ?_
  rintro e w2 ⟨rfl, hb2⟩
  have hB2 := Lib.hid hb2
  clear hb2 hA
  obtain ⟨k0, k1, k2, _⟩ := hcl.out _ hB2.out
  go_wp2_with (fail)
  refine (hE.out _).mono ?_
  rintro e w3 ⟨rfl, hb3⟩
  have hB3 := Lib.hid (hB2.out.trans (hb3.mono hB2.out.size))
  clear hb3 hB2 hE k0 k1 k2
  obtain ⟨k0, k1, k2, _⟩ := hcl.out _ hB3.out
  cases O with
  | none =>
    simp only [ledV] at hF ⊢
    go_wp2_with (fail)
    refine (hF.out _).mono ?_
    rintro e w4 ⟨rfl, hb4⟩
    have hB4 := Lib.hid (hB3.out.trans (hb4.mono hB3.out.size))
    clear hb4 hB3 hF k0 k1 k2
    go_wp2_with (fail)
    refine (hG.out _).mono ?_
    rintro e w5 ⟨rfl, hb5⟩
    have hB5 := Lib.hid (below_alloc (hB4.out.trans (hb5.mono hB4.out.size)) (.cells #[.int .u64 (a : Int), .int .u64 (b : Int), .string t] 25))
    have hbx := heap_alloc_new w5 (.cells #[.int .u64 (a : Int), .int .u64 (b : Int), .string t] 25)
    replace hbx := Lib.hid hbx
    clear hb5 hB4 hG
    go_wp2_with (fail)
    refine (hH.out _).mono ?_
    rintro e w6 ⟨rfl, hb6⟩
    have hB6 := Lib.hid (below_alloc (hB5.out.trans (hb6.mono hB5.out.size)) (.cells #[.int .u64 (a : Int), .int .u64 (b : Int), .string t] 25))
    have hbx6 := (below_alloc hb6 (.cells #[.int .u64 (a : Int), .int .u64 (b : Int), .string t] 25)).block w5.heap.size (by simp)
    rw [hbx.out] at hbx6
    have q0 := (blk_cell hbx6 0).trans rfl
    have q1 := (blk_cell hbx6 1).trans rfl
    have q2 := (blk_cell hbx6 2).trans rfl
    have hend := Lib.hid (hcl.out _ hB6.out).2.2.2
    clear hb6 hB5 hH hbx hbx6
    go_wp2
    go_ret
    exact ⟨rfl, hend.out⟩
  | some s =>
    simp only [ledV] at hF ⊢
    go_wp2_with (fail)
    refine (hF.out _).mono ?_
    rintro e w4 ⟨rfl, hb4⟩
    have hB4 := Lib.hid (hB3.out.trans (hb4.mono hB3.out.size))
    clear hb4 hB3 hF k0 k1 k2
    go_wp2_with (fail)
    refine (hG.out _).mono ?_
    rintro e w5 ⟨rfl, hb5⟩
    have hB5 := Lib.hid (below_alloc (hB4.out.trans (hb5.mono hB4.out.size)) (.cells #[.int .u64 (a : Int), .int .u64 (b : Int), .string t] 25))
    have hbx := heap_alloc_new w5 (.cells #[.int .u64 (a : Int), .int .u64 (b : Int), .string t] 25)
    replace hbx := Lib.hid hbx
    clear hb5 hB4 hG
    go_wp2_with (fail)
    refine (hH.out _).mono ?_
    rintro e w6 ⟨rfl, hb6⟩
    have hB6 := Lib.hid (below_alloc (hB5.out.trans (hb6.mono hB5.out.size)) (.cells #[.int .u64 (a : Int), .int .u64 (b : Int), .string t] 25))
    have hbx6 := (below_alloc hb6 (.cells #[.int .u64 (a : Int), .int .u64 (b : Int), .string t] 25)).block w5.heap.size (by simp)
    rw [hbx.out] at hbx6
    have q0 := (blk_cell hbx6 0).trans rfl
    have q1 := (blk_cell hbx6 1).trans rfl
    have q2 := (blk_cell hbx6 2).trans rfl
    have hbk := Lib.hid (hrt.out s rfl)
    clear hb6 hB5 hH hbx hbx6 hrt
    go_wp2_with (fail)
    refine (hbk.out _).mono ?_
    rintro e w7 ⟨rfl, hb7⟩
    have hB7 := Lib.hid (below_alloc (hB6.out.trans (hb7.mono hB6.out.size)) (.cells #[.int .u64 (nx : Int), .int .u64 (en : Int), .string hd] 25))
    clear hb7 hB6 hbk q0 q1 q2
    obtain ⟨k0, k1, k2, hend⟩ := hcl.out _ hB7.out
    replace hend := Lib.hid hend
    go_wp2
    go_ret
    exact ⟨rfl, hend.out⟩
theorem u64_wf {x : Int} (h : (Lit.int .u64 x).wf = true) : ∃ n : Nat, x = (n : Int) ∧ n < 18446744073709551616 := by
  have h2 : 0 ≤ x ∧ x ≤ 18446744073709551615 := by
    simp only [Lit.wf, IntKind.min, IntKind.max, IntKind.signed, IntKind.bits, Bool.and_eq_true, decide_eq_true_eq] at h
    simpa using h
  exact ⟨x.toNat, by omega, by omega⟩
theorem ledgers_walk (W : World) (i0 i1 : Int) (hd : ByteArray) (hw : (Lit.int .u64 i0).wf = true ∧ (Lit.int .u64 i1).wf = true) (v : ByteArray) (hv : v.size ≤ 1048576) :
    Calls Tryd.prog 4 #[.agg #[.int .u64 i0, .int .u64 i1, .string hd], .string v] W fun e w' => e = .returned (.bool true) ∧ Below W.heap.size W w' := by
  obtain ⟨n, rfl, hn⟩ := u64_wf hw.1
  obtain ⟨m, rfl, hm⟩ := u64_wf hw.2
  exact ledgers_any n m hd v hn hm hv W
end Go.Proofs.YtmchephokleffaaDoor
