/-
  Chapter 22: the law RecordSessions, walked.
-/
import Derived.Test.YtmchephokleffaaGreatDoorYi
import Derived.Test.YtmchephokleffaaGreatDoorVl
set_option linter.unusedVariables false
set_option linter.unusedSimpArgs false
namespace Go.Proofs.YtmchephokleffaaGreatDoor
open Go.RowKit Go.Proofs.YtmchephokleffaaGreatDoorW.PrintWords Go.Proofs.YtmchephokleffaaGreatDoor.PRecord
theorem eqSession (d : Nat) (w : World) (x0 y0 x1 y1 x2 y2 : ByteArray) (x3 y3 : Int) :
    (Op.equalIn (d + 2) 42 (.agg #[.string x0, .string x1, .string x2, .int .u64 x3]) (.agg #[.string y0, .string y1, .string y2, .int .u64 y3])).run Tryz.prog w = .ok (x0.toList == y0.toList && (x1.toList == y1.toList && (x2.toList == y2.toList && (x3 == y3)))) w := by
  refine eqA_of Tryz.underlying42 (by kernel_rfl) ?_
  refine eqf_cons (by rfl) (by go_simp; rfl) (by go_simp; rfl) (by go_simp) ?_
  refine eqf_cons (by rfl) (by go_simp; rfl) (by go_simp; rfl) (by go_simp) ?_
  refine eqf_cons (by rfl) (by go_simp; rfl) (by go_simp; rfl) (by go_simp) ?_
  exact eqf_last (by rfl) (by go_simp; rfl) (by go_simp; rfl) (by go_simp)
attribute [local go_sem high] eqSession
theorem cutB (a r : List UInt8) : (Bd.B (a ++ r)).extract a.length (Bd.B (a ++ r)).size = Bd.B r := by
  rw [← Bd.of_data ((Bd.B (a ++ r)).extract a.length (Bd.B (a ++ r)).size), ext_drop, Bd.B_data, List.drop_left' rfl]
theorem vtO_vr (n : Nat) (r : List UInt8) (h : n < 18446744073709551616) : vtO (some (Bd.B (vr n ++ r))) = (n, some (Bd.B r)) := by
  rw [vtO_yes (show rv (Bd.B (vr n ++ r)).data.toList = some (n, (vr n).length) by rw [Bd.B_data]; exact rv_vr n r h), cutB]
theorem beN_foldx (k n : Nat) : ∀ a : Nat, (be k n).foldl (fun a b => a * 256 + b.toNat) a = a * 256 ^ k + n % 256 ^ k := by
  induction k with
  | zero => intro a; simp [be, Nat.mod_one]
  | succ k ih =>
    intro a
    simp only [be, List.foldl_cons, ih]
    have h : (UInt8.ofNat (n / 256 ^ k)).toNat = n / 256 ^ k % 256 := by simp
    rw [h, Nat.mod_pow_succ, Nat.pow_succ, Nat.add_mul, Nat.mul_comm (n / 256 ^ k % 256), Nat.mul_assoc, Nat.mul_comm 256 (256 ^ k)]
    omega
theorem beN_bex (k n : Nat) (h : n < 256 ^ k) : beN (be k n) = n := by
  have := beN_foldx k n 0
  rw [Nat.zero_mul, Nat.zero_add, Nat.mod_eq_of_lt h] at this
  exact this
theorem teO_vr2 (su : ByteArray) (R : List UInt8) (h : su.size < 18446744073709551616) : teO (some (Bd.B (vr su.size ++ su.data.toList ++ R))) = (su, some (Bd.B R)) := by
  have h1 : rv (Bd.B (vr su.size ++ (su.data.toList ++ R))).data.toList = some (su.size, (vr su.size).length) := by rw [Bd.B_data]; exact rv_vr _ _ h
  have hl : (Bd.B (su.data.toList ++ R)).size = su.size + R.length := by rw [Bd.B_size, List.length_append, Bd.len_data']
  rw [List.append_assoc]
  simp only [teO, h1, cutB]
  rw [if_neg (by omega)]
  have e1 : (Bd.B (su.data.toList ++ R)).extract 0 su.size = su := by
    rw [Bd.B_take, List.take_left' (Bd.len_data' su), Bd.of_data]
  have e2 : (Bd.B (su.data.toList ++ R)).extract su.size (Bd.B (su.data.toList ++ R)).size = Bd.B R := by
    rw [Bd.B_drop, List.drop_left' (Bd.len_data' su)]
  rw [e1, e2]
theorem dec_encS (tk us da : ByteArray) (ex : Nat) (s : ByteArray) (hx : ex < 18446744073709551616) (h : encSes tk us da ex = some s) : s.size ≤ 1024 ∧ decSes tk s = some (us, da, ex) := by
  unfold encSes at h
  by_cases hm : mayB tk us da = true
  · rw [if_pos hm] at h
    injection h with h
    obtain ⟨hu, hd⟩ := may_len hm
    have l1 := (vr_len us.size).1
    have l2 := (vr_len da.size).1
    have hz : s.size ≤ 1024 := by
      rw [← h, Bd.B_size]
      simp only [List.length_append, Bd.len_data', be_len]
      omega
    refine ⟨hz, ?_⟩
    have q1 : teO (some s) = (us, some (Bd.B ((vr da.size ++ da.data.toList) ++ be 8 ex))) := by
      rw [← h, List.append_assoc]
      exact teO_vr2 us _ (by omega)
    have q2 := teO_vr2 da (be 8 ex) (by omega)
    have q3 : u8O (some (Bd.B (be 8 ex))) = (ex, some ⟨#[]⟩) := by
      have hl : (Bd.B (be 8 ex)).size = 8 := by rw [Bd.B_size, be_len]
      simp only [u8O]
      rw [if_neg (by omega), Bd.B_take, Bd.B_drop, Bd.B_data, List.take_of_length_le (by rw [be_len]; omega), List.drop_of_length_le (by rw [be_len]; omega)]
      have hb := beN_bex 8 ex hx
      rw [hb]
      rfl
    unfold decSes
    simp only [q1, q2, q3]
    rw [if_pos ⟨rfl, hm⟩]
  · rw [if_neg hm] at h
    cases h
set_option maxHeartbeats 4000000 in
set_option maxRecDepth 100000 in
theorem sessions_any (tk us da tok v : ByteArray) (ex : Nat) (z1 : tk.size ≤ 1048576) (z2 : us.size ≤ 1048576) (z3 : da.size ≤ 1048576) (zt : tok.size ≤ 1048576) (h1 : ex < 18446744073709551616) (hv : v.size ≤ 1048576) (w : World) :
    Calls Tryz.prog 6 #[.agg #[.string tk, .string us, .string da, .int .u64 (ex : Int)], .string tok, .string v] w fun e w' => e = .returned (.bool true) ∧ Below w.heap.size w w' := by
  obtain ⟨W0, hW0⟩ : ∃ W0, W0 = w.alloc (.cells #[.string tk, .string us, .string da, .int .u64 (ex : Int)] 42) := ⟨_, rfl⟩
  have hr0 : W0.heap[w.heap.size]? = some (.cells #[.string tk, .string us, .string da, .int .u64 (ex : Int)] 42 (0, 0)) := by rw [hW0]; exact heap_alloc_new w _
  have hB0 := Lib.hid (show Below w.heap.size w W0 by rw [hW0]; exact (Below.refl _ _).alloc (Nat.le_refl _) _)
  have hz0 : w.heap.size < W0.heap.size := by rw [hW0]; simp
  have hcl : Hid (∀ W, Below W0.heap.size W0 W → W.cell? ⟨w.heap.size, 0, none⟩ = some (.string tk) ∧ W.cell? ⟨w.heap.size, 1, none⟩ = some (.string us) ∧ W.cell? ⟨w.heap.size, 2, none⟩ = some (.string da) ∧ W.cell? ⟨w.heap.size, 3, none⟩ = some (.int .u64 (ex : Int)) ∧ Below w.heap.size w W) := Lib.hid (fun W h => by
    have h3 := (h.block _ hz0).trans hr0
    exact ⟨(blk_cell h3 0).trans rfl, (blk_cell h3 1).trans rfl, (blk_cell h3 2).trans rfl, (blk_cell h3 3).trans rfl, hB0.out.trans (h.mono (Nat.le_of_lt hz0))⟩)
  have hE := Lib.hid (fun W => encSes_any tk us da ex (by omega) (by omega) (by omega) h1 W)
  have hF := Lib.hid (fun W => rencSes_any tk us da ex (by omega) (by omega) (by omega) h1 W)
  have hG := Lib.hid (fun W => decSes_any tok v (by omega) (by omega) W)
  have hH := Lib.hid (fun W => rdecSes_any tok v (by omega) (by omega) W)
  have hA := Lib.hid (fun W => awake_any W)
  have hrt : Hid (∀ s, encSes tk us da ex = some s → s.size ≤ 1024 ∧ ∀ W, Calls Tryz.prog 24 #[.string tk, .string s] W fun e w' => e = .returned (.tuple #[.agg #[.string tk, .string us, .string da, .int .u64 (ex : Int)], .int .i64 0]) ∧ Below W.heap.size W w') := Lib.hid (fun s hs => by
    obtain ⟨hz, hd2⟩ := dec_encS tk us da ex s h1 hs
    refine ⟨hz, fun W => ?_⟩
    have := decSes_any tk s (by omega) (by omega) W
    rw [hd2] at this
    exact this)
  obtain ⟨O, hO⟩ : ∃ O, encSes tk us da ex = O := ⟨_, rfl⟩
  rw [hO] at hE hF hrt
  obtain ⟨t, a, b, c, f, hld⟩ : ∃ (t a b : ByteArray) (c : Nat) (f : Int), seV tok (decSes tok v) = .tuple #[.agg #[.string t, .string a, .string b, .int .u64 (c : Int)], .int .i64 f] := by
    cases decSes tok v with
    | none => exact ⟨⟨#[]⟩, ⟨#[]⟩, ⟨#[]⟩, 0, 221, rfl⟩
    | some p => exact ⟨tok, p.1, p.2.1, p.2.2, 0, rfl⟩
  rw [hld] at hG hH
  replace hO := Lib.hid hO
  have hW0H := Lib.hid hW0
  clear hr0 hB0 hW0 hld
  go_enter Tryz.func6, Tryz.ntmps6
  go_wp2_with (fail)
  rw [← hW0H.out]
  refine (hA.out _).mono ?_
  rintro e w2 ⟨rfl, hb2⟩
  have hB2 := Lib.hid hb2
  clear hb2 hA
  obtain ⟨k0, k1, k2, k3, _⟩ := hcl.out _ hB2.out
  go_wp2_with (fail)
  refine (hE.out _).mono ?_
  rintro e w3 ⟨rfl, hb3⟩
  have hB3 := Lib.hid (hB2.out.trans (hb3.mono hB2.out.size))
  clear hb3 hB2 hE k0 k1 k2 k3
  obtain ⟨k0, k1, k2, k3, _⟩ := hcl.out _ hB3.out
  cases O with
  | none =>
    simp only [ledV] at hF ⊢
    go_wp2_with (fail)
    refine (hF.out _).mono ?_
    rintro e w4 ⟨rfl, hb4⟩
    have hB4 := Lib.hid (hB3.out.trans (hb4.mono hB3.out.size))
    clear hb4 hB3 hF k0 k1 k2 k3
    go_wp2_with (fail)
    refine (hG.out _).mono ?_
    rintro e w5 ⟨rfl, hb5⟩
    have hB5 := Lib.hid (below_alloc (hB4.out.trans (hb5.mono hB4.out.size)) (.cells #[.string t, .string a, .string b, .int .u64 (c : Int)] 42))
    have hbx := heap_alloc_new w5 (.cells #[.string t, .string a, .string b, .int .u64 (c : Int)] 42)
    replace hbx := Lib.hid hbx
    clear hb5 hB4 hG
    go_wp2_with (fail)
    refine (hH.out _).mono ?_
    rintro e w6 ⟨rfl, hb6⟩
    have hB6 := Lib.hid (below_alloc (hB5.out.trans (hb6.mono hB5.out.size)) (.cells #[.string t, .string a, .string b, .int .u64 (c : Int)] 42))
    have hbx6 := (below_alloc hb6 (.cells #[.string t, .string a, .string b, .int .u64 (c : Int)] 42)).block w5.heap.size (by simp)
    rw [hbx.out] at hbx6
    have q0 := (blk_cell hbx6 0).trans rfl
    have q1 := (blk_cell hbx6 1).trans rfl
    have q2 := (blk_cell hbx6 2).trans rfl
    have q3 := (blk_cell hbx6 3).trans rfl
    have hend := Lib.hid (hcl.out _ hB6.out).2.2.2.2
    clear hb6 hB5 hH hbx hbx6
    go_wp2
    go_ret
    exact ⟨rfl, hend.out⟩
  | some s =>
    simp only [ledV] at hF ⊢
    go_wp2_with (fail)
    refine (hF.out _).mono ?_
    rintro e w4 ⟨rfl, hb4⟩
    have hB4 := Lib.hid (hB3.out.trans (hb4.mono hB3.out.size))
    clear hb4 hB3 hF k0 k1 k2 k3
    go_wp2_with (fail)
    refine (hG.out _).mono ?_
    rintro e w5 ⟨rfl, hb5⟩
    have hB5 := Lib.hid (below_alloc (hB4.out.trans (hb5.mono hB4.out.size)) (.cells #[.string t, .string a, .string b, .int .u64 (c : Int)] 42))
    have hbx := heap_alloc_new w5 (.cells #[.string t, .string a, .string b, .int .u64 (c : Int)] 42)
    replace hbx := Lib.hid hbx
    clear hb5 hB4 hG
    go_wp2_with (fail)
    refine (hH.out _).mono ?_
    rintro e w6 ⟨rfl, hb6⟩
    have hB6 := Lib.hid (below_alloc (hB5.out.trans (hb6.mono hB5.out.size)) (.cells #[.string t, .string a, .string b, .int .u64 (c : Int)] 42))
    have hbx6 := (below_alloc hb6 (.cells #[.string t, .string a, .string b, .int .u64 (c : Int)] 42)).block w5.heap.size (by simp)
    rw [hbx.out] at hbx6
    have q0 := (blk_cell hbx6 0).trans rfl
    have q1 := (blk_cell hbx6 1).trans rfl
    have q2 := (blk_cell hbx6 2).trans rfl
    have q3 := (blk_cell hbx6 3).trans rfl
    have hbk := Lib.hid (hrt.out s rfl).2
    have hz8 : s.size ≤ 1024 := (hrt.out s rfl).1
    have hz9 : decide ((s.size : Int) ≤ 1024) = true := decide_eq_true (by omega)
    replace hz8 := Lib.hid hz8
    clear hb6 hB5 hH hbx hbx6 hrt
    obtain ⟨k0, k1, k2, k3, _⟩ := hcl.out _ hB6.out
    go_wp2_with (fail)
    refine (hbk.out _).mono ?_
    rintro e w7 ⟨rfl, hb7⟩
    have hB7 := Lib.hid (below_alloc (hB6.out.trans (hb7.mono hB6.out.size)) (.cells #[.string tk, .string us, .string da, .int .u64 (ex : Int)] 42))
    clear hb7 hB6 hbk q0 q1 q2 q3 k0 k1 k2 k3
    obtain ⟨k0, k1, k2, k3, hend⟩ := hcl.out _ hB7.out
    replace hend := Lib.hid hend
    go_wp2
    go_ret
    exact ⟨rfl, hend.out⟩
theorem u64_wf {x : Int} (h : (Lit.int .u64 x).wf = true) : ∃ n : Nat, x = (n : Int) ∧ n < 18446744073709551616 := by
  have h2 : 0 ≤ x ∧ x ≤ 18446744073709551615 := by
    simp only [Lit.wf, IntKind.min, IntKind.max, IntKind.signed, IntKind.bits, Bool.and_eq_true, decide_eq_true_eq] at h
    simpa using h
  exact ⟨x.toNat, by omega, by omega⟩
theorem i64_wf {x : Int} (h : (Lit.int .i64 x).wf = true) : x < 9223372036854775808 := by
  have h2 : -9223372036854775808 ≤ x ∧ x ≤ 9223372036854775807 := by
    simp only [Lit.wf, IntKind.min, IntKind.max, IntKind.signed, IntKind.bits, Bool.and_eq_true, decide_eq_true_eq] at h
    simpa using h
  omega
theorem sessions_walk (W : World) (tk us da : ByteArray) (i3 : Int) (hw : (Lit.int .u64 i3).wf = true) (hz : tk.size ≤ 1048576 ∧ us.size ≤ 1048576 ∧ da.size ≤ 1048576) (tok : ByteArray) (zt : tok.size ≤ 1048576) (v : ByteArray) (hv : v.size ≤ 1048576) :
    Calls Tryz.prog 6 #[.agg #[.string tk, .string us, .string da, .int .u64 i3], .string tok, .string v] W fun e w' => e = .returned (.bool true) ∧ Below W.heap.size W w' := by
  obtain ⟨n, rfl, hn⟩ := u64_wf hw
  exact sessions_any tk us da tok v n hz.1 hz.2.1 hz.2.2 zt hn hv W
end Go.Proofs.YtmchephokleffaaGreatDoor
