/-
  The law of turned bits, walked.
-/
import Derived.Test.YtlmlkamgpmnmgaaPturn
import Derived.Test.YtlmlkamgpmnmgaaLawLonger
import Derived.Test.YtlmlkamgpmnmgaaLawLays
set_option linter.unusedVariables false
set_option linter.unusedSimpArgs false
namespace Go.Proofs.Ytlmlkamgpmnmgaa
open Go.RowKit Go.Proofs.YtlmlkamgpmnmgaaW.PrintWords
theorem scan_whole (s : ByteArray) (rec : List UInt8) (hrec : s.data.toList = rec) (h2 : s.size ≤ 1000) {w : World} {B : Nat} {A : Option Addr} {c : Nat} (hr : Row w B (.slice A (7 + s.size) c) (hd7 rec ++ rec)) :
    Calls Try.prog 17 #[.slice A (7 + s.size) c] w fun e w' => ∃ ad cv, e = .returned (.tuple #[.slice (some ad) 1 cv, .int .i64 (7 + (s.size : Int)), .int .i64 1]) ∧ w'.cell? ad = some (.string s) ∧ Below w.heap.size w w' := by
  have hrl : rec.length = s.size := by rw [← hrec, len_data]
  obtain ⟨A1, c1, he, hr1, hc⟩ := hr.rd
  injection he with e1 e2 e3
  subst e1 e3
  rw [← e2] at hr1 hc
  refine (scan_any hr1 hc (by omega)).mono ?_
  rw [scan_same rec (by omega)]
  rintro e w3 ⟨v3, rfl, ho3, hb3⟩
  obtain ⟨A3, c3, rfl, hr3, hc3⟩ := ho3.rd
  obtain ⟨ad, rfl, hc⟩ := hr3.at_ 0 (by simp)
  refine ⟨ad, c3, by simp [hrl], ?_, hb3⟩
  have : (⟨rec.toArray⟩ : ByteArray) = s := by subst hrec; simp
  rw [← this]
  exact hc
theorem scan_broken (s : ByteArray) (rec cur : List UInt8) (hrec : s.data.toList = rec) (h2 : s.size ≤ 1000) (hcl : cur.length = s.size) (hcr : crc (1 :: cur) ≠ crc (1 :: rec)) {w : World} {B : Nat} {A : Option Addr} {c : Nat} (hr : Row w B (.slice A (7 + s.size) c) (hd7 rec ++ cur)) :
    Calls Try.prog 17 #[.slice A (7 + s.size) c] w fun e w' => ∃ ad cv, e = .returned (.tuple #[.slice ad 0 cv, .int .i64 0, .int .i64 3]) ∧ Below w.heap.size w w' := by
  have hrl : rec.length = s.size := by rw [← hrec, len_data]
  obtain ⟨A1, c1, he, hr1, hc⟩ := hr.rd
  injection he with e1 e2 e3
  subst e1 e3
  rw [← e2] at hr1 hc
  refine (scan_any hr1 hc (by omega)).mono ?_
  rw [scan_turned rec cur (by omega) (by omega) hcr]
  rintro e w3 ⟨v3, rfl, ho3, hb3⟩
  obtain ⟨A3, c3, rfl, hr3, hc3⟩ := ho3.rd
  exact ⟨A3, c3, rfl, hb3⟩
set_option maxHeartbeats 400000 in
set_option maxRecDepth 100000 in
theorem turned_core (W : World) (s : ByteArray) (h1 : 1 ≤ s.size) (h2 : s.size ≤ 1000) (a1 a2 : Int) (w2 : (Lit.int .u32 a2).wf = true) (m : Nat) (hm : m < 8 * s.size)
    (hx : (a1.tmod (8 * (s.size : Int)) < 0 ∧ a1.tmod (8 * (s.size : Int)) + 8 * (s.size : Int) = (m : Int)) ∨ (¬ a1.tmod (8 * (s.size : Int)) < 0 ∧ a1.tmod (8 * (s.size : Int)) = (m : Int))) :
    Calls Try.prog 6 #[.string s, .int .i64 a1, .int .u32 a2] W fun e w' => e = .returned (.bool true) ∧ Below W.heap.size W w' := by
  have hl := Lib.hid (lives_any W)
  have hn := Lib.hid (wnew_ok 0 (by omega))
  obtain ⟨rec, hrec⟩ : ∃ rec, s.data.toList = rec := ⟨_, rfl⟩
  have hrl : rec.length = s.size := by rw [← hrec, len_data]
  have hly : ∀ (w : World) (g : Nat), WW w g 0 → Calls Try.prog 12 #[.pointer (some ⟨g, 0, none⟩), .string s] w fun e w' => ∃ A c, e = .returned (.tuple #[.slice A (7 + s.size) c, .int .i64 0]) ∧ Row w' w.heap.size (.slice A (7 + s.size) c) (hd7 rec ++ rec) ∧ ∀ w0 : World, Below w0.heap.size w0 w → w0.heap.size ≤ g → Below w0.heap.size w0 w' := fun w g hW => by
    have hl2 : lenA 0 s.size = 7 + s.size := by
      rw [← hrl, ← layA_len, lay_small rec (by omega), List.length_append, hd7_len]
    refine (wlay_ok hW s (by omega) (by rw [hl2]; omega)).mono ?_
    rintro e w' ⟨v, rfl, ho, hW2, hk, hB⟩
    rw [hrec, lay_small rec (by omega)] at ho
    obtain ⟨A, c, rfl, hr, hc⟩ := ho.rd
    have hll : (hd7 rec ++ rec).length = 7 + s.size := by rw [List.length_append, hd7_len, hrl]
    rw [hll] at ho ⊢
    exact ⟨A, c, rfl, ho, hB⟩
  replace hly := Lib.hid hly
  replace hrec := Lib.hid hrec
  replace hrl := Lib.hid hrl
  rcases hx with ⟨hx1, hx2⟩ | ⟨hx1, hx2⟩
  all_goals
    go_enter Try.func6, Try.ntmps6
    go_wp2_with (first  | (go_at_call 7; go_must (refine hl.out.mono ?_; rintro e w1 ⟨rfl, hb1⟩; replace hb1 := Lib.hid hb1))  | (go_at_call 10; go_must (refine (hn.out w1).mono ?_; rintro e w2 ⟨rfl, hW2, hb2⟩; have hb3 := Lib.hid (hb1.out.trans (hb2.mono hb1.out.size)); have hly2 := Lib.hid (hly.out w2 _ hW2); have hge := hb1.out.size; have hge2 := hb3.out.size; replace hb2 := Lib.hid hb2))  | (go_at_call 12; go_must (refine hly2.out.mono ?_; rintro e w4 ⟨A1, c1, rfl, ho4, hB4⟩; have hb4 := Lib.hid (hB4 W hb3.out hge); replace ho4 := Lib.hid ho4; clear hB4)))
    have hne : ((7 : Int) + (s.size : Int) != (s.size : Int) + 7) = false := by
      rw [Int.add_comm]
      simp
    simp only [hne]
    go_loopw [12, 13] (fun ch i wr => ∃ (q M : Nat) (cur : List UInt8), i = .int .i64 (q : Int) ∧ q ≤ 32 ∧ ch = .bool (decide (0 < M)) ∧ M < 2 ^ q ∧ cur.length = s.size ∧ leN cur = leN rec ^^^ M * 2 ^ m ∧ Row wr w2.heap.size (.slice A1 (7 + s.size) c1) (hd7 rec ++ cur) ∧ Below W.heap.size W wr) (fun _ i _ => 32 - (intOf i).toNat)
    case atStart => exact ⟨0, 0, rec, rfl, by omega, rfl, by simp, hrl.out, by simp, ho4.out, hb4.out⟩
    case round =>
      obtain ⟨q, M, cur, rfl, hq, rfl, hM, hcl, hcx, hro, hbr⟩ := hrel
      replace hcx := Lib.hid hcx
      replace hM := Lib.hid hM
      replace hcl := Lib.hid hcl
      replace hro := Lib.hid hro
      replace hbr := Lib.hid hbr
      by_cases hq2 : q < 32
      · go_upto_region 18 with (fail)
        · obtain ⟨ad, hAe, hkc, hfz, hput, hob, hBb⟩ := hro.out.put (by rw [List.length_append, hd7_len, hcl.out]) (7 + (m + q) / 8) (by omega) (((hd7 rec ++ cur).getD (7 + (m + q) / 8) 0) ^^^ UInt8.ofNat (2 ^ ((m + q) % 8)))
          subst hAe
          obtain ⟨hN1, hN2⟩ := turn_step hM.out hcx.out (show m + q < 8 * cur.length by rw [hcl.out]; omega)
          rw [hd_set] at hput
          rw [hd_getD] at hput hkc
          have hcl2 : Hid ((cur.set ((m + q) / 8) (cur.getD ((m + q) / 8) 0 ^^^ UInt8.ofNat (2 ^ ((m + q) % 8)))).length = s.size) := by
            show _ = _
            rw [List.length_set]
            exact hcl.out
          generalize cur.set ((m + q) / 8) (cur.getD ((m + q) / 8) 0 ^^^ UInt8.ofNat (2 ^ ((m + q) % 8))) = cur2 at *
          generalize cur.getD ((m + q) / 8) 0 = b at *
          replace hN1 := Lib.hid hN1
          replace hN2 := Lib.hid hN2
          replace hput := Lib.hid hput
          replace hob := Lib.hid hob
          have r1 : IntKind.i64.wrap (((m : Int) + (q : Int)).tdiv 8) = (((m + q) / 8 : Nat) : Int) := by
            rw [Int.tdiv_eq_ediv_of_nonneg (by omega), IntWalk.i64_in _ (by omega)]
            omega
          have r2 : IntKind.i64.wrap (7 + (((m + q) / 8 : Nat) : Int)) = ((7 + (m + q) / 8 : Nat) : Int) := by
            rw [IntWalk.i64_in _ (by omega)]
            omega
          have r3 : ((m : Int) + (q : Int)).tmod 8 = (((m + q) % 8 : Nat) : Int) := by
            rw [Int.tmod_eq_emod_of_nonneg (by omega)]
            omega
          have r5 : (m + q) % 8 < 8 := by omega
          have r4 : ((7 + (m + q) / 8 : Nat) : Int) < 7 + (s.size : Int) := by omega
          generalize 7 + (m + q) / 8 = ix at *
          generalize (m + q) / 8 = qu at *
          generalize (m + q) % 8 = re at *
          have r6 : bits .xor .u8 (b.toNat : Int) (IntKind.u8.wrap ((2 : Int) ^ re)) = ((b ^^^ UInt8.ofNat (2 ^ re)).toNat : Int) := turn_u8 b re r5
          have r7 : b.toNat ^^^ 2 ^ re % 256 = (b ^^^ UInt8.ofNat (2 ^ re)).toNat := by
            rw [UInt8.toNat_xor]
            simp
          replace r7 := Lib.hid r7
          go_still_tail 15, (by kernel_rfl)
          change wpList _ _ _ _ _ wr.drew
          generalize b ^^^ UInt8.ofNat (2 ^ re) = b2 at *
          have hkd : wr.drew.cell? (ad.add ix) = some (.int .u8 (b.toNat : Int)) := hkc
          have hfd : wr.drew.frozen? (ad.add ix) = false := hfz
          go_wp2
          go_roundw
          case rel =>
            refine ⟨q + 1, M + 2 ^ q, cur2, by go_num, by omega, ?_, hN2.out, hcl2.out, hN1.out, by rw [r7.out]; exact hput.out.drew, (hbr.out.setCell (by omega) _).drew⟩
            have : 0 < 2 ^ q := Nat.pow_pos (by omega)
            simp
            omega
          case measure => simp [intOf]; omega
        all_goals
          go_roundw
          case rel =>
            refine ⟨q + 1, M, cur, by go_num, by omega, rfl, ?_, hcl.out, hcx.out, hro.out, hbr.out⟩
            exact Nat.lt_trans hM.out (Nat.pow_lt_pow_right (by omega) (by omega))
          case measure => simp [intOf]; omega
      · obtain rfl : q = 32 := by omega
        replace hcx := Lib.hid hcx
        by_cases hM0 : M = 0
        · subst hM0
          obtain rfl : cur = rec := leN_inj (by rw [hcl.out, hrl.out]) (by rw [hcx.out]; simp)
          have hsc := Lib.hid (scan_whole s cur hrec.out h2 hro.out)
          go_wp2_with (first | (go_at_call 17; go_must (refine hsc.out.mono ?_; rintro e w6 ⟨ad6, c6, rfl, hk6, hb6⟩; have hb7 := Lib.hid (hbr.out.trans (hb6.mono hbr.out.size)); replace hb6 := Lib.hid hb6)))
          go_ret
          exact ⟨rfl, hb7.out⟩
        · have hcr : crc (1 :: cur) ≠ crc (1 :: rec) := crc_burst 1 rec cur (by rw [hcl.out, hrl.out]) M m (by omega) hM.out (by rw [hrl.out]; omega) (by rw [hcx.out, ← Nat.xor_assoc, Nat.xor_self, Nat.zero_xor])
          have hsc := Lib.hid (scan_broken s rec cur hrec.out h2 hcl.out hcr hro.out)
          have hM1 : 0 < M := by omega
          go_wp2_with (first | (go_at_call 17; go_must (refine hsc.out.mono ?_; rintro e w6 ⟨ad6, c6, rfl, hb6⟩; have hb7 := Lib.hid (hbr.out.trans (hb6.mono hbr.out.size)); replace hb6 := Lib.hid hb6)))
          go_ret
          exact ⟨rfl, hb7.out⟩
set_option maxHeartbeats 400000 in
theorem turned_walk (W : World) (s : ByteArray) (hs : s.size ≤ 1048576) (a1 : Int) (w1 : (Lit.int .i64 a1).wf = true) (a2 : Int) (w2 : (Lit.int .u32 a2).wf = true) :
    Calls Try.prog 6 #[.string s, .int .i64 a1, .int .u32 a2] W fun e w' => e = .returned (.bool true) ∧ Below W.heap.size W w' := by
  by_cases h1 : 1 ≤ s.size
  · by_cases h2 : s.size ≤ 1000
    · have hb1 := Int.tmod_lt_of_pos a1 (show 0 < 8 * (s.size : Int) by omega)
      have hb2 : -(8 * (s.size : Int)) < a1.tmod (8 * (s.size : Int)) := by
        have := Int.lt_tmod_of_pos a1 (show 0 < 8 * (s.size : Int) by omega)
        exact this
      by_cases hx : a1.tmod (8 * (s.size : Int)) < 0
      · exact turned_core W s h1 h2 a1 a2 w2 (a1.tmod (8 * (s.size : Int)) + 8 * (s.size : Int)).toNat (by omega) (Or.inl ⟨hx, by omega⟩)
      · exact turned_core W s h1 h2 a1 a2 w2 (a1.tmod (8 * (s.size : Int))).toNat (by omega) (Or.inr ⟨hx, by omega⟩)
    · have hl := Lib.hid (lives_any W)
      go_enter Try.func6, Try.ntmps6
      go_wp2_with (first | (go_at_call 7; go_must (refine hl.out.mono ?_; rintro e w1 ⟨rfl, hb1⟩; replace hb1 := Lib.hid hb1)))
      go_ret
      exact ⟨rfl, hb1.out⟩
  · have hl := Lib.hid (lives_any W)
    go_enter Try.func6, Try.ntmps6
    go_wp2_with (first | (go_at_call 7; go_must (refine hl.out.mono ?_; rintro e w1 ⟨rfl, hb1⟩; replace hb1 := Lib.hid hb1)))
    go_ret
    exact ⟨rfl, hb1.out⟩
end Go.Proofs.Ytlmlkamgpmnmgaa
