/-
  The reference's log, walked: a fragment, a record laid, a writer.
-/
import Derived.Test.YtlmlkamgpmnmgaaRef05
set_option linter.unusedVariables false
set_option linter.unusedSimpArgs false
namespace Go.Proofs.Ytlmlkamgpmnmgaa
open Go.RowKit Go.Proofs.YtlmlkamgpmnmgaaW.PrintWords
theorem conv_row {w : World} {B : Nat} {v : Value} {l : List UInt8} (h : Row w B v l) : (convert 33 9 v).run Try.prog w = .ok (.string ⟨l.toArray⟩) w := by
  obtain ⟨A, c, rfl, hr, _⟩ := h.rd
  exact conv_rd c hr
theorem row_one (w : World) (B : Nat) (hB : B ≤ w.heap.size) (k : UInt8) : Row (w.alloc (.cells #[.int .u8 (k.toNat : Int)] 5)) B (.slice (some ⟨w.heap.size, 0, none⟩) 1 1) [k] :=
  Row.of (xs := [(k.toNat : Int)]) (own_lit w B 5 .u8 [(k.toNat : Int)] hB (by simp)) rfl
set_option maxHeartbeats 1000000 in
set_option maxRecDepth 100000 in
theorem reffrag_any (k : UInt8) (p : ByteArray) (hp : p.size ≤ 65535) (w : World) :
    Calls Try.prog 27 #[.int .u8 (k.toNat : Int), .string p] w fun e w' => ∃ v, e = .returned v ∧ Row w' w.heap.size v (frag k p.data.toList) ∧ Below w.heap.size w w' := by
  have hk := k.toNat_lt
  have hlen := Lib.hid (len_data p)
  have hr1 := Lib.hid (row_one w w.heap.size (Nat.le_refl _) k)
  have hb1 : Hid (Below w.heap.size w (w.alloc (.cells #[.int .u8 (k.toNat : Int)] 5))) := (Below.refl _ _).alloc (Nat.le_refl _) _
  have hsz1 : Hid (w.heap.size ≤ (w.alloc (.cells #[.int .u8 (k.toNat : Int)] 5)).heap.size) := hb1.out.size
  have hcrc := crc_lt (k :: p.data.toList)
  have hcs : Hid ((⟨(k :: p.data.toList).toArray⟩ : ByteArray).size ≤ maxLen) := by
    show _ ≤ _
    rw [size_mk]
    simp only [List.length_cons, hlen.out, maxLen]
    omega
  go_enter Try.func27, Try.ntmps27
  go_wp2_with (first  | (at_builtin; go_must (refine w_append_str w.heap.size rfl (.tmp 8) (.tmp 9) rfl rfl rfl hr1.out hb1.out hsz1.out (by simp only [List.length_cons, List.length_nil]; omega) ?_; intro v2 w2 ho2 hb2 hg2; have hcv := conv_row ho2.out))  | (go_at_call 36; go_must (refine (refcrc_any _ _ hcs.out).mono ?_; rintro e w3 ⟨rfl, rfl⟩)))
  refine (high_any (crc (k :: p.data.toList)) 4 (by omega) (by omega)).mono ?_
  rintro e w3 ⟨v3, rfl, ho3, hb3⟩
  have hb3' := Lib.hid (hb2.out.trans (hb3.mono hb2.out.size))
  replace ho3 := Lib.hid (ho3.lower hb2.out.size)
  clear hb3
  go_wp2_with fail
  refine (high_any p.size 2 (by omega) (by omega)).mono ?_
  rintro e w4 ⟨v4, rfl, ho4, hb4⟩
  have hb4' := Lib.hid (hb3'.out.trans (hb4.mono hb3'.out.size))
  replace ho3 := Lib.hid (ho3.out.below hb4)
  clear hb4
  obtain ⟨A4, c4, rfl, hr4, hc4⟩ := ho4.rd
  replace hr4 := Lib.hid hr4
  clear ho4 hc4
  go_wp2_with (first  | (at_builtin; (refine w_append_row w.heap.size rfl (.tmp 15) (.tmp 19) rfl rfl rfl ho3.out hr4.out hb4'.out hb4'.out.size (by simp only [be_len]; omega) ?_; intro v5 w5 ho5 hb5 hg5))  | (at_builtin; (refine w_append_one w.heap.size rfl (.tmp 21) (.tmp 23) rfl k rfl rfl ho5.out hb5.out hb5.out.size (by simp only [List.length_append, be_len]; omega) ?_; intro v6 w6 ho6 hb6 hg6))  | (at_builtin; go_must (refine w_append_str w.heap.size rfl (.tmp 24) (.tmp 25) rfl rfl rfl ho6.out hb6.out hb6.out.size (by simp only [List.length_append, List.length_cons, List.length_nil, be_len]; omega) ?_; intro v7 w7 ho7 hb7 hg7)))
  go_ret
  refine ⟨_, rfl, ?_, hb7.out⟩
  have := ho7.out
  rwa [← hlen.out] at this
theorem reffrag_at (k : UInt8) (ki : Int) (hk : ki = (k.toNat : Int)) (p : ByteArray) (hp : p.size ≤ 65535) (w : World) :
    Calls Try.prog 27 #[.int .u8 ki, .string p] w fun e w' => ∃ v, e = .returned v ∧ Row w' w.heap.size v (frag k p.data.toList) ∧ Below w.heap.size w w' := by
  subst hk
  exact reffrag_any k p hp w
set_option maxHeartbeats 1600000 in
set_option maxRecDepth 100000 in
theorem reflay_any (a : Nat) (s : ByteArray) (ha : a ≤ 1048576) (hs : s.size ≤ 262144) (w : World) :
    Calls Try.prog 21 #[.int .i64 (a : Int), .string s] w fun e w' => ∃ v, e = .returned v ∧ Row w' w.heap.size v (layA a s.data.toList) ∧ Below w.heap.size w w' := by
  have hle := lenA_le a s.size
  have hs0 := Lib.hid (len_data s)
  go_enter Try.func21, Try.ntmps21
  go_wp2
  go_loopw [1, 5, 6] (fun r v f wr => ∃ (outl : List UInt8) (p : ByteArray) (q : Nat) (first : Bool), Row wr w.heap.size v outl ∧ r = .string p ∧ f = .bool first ∧ outl ++ tail q first (a + outl.length) p.data.toList = layA a s.data.toList ∧  Fits q (a + outl.length + gapN (a + outl.length)) p.size ∧ p.size ≤ s.size ∧ Below w.heap.size w wr) (fun _ v _ _ => lenA a s.size - slen v)
  case atStart => exact ⟨[], s, s.size + 2, true, Row.nil _ _, rfl, rfl, by unfold layA tail; rw [hs0.out]; rfl, fits_start _ _ (gap_next _), Nat.le_refl _, Below.refl _ _⟩
  case round =>
    obtain ⟨outl, p, q, first, hrow, rfl, rfl, htl, hfit, hps, hbel⟩ := hrel
    have hpl := Lib.hid (len_data p)
    have hTot : outl.length + (gapN (a + outl.length) + lenF q (a + outl.length + gapN (a + outl.length)) p.size) = lenA a s.size := by
      have := congrArg List.length htl
      rw [List.length_append, tail_len, layA_len, hs0.out, hpl.out] at this
      exact this
    obtain ⟨q, rfl⟩ : ∃ m, q = m + 1 := by
      cases q with
      | zero => exact absurd hfit id
      | succ q => exact ⟨q, rfl⟩
    obtain ⟨A1, c1, rfl, hr1, hc1⟩ := hrow.rd
    have hpos := lenF_pos (q + 1) (a + outl.length + gapN (a + outl.length)) p.size (by omega)
    have hll : outl.length ≤ 4194304 := by omega
    have hr := Lib.hid hrow
    have hb := Lib.hid hbel
    have hTH := Lib.hid hTot
    clear hrow hbel hr1
    by_cases hg : 1024 - (a + outl.length) % 1024 < 7
    · have hgi : (1024 : Int) - ((a : Int) + (outl.length : Int)) % 1024 = ((1024 - (a + outl.length) % 1024 : Nat) : Int) := by omega
      have hgI : ((1024 - (a + outl.length) % 1024 : Nat) : Int) < 7 := by omega
      rw [tail_gap _ _ _ _ hg] at htl
      have hgg := gap_gap (a + outl.length)
      have hge := gap_yes _ hg
      rw [hge] at hgg hfit hTH
      have H1 := Lib.hid htl
      have H2 := Lib.hid hfit
      have H3 := Lib.hid hgg
      have hgz : 0 < 1024 - (a + outl.length) % 1024 := by omega
      clear htl hfit hgg hge hTot hpos
      generalize 1024 - (a + outl.length) % 1024 = m at *
      go_wp2_with (first  | (at_builtin; go_must (refine w_append_zeros w.heap.size rfl (.tmp 19) (.tmp 20) rfl m rfl rfl hr.out hb.out hb.out.size (by omega) ?_; intro v2 w2 ho2 hb2 hg2)))
      have hlo : (outl ++ List.replicate m (0 : UInt8)).length = outl.length + m := by simp
      go_roundw
      case rel =>
        refine ⟨outl ++ List.replicate m 0, p, q + 1, first, ho2.out, rfl, rfl, ?_, ?_, hps, hb2.out⟩
        · rw [hlo, List.append_assoc, ← Nat.add_assoc]; exact H1.out
        · rw [hlo, ← Nat.add_assoc, H3.out]; exact H2.out
      case measure =>
        have hT := hTH.out
        obtain ⟨A9, c9, rfl, _, _⟩ := ho2.out.rd
        simp [slen]
        omega
    · have hgI : ¬ (1024 : Int) - ((a : Int) + (outl.length : Int)) % 1024 < 7 := by omega
      have hrm : ((1024 : Int) - ((a : Int) + (outl.length : Int)) % 1024 - 7) = ((room (a + outl.length) : Nat) : Int) := by unfold room; omega
      have hrl := room_le (a + outl.length)
      have hge := gap_no _ hg
      rw [hge] at hfit hTH
      have hmod : (a + outl.length) % 1024 ≤ 1017 := by omega
      have hnx := Lib.hid (room_next (a + outl.length) hmod)
      unfold Fits at hfit
      by_cases hc : p.size ≤ room (a + outl.length)
      · rw [tail_last _ _ _ _ hg (by rw [hpl.out]; exact hc)] at htl
        clear hfit hTot hpos hge
        by_cases hrp : (p.size : Int) < ((room (a + outl.length) : Nat) : Int)
        · have hft : p.size ≤ 65535 := by omega
          cases first
          · simp only [Bool.false_eq_true, if_false, if_true] at htl
            have hTl := Lib.hid htl
            clear htl
            go_wp2_with (first  | (go_at_call 27; go_must (refine (reffrag_at 4 _ rfl _ hft _).mono ?_; rintro e w4 ⟨v4, rfl, ho4, hb4⟩; obtain ⟨A4, c4, rfl, hr4, _⟩ := ho4.rd; have hr5 := Lib.hid (hr.out.below hb4); have hb5 := Lib.hid (hb.out.trans (hb4.mono hb.out.size)); replace hr4 := Lib.hid hr4; clear ho4 hb4))  | (at_builtin; go_must (refine w_append_row w.heap.size rfl (.tmp 43) (.tmp 48) rfl rfl rfl hr5.out hr4.out hb5.out hb5.out.size (by rw [frag_len, len_data]; omega) ?_; intro v2 w2 ho2 hb2 hg2)))
            go_ret
            exact ⟨_, rfl, by rw [← hTl.out]; exact ho2.out, hb2.out⟩
          · simp only [Bool.false_eq_true, if_false, if_true] at htl
            have hTl := Lib.hid htl
            clear htl
            go_wp2_with (first  | (go_at_call 27; go_must (refine (reffrag_at 1 _ rfl _ hft _).mono ?_; rintro e w4 ⟨v4, rfl, ho4, hb4⟩; obtain ⟨A4, c4, rfl, hr4, _⟩ := ho4.rd; have hr5 := Lib.hid (hr.out.below hb4); have hb5 := Lib.hid (hb.out.trans (hb4.mono hb.out.size)); replace hr4 := Lib.hid hr4; clear ho4 hb4))  | (at_builtin; go_must (refine w_append_row w.heap.size rfl (.tmp 43) (.tmp 48) rfl rfl rfl hr5.out hr4.out hb5.out hb5.out.size (by rw [frag_len, len_data]; omega) ?_; intro v2 w2 ho2 hb2 hg2)))
            go_ret
            exact ⟨_, rfl, by rw [← hTl.out]; exact ho2.out, hb2.out⟩
        · have hft : (p.extract 0 (room (a + outl.length))).size ≤ 65535 := by rw [ext_size _ _ _ (by omega)]; omega
          have hlast : ((((room (a + outl.length) : Nat)) : Int) == (p.size : Int)) = true := by rw [beq_iff_eq]; omega
          have hpx := Lib.hid (ext_take p (room (a + outl.length)))
          have hpe : List.take (room (a + outl.length)) p.data.toList = p.data.toList := by rw [List.take_of_length_le (by rw [hpl.out]; omega)]
          rw [← hpe] at htl
          clear hpe
          cases first
          · simp only [Bool.false_eq_true, if_false, if_true] at htl
            have hTl := Lib.hid htl
            clear htl
            go_wp2_with (first  | (go_at_call 27; go_must (refine (reffrag_at 4 _ rfl _ hft _).mono ?_; rintro e w4 ⟨v4, rfl, ho4, hb4⟩; rw [hpx.out] at ho4; obtain ⟨A4, c4, rfl, hr4, _⟩ := ho4.rd; have hr5 := Lib.hid (hr.out.below hb4); have hb5 := Lib.hid (hb.out.trans (hb4.mono hb.out.size)); replace hr4 := Lib.hid hr4; clear ho4 hb4))  | (at_builtin; go_must (refine w_append_row w.heap.size rfl (.tmp 43) (.tmp 48) rfl rfl rfl hr5.out hr4.out hb5.out hb5.out.size (by rw [frag_len, List.length_take]; omega) ?_; intro v2 w2 ho2 hb2 hg2)))
            go_ret
            exact ⟨_, rfl, by rw [← hTl.out]; exact ho2.out, hb2.out⟩
          · simp only [Bool.false_eq_true, if_false, if_true] at htl
            have hTl := Lib.hid htl
            clear htl
            go_wp2_with (first  | (go_at_call 27; go_must (refine (reffrag_at 1 _ rfl _ hft _).mono ?_; rintro e w4 ⟨v4, rfl, ho4, hb4⟩; rw [hpx.out] at ho4; obtain ⟨A4, c4, rfl, hr4, _⟩ := ho4.rd; have hr5 := Lib.hid (hr.out.below hb4); have hb5 := Lib.hid (hb.out.trans (hb4.mono hb.out.size)); replace hr4 := Lib.hid hr4; clear ho4 hb4))  | (at_builtin; go_must (refine w_append_row w.heap.size rfl (.tmp 43) (.tmp 48) rfl rfl rfl hr5.out hr4.out hb5.out hb5.out.size (by rw [frag_len, List.length_take]; omega) ?_; intro v2 w2 ho2 hb2 hg2)))
            go_ret
            exact ⟨_, rfl, by rw [← hTl.out]; exact ho2.out, hb2.out⟩
      · rw [tail_more _ _ _ _ hg (by rw [hpl.out]; exact hc)] at htl
        have hrp : ((room (a + outl.length) : Nat) : Int) < (p.size : Int) := by omega
        have hrn : room (a + outl.length) ≤ p.size := by omega
        have hlast : ((((room (a + outl.length) : Nat)) : Int) == (p.size : Int)) = false := by rw [beq_eq_false_iff_ne]; omega
        have hft : (p.extract 0 (room (a + outl.length))).size ≤ 65535 := by rw [ext_size _ _ _ hrn]; omega
        have hpx := Lib.hid (ext_take p (room (a + outl.length)))
        have hfl := Lib.hid (ext_size p 0 (room (a + outl.length)) hrn)
        have hff := Lib.hid (hfit.resolve_left (by omega))
        clear hfit hTot hpos hge
        cases first
        · simp only [Bool.false_eq_true, if_false, if_true] at htl
          have hTl := Lib.hid htl
          clear htl
          go_wp2_with (first  | (go_at_call 27; go_must (refine (reffrag_at 3 _ rfl _ hft _).mono ?_; rintro e w4 ⟨v4, rfl, ho4, hb4⟩; rw [hpx.out] at ho4; obtain ⟨A4, c4, rfl, hr4, _⟩ := ho4.rd; have hr5 := Lib.hid (hr.out.below hb4); have hb5 := Lib.hid (hb.out.trans (hb4.mono hb.out.size)); replace hr4 := Lib.hid hr4; clear ho4 hb4))  | (at_builtin; go_must (refine w_append_row w.heap.size rfl (.tmp 43) (.tmp 48) rfl rfl rfl hr5.out hr4.out hb5.out hb5.out.size (by rw [frag_len, List.length_take]; omega) ?_; intro v2 w2 ho2 hb2 hg2)))
          have hlo : (outl ++ frag 3 (List.take (room (a + outl.length)) p.data.toList)).length = outl.length + (7 + room (a + outl.length)) := by rw [List.length_append, frag_len, List.length_take, hpl.out]; omega
          have hdl := ext_drop p (room (a + outl.length))
          go_roundw
          case rel =>
            refine ⟨outl ++ frag 3 (List.take (room (a + outl.length)) p.data.toList), p.extract (room (a + outl.length)) p.size, q, false, ho2.out, rfl, rfl, ?_, ?_, ?_, hb2.out⟩
            · rw [hlo, hdl, show a + (outl.length + (7 + room (a + outl.length))) = a + outl.length + 7 + room (a + outl.length) from by omega, List.append_assoc]; exact hTl.out
            · rw [hlo, show a + (outl.length + (7 + room (a + outl.length))) = a + outl.length + 7 + room (a + outl.length) from by omega, gapN_zero _ (by rw [hnx.out]; omega), ext_size _ _ _ (Nat.le_refl _)]; exact hff.out
            · rw [ext_size _ _ _ (Nat.le_refl _)]; omega
          case measure =>
            have hT := hTH.out
            have hpos := lenF_pos (q + 1) (a + outl.length + 0) p.size (by omega)
            obtain ⟨A9, c9, rfl, _, _⟩ := ho2.out.rd
            simp [slen, frag_len]
            omega
        · simp only [Bool.false_eq_true, if_false, if_true] at htl
          have hTl := Lib.hid htl
          clear htl
          go_wp2_with (first  | (go_at_call 27; go_must (refine (reffrag_at 2 _ rfl _ hft _).mono ?_; rintro e w4 ⟨v4, rfl, ho4, hb4⟩; rw [hpx.out] at ho4; obtain ⟨A4, c4, rfl, hr4, _⟩ := ho4.rd; have hr5 := Lib.hid (hr.out.below hb4); have hb5 := Lib.hid (hb.out.trans (hb4.mono hb.out.size)); replace hr4 := Lib.hid hr4; clear ho4 hb4))  | (at_builtin; go_must (refine w_append_row w.heap.size rfl (.tmp 43) (.tmp 48) rfl rfl rfl hr5.out hr4.out hb5.out hb5.out.size (by rw [frag_len, List.length_take]; omega) ?_; intro v2 w2 ho2 hb2 hg2)))
          have hlo : (outl ++ frag 2 (List.take (room (a + outl.length)) p.data.toList)).length = outl.length + (7 + room (a + outl.length)) := by rw [List.length_append, frag_len, List.length_take, hpl.out]; omega
          have hdl := ext_drop p (room (a + outl.length))
          go_roundw
          case rel =>
            refine ⟨outl ++ frag 2 (List.take (room (a + outl.length)) p.data.toList), p.extract (room (a + outl.length)) p.size, q, false, ho2.out, rfl, rfl, ?_, ?_, ?_, hb2.out⟩
            · rw [hlo, hdl, show a + (outl.length + (7 + room (a + outl.length))) = a + outl.length + 7 + room (a + outl.length) from by omega, List.append_assoc]; exact hTl.out
            · rw [hlo, show a + (outl.length + (7 + room (a + outl.length))) = a + outl.length + 7 + room (a + outl.length) from by omega, gapN_zero _ (by rw [hnx.out]; omega), ext_size _ _ _ (Nat.le_refl _)]; exact hff.out
            · rw [ext_size _ _ _ (Nat.le_refl _)]; omega
          case measure =>
            have hT := hTH.out
            have hpos := lenF_pos (q + 1) (a + outl.length + 0) p.size (by omega)
            obtain ⟨A9, c9, rfl, _, _⟩ := ho2.out.rd
            simp [slen, frag_len]
            omega
end Go.Proofs.Ytlmlkamgpmnmgaa
