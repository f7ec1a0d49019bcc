/-
  The reference's bytes: numbers, the check sum, a fragment, a record laid.
-/
import Derived.Test.YtlmlkamgpmnmgaaLay
set_option linter.unusedVariables false
set_option linter.unusedSimpArgs false
namespace Go.Proofs.Ytlmlkamgpmnmgaa
open Go.RowKit Go.Proofs.YtlmlkamgpmnmgaaW.PrintWords
set_option maxHeartbeats 400000 in
theorem refcrc_any (s : ByteArray) (w : World) (hs : s.size ≤ maxLen) :
    Calls Try.prog 36 #[.string s] w fun e w' => e = .returned (.int .u32 (crc s.data.toList)) ∧ w = w' := by
  unfold maxLen at hs
  go_enter Try.func36, Try.ntmps36
  go_wp2
  go_loop [3, 4] (fun c i => ∃ k : Nat, k ≤ s.size ∧ i = .int .i64 k ∧ c = .int .u32 (crcRun 4294967295 (s.data.toList.take k) : Nat)) (fun _ i => s.size - (intOf i).toNat)
  case atStart => exact ⟨0, Nat.zero_le _, rfl, rfl⟩
  case round =>
    obtain ⟨k, hk, rfl, rfl⟩ := hrel
    have hc : crcRun 4294967295 (s.data.toList.take k) < 4294967296 := crcRun_lt _ (by omega)
    by_cases hlt : k < s.size
    · have hb : s[k].toNat < 256 := s[k].toNat_lt
      have hx : crcRun 4294967295 (s.data.toList.take k) ^^^ s[k].toNat < 4294967296 := xor_lt32 hc (by omega)
      have e1 : ((s[k].toNat : Int) % 4294967296) = ((s[k].toNat : Nat) : Int) := by omega
      have E1 := u32_xor_nat _ s[k].toNat hc (by omega)
      have hts := Lib.hid (take_snoc s k hlt)
      go_wp2
      clear e1 E1
      go_loop [3, 5] (fun c i => ∃ j : Nat, j ≤ 8 ∧ i = .int .i64 j ∧ c = .int .u32 (crcBits j (crcRun 4294967295 (s.data.toList.take k) ^^^ s[k].toNat) : Nat)) (fun _ i => 8 - (intOf i).toNat)
      case atStart => exact ⟨0, Nat.zero_le _, rfl, rfl⟩
      case round =>
        obtain ⟨j, hj, rfl, rfl⟩ := hrel
        have hd := crcBits_lt j hx
        by_cases hj8 : j < 8
        · have hstep := Lib.hid (crcBits_succ j (crcRun 4294967295 (s.data.toList.take k) ^^^ s[k].toNat))
          generalize crcBits j (crcRun 4294967295 (s.data.toList.take k) ^^^ s[k].toNat) = c at *
          by_cases h2 : c % 2 = 1
          · have h3 : ((c : Int) % 2 == 1) = true := by rw [beq_iff_eq]; omega
            have E2 := u32_xor_nat (c / 2) 2197175160 (by omega) (by omega)
            have E3 : (((c / 2 : Nat)) : Int) = (c : Int) / 2 := by omega
            rw [E3] at E2
            have E2 := Lib.hid E2
            have hs3 := Lib.hid (show crcBit c = c / 2 ^^^ 2197175160 by unfold crcBit; rw [if_pos h2])
            clear E3
            go_wp2
            go_round
            case rel => exact ⟨j + 1, by omega, by go_num, int_eq (by rw [hstep.out, hs3.out, ← E2.out]; rfl)⟩
            case measure => simp [intOf]; omega
          · have h3 : ((c : Int) % 2 == 1) = false := by rw [beq_eq_false_iff_ne]; omega
            have hs3 := Lib.hid (show crcBit c = c / 2 by unfold crcBit; rw [if_neg h2, Nat.xor_zero])
            go_wp2
            go_round
            case rel => exact ⟨j + 1, by omega, by go_num, int_eq (by rw [hstep.out, hs3.out]; omega)⟩
            case measure => simp [intOf]; omega
        · go_wp2
          go_round
          case rel => exact ⟨k + 1, by omega, by go_num, int_eq (by rw [hts.out, crcRun_snoc]; obtain rfl : j = 8 := (by omega); rfl)⟩
          case measure => simp [intOf]; omega
    · have hta := take_all s k (by omega)
      rw [hta] at hc
      rw [hta]
      clear hta
      have hE := Lib.hid (u32_xor_nat (crcRun 4294967295 s.data.toList) 4294967295 hc (by omega))
      go_wp2
      go_ret
      exact ⟨ret_int (by unfold crc; rw [← hE.out]; rfl), rfl⟩
set_option maxHeartbeats 400000 in
theorem high_any (n m : Nat) {w : World} (hn : n < 18446744073709551616) (hm : m ≤ 8) :
    Calls Try.prog 37 #[.int .u64 (n : Int), .int .i64 (m : Int)] w fun e w' => ∃ v, e = .returned v ∧ Row w' w.heap.size v (be m n) ∧ Below w.heap.size w w' := by
  have hmk := print_make 33 5 .u8 1 Try.underlying33 info_u8 (by decide) m (by omega)
  go_enter Try.func37, Try.ntmps37
  go_wp2
  go_loopw [0, 6] (fun x i wr => ∃ j : Nat, j ≤ m ∧ i = .int .i64 j ∧ x = .int .u64 ((n / 256 ^ j : Nat) : Int) ∧ Row wr w.heap.size (.slice (some ⟨w.heap.size, 0, none⟩) m m) (List.replicate (m - j) 0 ++ be j n) ∧ Below w.heap.size w wr) (fun _ i _ => m - (intOf i).toNat)
  case atStart =>
    refine ⟨0, by omega, rfl, by simp, ?_, (Below.refl _ _).alloc (Nat.le_refl _) _⟩
    have := own_made w w.heap.size 5 .u8 m (Nat.le_refl _) (by omega)
    unfold Row
    simpa [be, bi] using this
  case round =>
    obtain ⟨j, hj, rfl, rfl, hrow, hbel⟩ := hrel
    have hp : n / 256 ^ j < 18446744073709551616 := Nat.lt_of_le_of_lt (Nat.div_le_self _ _) hn
    have hdd : n / 256 ^ j / 256 = n / 256 ^ (j + 1) := by rw [Nat.pow_succ, ← Nat.div_div_eq_div_mul]
    have HR := Lib.hid hrow
    have hlen : (List.replicate (m - j) (0 : UInt8) ++ be j n).length = m := by simp [be_len]; omega
    have hown := hrow.own
    rw [bi_len, hlen] at hown
    by_cases hlt : j < m
    · obtain ⟨hcell, hfr⟩ := own_at hown ((m - 1 - j : Nat) : Int) (by omega) (by omega)
      have hst := own_store hown ((m - 1 - j : Nat) : Int) ((n / 256 ^ j % 256 : Nat) : Int)
      rw [Int.toNat_natCast] at hcell hfr hst
      rw [be_step m j n hlt _ rfl] at hst
      have HS := Lib.hid hst
      have HB := Lib.hid hbel
      have HD := Lib.hid hdd
      clear hst hbel hrow hown hdd
      generalize n / 256 ^ j = x at *
      have ex : ((m : Int) - 1 - j) = ((m - 1 - j : Nat) : Int) := by omega
      go_wp2
      go_roundw
      case rel => exact ⟨j + 1, by omega, by go_num, int_eq (by rw [← HD.out]; omega), Row.of (by rw [bi_len, show (List.replicate (m - (j + 1)) (0 : UInt8) ++ be (j + 1) n).length = m from by simp [be_len]; omega]; exact HS.out.1) rfl, HB.out.setCell (Nat.le_refl _) _⟩
      case measure => simp [intOf]; omega
    · obtain rfl : j = m := by omega
      have hrw : Hid (Row wr w.heap.size (.slice (some ⟨w.heap.size, 0, none⟩) j j) (be j n)) := by
        have := hrow
        rwa [Nat.sub_self, List.replicate_zero, List.nil_append] at this
      have HB := Lib.hid hbel
      clear hrow HR hbel hown hdd hp hmk hj hlt hlen
      go_wp2
      go_ret
      exact ⟨_, rfl, hrw.out, HB.out⟩
end Go.Proofs.Ytlmlkamgpmnmgaa
