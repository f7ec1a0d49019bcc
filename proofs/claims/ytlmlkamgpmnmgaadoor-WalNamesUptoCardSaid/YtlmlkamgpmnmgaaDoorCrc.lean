import Derived.Test.YtlmlkamgpmnmgaaDoorBase
import Derived.Test.YtlmlkamgpmnmgaaDoorHand
namespace Go.Proofs.YtlmlkamgpmnmgaaDoor
open Go.RowKit
theorem take_snoc (s : ByteArray) (k : Nat) (h : k < s.size) : s.data.toList.take (k + 1) = s.data.toList.take k ++ [s[k]] := by
  rw [List.take_succ_eq_append_getElem (by simpa using h)]; rfl
theorem take_all (s : ByteArray) (k : Nat) (h : s.size ≤ k) : s.data.toList.take k = s.data.toList := by
  rw [List.take_of_length_le (by simpa using h)]
theorem crcBit_int (c : Nat) (h : c < 4294967296) :
    bits .xor .u32 ((c : Int) / 2) (bits .and .u32 2197175160 ((-(bits .and .u32 (c : Int) 1)) % 4294967296)) = ((crcBit c : Nat) : Int) := by
  have h1 : bits .and .u32 (c : Int) 1 = ((c % 2 : Nat) : Int) := by
    rw [show (1 : Int) = ((1 : Nat) : Int) from rfl, u32_and_nat c 1 h (by omega), nat_mask1]
  rw [h1]
  unfold crcBit
  by_cases h2 : c % 2 = 1
  · rw [if_pos h2, h2]
    rw [show ((-((1 : Nat) : Int)) % 4294967296) = ((4294967295 : Nat) : Int) from by decide, show (2197175160 : Int) = ((2197175160 : Nat) : Int) from rfl, u32_and_nat _ _ (by omega) (by omega),
      show (2197175160 &&& 4294967295 : Nat) = 2197175160 from by decide, show ((c : Int) / 2) = ((c / 2 : Nat) : Int) from by omega, u32_xor_nat _ _ (by omega) (by omega)]
  · have h0 : c % 2 = 0 := by omega
    rw [if_neg h2, h0]
    rw [show ((-((0 : Nat) : Int)) % 4294967296) = ((0 : Nat) : Int) from by decide, show (2197175160 : Int) = ((2197175160 : Nat) : Int) from rfl, u32_and_nat _ _ (by omega) (by omega),
      show (2197175160 &&& 0 : Nat) = 0 from by decide, show ((c : Int) / 2) = ((c / 2 : Nat) : Int) from by omega, u32_xor_nat _ _ (by omega) (by omega)]
set_option maxHeartbeats 400000 in
theorem crc_any (s : ByteArray) (w : World) (hs : s.size ≤ maxLen) :
    Calls Tryd.prog 23 #[.string s] w fun e w' => e = .returned (.int .u32 (crc s.data.toList)) ∧ w = w' := by
  unfold maxLen at hs
  go_enter Tryd.func23, Tryd.ntmps23
  go_wp2
  go_loop [3, 7] (fun c i => ∃ k : Nat, k ≤ s.size ∧ i = .int .i64 k ∧ c = .int .u32 (crcRun 4294967295 (s.data.toList.take k) : Nat)) (fun _ i => s.size - (intOf i).toNat)
  case atStart => exact ⟨0, Nat.zero_le _, rfl, rfl⟩
  case round =>
    obtain ⟨k, hk, rfl, rfl⟩ := hrel
    have hc : crcRun 4294967295 (s.data.toList.take k) < 4294967296 := crcRun_lt _ (by omega)
    by_cases hlt : k < s.size
    · have hb : s[k].toNat < 256 := s[k].toNat_lt
      have hx : crcRun 4294967295 (s.data.toList.take k) ^^^ s[k].toNat < 4294967296 := xor_lt32 hc (by omega)
      have e1 : ((s[k].toNat : Int) % 4294967296) = ((s[k].toNat : Nat) : Int) := by omega
      have E1 := u32_xor_nat _ s[k].toNat hc (by omega)
      have hts := Lib.hid (take_snoc s k hlt)
      go_wp2
      clear e1 E1
      go_loop [3, 16] (fun c i => ∃ j : Nat, j ≤ 8 ∧ i = .int .i64 j ∧ c = .int .u32 (crcBits j (crcRun 4294967295 (s.data.toList.take k) ^^^ s[k].toNat) : Nat)) (fun _ i => 8 - (intOf i).toNat)
      case atStart => exact ⟨0, Nat.zero_le _, rfl, rfl⟩
      case round =>
        obtain ⟨j, hj, rfl, rfl⟩ := hrel
        have hd := crcBits_lt j hx
        by_cases hj8 : j < 8
        · have hstep := Lib.hid (crcBits_succ j (crcRun 4294967295 (s.data.toList.take k) ^^^ s[k].toNat))
          generalize crcBits j (crcRun 4294967295 (s.data.toList.take k) ^^^ s[k].toNat) = c at *
          go_wp2
          go_round
          case rel => exact ⟨j + 1, by omega, by go_num, int_eq (by rw [hstep.out]; exact crcBit_int c hd)⟩
          case measure => simp [intOf]; omega
        · go_wp2
          go_round
          case rel => exact ⟨k + 1, by omega, by go_num, int_eq (by rw [hts.out, crcRun_snoc]; obtain rfl : j = 8 := (by omega); rfl)⟩
          case measure => simp [intOf]; omega
    · have hta := take_all s k (by omega)
      rw [hta] at hc
      rw [hta]
      clear hta
      have hE := Lib.hid (u32_xor_nat 4294967295 (crcRun 4294967295 s.data.toList) (by omega) hc)
      go_wp2
      go_ret
      exact ⟨ret_int (by unfold crc; rw [Nat.xor_comm, ← hE.out]; rfl), rfl⟩
end Go.Proofs.YtlmlkamgpmnmgaaDoor
