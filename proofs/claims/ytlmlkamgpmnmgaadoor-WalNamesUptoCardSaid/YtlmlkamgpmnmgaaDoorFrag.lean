/-
  The log's fragments: the gap ahead of one, its kind, its bytes.
-/
import Derived.Test.YtlmlkamgpmnmgaaDoorCw
import Derived.Test.YtlmlkamgpmnmgaaDoorNumu8
import Derived.Test.YtlmlkamgpmnmgaaDoorNumu16
import Derived.Test.YtlmlkamgpmnmgaaDoorNumu32
import Derived.Test.YtlmlkamgpmnmgaaDoorCrc
set_option linter.unusedVariables false
set_option linter.unusedSimpArgs false
namespace Go.Proofs.YtlmlkamgpmnmgaaDoor
open Go.RowKit Go.Proofs.YtlmlkamgpmnmgaaDoorW.PrintWords
def gapN (a : Nat) : Nat := if 1024 - a % 1024 < 7 then 1024 - a % 1024 else 0
def frag (kind : UInt8) (part : List UInt8) : List UInt8 := be 4 (crc (kind :: part)) ++ be 2 part.length ++ [kind] ++ part
theorem frag_len (kind : UInt8) (part : List UInt8) : (frag kind part).length = 7 + part.length := by
  simp [frag, be_len]; omega
set_option maxHeartbeats 400000 in
theorem gap_any (a : Nat) (ha : a ≤ 4611686018427387904) (w : World) :
    Calls Tryd.prog 12 #[.int .i64 (a : Int)] w fun e w' => e = .returned (.int .i64 ((gapN a : Nat) : Int)) ∧ w = w' := by
  unfold gapN
  by_cases h : 1024 - a % 1024 < 7
  · rw [if_pos h]
    have h2 : (1024 : Int) - (a : Int) % 1024 < 7 := by omega
    go_enter Tryd.func12, Tryd.ntmps12
    go_wp2
    go_ret
    exact ⟨ret_int (by omega), rfl⟩
  · rw [if_neg h]
    have h2 : ¬ (1024 : Int) - (a : Int) % 1024 < 7 := by omega
    go_enter Tryd.func12, Tryd.ntmps12
    go_wp2
    go_ret
    exact ⟨rfl, rfl⟩
set_option maxHeartbeats 400000 in
theorem ending_any (k : UInt8) (w : World) :
    Calls Tryd.prog 13 #[.int .u8 (k.toNat : Int)] w fun e w' => e = .returned (.int .u8 (((if k = 2 then (1 : UInt8) else 4).toNat : Nat) : Int)) ∧ w = w' := by
  by_cases h : k = 2
  · subst h
    go_enter Tryd.func13, Tryd.ntmps13
    go_wp2
    go_ret
    exact ⟨rfl, rfl⟩
  · rw [if_neg h]
    have h2 : ((k.toNat : Int) == 2) = false := by
      rw [beq_eq_false_iff_ne]
      intro e
      exact h (UInt8.toNat_inj.mp (by simpa using (by omega : k.toNat = 2)))
    go_enter Tryd.func13, Tryd.ntmps13
    go_wp2
    go_ret
    exact ⟨rfl, rfl⟩
set_option maxHeartbeats 1000000 in
theorem fragment_any (k : UInt8) (p : ByteArray) (hp : p.size ≤ 65535) (w : World) :
    Calls Tryd.prog 14 #[.int .u8 (k.toNat : Int), .string p] w fun e w' => e = .returned (.string ⟨(frag k p.data.toList).toArray⟩) ∧ Below w.heap.size w w' := by
  have hcv := conv_one k w
  have hbw : Hid (Below w.heap.size w (w.alloc (.cells #[.int .u8 (k.toNat : Int)] 5))) := (Below.refl _ _).alloc (Nat.le_refl _) _
  have hk := k.toNat_lt
  have hlen := len_data p
  have hmx := Lib.hid (show max (7 + (p.size : Int)) 0 = 7 + (p.size : Int) by omega)
  have hcrc := crc_lt (k :: p.data.toList)
  have hcat0 : (⟨#[k]⟩ ++ p : ByteArray).data.toList = k :: p.data.toList := by simp
  have hcs : (⟨#[k]⟩ ++ p : ByteArray).size ≤ maxLen := by
    rw [← len_data, hcat0]
    simp only [List.length_cons, hlen, maxLen]
    omega
  have hcat := Lib.hid hcat0
  clear hcat0
  have e16 : ((p.size : Int) % 65536) = (p.size : Int) := by omega
  have HL := Lib.hid hlen
  have hsz := Lib.hid (show (w.alloc (.cells #[.int .u8 (k.toNat : Int)] 5)).heap.size = w.heap.size + 1 by simp)
  clear hlen
  go_enter Tryd.func14, Tryd.ntmps14
  go_wp2_with (first  | (go_at_call 21; go_must (refine (NewWriter_any _ _).mono ?_); rintro e w2 ⟨rfl, hcw2, hb2⟩; rw [hmx.out, hsz.out] at hcw2; rw [hsz.out] at hb2; replace hcw2 := Lib.hid hcw2; replace hb2 := Lib.hid hb2)  | (go_at_call 23; go_must (refine (crc_any _ _ hcs).mono ?_; rintro e w3 ⟨rfl, rfl⟩; rw [hcat.out]))  | (go_at_call 22; go_must (refine (U32_any _ hcw2.out hcrc (by omega) (by omega) (by simp only [List.length_nil]; omega)).mono ?_; rintro e w4 ⟨rfl, hcw4, hb4⟩; replace hcw4 := hcw4.fit (by simp only [List.length_append, List.length_nil, List.length_cons, be_len]; omega); replace hb4 := Lib.hid hb4))  | (go_at_call 24; go_must (refine (U16_any p.size hcw4.out (by omega) (by omega) (by omega) (by simp only [List.length_append, List.length_nil, List.length_cons, be_len]; omega)).mono ?_; rintro e w5 ⟨rfl, hcw5, hb5⟩; replace hcw5 := hcw5.fit (by simp only [List.length_append, List.length_nil, List.length_cons, be_len]; omega); replace hb5 := Lib.hid hb5))  | (go_at_call 25; go_must (refine (U8_any k.toNat hcw5.out (by omega) (by omega) (by omega) (by simp only [List.length_append, List.length_nil, List.length_cons, be_len]; omega)).mono ?_; rintro e w6 ⟨rfl, hcw6, hb6⟩; replace hcw6 := hcw6.fit (by simp only [List.length_append, List.length_nil, List.length_cons, be_len]; omega); replace hb6 := Lib.hid hb6))  | (go_at_call 26; go_must (refine (Raw_any p hcw6.out (by omega) (by omega) (by simp only [List.length_append, List.length_nil, List.length_cons, be_len]; omega)).mono ?_; rintro e w7 ⟨rfl, hcw7, hb7⟩; replace hcw7 := hcw7.fit (by simp only [List.length_append, List.length_nil, List.length_cons, be_len, HL.out]; omega); replace hb7 := Lib.hid hb7))  | (go_at_call 27; go_must (refine (Done_any hcw7.out).mono ?_; rintro e w8 ⟨rfl, rfl⟩)))
  go_ret
  have he : doneS (be 4 (crc (k :: p.data.toList)) ++ (be 2 p.size ++ (be 1 k.toNat ++ p.data.toList))) false = ⟨(frag k p.data.toList).toArray⟩ := by
    have h1 : be 1 k.toNat = [k] := by simp [be]
    simp [doneS, frag, h1, HL.out, List.append_assoc]
  exact ⟨by rw [he]; rfl, (((((hbw.out.trans (hb2.out.mono (by omega))).trans (hb4.out.mono (by omega))).trans (hb5.out.mono (by omega))).trans (hb6.out.mono (by omega))).trans (hb7.out.mono (by omega)))⟩
theorem ending_two (w : World) : Calls Tryd.prog 13 #[.int .u8 2] w fun e w' => e = .returned (.int .u8 1) ∧ w = w' := ending_any 2 w
theorem ending_three (w : World) : Calls Tryd.prog 13 #[.int .u8 3] w fun e w' => e = .returned (.int .u8 4) ∧ w = w' := ending_any 3 w
theorem fragment_at (k : UInt8) (ki : Int) (hk : ki = (k.toNat : Int)) (p : ByteArray) (hp : p.size ≤ 65535) (w : World) :
    Calls Tryd.prog 14 #[.int .u8 ki, .string p] w fun e w' => e = .returned (.string ⟨(frag k p.data.toList).toArray⟩) ∧ Below w.heap.size w w' := by
  subst hk
  exact fragment_any k p hp w
end Go.Proofs.YtlmlkamgpmnmgaaDoor
