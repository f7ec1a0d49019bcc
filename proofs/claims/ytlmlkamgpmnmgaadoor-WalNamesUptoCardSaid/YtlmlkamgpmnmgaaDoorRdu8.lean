/-
  The codec's reader: a number of the kind u8.
-/
import Derived.Test.YtlmlkamgpmnmgaaDoorCr
set_option linter.unusedVariables false
set_option linter.unusedSimpArgs false
namespace Go.Proofs.YtlmlkamgpmnmgaaDoor
open Go.RowKit Go.Proofs.YtlmlkamgpmnmgaaDoorW.PrintWords
set_option maxHeartbeats 400000 in
theorem U8_rd {g : Nat} {s : ByteArray} {err : Int} {w : World} (hs : s.size ≤ maxLen) (h : CR w g s err) :
    Calls Tryd.prog 66 #[.pointer (some ⟨g, 0, none⟩)] w fun e w' => e = .returned (.int .u8 ((beN (rawR s err 1).1.data.toList : Nat) : Int)) ∧ CR w' g (rawR s err 1).2.1 (rawR s err 1).2.2 ∧ Below g w w' := by
  have HC := Lib.hid (read_any 1 (by omega) hs h)
  have hlt : beN (rawR s err 1).1.data.toList < 256 := by
    have h1 := beN_lt (rawR s err 1).1.data.toList
    have h2 : (rawR s err 1).1.data.toList.length ≤ 1 := by rw [len_data]; exact rawR_size s err 1
    exact Nat.lt_of_lt_of_le h1 (Nat.le_trans (Nat.pow_le_pow_right (by omega) h2) (by decide))
  clear h
  rw [show (((1 : Nat) : Int)) = (1 : Int) from rfl] at HC
  generalize rawR s err 1 = R at *
  obtain ⟨t, s', err'⟩ := R
  simp only at hlt HC
  generalize beN t.data.toList = x at *
  go_enter Tryd.func66, Tryd.ntmps66
  go_wp2_with (go_at_call 76; go_must (refine HC.out.mono ?_); rintro e w2 ⟨rfl, hc2, hb2⟩)
  go_ret
  exact ⟨rfl, hc2, hb2⟩
theorem U8_at {g : Nat} {s : ByteArray} {w : World} (hs : s.size ≤ maxLen) (h : CR w g s 0) (hn : 1 ≤ s.size) (x : Nat) (hx : beN (s.data.toList.take 1) = x) :
    Calls Tryd.prog 66 #[.pointer (some ⟨g, 0, none⟩)] w fun e w' => e = .returned (.int .u8 (x : Int)) ∧ CR w' g (s.extract 1 s.size) 0 ∧ Below g w w' := by
  have h1 := U8_rd hs h
  have e1 : rawR s 0 1 = (s.extract 0 1, s.extract 1 s.size, 0) := raw_cut s 1 hn
  rw [e1] at h1
  simp only at h1
  rw [ext_take, hx] at h1
  exact h1
end Go.Proofs.YtlmlkamgpmnmgaaDoor
