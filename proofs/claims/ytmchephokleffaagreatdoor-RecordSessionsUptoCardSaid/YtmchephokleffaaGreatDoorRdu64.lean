/-
  The codec's reader: a number of the kind u64.
-/
import Derived.Test.YtmchephokleffaaGreatDoorCr
set_option linter.unusedVariables false
set_option linter.unusedSimpArgs false
namespace Go.Proofs.YtmchephokleffaaGreatDoor
open Go.RowKit Go.Proofs.YtmchephokleffaaGreatDoorW.PrintWords
set_option maxHeartbeats 400000 in
theorem U64_rd {g : Nat} {s : ByteArray} {err : Int} {w : World} (hs : s.size ≤ maxLen) (h : CR w g s err) :
    Calls Tryz.prog 64 #[.pointer (some ⟨g, 0, none⟩)] w fun e w' => e = .returned (.int .u64 ((beN (rawR s err 8).1.data.toList : Nat) : Int)) ∧ CR w' g (rawR s err 8).2.1 (rawR s err 8).2.2 ∧ Below g w w' := by
  have HC := Lib.hid (read_any 8 (by omega) hs h)
  have hlt : beN (rawR s err 8).1.data.toList < 18446744073709551616 := by
    have h1 := beN_lt (rawR s err 8).1.data.toList
    have h2 : (rawR s err 8).1.data.toList.length ≤ 8 := by rw [len_data]; exact rawR_size s err 8
    exact Nat.lt_of_lt_of_le h1 (Nat.le_trans (Nat.pow_le_pow_right (by omega) h2) (by decide))
  clear h
  rw [show (((8 : Nat) : Int)) = (8 : Int) from rfl] at HC
  generalize rawR s err 8 = R at *
  obtain ⟨t, s', err'⟩ := R
  simp only at hlt HC
  generalize beN t.data.toList = x at *
  go_enter Tryz.func64, Tryz.ntmps64
  go_wp2_with (go_at_call 115; go_must (refine HC.out.mono ?_); rintro e w2 ⟨rfl, hc2, hb2⟩)
  go_ret
  exact ⟨rfl, hc2, hb2⟩
theorem U64_at {g : Nat} {s : ByteArray} {w : World} (hs : s.size ≤ maxLen) (h : CR w g s 0) (hn : 8 ≤ s.size) (x : Nat) (hx : beN (s.data.toList.take 8) = x) :
    Calls Tryz.prog 64 #[.pointer (some ⟨g, 0, none⟩)] w fun e w' => e = .returned (.int .u64 (x : Int)) ∧ CR w' g (s.extract 8 s.size) 0 ∧ Below g w w' := by
  have h1 := U64_rd hs h
  have e1 : rawR s 0 8 = (s.extract 0 8, s.extract 8 s.size, 0) := raw_cut s 8 hn
  rw [e1] at h1
  simp only at h1
  rw [ext_take, hx] at h1
  exact h1
end Go.Proofs.YtmchephokleffaaGreatDoor
