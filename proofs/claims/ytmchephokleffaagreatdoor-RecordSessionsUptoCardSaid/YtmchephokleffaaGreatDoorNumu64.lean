/-
  The codec's writer: a number of the kind u64.
-/
import Derived.Test.YtmchephokleffaaGreatDoorCw
set_option linter.unusedVariables false
set_option linter.unusedSimpArgs false
namespace Go.Proofs.YtmchephokleffaaGreatDoor
open Go.RowKit Go.Proofs.YtmchephokleffaaGreatDoorW.PrintWords
set_option maxHeartbeats 400000 in
theorem number_u64 {B g : Nat} {most : Int} {l : List UInt8} {over : Bool} (n m : Nat) {w : World} (hcw : CW w B g most l over) (hn : n < 18446744073709551616) (hm : m ≤ 8)
    (hm0 : -4611686018427387904 ≤ most) (hm1 : most ≤ 4611686018427387904) (hl : l.length + m ≤ 140737488355328) :
    Calls Tryz.prog 110 #[.pointer (some ⟨g, 0, none⟩), .int .u64 (n : Int), .int .i64 (m : Int)] w fun e w' => e = .returned (.tuple #[]) ∧ CW w' B g most (putL most l (be m n) over) (putO most l (be m n) over) ∧ Below B w w' := by
  have hmk := print_make 131 5 .u8 1 Tryz.underlying131 info_u8 (by decide) m (by omega)
  have hbase := hcw.lt
  have HC := Lib.hid hcw
  clear hcw
  go_enter Tryz.func110, Tryz.ntmps110
  go_wp2
  go_loopw [1, 12] (fun x i wr => ∃ j : Nat, j ≤ m ∧ i = .int .i64 j ∧ x = .int .u64 ((n / 256 ^ j : Nat) : Int) ∧ Row wr w.heap.size (.slice (some ⟨w.heap.size, 0, none⟩) m m) (List.replicate (m - j) 0 ++ be j n) ∧ Below w.heap.size w wr) (fun _ i _ => m - (intOf i).toNat)
  case atStart =>
    refine ⟨0, by omega, rfl, by simp, ?_, (Below.refl _ _).alloc (Nat.le_refl _) _⟩
    have := own_made w w.heap.size 5 .u8 m (Nat.le_refl _) (by omega)
    unfold Row
    simpa [be, bi] using this
  case round =>
    obtain ⟨j, hj, rfl, rfl, hrow, hbel⟩ := hrel
    have hp : n / 256 ^ j < 18446744073709551616 := Nat.lt_of_le_of_lt (Nat.div_le_self _ _) hn
    have hdd : n / 256 ^ j / 16 / 16 = n / 256 ^ (j + 1) := by rw [Nat.pow_succ, ← Nat.div_div_eq_div_mul, Nat.div_div_eq_div_mul _ 16 16]
    have HR := Lib.hid hrow
    have hlen : (List.replicate (m - j) (0 : UInt8) ++ be j n).length = m := by simp [be_len]; omega
    have hown := hrow.own
    rw [bi_len, hlen] at hown
    by_cases hlt : j < m
    · obtain ⟨hcell, hfr⟩ := own_at hown ((m - 1 - j : Nat) : Int) (by omega) (by omega)
      have hst := own_store hown ((m - 1 - j : Nat) : Int) ((n / 256 ^ j % 256 : Nat) : Int)
      rw [Int.toNat_natCast] at hcell hfr hst
      rw [be_step m j n hlt _ rfl] at hst
      have HS := Lib.hid hst
      have HB := Lib.hid hbel
      have HD := Lib.hid hdd
      clear hst hbel hrow hown hdd
      generalize n / 256 ^ j = x at *
      have ex : ((m : Int) - 1 - j) = ((m - 1 - j : Nat) : Int) := by omega
      go_wp2
      go_roundw
      case rel => exact ⟨j + 1, by omega, by go_num, int_eq (by rw [← HD.out]; omega), Row.of (by rw [bi_len, show (List.replicate (m - (j + 1)) (0 : UInt8) ++ be (j + 1) n).length = m from by simp [be_len]; omega]; exact HS.out.1) rfl, HB.out.setCell (Nat.le_refl _) _⟩
      case measure => simp [intOf]; omega
    · obtain rfl : j = m := by omega
      have hr := (Row.rd hrow)
      obtain ⟨A, c, hA, hr, hc⟩ := hr
      injection hA with hA1 hA2 hA3
      subst hA1 hA3
      simp only [Nat.sub_self, List.replicate_zero, List.nil_append, be_len] at hr hlen
      have HRD := Lib.hid hr
      have hcw := Lib.hid (HC.out.below hbel)
      have HB := Lib.hid hbel
      clear hr hrow HC hbel HR hown hdd hp hmk hj hlt hA2 hc hlen
      go_wp2_with (go_at_call 108; go_must (refine (put_any hcw.out HRD.out (Nat.le_refl _) hm0 hm1 hl).mono ?_); rintro e w2 ⟨rfl, hcw2, hb2⟩)
      go_end0
      exact ⟨rfl, hcw2, (HB.out.mono hbase).trans hb2⟩
set_option maxHeartbeats 400000 in
theorem U64_any {B g : Nat} {most : Int} {l : List UInt8} {over : Bool} (n : Nat) {w : World} (hcw : CW w B g most l over) (hn : n < 18446744073709551616)
    (hm0 : -4611686018427387904 ≤ most) (hm1 : most ≤ 4611686018427387904) (hl : l.length + 8 ≤ 140737488355328) :
    Calls Tryz.prog 57 #[.pointer (some ⟨g, 0, none⟩), .int .u64 (n : Int)] w fun e w' => e = .returned (.tuple #[]) ∧ CW w' B g most (putL most l (be 8 n) over) (putO most l (be 8 n) over) ∧ Below B w w' := by
  have HC := Lib.hid hcw
  clear hcw
  go_enter Tryz.func57, Tryz.ntmps57
  go_wp2_with (go_at_call 110; go_must (refine (number_u64 n 8 HC.out hn (by omega) hm0 hm1 hl).mono ?_); rintro e w2 ⟨rfl, hcw2, hb2⟩)
  go_end0
  exact ⟨rfl, hcw2, hb2⟩
end Go.Proofs.YtmchephokleffaaGreatDoor
