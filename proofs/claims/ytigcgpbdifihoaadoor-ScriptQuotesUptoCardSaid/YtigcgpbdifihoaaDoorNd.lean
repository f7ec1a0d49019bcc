/-
  Chapter 28: Itoa, FormatUint at base ten, short, walked.
-/
import Derived.Test.YtigcgpbdifihoaaDoorNc
import Derived.Lib.SmallJoins
import Derived.Lib.AppendIntMem
import Derived.Lib.OwnBridge
set_option linter.unusedVariables false
set_option linter.unusedSimpArgs false
namespace Go.Proofs.YtigcgpbdifihoaaDoor
open Go.RowKit Go.Proofs.YtigcgpbdifihoaaDoorW.PrintWords Go.Proofs.YtigcgpbdifihoaaDoor.PScriptRequests Go.Sort
def Tab (w : World) : Prop := Lib.TabIs Tryd.prog w "internal/strconv.uint64pow10" .u64 Lib.pow10Tab
theorem Tab.below {w w1 : World} (h : Tab w) (hb : Below w.heap.size w w1) : Tab w1 :=
  Go.Joins.var_stays (g := (Tryd.prog.globalNamed "internal/strconv.uint64pow10").getD 0) (by kernel_rfl) h hb (Nat.le_refl _)
theorem itoa_any (n : Int) (h0 : -9223372036854775808 ≤ n) (h1 : n ≤ 9223372036854775807) (w : World) (htab : Tab w) :
    Calls Tryd.prog 24 #[.int .i64 n] w fun e w' => e = .returned (.string (B (Lib.itoa n))) ∧ Below w.heap.size w w' := by
  refine (Tryd.strconv_Itoa n h0 h1 w htab).mono ?_
  rintro e w' ⟨rfl, k, os, rfl⟩
  exact ⟨rfl, Lib.below_grow _ w (Nat.le_refl _) k os⟩
theorem below_putRow0 {α : Type} [Inhabited α] {enc : α → Value} {C : Nat} {w0 w : World} {g : Nat} {d : Array α} (h : Below C w0 w) (hg : C ≤ g) : Below C w0 (putRow enc w g 0 d) :=
  ⟨h.os, h.tape, h.output, by simpa [putRow, mapBlock] using h.size, fun k hk => by
    rw [← h.block k hk]
    simp [putRow, mapBlock, Array.getElem?_modify, show g ≠ k by omega]⟩
set_option maxHeartbeats 1000000 in
set_option maxRecDepth 100000 in
theorem fmt_in (u : Nat) (hu64 : u < 18446744073709551616) (w : World) (htab : Tab w) :
    Calls Tryd.prog 53 #[.int .u64 (u : Nat), .int .i64 10] w fun e w' => e = .returned (.string (B (Lib.decDigits u))) ∧ Below w.heap.size w w' := by
  by_cases hi : u < 100
  · go_enter Tryd.func53, Tryd.ntmps53
    have hc : IntKind.i64.wrap (u : Int) = (u : Int) := by rw [IntKind.wrap_i64]; omega
    go_wp2_with (go_at_call 70; refine (Tryd.internal_strconv_small u hi _).mono ?_; rintro e w' ⟨rfl, rfl⟩)
    go_ret
    exact ⟨rfl, Below.refl _ _⟩
  · have hu1 : 1 ≤ u := by omega
    have hnd20 : Lib.nDigits u ≤ 20 := by have := Lib.numDigits_eq u hu1 hu64; split at this <;> omega
    have hal : Tryd.prog.arrayLen 123 = 24 := by kernel_rfl
    have hsl1 : ∀ W, (Instr.sliceAt 123 (.pointer (some ⟨w.heap.size, 0, none⟩)) none (some (.int .i64 (Lib.nDigits u : Nat))) none).run Tryd.prog W = .ok (.slice (some ⟨w.heap.size, 0, none⟩) (Lib.nDigits u) 24) W := fun W => by
      rw [run_sliceAt_array_h W 123 ⟨w.heap.size, 0, none⟩ (by simp [Program.arrayLen, Program.elem, Tryd.underlying123]) .i64 (Lib.nDigits u : Nat) (by omega) (by rw [hal]; omega)]
      go_simp
    have hH0 := Lib.holds_zero0 w 123 (Lib.nDigits u) (by omega)
    have hfmt := Tryd.internal_strconv_formatBase10 w.heap.size 0 24 u (Array.replicate (Lib.nDigits u) 0) (w.alloc (.cells Lib.zeros24 123)) hH0 (by rw [Array.size_replicate]; exact Lib.lt_pow_nDigits u) hu64 (by rw [Array.size_replicate]; omega)
    rw [Array.size_replicate] at hfmt
    have HH0 := Lib.hid hH0
    replace htab := Lib.hid (Lib.tabIs_alloc htab (.cells Lib.zeros24 123))
    clear hH0 hal
    go_enter Tryd.func53, Tryd.ntmps53
    go_wp2_with (first
      | (go_at_call 71; refine (Tryd.internal_strconv_numDigits u hu1 hu64 _ htab.out).mono ?_; rintro e w' ⟨rfl, rfl⟩)
      | (go_at_call 72; refine hfmt.mono ?_; rintro e w' ⟨rfl, k, v', dk, rfl, hF⟩))
    have hcv : (convert 59 9 (.slice (some ⟨w.heap.size, 0, none⟩) (Lib.nDigits u) 24)).run Tryd.prog ((putRow (fun (b : UInt8) => Value.int .u8 (b.toNat : Int)) (w.alloc (.cells Lib.zeros24 123)) w.heap.size 0 dk).drewN k) = .ok (.string (B (Lib.decDigits u))) ((putRow (fun (b : UInt8) => Value.int .u8 (b.toNat : Int)) (w.alloc (.cells Lib.zeros24 123)) w.heap.size 0 dk).drewN k) := by
      have h := run_convert_bytes_back (P := Tryd.prog) ((putRow (fun (b : UInt8) => Value.int .u8 (b.toNat : Int)) (w.alloc (.cells Lib.zeros24 123)) w.heap.size 0 dk).drewN k) 59 9 5 ⟨w.heap.size, 0, none⟩ 24 (Lib.decDigits u) Tryd.underlying59 Tryd.underlying5 Tryd.underlying9 (fun j hj => by
        rw [Lib.row_is_numeral hF j hj, Lib.add_plain, World.cell?_drewN]
        exact cell?_putRow (fun (b : UInt8) => Value.int .u8 (b.toNat : Int)) _ w.heap.size 0 _ dk HH0.out (by rw [hF.size, Array.size_replicate]) j (by rw [hF.size]; rw [Lib.decDigits_length] at hj; exact hj))
      rw [Lib.decDigits_length] at h
      exact h
    have hend : Below w.heap.size w ((putRow (fun (b : UInt8) => Value.int .u8 (b.toNat : Int)) (w.alloc (.cells Lib.zeros24 123)) w.heap.size 0 dk).drewN k) :=
      pw_below_drewN (below_putRow0 (below_alloc (Below.refl _ _) _) (Nat.le_refl _)) k
    clear hF HH0 hfmt
    generalize (putRow (fun (b : UInt8) => Value.int .u8 (b.toNat : Int)) (w.alloc (.cells Lib.zeros24 123)) w.heap.size 0 dk).drewN k = W at *
    rw [hcv]
    simp only [Result.andThen]
    rw [Oper.upon_value]
    go_wp2
    go_ret
    exact ⟨rfl, hend⟩
set_option maxHeartbeats 1000000 in
set_option maxRecDepth 100000 in
theorem fmt_any (u : Nat) (hu64 : u < 18446744073709551616) (w : World) (htab : Tab w) :
    Calls Tryd.prog 38 #[.int .u64 (u : Nat), .int .i64 10] w fun e w' => e = .returned (.string (B (Lib.decDigits u))) ∧ Below w.heap.size w w' := by
  have hf := fmt_in u hu64 w htab
  go_enter Tryd.func38, Tryd.ntmps38
  go_wp2_with (go_at_call 53; refine hf.mono ?_; rintro e w' ⟨rfl, hb⟩)
  go_ret
  exact ⟨rfl, hb⟩
/-- Few digits. -/
def shortB (n : Int) : Bool := decide ((Lib.trimPrefix (Lib.itoa n) [45]).length ≤ 18)
set_option maxHeartbeats 1000000 in
set_option maxRecDepth 100000 in
theorem short_any (n : Int) (h0 : -9223372036854775808 ≤ n) (h1 : n ≤ 9223372036854775807) (w : World) (htab : Tab w) :
    Calls Tryd.prog 39 #[.int .i64 n] w fun e w' => e = .returned (.bool (shortB n)) ∧ Below w.heap.size w w' := by
  have hf := itoa_any n h0 h1 w htab
  have ht := fun W => Tryd.strings_TrimPrefix (B (Lib.itoa n)) ⟨#[45]⟩ W
  simp only [B_data] at ht
  have hsz : (⟨(Lib.trimPrefix (Lib.itoa n) [45]).toArray⟩ : ByteArray).size = (Lib.trimPrefix (Lib.itoa n) [45]).length := B_size _
  have hs : shortB n = decide ((Lib.trimPrefix (Lib.itoa n) [45]).length ≤ 18) := rfl
  generalize Lib.trimPrefix (Lib.itoa n) [45] = D at *
  replace hs := Lib.hid hs
  go_enter Tryd.func39, Tryd.ntmps39
  go_wp2_with (first | (go_at_call 24; refine hf.mono ?_; rintro e w1 ⟨rfl, hb⟩) | (go_at_call 54; refine (ht _).mono ?_; rintro e w2 ⟨rfl, rfl⟩))
  go_ret
  exact ⟨by rw [hs.out]; simp; omega, hb⟩
end Go.Proofs.YtigcgpbdifihoaaDoor
