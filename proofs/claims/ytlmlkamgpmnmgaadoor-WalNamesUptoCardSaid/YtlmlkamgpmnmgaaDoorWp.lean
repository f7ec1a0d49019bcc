/-
  Names of files: the program's and the reference's, walked; a nil writer; the law WalNames.
-/
import Derived.Test.YtlmlkamgpmnmgaaDoorWo
import Derived.Test.YtlmlkamgpmnmgaaDoorLives
import Derived.Test.YtlmlkamgpmnmgaaDoorShelf
import Derived.Lib.LaidTab
import Derived.Lib.SmallJoins
import Derived.Lib.AppendIntMem
import Derived.Lib.OwnBridge
set_option linter.unusedVariables false
set_option linter.unusedSimpArgs false
namespace Go.Proofs.YtlmlkamgpmnmgaaDoor
open Go.RowKit Go.Proofs.YtlmlkamgpmnmgaaDoorW.PrintWords Go.Proofs.YtlmlkamgpmnmgaaDoorW.PrintLast Go.Proofs.YtlmlkamgpmnmgaaDoorW.PrintMore Go.Proofs.YtlmlkamgpmnmgaaDoor.PWalNames
/-- What the library's listed tables and variables hold. -/
structure NT (w : World) : Prop where
  tab : Lib.TabIs Tryd.prog w "internal/strconv.uint64pow10" .u64 Lib.pow10Tab
  syn : ∃ tp p, w.var? Tryd.prog "strconv.ErrSyntax" = some #[.iface tp p]
  rng : ∃ tp p, w.var? Tryd.prog "strconv.ErrRange" = some #[.iface tp p]
theorem NT.below {w w1 : World} (h : NT w) (hb : Below w.heap.size w w1) : NT w1 :=
  ⟨Go.Joins.var_stays (g := (Tryd.prog.globalNamed "internal/strconv.uint64pow10").getD 0) (by kernel_rfl) h.tab hb (Nat.le_refl _),
   let ⟨tp, p, e⟩ := h.syn; ⟨tp, p, Go.Joins.var_stays (g := (Tryd.prog.globalNamed "strconv.ErrSyntax").getD 0) (by kernel_rfl) e hb (Nat.le_refl _)⟩,
   let ⟨tp, p, e⟩ := h.rng; ⟨tp, p, Go.Joins.var_stays (g := (Tryd.prog.globalNamed "strconv.ErrRange").getD 0) (by kernel_rfl) e hb (Nat.le_refl _)⟩⟩
def wd : ByteArray := ⟨#[119, 97, 108, 45]⟩
theorem wd_size : wd.size ≤ 1000 := by decide
theorem rep_zero : ∀ c, Lib.repeatL [48] c = List.replicate c 48
  | 0 => rfl
  | c + 1 => by rw [Lib.repeatL, rep_zero c]; rfl
theorem name_parts (n : Nat) : wd ++ (⟨(Lib.repeatL [48] (6 - (Lib.decDigits n).length)).toArray⟩ : ByteArray) ++ (⟨(Lib.decDigits n).toArray⟩ : ByteArray) = nameB wd n := by
  apply bs_ext
  rw [name_list, ByteArray.data_append, ByteArray.data_append, rep_zero]
  unfold pad6
  simp [List.append_assoc]
theorem dec_le (n : Nat) (hn : n < 10000000000000000000) : (Lib.decDigits n).length ≤ 19 := by
  rw [Lib.decDigits_length]
  have : ∀ (k m : Nat), m < 10 ^ (k + 1) → Lib.nDigits m ≤ k + 1 := by
    intro k
    induction k with
    | zero => intro m hm; rw [Lib.nDigits_small (by simpa using hm)]; omega
    | succ k ih =>
      intro m hm
      by_cases h2 : m < 10
      · rw [Lib.nDigits_small h2]; omega
      · rw [Lib.nDigits_big h2]
        have := ih (m / 10) (by rw [Nat.pow_succ] at hm; omega)
        omega
  exact this 18 n (by simpa using hn)
set_option maxHeartbeats 1000000 in
set_option maxRecDepth 100000 in
theorem named_any (n : Int) (h0 : -9223372036854775808 ≤ n) (h1 : n ≤ 9223372036854775807) (w : World) (hT : NT w) :
    Calls Tryd.prog 17 #[.string ⟨#[119, 97, 108, 45]⟩, .int .i64 n] w fun e w' => e = .returned (.string (nameB wd n)) ∧ Below w.heap.size w w' := by
  by_cases hn : n < 0
  · have e : nameB wd n = ⟨#[]⟩ := by unfold nameB; rw [if_pos hn]
    rw [e]
    clear e
    go_enter Tryd.func17, Tryd.ntmps17
    go_wp2
    go_ret
    exact ⟨rfl, Below.refl _ _⟩
  · obtain ⟨m, rfl⟩ : ∃ m : Nat, n = m := ⟨n.toNat, by omega⟩
    have hI : Calls Tryd.prog 31 #[.int .i64 (m : Int)] w fun e w' => e = .returned (.string ⟨(Lib.decDigits m).toArray⟩) ∧ Below w.heap.size w w' := by
      refine (Tryd.strconv_Itoa (m : Int) h0 h1 w hT.tab).mono ?_
      rintro e w' ⟨rfl, k, os, rfl⟩
      rw [Lib.itoa_nonneg]
      exact ⟨rfl, Lib.below_grow _ w (Nat.le_refl _) k os⟩
    have hnm := Lib.hid (name_parts m)
    have hl := dec_le m (by omega)
    have hl1 := dec_pos m
    have hsz : (⟨(Lib.decDigits m).toArray⟩ : ByteArray).size = (Lib.decDigits m).length := rfl
    generalize hD : Lib.decDigits m = D at *
    obtain ⟨c, hc⟩ : ∃ c : Nat, c = 6 - D.length := ⟨_, rfl⟩
    have hR := fun W => Tryd.strings_Repeat ⟨#[48]⟩ c W (by omega) (by show 1 * c ≤ _; omega)
    have hmx : max (0 : Int) (6 - (D.length : Int)) = (c : Int) := by
      omega
    rw [← hc] at hnm
    have hrl : (Lib.repeatL [48] c).length = c := by rw [rep_zero, List.length_replicate]
    have hrs : (⟨(Lib.repeatL [48] c).toArray⟩ : ByteArray).size = (Lib.repeatL [48] c).length := rfl
    generalize hRep : Lib.repeatL [48] c = Rp at *
    replace hI := Lib.hid hI
    replace hR : Hid (∀ W, Calls Tryd.prog 32 #[.string ⟨#[48]⟩, .int .i64 (c : Nat)] W fun e w' => e = .returned (.string ⟨Rp.toArray⟩) ∧ Below W.heap.size W w') := Lib.hid hR
    replace hc := Lib.hid hc
    clear hRep hD
    go_enter Tryd.func17, Tryd.ntmps17
    go_wp2_with (fail)
    refine hI.out.mono ?_
    rintro e w1 ⟨rfl, hb1⟩
    have s1 : wd.size = 4 := rfl
    go_wp2_with (fail)
    (with_reducible refine (hR.out _).mono ?_)
    rintro e w2 ⟨rfl, hb2⟩
    clear hR hI
    go_wp2
    go_ret
    exact ⟨by rw [← hnm.out]; rfl, hb1.trans (hb2.mono hb1.size)⟩
theorem name_any (n : Int) (h0 : -9223372036854775808 ≤ n) (h1 : n ≤ 9223372036854775807) (w : World) (hT : NT w) :
    Calls Tryd.prog 9 #[.int .i64 n] w fun e w' => e = .returned (.string (nameB wd n)) ∧ Below w.heap.size w w' := by
  have h := Lib.hid (named_any n h0 h1 w hT)
  go_enter Tryd.func9, Tryd.ntmps9
  go_wp2_with (fail)
  refine h.out.mono ?_
  rintro e w1 ⟨rfl, hb1⟩
  go_wp2
  go_ret
  exact ⟨rfl, hb1⟩
/-- strconv.Atoi, whatever the text: the number and whether there is an error. -/
theorem atoi_any (s : ByteArray) (hs : s.size ≤ 281474976710656) (w : World) (hT : NT w) :
    Calls Tryd.prog 16 #[.string s] w fun e w' => Below w.heap.size w w' ∧ ((∃ v, Lib.atoiAll s.data.toList = .ok v ∧ e = .returned (.tuple #[.int .i64 v, .nilIface])) ∨ ((∀ v, Lib.atoiAll s.data.toList ≠ .ok v) ∧ ∃ v t p, e = .returned (.tuple #[.int .i64 v, .iface t p]))) := by
  cases h : Lib.atoiAll s.data.toList with
  | ok v =>
    refine (Tryd.strconv_Atoi_ok s (by omega) v h w).mono ?_
    rintro e w' ⟨rfl, hw⟩
    refine ⟨?_, Or.inl ⟨v, rfl, rfl⟩⟩
    rcases hw with rfl | ⟨t, rfl⟩
    · exact Below.refl _ _
    · exact Lib.bytesWorld_below _ _ _
  | «syntax» =>
    obtain ⟨tp, p, hv⟩ := hT.syn
    refine (Tryd.strconv_Atoi_syntax s hs h (.iface tp p) w (by have h0 := World.var?_cell (g := 0) (by kernel_rfl) hv 0; simpa using h0) (Or.inr ⟨tp, p, rfl⟩)).mono ?_
    rintro e w' ⟨N, rfl, _, _, hb⟩
    exact ⟨hb, Or.inr ⟨(fun v e => by cases e), _, _, _, rfl⟩⟩
  | range =>
    obtain ⟨tp, p, hv⟩ := hT.rng
    refine (Tryd.strconv_Atoi_range s hs h (.iface tp p) w (by have h0 := World.var?_cell (g := 1) (by kernel_rfl) hv 0; simpa using h0) (Or.inr ⟨tp, p, rfl⟩)).mono ?_
    rintro e w' ⟨N, rfl, _, _, hb⟩
    exact ⟨hb, Or.inr ⟨(fun v e => by cases e), _, _, _, rfl⟩⟩
end Go.Proofs.YtlmlkamgpmnmgaaDoor
