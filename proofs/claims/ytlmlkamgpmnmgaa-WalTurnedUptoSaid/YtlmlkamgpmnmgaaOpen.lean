/-
  Arguments opened: slices of bytes and of strings, with what the bound gives.
-/
import Derived.Test.YtlmlkamgpmnmgaaRows
import Derived.Test.YtlmlkamgpmnmgaaHand
import Derived.Test.YtlmlkamgpmnmgaaYield
import Derived.WalkKit
import Derived.ProofKit
import Derived.OpenShut
import Derived.ShutString
import Derived.ChangeOld
import Derived.Below
import Derived.SizedLaws
import Derived.JoinedCond
import Derived.SliceStrings
import Derived.Carry
set_option linter.unusedVariables false
namespace Go.Proofs.Ytlmlkamgpmnmgaa
open Go.ChangeShapes Go.WideShapes Go.ChangeAt Go.RowKit Go.Proofs.YtlmlkamgpmnmgaaW.PrintWords
theorem laidOut : laidOutB Try.prog = true := by kernel_rfl
theorem ownNone : ownKnob Try.prog.godebug = none := by kernel_rfl
section
variable {H : Type}
theorem bulk_app (l r : List (DataW H)) : Rows.uptoBulkAll (l ++ r) = Rows.uptoBulkAll l + Rows.uptoBulkAll r := by
  induction l with
  | nil => simp [Rows.uptoBulkAll]
  | cons x l ih => simp only [List.cons_append, Rows.uptoBulkAll, ih]; omega
theorem bulk_lits (k : IntKind) (zs : List Int) : Rows.uptoBulkAll (lits (H := H) k zs) = zs.length := by
  induction zs with
  | nil => simp [lits, Rows.uptoBulkAll]
  | cons x r ih =>
    have : lits (H := H) k (x :: r) = .lit (.int k x) :: lits k r := rfl
    rw [this]
    simp only [Rows.uptoBulkAll, ih, Rows.uptoBulk, List.length_cons]
    omega
theorem bulk_strs (ss : List ByteArray) : ss.length ≤ Rows.uptoBulkAll (strs (H := H) ss) ∧ ∀ s ∈ ss, s.size ≤ Rows.uptoBulkAll (strs (H := H) ss) := by
  induction ss with
  | nil => simp [strs, Rows.uptoBulkAll]
  | cons x r ih =>
    have : strs (H := H) (x :: r) = .lit (.string x.data.toList) :: strs r := rfl
    rw [this]
    simp only [Rows.uptoBulkAll, Rows.uptoBulk, List.length_cons]
    rw [len_data]
    refine ⟨by omega, fun s hs => ?_⟩
    rcases List.mem_cons.1 hs with h | h
    · subst h; omega
    · have := ih.2 s h; omega
theorem bulk_of {l : List (DataW H)} (hk : Rows.uptoSmall H l = true) : Rows.uptoBulkAll l ≤ 1048576 := of_decide_eq_true hk
variable {enc : TypeId × Value → H}
theorem open_rd {W : World} {base : Nat} {v : Value} {d : DataW H} {ps : List MemPlace} (hval : Value.okWide Try.prog W .any base 33 v) (h : DataW.Trod enc Try.prog W 0 (fun _ => true) true 33 v d ps) :
    ∃ (A : Option Addr) (n c : Nat) (l : List UInt8), v = .slice A n c ∧ Rd W A n l ∧ n ≤ c ∧ n ≤ Rows.uptoBulk d ∧ ∀ x ∈ ps, x.block < W.heap.size := by
  have hlt : ∀ x ∈ ps, x.block < W.heap.size := by obtain ⟨m, hm⟩ := h; exact DataW.trod_lt m _ _ _ hm
  obtain ⟨a, len, cap, rfl⟩ := okWide_slice Try.underlying33 hval
  obtain ⟨fuel, hf⟩ := h
  rcases open_ints Try.underlying33 Try.underlying5 (by kernel_rfl) hf with ⟨hcs, _⟩ | ⟨x, l, c, zs, hcs, _, hl, hm, hz, hx, hcell, hwz⟩
  · simp [Value.cells] at hcs
    obtain ⟨rfl, rfl, rfl⟩ := hcs
    exact ⟨none, 0, 0, [], rfl, ⟨rfl, by omega, fun h => absurd h (Nat.lt_irrefl 0)⟩, Nat.le_refl _, Nat.zero_le _, hlt⟩
  · simp [Value.cells] at hcs
    obtain ⟨rfl, rfl, rfl⟩ := hcs
    have hzl : zs.length = cap := by simpa using hz
    have hbi : bi ((zs.take len).map (fun n => UInt8.ofNat n.toNat)) = zs.take len := by
      unfold bi
      rw [List.map_map]
      conv => rhs; rw [← List.map_id (zs.take len)]
      refine List.map_congr_left fun n hn => ?_
      have hw := hwz n (List.mem_of_mem_take hn)
      have h0 : 0 ≤ n ∧ n ≤ 255 := by simpa [Lit.wf, IntKind.min, IntKind.max, IntKind.signed, IntKind.bits] using hw
      obtain ⟨m, rfl⟩ := Int.eq_ofNat_of_zero_le h0.1
      have hm : m < 256 := by omega
      simp [Nat.mod_eq_of_lt hm]
    refine ⟨some x, len, cap, (zs.take len).map (fun n => UInt8.ofNat n.toNat), rfl, ?_, hl, ?_, hlt⟩
    · unfold Rd
      rw [hbi]
      refine ⟨by rw [List.length_take]; omega, by simp only [maxLen] at hm; omega, fun hp => ⟨x, rfl, fun j hj => ?_⟩⟩
      rw [hcell j (by omega)]
      simp [List.getD_eq_getElem?_getD, hj]
    · have he : d = .slice (lits .u8 (zs.take len)) (lits .u8 (zs.drop len)) := congrArg Prod.fst hx
      subst he
      simp only [Rows.uptoBulk, bulk_lits, List.length_take]
      omega
theorem open_srd {W : World} {base : Nat} {v : Value} {d : DataW H} {ps : List MemPlace} (hval : Value.okWide Try.prog W .any base 22 v) (h : DataW.Trod enc Try.prog W 0 (fun _ => true) true 22 v d ps) :
    ∃ (A : Option Addr) (n c : Nat) (l : List ByteArray), v = .slice A n c ∧ SRd W A n l ∧ n ≤ c ∧ n ≤ Rows.uptoBulk d ∧ (∀ s ∈ l, s.size ≤ Rows.uptoBulk d) ∧ ∀ x ∈ ps, x.block < W.heap.size := by
  have hlt : ∀ x ∈ ps, x.block < W.heap.size := by obtain ⟨m, hm⟩ := h; exact DataW.trod_lt m _ _ _ hm
  obtain ⟨a, len, cap, rfl⟩ := okWide_slice Try.underlying22 hval
  obtain ⟨fuel, hf⟩ := h
  rcases open_strings Try.underlying22 Try.underlying9 (by kernel_rfl) hf with ⟨hcs, _⟩ | ⟨x, l, c, ss, hcs, _, hl, hm, hz, hx, hcell, hwz⟩
  · simp [Value.cells] at hcs
    obtain ⟨rfl, rfl, rfl⟩ := hcs
    exact ⟨none, 0, 0, [], rfl, ⟨rfl, by omega, fun h => absurd h (Nat.lt_irrefl 0)⟩, Nat.le_refl _, Nat.zero_le _, by simp, hlt⟩
  · simp [Value.cells] at hcs
    obtain ⟨rfl, rfl, rfl⟩ := hcs
    have hzl : ss.length = cap := by simpa using hz
    have he : d = .slice (strs (ss.take len)) (strs (ss.drop len)) := congrArg Prod.fst hx
    subst he
    have hb := bulk_strs (H := H) (ss.take len)
    refine ⟨some x, len, cap, ss.take len, rfl, ?_, hl, ?_, ?_, hlt⟩
    · refine ⟨by rw [List.length_take]; omega, by simp only [maxLen] at hm; omega, fun hp => ⟨x, rfl, fun j hj => ?_⟩⟩
      rw [hcell j (by omega)]
      simp [List.getD_eq_getElem?_getD, hj]
    · have h1 := hb.1
      rw [List.length_take] at h1
      simp only [Rows.uptoBulk]
      omega
    · intro s hs
      have := hb.2 s hs
      simp only [Rows.uptoBulk]
      omega
end
end Go.Proofs.Ytlmlkamgpmnmgaa
