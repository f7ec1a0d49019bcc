/-
  Chapter 22: bytes as lists; a strings.Builder at the head of a block of the call's own (alone, or a writer's), walked.
-/
import Derived.Test.YtmchephokleffaaGreatDoorQ0
import Derived.Test.YtmchephokleffaaGreatDoorShelf
import Derived.Lib.Strings
import Derived.Lib.Slices
import Derived.Lib.Walk
import Derived.Lib.Builder
import Derived.Lib.OthersKept
import Derived.Lib.AppendStr
import Derived.Lib.UnsafeStr
import Derived.Lib.Hide
import Derived.WalkKit
import Derived.WalkLawsBesides
import Derived.WalkSpells
import Derived.Laws.Externs
import Derived.Laws.IdiomCopy
import Derived.Deep.LoopGhost
import Derived.Deep.QuietTactic
import Derived.BigQuiet
import Derived.Deep.DeepFit
set_option linter.unusedVariables false
set_option linter.unusedSimpArgs false
namespace Go.Proofs.YtmchephokleffaaGreatDoor.Bd
open Go.RowKit Go.Proofs.YtmchephokleffaaGreatDoorW.PrintWords Go.Proofs.YtmchephokleffaaGreatDoor.PRecord
def B (l : List UInt8) : ByteArray := ⟨l.toArray⟩
theorem B_size (l : List UInt8) : (B l).size = l.length := by simp [B, ByteArray.size]
theorem B_data (l : List UInt8) : (B l).data.toList = l := by simp [B]
theorem B_toList (l : List UInt8) : (B l).toList = l := by rw [ByteArray.toList_eq, B_data]
theorem of_data (s : ByteArray) : B s.data.toList = s := by simp [B]
theorem B_ext (l : List UInt8) (m n : Nat) : (B l).extract m n = B ((l.drop m).take (n - m)) := by
  rw [← of_data ((B l).extract m n), Lib.extract_data, B_data]
theorem B_take (l : List UInt8) (n : Nat) : (B l).extract 0 n = B (l.take n) := by rw [B_ext, List.drop_zero, Nat.sub_zero]
theorem B_drop (l : List UInt8) (n : Nat) : (B l).extract n (B l).size = B (l.drop n) := by
  rw [B_ext, B_size, List.take_of_length_le (by rw [List.length_drop]; omega)]
theorem B_get (l : List UInt8) (i : Nat) (h : i < (B l).size) (h2 : i < l.length) : (B l)[i]'h = l[i]'h2 := by
  show (l.toArray)[i]'_ = _
  exact List.getElem_toArray _
theorem B_app (l m : List UInt8) : B l ++ B m = B (l ++ m) := by
  rw [← of_data (B l ++ B m), ByteArray.data_append]
  simp [B]
theorem B_inj {l m : List UInt8} (h : B l = B m) : l = m := by rw [← B_data l, h, B_data]
theorem bt_mid (P R : List UInt8) (c : UInt8) : bt (B (P ++ c :: R)) (P.length : Int) = (c.toNat : Int) := by
  have h : ((P.length : Int)).toNat < (B (P ++ c :: R)).size := by rw [B_size]; simp
  rw [← bt_at _ _ h, B_get _ _ h (by simp)]
  simp
theorem len_data' (s : ByteArray) : s.data.toList.length = s.size := by rw [Array.length_toList]; rfl
theorem w_in (n : Nat) (h : n < 9223372036854775808) : wrap64 (n : Int) = (n : Int) := IntWalk.wrap64_in _ (by omega)
theorem w_succ (n : Nat) (h : n + 1 < 9223372036854775808) : wrap64 ((n : Int) + 1) = ((n + 1 : Nat) : Int) := by rw [IntWalk.wrap64_in _ (by omega)]; omega
theorem u8_eq (c : UInt8) (n : Nat) (hn : n < 256) : c = UInt8.ofNat n ↔ c.toNat = n := by
  constructor
  · rintro rfl
    simp [Nat.mod_eq_of_lt hn]
  · rintro rfl
    simp
/-- A builder at the head of block b: 'r' what stands behind its two cells. -/
def BA (T : TypeId) (r : List Value) (C b : Nat) (p : Value) (l : List UInt8) (w : World) : Prop :=
  C ≤ b ∧ ∃ v, w.heap[b]? = some (.cells (p :: v :: r).toArray T (0, 0)) ∧ w.ownsRow C 5 1 v l.length (Lib.byteCells l) ∧ v.ownBlock ≠ some b
def IB (T : TypeId) (r : List Value) (C b : Nat) (l : List UInt8) (w : World) : Prop := BA T r C b (.pointer none) l w ∨ BA T r C b (.pointer (some ⟨b, 0, none⟩)) l w
/-- What a call on it leaves. -/
def Fr (C b : Nat) (w w' : World) : Prop := Below C w w' ∧ Lib.OthersKept 5 (some b) w w'
theorem Fr.refl (C b : Nat) (w : World) : Fr C b w w := ⟨Below.refl _ _, Lib.OthersKept.refl _ _ _⟩
theorem Fr.trans {C b : Nat} {a c d : World} (h : Fr C b a c) (k : Fr C b c d) : Fr C b a d := ⟨h.1.trans k.1, h.2.trans k.2⟩
/-- What a call that knows nothing of the builder leaves. -/
theorem Fr.of_below {C b : Nat} {w w' : World} (hC : C ≤ w.heap.size) (h : Below w.heap.size w w') : Fr C b w w' :=
  ⟨⟨h.os, h.tape, h.output, h.size, fun k hk => h.block k (by omega)⟩, fun k o hk _ _ => (h.block k (Array.getElem?_eq_some_iff.1 hk).1).trans hk⟩
/-- The types in which it may stand. -/
def OKT (T : TypeId) (r : List Value) : Prop := liesAt Tryz.prog Tryz.prog.depth T ((r.length + 2) / Tryz.prog.cellsOf T) 0 167 1 = true ∧ T ≠ 5
theorem okt_builder : OKT 167 [] := ⟨by kernel_rfl, by decide⟩
section
variable {T : TypeId} {r : List Value} {C b : Nat} {p : Value} {l : List UInt8} {w : World}
theorem BA.lt (h : BA T r C b p l w) : b < w.heap.size := by
  obtain ⟨_, v, hb, _⟩ := h
  exact (Array.getElem?_eq_some_iff.1 hb).1
theorem BA.cell0 (h : BA T r C b p l w) : w.cell? ⟨b, 0, none⟩ = some p := by
  obtain ⟨_, v, hb, _⟩ := h
  rw [Lib.cell_of_heap hb]
  rfl
theorem BA.shape (h : BA T r C b p l w) : w.shape? b = some (T, r.length + 2) := by
  obtain ⟨_, v, hb, _⟩ := h
  simp [World.shape?, hb]
theorem BA.frozen0 (h : BA T r C b p l w) : w.frozen? ⟨b, 0, none⟩ = false := by
  obtain ⟨_, v, hb, _⟩ := h
  exact Lib.frozen_of_heap hb 0
theorem BA.used (h : BA T r C b p l w) (q : Value) : BA T r C b q l (w.setCell ⟨b, 0, none⟩ q) := by
  have hlt := h.lt
  obtain ⟨hB, v, hb, hown, hne⟩ := h
  refine ⟨hB, v, ?_, ?_, hne⟩
  · simp [World.setCell, Array.getElem?_modify, hb]
  · refine hown.kept (row := some b) ⟨rfl, rfl, rfl, by simp [World.setCell], fun k _ hk => Below.heap_setCell _ _ _ _ (fun e => hk (by simp [e]))⟩ ?_
    exact Or.inr hne
theorem BA.put {v v' : Value} {l' : List UInt8} (hC : C ≤ b) (hb : w.heap[b]? = some (.cells (p :: v :: r).toArray T (0, 0))) (hown : w.ownsRow C 5 1 v' l'.length (Lib.byteCells l')) (hT : T ≠ 5) :
    BA T r C b p l' (w.setCell ⟨b, 1, none⟩ v') := by
  have hne := Lib.ownBlock_ne hown hb hT
  refine ⟨hC, v', ?_, ?_, hne⟩
  · simp [World.setCell, Array.getElem?_modify, hb]
  · exact hown.kept (row := some b) ⟨rfl, rfl, rfl, by simp [World.setCell], fun k _ hk => Below.heap_setCell _ _ _ _ (fun e => hk (by simp [e]))⟩ (Or.inr hne)
/-- Calls that leave all older blocks leave it. -/
theorem BA.below (h : BA T r C b p l w) {w' : World} (hb : Below w.heap.size w w') : BA T r C b p l w' := by
  have hlt := h.lt
  obtain ⟨hC, v, hk, hown, hne⟩ := h
  refine ⟨hC, v, (hb.block b hlt).trans hk, hown.kept (row := none) ⟨hb.os, hb.tape, hb.output, hb.size, fun k hk _ => hb.block k hk⟩ (by cases v.ownBlock <;> simp), hne⟩
theorem BA.own_of (h : BA T r C b p l w) : ∃ v, w.cell? ⟨b, 1, none⟩ = some v ∧ w.ownsRow C 5 1 v l.length (Lib.byteCells l) := by
  obtain ⟨_, v, hb, ho, _⟩ := h
  exact ⟨v, by rw [Lib.cell_of_heap hb]; rfl, ho⟩
end
theorem IB.ba {T r C b l w} (h : IB T r C b l w) : ∃ p, BA T r C b p l w := h.elim (fun x => ⟨_, x⟩) fun x => ⟨_, x⟩
set_option maxHeartbeats 1000000 in
set_option maxRecDepth 100000 in
theorem copy_used (b : Nat) (w : World) (h0 : w.cell? ⟨b, 0, none⟩ = some (.pointer (some ⟨b, 0, none⟩))) :
    Calls Tryz.prog 158 #[.pointer (some ⟨b, 0, none⟩)] w fun e w' => e = .returned (.tuple #[]) ∧ w' = w := by
  obtain ⟨j, hj, _⟩ := Option.map_eq_some_iff.1 (show (Tryz.prog.info? 167).map (·.size) = some 2 by kernel_rfl)
  have hq := fun W => Lib.run_neq_ptr_same (P := Tryz.prog) W ⟨b, 0, none⟩ Tryz.underlying165 hj
  go_enter Tryz.func158, Tryz.ntmps158
  go_wp2
  go_end0
  exact ⟨rfl, rfl⟩
set_option maxHeartbeats 1000000 in
set_option maxRecDepth 100000 in
theorem copy_fresh {T : TypeId} {r : List Value} (hT : OKT T r) (b : Nat) (w : World) (h0 : w.cell? ⟨b, 0, none⟩ = some (.pointer none)) (hsh : w.shape? b = some (T, r.length + 2)) (hfz : w.frozen? ⟨b, 0, none⟩ = false) :
    Calls Tryz.prog 158 #[.pointer (some ⟨b, 0, none⟩)] w fun e w' => e = .returned (.tuple #[]) ∧ w' = w.setCell ⟨b, 0, none⟩ (.pointer (some ⟨b, 0, none⟩)) := by
  obtain ⟨j, hj, hjs⟩ := Option.map_eq_some_iff.1 (show (Tryz.prog.info? 167).map (·.size) = some 2 by kernel_rfl)
  have h1 := Lib.run_to_unsafe w ⟨b, 0, none⟩ Tryz.underlying165 Tryz.underlying209 hj (by rw [hjs]; decide) hsh (Nat.zero_lt_succ (r.length + 1))
  have h2 := Lib.run_from_unsafe w ⟨b, 0, none⟩ Tryz.underlying209 Tryz.underlying165 hj hsh hT.1
  go_enter Tryz.func158, Tryz.ntmps158
  go_wp2
  rw [run_callFunc_extern Tryz.func180 (by kernel_rfl) (by kernel_rfl) (by kernel_rfl) (e := Extern.AbiNoEscape.same) (by kernel_rfl)]
  rw [Lib.run_noEscape]
  simp only [Result.andThen]
  rw [Oper.upon_value]
  go_wp2
  go_end0
  exact ⟨rfl, rfl⟩
theorem copy_any {T : TypeId} {r : List Value} (hT : OKT T r) {C b : Nat} {l : List UInt8} {w : World} (h : IB T r C b l w) :
    Calls Tryz.prog 158 #[.pointer (some ⟨b, 0, none⟩)] w fun e w' => e = .returned (.tuple #[]) ∧ BA T r C b (.pointer (some ⟨b, 0, none⟩)) l w' ∧ Fr C b w w' := by
  rcases h with h | h
  · refine (copy_fresh hT b w h.cell0 h.shape h.frozen0).mono ?_
    rintro e w' ⟨rfl, rfl⟩
    exact ⟨rfl, h.used _, (Below.refl C w).setCell (p := ⟨b, 0, none⟩) h.1 _, (Lib.OthersKept.refl _ _ w).setCell ⟨b, 0, none⟩ rfl _⟩
  · refine (copy_used b w h.cell0).mono ?_
    rintro e w' ⟨rfl, rfl⟩
    exact ⟨rfl, h, Fr.refl _ _ _⟩
end Go.Proofs.YtmchephokleffaaGreatDoor.Bd
