/-
  A slice that came in, opened as a row that reads, with what the bound gives.
-/
import Derived.Test.YtigcgpbdifihoaaDoorRows
import Derived.Test.YtigcgpbdifihoaaDoorWWords
import Derived.WalkKit
import Derived.ProofKit
import Derived.OpenShut
import Derived.ShutString
import Derived.ChangeOld
import Derived.Below
import Derived.JoinedCond
import Derived.Deep.Slices
import Derived.Lib.SmallJoins
import Derived.ChangeArms
set_option linter.unusedVariables false
namespace Go.Proofs.YtigcgpbdifihoaaDoor
open Go.ChangeShapes Go.WideShapes Go.ChangeAt Go.RowKit Go.Proofs.YtigcgpbdifihoaaDoorW.PrintWords
theorem laidOut : laidOutB Tryd.prog = true := by kernel_rfl
theorem ownNone : ownKnob Tryd.prog.godebug = none := by kernel_rfl
section
variable {H : Type}
theorem bulk_of {l : List (DataW H)} (hk : Rows.uptoSmall H l = true) : Rows.uptoBulkAll l ≤ 1048576 := of_decide_eq_true hk
theorem bulk_pos (d : DataW H) : 1 ≤ Rows.uptoBulk d := by
  cases d with
  | lit l => cases l <;> simp [Rows.uptoBulk]
  | _ => simp [Rows.uptoBulk]
theorem bulk_sum (f : Nat → DataW H) {α : Type} (m : α → Nat) (d0 : α) : ∀ (xs : List α) (k : Nat), (∀ i, i < xs.length → m (xs.getD i d0) ≤ Rows.uptoBulk (f (k + i))) →
    (xs.map m).sum ≤ Rows.uptoBulkAll ((List.range xs.length).map fun i => f (k + i)) ∧ xs.length ≤ Rows.uptoBulkAll ((List.range xs.length).map fun i => f (k + i))
  | [], k, _ => by simp
  | x :: r, k, h => by
    have ih := bulk_sum f m d0 r (k + 1) (fun i hi => by
      have := h (i + 1) (by simp; omega)
      rw [show k + 1 + i = k + (i + 1) by omega]
      simpa using this)
    have h0 := h 0 (by simp)
    have hp := bulk_pos (f (k + 0))
    have e : (List.range (x :: r).length).map (fun i => f (k + i)) = f (k + 0) :: (List.range r.length).map (fun i => f (k + 1 + i)) := by
      rw [List.length_cons, List.range_succ_eq_map, List.map_cons, List.map_map]
      congr 1
      refine List.map_congr_left fun i _ => ?_
      show f (k + (i + 1)) = _
      rw [show k + (i + 1) = k + 1 + i by omega]
    rw [e]
    simp only [Rows.uptoBulkAll, List.map_cons, List.sum_cons, List.length_cons]
    simp at h0
    simp only [Nat.add_zero] at h0 hp ⊢
    omega
variable {enc : TypeId × Value → H}
set_option maxRecDepth 100000 in
theorem open_C {α : Type} (d : Kd α) (d0 : α) (t e : TypeId) (ht : Tryd.prog.underlying t = some (.slice e)) (hce : Tryd.prog.cellsOf e = d.sz) (m : α → Nat) {W : World} {base : Nat} {v : Value} {D : DataW H} {ps : List MemPlace}
    (hel : ∀ n cs x Pl, cs.length = d.sz → DataW.trod enc Tryd.prog W 0 (fun _ => true) true n e cs = some (x, Pl) → ∃ y : α, d.K W y cs ∧ m y ≤ Rows.uptoBulk x)
    (hval : Value.okWide Tryd.prog W .any base t v) (h : DataW.Trod enc Tryd.prog W 0 (fun _ => true) true t v D ps) :
    ∃ (A : Option Addr) (c : Nat) (xs : List α), v = .slice A xs.length c ∧ d.C W A xs.length xs ∧ xs.length ≤ c ∧ c ≤ maxLen ∧ xs.length ≤ Rows.uptoBulk D ∧ (xs.map m).sum ≤ Rows.uptoBulk D ∧ ∀ x ∈ ps, x.block < W.heap.size := by
  have hlt : ∀ x ∈ ps, x.block < W.heap.size := by obtain ⟨m, hm⟩ := h; exact DataW.trod_lt m _ _ _ hm
  obtain ⟨a, len, cap, rfl⟩ := okWide_slice ht hval
  obtain ⟨fuel, hf⟩ := h
  rcases Go.Deep.open_slice ht hf with ⟨hcs, _⟩ | ⟨ad, l, c, mm, n, f, Pl, hcs, _, hl, hm, hmm, hx, hix⟩
  · simp [Value.cells] at hcs
    obtain ⟨rfl, rfl, rfl⟩ := hcs
    exact ⟨none, 0, [], rfl, ⟨rfl, by simp, fun h => absurd h (Nat.lt_irrefl 0)⟩, Nat.le_refl _, Nat.zero_le _, Nat.zero_le _, by simp, hlt⟩
  · simp [Value.cells] at hcs
    obtain ⟨rfl, rfl, rfl⟩ := hcs
    have hall : ∀ i, i < len → ∃ y : α, (∃ cs, cs.length = d.sz ∧ d.K W y cs ∧ ∀ j u, cs[j]? = some u → W.cell? (ad.add (i * d.sz + j)) = some u) ∧ m y ≤ Rows.uptoBulk (f i) := fun i hi => by
      obtain ⟨cs, h1, h2⟩ := hix i (by rw [hmm]; simp; omega)
      obtain ⟨_, hlen, hcell⟩ := World.cells?_some h1
      rw [hce] at hlen
      obtain ⟨y, hy, hym⟩ := hel n cs (f i) (Pl i) hlen h2
      refine ⟨y, ⟨cs, hlen, hy, fun j u hu => ?_⟩, hym⟩
      have hj := (List.getElem?_eq_some_iff.1 hu).1
      have := hcell j (by rw [hce]; omega)
      rw [Go.Deep.add_add, hce] at this
      rw [this]
      exact hu
    haveI : Inhabited α := ⟨d0⟩
    obtain ⟨g, hg⟩ := Go.Deep.choose_lt hall
    have hlen : ((List.range len).map g).length = len := by simp
    have hget : ∀ i, i < len → ((List.range len).map g).getD i d0 = g i := fun i hi => by simp [List.getD_eq_getElem?_getD, hi]
    have hD : D = .slice ((List.range len).map f) ((List.range (mm - len)).map fun j => f (len + j)) := congrArg Prod.fst hx
    have hs := bulk_sum f m d0 ((List.range len).map g) 0 (fun i hi => by rw [hlen] at hi; rw [hget i hi, Nat.zero_add]; exact (hg i hi).2)
    have e0 : ((List.range len).map fun i => f (0 + i)) = (List.range len).map f := List.map_congr_left fun i _ => by rw [Nat.zero_add]
    rw [hlen, e0] at hs
    refine ⟨some ad, cap, (List.range len).map g, by rw [hlen], ?_, by rw [hlen]; exact hl, hm, ?_, ?_, hlt⟩
    · rw [hlen]
      refine ⟨hlen, by unfold maxLen at hm; omega, fun _ => ⟨ad, rfl, fun j p hj => ?_⟩⟩
      have hjl : j < len := by have := (List.getElem?_eq_some_iff.1 hj).1; rw [hlen] at this; exact this
      have hp : p = g j := by rw [List.getElem?_map, List.getElem?_range hjl] at hj; simpa using hj.symm
      obtain ⟨⟨cs, h1, h2, h3⟩, _⟩ := hg j hjl
      rw [hp]
      exact ⟨cs, h1, h2, h3⟩
    · rw [hlen, hD]
      simp only [Rows.uptoBulk]
      omega
    · rw [hD]
      simp only [Rows.uptoBulk]
      omega
theorem data_len (s : ByteArray) : s.data.toList.length = s.size := by rw [Array.length_toList]; rfl
set_option maxRecDepth 100000 in
theorem open_Cs {W : World} {base : Nat} {v : Value} {D : DataW H} {ps : List MemPlace} (hval : Value.okWide Tryd.prog W .any base 104 v) (h : DataW.Trod enc Tryd.prog W 0 (fun _ => true) true 104 v D ps) :
    ∃ (A : Option Addr) (c : Nat) (xs : List ByteArray), v = .slice A xs.length c ∧ Kd.C Kd.string W A xs.length xs ∧ xs.length ≤ c ∧ c ≤ maxLen ∧ xs.length ≤ Rows.uptoBulk D ∧ (xs.map ByteArray.size).sum ≤ Rows.uptoBulk D ∧ ∀ x ∈ ps, x.block < W.heap.size :=
  open_C Kd.string ByteArray.empty 104 9 Tryd.underlying104 (by kernel_rfl) ByteArray.size (fun n cs x Pl hl hx => by
    match cs, hl with
    | [u], _ =>
      obtain ⟨s, hs, hx2, _⟩ := DataW.trod_string Tryd.underlying9 hx
      obtain rfl : u = .string s := by simpa using hs
      refine ⟨s, rfl, ?_⟩
      have hx3 := congrArg Prod.fst hx2
      simp only at hx3
      subst hx3
      simp only [Rows.uptoBulk]
      rw [data_len]
      omega) hval h
end
end Go.Proofs.YtigcgpbdifihoaaDoor
