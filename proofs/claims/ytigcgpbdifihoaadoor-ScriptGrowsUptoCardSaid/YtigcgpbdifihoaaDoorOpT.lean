/-
  A configuration and terms that came in, opened.
-/
import Derived.Test.YtigcgpbdifihoaaDoorLaid28
import Derived.Test.YtigcgpbdifihoaaDoorNo
set_option linter.unusedVariables false
set_option linter.unusedSimpArgs false
namespace Go.Proofs.YtigcgpbdifihoaaDoor
open Go.ChangeShapes Go.WideShapes Go.ChangeAt Go.RowKit Go.Proofs.YtigcgpbdifihoaaDoorW.PrintWords
section
variable {H : Type} {enc : TypeId × Value → H}
theorem wf_i64 {n : Int} (h : (Lit.int .i64 n).wf = true) : i64 n := by
  simp only [Lit.wf, IntKind.min, IntKind.max, IntKind.signed, IntKind.bits, Bool.and_eq_true, decide_eq_true_eq, if_true] at h
  unfold i64
  omega
theorem wf_u64 {n : Int} (h : (Lit.int .u64 n).wf = true) : 0 ≤ n ∧ n < 18446744073709551616 := by
  simp only [Lit.wf, IntKind.min, IntKind.max, IntKind.signed, IntKind.bits, Bool.and_eq_true, decide_eq_true_eq, if_true, Bool.false_eq_true, if_false] at h
  omega
theorem trodS2 {P : Program} {w : World} {base : Nat} {spare : Nat → Bool} {held : Bool} {t : TypeId} {f0 f1 : Field} {fuel : Nat} {cs : List Value} {x : DataW H × List MemPlace} (ht : P.underlying t = some (.struct #[f0, f1])) (h : DataW.trod enc P w base spare held fuel t cs = some x) :
    ∃ y0 y1 n, x.1 = .agg [y0.1, y1.1] ∧ cs.length = P.cellsOf t ∧ DataW.trod enc P w base spare held n f0.type ((cs.drop f0.offset).take (P.cellsOf f0.type)) = some y0 ∧ DataW.trod enc P w base spare held n f1.type ((cs.drop f1.offset).take (P.cellsOf f1.type)) = some y1 := by
  obtain ⟨xs, n, _, rfl, hl, hlen, hf⟩ := DataW.trod_struct ht h
  match xs, hlen with
  | [y0, y1], _ => exact ⟨y0, y1, n, by simp, hl, by simpa using hf 0 f0 rfl, by simpa using hf 1 f1 rfl⟩
theorem trodS3 {P : Program} {w : World} {base : Nat} {spare : Nat → Bool} {held : Bool} {t : TypeId} {f0 f1 f2 : Field} {fuel : Nat} {cs : List Value} {x : DataW H × List MemPlace} (ht : P.underlying t = some (.struct #[f0, f1, f2])) (h : DataW.trod enc P w base spare held fuel t cs = some x) :
    ∃ y0 y1 y2 n, x.1 = .agg [y0.1, y1.1, y2.1] ∧ cs.length = P.cellsOf t ∧ DataW.trod enc P w base spare held n f0.type ((cs.drop f0.offset).take (P.cellsOf f0.type)) = some y0 ∧ DataW.trod enc P w base spare held n f1.type ((cs.drop f1.offset).take (P.cellsOf f1.type)) = some y1 ∧ DataW.trod enc P w base spare held n f2.type ((cs.drop f2.offset).take (P.cellsOf f2.type)) = some y2 := by
  obtain ⟨xs, n, _, rfl, hl, hlen, hf⟩ := DataW.trod_struct ht h
  match xs, hlen with
  | [y0, y1, y2], _ => exact ⟨y0, y1, y2, n, by simp, hl, by simpa using hf 0 f0 rfl, by simpa using hf 1 f1 rfl, by simpa using hf 2 f2 rfl⟩
theorem trodS5 {P : Program} {w : World} {base : Nat} {spare : Nat → Bool} {held : Bool} {t : TypeId} {f0 f1 f2 f3 f4 : Field} {fuel : Nat} {cs : List Value} {x : DataW H × List MemPlace} (ht : P.underlying t = some (.struct #[f0, f1, f2, f3, f4])) (h : DataW.trod enc P w base spare held fuel t cs = some x) :
    ∃ y0 y1 y2 y3 y4 n, x.1 = .agg [y0.1, y1.1, y2.1, y3.1, y4.1] ∧ cs.length = P.cellsOf t ∧ DataW.trod enc P w base spare held n f0.type ((cs.drop f0.offset).take (P.cellsOf f0.type)) = some y0 ∧ DataW.trod enc P w base spare held n f1.type ((cs.drop f1.offset).take (P.cellsOf f1.type)) = some y1 ∧ DataW.trod enc P w base spare held n f2.type ((cs.drop f2.offset).take (P.cellsOf f2.type)) = some y2 ∧ DataW.trod enc P w base spare held n f3.type ((cs.drop f3.offset).take (P.cellsOf f3.type)) = some y3 ∧ DataW.trod enc P w base spare held n f4.type ((cs.drop f4.offset).take (P.cellsOf f4.type)) = some y4 := by
  obtain ⟨xs, n, _, rfl, hl, hlen, hf⟩ := DataW.trod_struct ht h
  match xs, hlen with
  | [y0, y1, y2, y3, y4], _ => exact ⟨y0, y1, y2, y3, y4, n, by simp, hl, by simpa using hf 0 f0 rfl, by simpa using hf 1 f1 rfl, by simpa using hf 2 f2 rfl, by simpa using hf 3 f3 rfl, by simpa using hf 4 f4 rfl⟩
theorem trodS6 {P : Program} {w : World} {base : Nat} {spare : Nat → Bool} {held : Bool} {t : TypeId} {f0 f1 f2 f3 f4 f5 : Field} {fuel : Nat} {cs : List Value} {x : DataW H × List MemPlace} (ht : P.underlying t = some (.struct #[f0, f1, f2, f3, f4, f5])) (h : DataW.trod enc P w base spare held fuel t cs = some x) :
    ∃ y0 y1 y2 y3 y4 y5 n, x.1 = .agg [y0.1, y1.1, y2.1, y3.1, y4.1, y5.1] ∧ cs.length = P.cellsOf t ∧ DataW.trod enc P w base spare held n f0.type ((cs.drop f0.offset).take (P.cellsOf f0.type)) = some y0 ∧ DataW.trod enc P w base spare held n f1.type ((cs.drop f1.offset).take (P.cellsOf f1.type)) = some y1 ∧ DataW.trod enc P w base spare held n f2.type ((cs.drop f2.offset).take (P.cellsOf f2.type)) = some y2 ∧ DataW.trod enc P w base spare held n f3.type ((cs.drop f3.offset).take (P.cellsOf f3.type)) = some y3 ∧ DataW.trod enc P w base spare held n f4.type ((cs.drop f4.offset).take (P.cellsOf f4.type)) = some y4 ∧ DataW.trod enc P w base spare held n f5.type ((cs.drop f5.offset).take (P.cellsOf f5.type)) = some y5 := by
  obtain ⟨xs, n, _, rfl, hl, hlen, hf⟩ := DataW.trod_struct ht h
  match xs, hlen with
  | [y0, y1, y2, y3, y4, y5], _ => exact ⟨y0, y1, y2, y3, y4, y5, n, by simp, hl, by simpa using hf 0 f0 rfl, by simpa using hf 1 f1 rfl, by simpa using hf 2 f2 rfl, by simpa using hf 3 f3 rfl, by simpa using hf 4 f4 rfl, by simpa using hf 5 f5 rfl⟩
set_option maxRecDepth 100000 in
theorem open_row {α : Type} (K : α → List Value → Prop) (sz : Nat) (d0 : α) (t e : TypeId) (ht : Tryd.prog.underlying t = some (.slice e)) (hce : Tryd.prog.cellsOf e = sz) (m : α → Nat) {W : World} {n : Nat} {cs : List Value} {x : DataW H × List MemPlace}
    (hel : ∀ n cs x, cs.length = sz → DataW.trod enc Tryd.prog W 0 (fun _ => true) true n e cs = some x → ∃ y : α, K y cs ∧ m y ≤ Rows.uptoBulk x.1)
    (h : DataW.trod enc Tryd.prog W 0 (fun _ => true) true n t cs = some x) :
    ∃ (A : Option Addr) (c : Nat) (xs : List α), cs = [.slice A xs.length c] ∧ ReadsRow K sz W A xs.length xs ∧ xs.length ≤ c ∧ c ≤ maxLen ∧ xs.length + 1 ≤ Rows.uptoBulk x.1 ∧ (xs.map m).sum + 1 ≤ Rows.uptoBulk x.1 := by
  rcases Go.Deep.open_slice ht h with ⟨rfl, rfl⟩ | ⟨ad, len, cap, mm, n2, f, Pl, rfl, _, hl, hm, hmm, rfl, hix⟩
  · exact ⟨none, 0, [], rfl, ⟨rfl, by simp, fun h => absurd h (Nat.lt_irrefl 0)⟩, Nat.le_refl _, Nat.zero_le _, by simp [Rows.uptoBulk], by simp [Rows.uptoBulk]⟩
  · have hall : ∀ i, i < len → ∃ y : α, (∃ cs, cs.length = sz ∧ K y cs ∧ ∀ j u, cs[j]? = some u → W.cell? (ad.add (i * sz + j)) = some u) ∧ m y ≤ Rows.uptoBulk (f i) := fun i hi => by
      obtain ⟨cs, h1, h2⟩ := hix i (by rw [hmm]; simp; omega)
      obtain ⟨_, hlen, hcell⟩ := World.cells?_some h1
      rw [hce] at hlen
      obtain ⟨y, hy, hym⟩ := hel n2 cs (f i, Pl i) hlen h2
      refine ⟨y, ⟨cs, hlen, hy, fun j u hu => ?_⟩, hym⟩
      have hj := (List.getElem?_eq_some_iff.1 hu).1
      have := hcell j (by rw [hce]; omega)
      rw [Go.Deep.add_add, hce] at this
      rw [this]
      exact hu
    haveI : Inhabited α := ⟨d0⟩
    obtain ⟨g, hg⟩ := Go.Deep.choose_lt hall
    have hlen : ((List.range len).map g).length = len := by simp
    have hget : ∀ i, i < len → ((List.range len).map g).getD i d0 = g i := fun i hi => by simp [List.getD_eq_getElem?_getD, hi]
    have hs := bulk_sum f m d0 ((List.range len).map g) 0 (fun i hi => by rw [hlen] at hi; rw [hget i hi, Nat.zero_add]; exact (hg i hi).2)
    have e0 : ((List.range len).map fun i => f (0 + i)) = (List.range len).map f := List.map_congr_left fun i _ => by rw [Nat.zero_add]
    rw [hlen, e0] at hs
    refine ⟨some ad, cap, (List.range len).map g, by rw [hlen], ?_, by rw [hlen]; exact hl, hm, ?_, ?_⟩
    · rw [hlen]
      refine ⟨hlen, by unfold maxLen at hm; omega, fun _ => ⟨ad, rfl, fun j p hj => ?_⟩⟩
      have hjl : j < len := by have := (List.getElem?_eq_some_iff.1 hj).1; rw [hlen] at this; exact this
      have hp : p = g j := by rw [List.getElem?_map, List.getElem?_range hjl] at hj; simpa using hj.symm
      obtain ⟨⟨cs, h1, h2, h3⟩, _⟩ := hg j hjl
      rw [hp]
      exact ⟨cs, h1, h2, h3⟩
    · rw [hlen]
      simp only [Rows.uptoBulk]
      omega
    · simp only [Rows.uptoBulk]
      omega
end
theorem rows_all {α : Type} {K : α → List Value → Prop} {sz n : Nat} {W : World} {A : Option Addr} {xs : List α} (h : ReadsRow K sz W A n xs) : ∀ x ∈ xs, ∃ cs, K x cs := by
  intro x hx
  obtain ⟨i, hi, rfl⟩ := List.getElem_of_mem hx
  obtain ⟨ad, _, hc⟩ := h.2.2 (by have := h.1; omega)
  obtain ⟨cs, _, hk, _⟩ := hc i _ (List.getElem?_eq_getElem hi)
  exact ⟨cs, hk⟩
theorem rows_sr {α : Type} {K R : α → List Value → Prop} {sz : Nat} {W : World} {A : Option Addr} {c : Nat} {xs : List α} (h : ReadsRow K sz W A xs.length xs) (hc : xs.length ≤ c) (hKR : ∀ x cs, K x cs → R x cs) : SR R sz W.heap.size W (.slice A xs.length c) xs :=
  ⟨A, c, rfl, hc, fun X hX => ReadsRow.imp_ h hX hKR⟩
theorem cell_keep {W X : World} {a : Addr} {u : Value} (h : W.cell? a = some u) (hX : Below W.heap.size W X) : X.cell? a = some u := by
  have hlt : a.block < W.heap.size := by
    rcases Nat.lt_or_ge a.block W.heap.size with h1 | h1
    · exact h1
    · simp [World.cell?, Array.getElem?_eq_none h1] at h
  rw [World.cell?_of_block (hX.block _ hlt)]
  exact h
theorem ce_lArrival : Tryd.prog.cellsOf 47 = 1 := by kernel_rfl
theorem ce_lint : Tryd.prog.cellsOf 48 = 1 := by kernel_rfl
theorem ce_luint64 : Tryd.prog.cellsOf 49 = 1 := by kernel_rfl
theorem ce_lFault : Tryd.prog.cellsOf 52 = 1 := by kernel_rfl
theorem ce_lTenant : Tryd.prog.cellsOf 23 = 1 := by kernel_rfl
theorem ce_int : Tryd.prog.cellsOf 3 = 1 := by kernel_rfl
theorem ce_string : Tryd.prog.cellsOf 9 = 1 := by kernel_rfl
theorem ce_uint64 : Tryd.prog.cellsOf 91 = 1 := by kernel_rfl
theorem ce_Timing : Tryd.prog.cellsOf 51 = 3 := by kernel_rfl
theorem ce_Crash : Tryd.prog.cellsOf 54 = 2 := by kernel_rfl
theorem ce_Shape : Tryd.prog.cellsOf 25 = 3 := by kernel_rfl
theorem ce_Options : Tryd.prog.cellsOf 27 = 7 := by kernel_rfl
theorem ce_Arrival : Tryd.prog.cellsOf 99 = 3 := by kernel_rfl
theorem ce_Fault : Tryd.prog.cellsOf 97 = 3 := by kernel_rfl
theorem ce_Tenant : Tryd.prog.cellsOf 46 = 3 := by kernel_rfl
theorem ce_Term : Tryd.prog.cellsOf 56 = 9 := by kernel_rfl
theorem ce_Config : Tryd.prog.cellsOf 29 = 9 := by kernel_rfl
def KInt (x : Int) (cs : List Value) : Prop := cs = [.int .i64 x] ∧ i64 x
def KGreat (x : Nat) (cs : List Value) : Prop := cs = [.int .u64 ((x : Nat) : Int)] ∧ x < 18446744073709551616
def KFlt (x : Flt) (cs : List Value) : Prop := Rflt x cs ∧ x.ok
def KArr (x : Arr) (cs : List Value) : Prop := Rarr x cs ∧ i64 x.step ∧ i64 x.conn
def KTen (x : Ten) (cs : List Value) : Prop := Rten x cs ∧ i64 x.quota
def mTen (x : Ten) : Nat := x.nm.length + x.key.length + 1
def mArr (x : Arr) : Nat := x.bytes.length + 1
section
variable {H : Type} {enc : TypeId × Value → H} {W : World}
theorem el_int (n : Nat) (cs : List Value) (x : DataW H × List MemPlace) (hl : cs.length = 1) (h : DataW.trod enc Tryd.prog W 0 (fun _ => true) true n 3 cs = some x) : ∃ y : Int, KInt y cs ∧ 1 ≤ Rows.uptoBulk x.1 := by
  obtain ⟨i, rfl, rfl, w⟩ := DataW.trod_int Tryd.underlying3 h
  exact ⟨i, ⟨rfl, wf_i64 w⟩, bulk_pos _⟩
theorem el_great (n : Nat) (cs : List Value) (x : DataW H × List MemPlace) (hl : cs.length = 1) (h : DataW.trod enc Tryd.prog W 0 (fun _ => true) true n 91 cs = some x) : ∃ y : Nat, KGreat y cs ∧ 1 ≤ Rows.uptoBulk x.1 := by
  obtain ⟨i, rfl, rfl, w⟩ := DataW.trod_int Tryd.underlying91 h
  obtain ⟨h0, h1⟩ := wf_u64 w
  obtain ⟨m, rfl⟩ : ∃ m : Nat, i = m := ⟨i.toNat, by omega⟩
  exact ⟨m, ⟨rfl, by omega⟩, bulk_pos _⟩
theorem el_flt (n : Nat) (cs : List Value) (x : DataW H × List MemPlace) (hl : cs.length = 3) (h : DataW.trod enc Tryd.prog W 0 (fun _ => true) true n 97 cs = some x) : ∃ y : Flt, KFlt y cs ∧ 1 ≤ Rows.uptoBulk x.1 := by
  match cs, hl with
  | [u0, u1, u2], _ =>
  obtain ⟨y0, y1, y2, n2, hx, _, h0, h1, h2⟩ := trodS3 Tryd.underlying97 h
  simp only [ce_lArrival, ce_lint, ce_luint64, ce_lFault, ce_lTenant, ce_int, ce_string, ce_uint64, ce_Timing, ce_Crash, ce_Shape, ce_Options, ce_Arrival, ce_Fault, ce_Tenant, ce_Term, ce_Config, List.drop_zero, List.drop_succ_cons, List.take_succ_cons, List.take_zero] at h0 h1 h2
  obtain ⟨i_u0, e_u0, rfl, w_u0⟩ := DataW.trod_int Tryd.underlying3 h0
  obtain rfl : u0 = .int .i64 i_u0 := by simpa using e_u0
  obtain ⟨i_u1, e_u1, rfl, w_u1⟩ := DataW.trod_int Tryd.underlying3 h1
  obtain rfl : u1 = .int .i64 i_u1 := by simpa using e_u1
  obtain ⟨i_u2, e_u2, rfl, w_u2⟩ := DataW.trod_int Tryd.underlying3 h2
  obtain rfl : u2 = .int .i64 i_u2 := by simpa using e_u2
  exact ⟨⟨i_u0, i_u1, i_u2⟩, ⟨rfl, wf_i64 w_u0, wf_i64 w_u1, wf_i64 w_u2⟩, bulk_pos _⟩
theorem el_arr (n : Nat) (cs : List Value) (x : DataW H × List MemPlace) (hl : cs.length = 3) (h : DataW.trod enc Tryd.prog W 0 (fun _ => true) true n 99 cs = some x) : ∃ y : Arr, KArr y cs ∧ mArr y ≤ Rows.uptoBulk x.1 := by
  match cs, hl with
  | [u0, u1, u2], _ =>
  obtain ⟨y0, y1, y2, n2, hx, _, h0, h1, h2⟩ := trodS3 Tryd.underlying99 h
  simp only [ce_lArrival, ce_lint, ce_luint64, ce_lFault, ce_lTenant, ce_int, ce_string, ce_uint64, ce_Timing, ce_Crash, ce_Shape, ce_Options, ce_Arrival, ce_Fault, ce_Tenant, ce_Term, ce_Config, List.drop_zero, List.drop_succ_cons, List.take_succ_cons, List.take_zero] at h0 h1 h2
  obtain ⟨i_u0, e_u0, rfl, w_u0⟩ := DataW.trod_int Tryd.underlying3 h0
  obtain rfl : u0 = .int .i64 i_u0 := by simpa using e_u0
  obtain ⟨i_u1, e_u1, rfl, w_u1⟩ := DataW.trod_int Tryd.underlying3 h1
  obtain rfl : u1 = .int .i64 i_u1 := by simpa using e_u1
  obtain ⟨s_u2, e_u2, rfl, w_u2⟩ := DataW.trod_string Tryd.underlying9 h2
  obtain rfl : u2 = .string s_u2 := by simpa using e_u2
  refine ⟨⟨i_u0, i_u1, s_u2.data.toList⟩, ⟨by simp [Rarr, of_data], wf_i64 w_u0, wf_i64 w_u1⟩, ?_⟩
  rw [hx]
  simp only [Rows.uptoBulk, Rows.uptoBulkAll, mArr]
  omega
theorem el_ten (n : Nat) (cs : List Value) (x : DataW H × List MemPlace) (hl : cs.length = 3) (h : DataW.trod enc Tryd.prog W 0 (fun _ => true) true n 46 cs = some x) : ∃ y : Ten, KTen y cs ∧ mTen y ≤ Rows.uptoBulk x.1 := by
  match cs, hl with
  | [u0, u1, u2], _ =>
  obtain ⟨y0, y1, y2, n2, hx, _, h0, h1, h2⟩ := trodS3 Tryd.underlying46 h
  simp only [ce_lArrival, ce_lint, ce_luint64, ce_lFault, ce_lTenant, ce_int, ce_string, ce_uint64, ce_Timing, ce_Crash, ce_Shape, ce_Options, ce_Arrival, ce_Fault, ce_Tenant, ce_Term, ce_Config, List.drop_zero, List.drop_succ_cons, List.take_succ_cons, List.take_zero] at h0 h1 h2
  obtain ⟨s_u0, e_u0, rfl, w_u0⟩ := DataW.trod_string Tryd.underlying9 h0
  obtain rfl : u0 = .string s_u0 := by simpa using e_u0
  obtain ⟨s_u1, e_u1, rfl, w_u1⟩ := DataW.trod_string Tryd.underlying9 h1
  obtain rfl : u1 = .string s_u1 := by simpa using e_u1
  obtain ⟨i_u2, e_u2, rfl, w_u2⟩ := DataW.trod_int Tryd.underlying3 h2
  obtain rfl : u2 = .int .i64 i_u2 := by simpa using e_u2
  refine ⟨⟨s_u0.data.toList, s_u1.data.toList, i_u2⟩, ⟨by simp [Rten, of_data], wf_i64 w_u2⟩, ?_⟩
  rw [hx]
  simp only [Rows.uptoBulk, Rows.uptoBulkAll, mTen]
  omega
structure Tm.rng (t : Tm) : Prop where
  arr : ∀ x ∈ t.arr, i64 x.step ∧ i64 x.conn
  picks : ∀ x ∈ t.picks, i64 x
  ticks : ∀ x ∈ t.ticks, i64 x
  draws : ∀ x ∈ t.draws, x < 18446744073709551616
  flts : ∀ x ∈ t.flts, x.ok
  steps : i64 t.steps
  stop : i64 t.stop
  dir : i64 t.dir
  keep : ∀ x ∈ t.keep, i64 x
def mTm (t : Tm) : Nat := (t.arr.map mArr).sum + t.picks.length + t.ticks.length + t.draws.length + t.flts.length + t.keep.length + 1
def KTm (W : World) (t : Tm) (cs : List Value) : Prop := Rtm W.heap.size W t cs ∧ t.rng
set_option maxRecDepth 100000 in
theorem el_tm (n : Nat) (cs : List Value) (x : DataW H × List MemPlace) (hl : cs.length = 9) (h : DataW.trod enc Tryd.prog W 0 (fun _ => true) true n 56 cs = some x) : ∃ y : Tm, KTm W y cs ∧ mTm y ≤ Rows.uptoBulk x.1 := by
  match cs, hl with
  | [u0, u1, u2, u3, u4, u5, u6, u7, u8], _ =>
  obtain ⟨y0, y1, y2, y3, y4, y5, n2, hx, _, h0, h1, h2, h3, h4, h5⟩ := trodS6 Tryd.underlying56 h
  simp only [ce_lArrival, ce_lint, ce_luint64, ce_lFault, ce_lTenant, ce_int, ce_string, ce_uint64, ce_Timing, ce_Crash, ce_Shape, ce_Options, ce_Arrival, ce_Fault, ce_Tenant, ce_Term, ce_Config, List.drop_zero, List.drop_succ_cons, List.take_succ_cons, List.take_zero] at h0 h1 h2 h3 h4 h5
  obtain ⟨z0, z1, z2, n3, hx1, _, g0, g1, g2⟩ := trodS3 Tryd.underlying51 h1
  simp only [ce_lArrival, ce_lint, ce_luint64, ce_lFault, ce_lTenant, ce_int, ce_string, ce_uint64, ce_Timing, ce_Crash, ce_Shape, ce_Options, ce_Arrival, ce_Fault, ce_Tenant, ce_Term, ce_Config, List.drop_zero, List.drop_succ_cons, List.take_succ_cons, List.take_zero] at g0 g1 g2
  obtain ⟨q0, q1, n4, hx5, _, k0, k1⟩ := trodS2 Tryd.underlying54 h5
  simp only [ce_lArrival, ce_lint, ce_luint64, ce_lFault, ce_lTenant, ce_int, ce_string, ce_uint64, ce_Timing, ce_Crash, ce_Shape, ce_Options, ce_Arrival, ce_Fault, ce_Tenant, ce_Term, ce_Config, List.drop_zero, List.drop_succ_cons, List.take_succ_cons, List.take_zero] at k0 k1
  obtain ⟨A_u0, c_u0, x_u0, e_u0, r_u0, n_u0, _, b_u0, s_u0⟩ := open_row (enc := enc) KArr 3 ⟨0, 0, []⟩ 47 99 Tryd.underlying47 ce_Arrival mArr (fun n cs x hl hx => el_arr n cs x hl hx) h0
  obtain rfl : u0 = .slice A_u0 x_u0.length c_u0 := by simpa using e_u0
  obtain ⟨A_u1, c_u1, x_u1, e_u1, r_u1, n_u1, _, b_u1, s_u1⟩ := open_row (enc := enc) KInt 1 0 48 3 Tryd.underlying48 ce_int (fun _ => 1) (fun n cs x hl hx => el_int n cs x hl hx) g0
  obtain rfl : u1 = .slice A_u1 x_u1.length c_u1 := by simpa using e_u1
  obtain ⟨A_u2, c_u2, x_u2, e_u2, r_u2, n_u2, _, b_u2, s_u2⟩ := open_row (enc := enc) KInt 1 0 48 3 Tryd.underlying48 ce_int (fun _ => 1) (fun n cs x hl hx => el_int n cs x hl hx) g1
  obtain rfl : u2 = .slice A_u2 x_u2.length c_u2 := by simpa using e_u2
  obtain ⟨A_u3, c_u3, x_u3, e_u3, r_u3, n_u3, _, b_u3, s_u3⟩ := open_row (enc := enc) KGreat 1 0 49 91 Tryd.underlying49 ce_uint64 (fun _ => 1) (fun n cs x hl hx => el_great n cs x hl hx) g2
  obtain rfl : u3 = .slice A_u3 x_u3.length c_u3 := by simpa using e_u3
  obtain ⟨A_u4, c_u4, x_u4, e_u4, r_u4, n_u4, _, b_u4, s_u4⟩ := open_row (enc := enc) KFlt 3 ⟨0, 0, 0⟩ 52 97 Tryd.underlying52 ce_Fault (fun _ => 1) (fun n cs x hl hx => el_flt n cs x hl hx) h2
  obtain rfl : u4 = .slice A_u4 x_u4.length c_u4 := by simpa using e_u4
  obtain ⟨i_u5, e_u5, rfl, w_u5⟩ := DataW.trod_int Tryd.underlying3 h3
  obtain rfl : u5 = .int .i64 i_u5 := by simpa using e_u5
  obtain ⟨i_u6, e_u6, rfl, w_u6⟩ := DataW.trod_int Tryd.underlying3 h4
  obtain rfl : u6 = .int .i64 i_u6 := by simpa using e_u6
  obtain ⟨i_u7, e_u7, rfl, w_u7⟩ := DataW.trod_int Tryd.underlying3 k0
  obtain rfl : u7 = .int .i64 i_u7 := by simpa using e_u7
  obtain ⟨A_u8, c_u8, x_u8, e_u8, r_u8, n_u8, _, b_u8, s_u8⟩ := open_row (enc := enc) KInt 1 0 48 3 Tryd.underlying48 ce_int (fun _ => 1) (fun n cs x hl hx => el_int n cs x hl hx) k1
  obtain rfl : u8 = .slice A_u8 x_u8.length c_u8 := by simpa using e_u8
  refine ⟨⟨x_u0, x_u1, x_u2, x_u3, x_u4, i_u5, i_u6, i_u7, x_u8⟩, ⟨⟨_, _, _, _, _, _, rfl, rows_sr r_u0 n_u0 fun _ _ h => h.1, rows_sr r_u1 n_u1 fun _ _ h => h.1, rows_sr r_u2 n_u2 fun _ _ h => h.1, rows_sr r_u3 n_u3 fun _ _ h => h.1, rows_sr r_u4 n_u4 fun _ _ h => h.1, rows_sr r_u8 n_u8 fun _ _ h => h.1⟩, ?_⟩, ?_⟩
  · exact ⟨fun x hx => let ⟨_, h⟩ := rows_all r_u0 x hx; ⟨h.2.1, h.2.2⟩, fun x hx => let ⟨_, h⟩ := rows_all r_u1 x hx; h.2, fun x hx => let ⟨_, h⟩ := rows_all r_u2 x hx; h.2, fun x hx => let ⟨_, h⟩ := rows_all r_u3 x hx; h.2, fun x hx => let ⟨_, h⟩ := rows_all r_u4 x hx; h.2, wf_i64 w_u5, wf_i64 w_u6, wf_i64 w_u7, fun x hx => let ⟨_, h⟩ := rows_all r_u8 x hx; h.2⟩
  · rw [hx, hx1, hx5]
    simp only [Rows.uptoBulk, Rows.uptoBulkAll, mTm]
    omega
end
end Go.Proofs.YtigcgpbdifihoaaDoor
