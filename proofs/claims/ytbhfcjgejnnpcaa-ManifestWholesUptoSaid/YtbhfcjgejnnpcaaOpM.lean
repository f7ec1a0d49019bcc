/-
  Chapter 11: a state, an edit, edits that came in, opened.
-/
import Derived.Test.YtbhfcjgejnnpcaaOpG
import Derived.Test.YtbhfcjgejnnpcaaMo
set_option linter.unusedVariables false
set_option linter.unusedSimpArgs false
namespace Go.Proofs.Ytbhfcjgejnnpcaa
open Go.ChangeShapes Go.WideShapes Go.ChangeAt Go.RowKit Go.Proofs.YtbhfcjgejnnpcaaW.PrintWords Go.Proofs.Ytbhfcjgejnnpcaa.PManifest
theorem ce_int : Try.prog.cellsOf 3 = 1 := by kernel_rfl
theorem ce_u64 : Try.prog.cellsOf 25 = 1 := by kernel_rfl
theorem ce_string : Try.prog.cellsOf 9 = 1 := by kernel_rfl
theorem ce_Sst : Try.prog.cellsOf 44 = 5 := by kernel_rfl
theorem ce_lSst : Try.prog.cellsOf 41 = 1 := by kernel_rfl
theorem ce_llSst : Try.prog.cellsOf 22 = 1 := by kernel_rfl
theorem ce_Version : Try.prog.cellsOf 24 = 1 := by kernel_rfl
theorem ce_State : Try.prog.cellsOf 27 = 4 := by kernel_rfl
theorem ce_Placed : Try.prog.cellsOf 71 = 6 := by kernel_rfl
theorem ce_At : Try.prog.cellsOf 73 = 2 := by kernel_rfl
theorem ce_lPlaced : Try.prog.cellsOf 28 = 1 := by kernel_rfl
theorem ce_lAt : Try.prog.cellsOf 29 = 1 := by kernel_rfl
theorem ce_Edit : Try.prog.cellsOf 31 = 5 := by kernel_rfl
def K44 (W : World) (x : S44) (cs : List Value) : Prop := k44.K W x cs ∧ (Lit.int .i64 x.f0).wf = true ∧ (Lit.int .i64 x.f1).wf = true ∧ (Lit.int .i64 x.f2).wf = true
def KLev (W : World) (l : List S44) (cs : List Value) : Prop := (Kd.slice 44 k44).K W l cs ∧ ∀ t ∈ l, (Lit.int .i64 t.f0).wf = true
def K71 (W : World) (x : S71) (cs : List Value) : Prop := k71.K W x cs ∧ (Lit.int .i64 x.f0).wf = true ∧ (Lit.int .i64 x.f1.f0).wf = true ∧ (Lit.int .i64 x.f1.f1).wf = true ∧ (Lit.int .i64 x.f1.f2).wf = true
def K73 (W : World) (x : S73) (cs : List Value) : Prop := k73.K W x cs ∧ (Lit.int .i64 x.f0).wf = true ∧ (Lit.int .i64 x.f1).wf = true
section
variable {H : Type} {enc : TypeId × Value → H} {W : World}
theorem el_Sst (n : Nat) (cs : List Value) (x : DataW H × List MemPlace) (hl : cs.length = 5) (h : DataW.trod enc Try.prog W 0 (fun _ => true) true n 44 cs = some x) : ∃ y : S44, K44 W y cs ∧ y.f3.size + y.f4.size + 1 ≤ Rows.uptoBulk x.1 := by
  match cs, hl with
  | [u0, u1, u2, u3, u4], _ =>
  obtain ⟨y0, y1, y2, y3, y4, n2, hx, _, h0, h1, h2, h3, h4⟩ := trodS5 Try.underlying44 h
  simp only [ce_int, ce_string, List.drop_zero, List.drop_succ_cons, List.take_succ_cons, List.take_zero] at h0 h1 h2 h3 h4
  obtain ⟨i0, e0, rfl, w0⟩ := DataW.trod_int Try.underlying3 h0
  obtain rfl : u0 = .int .i64 i0 := by simpa using e0
  obtain ⟨i1, e1, rfl, w1⟩ := DataW.trod_int Try.underlying3 h1
  obtain rfl : u1 = .int .i64 i1 := by simpa using e1
  obtain ⟨i2, e2, rfl, w2⟩ := DataW.trod_int Try.underlying3 h2
  obtain rfl : u2 = .int .i64 i2 := by simpa using e2
  obtain ⟨s3, e3, rfl, _⟩ := DataW.trod_string Try.underlying9 h3
  obtain rfl : u3 = .string s3 := by simpa using e3
  obtain ⟨s4, e4, rfl, _⟩ := DataW.trod_string Try.underlying9 h4
  obtain rfl : u4 = .string s4 := by simpa using e4
  refine ⟨⟨i0, i1, i2, s3, s4⟩, ⟨k44_mk W _, w0, w1, w2⟩, ?_⟩
  rw [hx]
  simp only [Rows.uptoBulk, Rows.uptoBulkAll, data_len]
  omega
theorem el_Lev (n : Nat) (cs : List Value) (x : DataW H × List MemPlace) (hl : cs.length = 1) (h : DataW.trod enc Try.prog W 0 (fun _ => true) true n 41 cs = some x) : ∃ y : List S44, KLev W y cs ∧ y.length + 1 ≤ Rows.uptoBulk x.1 := by
  obtain ⟨A, c, xs, rfl, r, hc, _, b, _⟩ := open_row (enc := enc) (K44 W) 5 z44 41 44 Try.underlying41 ce_Sst (fun _ => 1) (fun n cs x hl hx => let ⟨y, h1, h2⟩ := el_Sst n cs x hl hx; ⟨y, h1, by omega⟩) h
  exact ⟨xs, ⟨⟨A, c, rfl, hc, rows_imp r fun _ _ h => h.1⟩, fun t ht => (rows_all r t ht).choose_spec.2.1⟩, b⟩
theorem el_Placed (n : Nat) (cs : List Value) (x : DataW H × List MemPlace) (hl : cs.length = 6) (h : DataW.trod enc Try.prog W 0 (fun _ => true) true n 71 cs = some x) : ∃ y : S71, K71 W y cs ∧ y.f1.f3.size + y.f1.f4.size + 1 ≤ Rows.uptoBulk x.1 := by
  match cs, hl with
  | [u0, u1, u2, u3, u4, u5], _ =>
  obtain ⟨y0, y1, n2, hx, _, h0, h1⟩ := trodS2 Try.underlying71 h
  simp only [ce_int, ce_Sst, List.drop_zero, List.drop_succ_cons, List.take_succ_cons, List.take_zero] at h0 h1
  obtain ⟨i0, e0, rfl, w0⟩ := DataW.trod_int Try.underlying3 h0
  obtain rfl : u0 = .int .i64 i0 := by simpa using e0
  obtain ⟨y, ⟨hk, w1, w2, w3⟩, hb⟩ := el_Sst _ _ _ rfl h1
  have := k44_open hk
  simp only [List.cons.injEq, and_true] at this
  obtain ⟨rfl, rfl, rfl, rfl, rfl⟩ := this
  refine ⟨⟨i0, y⟩, ⟨k71_mk W _, w0, w1, w2, w3⟩, ?_⟩
  rw [hx]
  simp only [Rows.uptoBulk, Rows.uptoBulkAll]
  omega
theorem el_At (n : Nat) (cs : List Value) (x : DataW H × List MemPlace) (hl : cs.length = 2) (h : DataW.trod enc Try.prog W 0 (fun _ => true) true n 73 cs = some x) : ∃ y : S73, K73 W y cs ∧ 1 ≤ Rows.uptoBulk x.1 := by
  match cs, hl with
  | [u0, u1], _ =>
  obtain ⟨y0, y1, n2, hx, _, h0, h1⟩ := trodS2 Try.underlying73 h
  simp only [ce_int, List.drop_zero, List.drop_succ_cons, List.take_succ_cons, List.take_zero] at h0 h1
  obtain ⟨i0, e0, rfl, w0⟩ := DataW.trod_int Try.underlying3 h0
  obtain rfl : u0 = .int .i64 i0 := by simpa using e0
  obtain ⟨i1, e1, rfl, w1⟩ := DataW.trod_int Try.underlying3 h1
  obtain rfl : u1 = .int .i64 i1 := by simpa using e1
  exact ⟨⟨i0, i1⟩, ⟨k73_mk W _, w0, w1⟩, bulk_pos _⟩
theorem flat_sum : ∀ (L : List (List S44)), L.flatten.length + L.length = (L.map fun l => l.length + 1).sum
  | [] => rfl
  | l :: r => by
    have := flat_sum r
    rw [List.flatten_cons, List.length_append, List.length_cons, List.map_cons, List.sum_cons]
    omega
set_option maxRecDepth 100000 in
theorem open_st {base : Nat} {v : Value} {D : DataW H} {ps : List MemPlace} (hval : Value.okWide Try.prog W .any base 27 v) (h : DataW.Trod enc Try.prog W 0 (fun _ => true) true 27 v D ps) :
    ∃ (A : Option Addr) (c : Nat) (L : List (List S44)) (log next seq : Int), v = .agg #[.slice A L.length c, .int .i64 log, .int .i64 next, .int .u64 seq] ∧ Kd.C (Kd.slice 44 k44) W A L.length L ∧ L.length ≤ c ∧ L.flatten.length + L.length + 1 ≤ Rows.uptoBulk D ∧ (Rows.uptoBulk D ≤ 1048576 → StOk L log next seq) ∧ ∀ x ∈ ps, x.block < W.heap.size := by
  have hlt : ∀ x ∈ ps, x.block < W.heap.size := by obtain ⟨m, hm⟩ := h; exact DataW.trod_lt m _ _ _ hm
  obtain ⟨⟨cs⟩, rfl, hsz⟩ := okWide_struct Try.underlying27 hval
  match cs, hsz.trans ce_State with
  | [u0, u1, u2, u3], _ =>
  obtain ⟨fuel, hf⟩ := h
  obtain ⟨y0, y1, y2, y3, n2, hx, _, h0, h1, h2, h3⟩ := trodS4 Try.underlying27 hf
  simp only [ce_int, ce_u64, ce_Version, Value.cells, List.drop_zero, List.drop_succ_cons, List.take_succ_cons, List.take_zero] at h0 h1 h2 h3
  obtain ⟨z0, n3, hx0, _, g0⟩ := trodS1 Try.underlying24 h0
  simp only [ce_llSst, List.drop_zero, List.take_succ_cons, List.take_zero] at g0
  obtain ⟨A, c, L, e0, r, hc, _, b, s⟩ := open_row (enc := enc) (KLev W) 1 [] 22 41 Try.underlying22 ce_lSst (fun l => l.length + 1) (fun n cs x hl hx => el_Lev n cs x hl hx) g0
  obtain rfl : u0 = .slice A L.length c := by simpa using e0
  obtain ⟨i1, e1, rfl, w1⟩ := DataW.trod_int Try.underlying3 h1
  obtain rfl : u1 = .int .i64 i1 := by simpa using e1
  obtain ⟨i2, e2, rfl, w2⟩ := DataW.trod_int Try.underlying3 h2
  obtain rfl : u2 = .int .i64 i2 := by simpa using e2
  obtain ⟨i3, e3, rfl, w3⟩ := DataW.trod_int Try.underlying25 h3
  obtain rfl : u3 = .int .u64 i3 := by simpa using e3
  have hD : L.flatten.length + L.length + 1 ≤ Rows.uptoBulk D := by
    have hx' : D = _ := hx
    rw [hx', hx0]
    rw [← flat_sum] at s
    simp only [Rows.uptoBulk, Rows.uptoBulkAll]
    omega
  refine ⟨A, c, L, i1, i2, i3, rfl, rows_imp r fun _ _ h => h.1, hc, hD, fun hB => ?_, hlt⟩
  refine ⟨by omega, fun l hl => ?_, by omega, fun t ht => ?_, wf_i64 w1, wf_i64 w2, ?_⟩
  · have := len_flat L l hl
    omega
  · obtain ⟨l, hl, htl⟩ := List.mem_flatten.1 ht
    exact (rows_all r l hl).choose_spec.2 t htl
  · have := wf_u64 w3
    omega
end
end Go.Proofs.Ytbhfcjgejnnpcaa
