/-
  Chapter 28: a configuration and terms that came in, opened whole; the law ScriptGrows at them.
-/
import Derived.Test.YtigcgpbdifihoaaDoorNp
set_option linter.unusedVariables false
set_option linter.unusedSimpArgs false
namespace Go.Proofs.YtigcgpbdifihoaaDoor
open Go.ChangeShapes Go.WideShapes Go.ChangeAt Go.RowKit Go.Proofs.YtigcgpbdifihoaaDoorW.PrintWords
theorem array9 {α : Type} {cs : Array α} (h : cs.size = 9) : ∃ c0 c1 c2 c3 c4 c5 c6 c7 c8, cs = #[c0, c1, c2, c3, c4, c5, c6, c7, c8] := by
  obtain ⟨l⟩ := cs
  match l, h with
  | [c0, c1, c2, c3, c4, c5, c6, c7, c8], _ => exact ⟨c0, c1, c2, c3, c4, c5, c6, c7, c8, rfl⟩
theorem mem_sum {α : Type} (m : α → Nat) : ∀ (xs : List α) (x : α), x ∈ xs → m x ≤ (xs.map m).sum
  | a :: r, x, h => by
    rw [List.map_cons, List.sum_cons]
    rcases List.mem_cons.1 h with rfl | h
    · omega
    · have := mem_sum m r x h
      omega
theorem len_sum {α : Type} (m : α → Nat) (hm : ∀ x, 1 ≤ m x) : ∀ xs : List α, xs.length ≤ (xs.map m).sum
  | [] => by simp
  | a :: r => by
    have := len_sum m hm r
    have := hm a
    rw [List.map_cons, List.sum_cons, List.length_cons]
    omega
theorem Cfg.rng.ok {c : Cfg} (h : c.rng) (hs : (c.tens.map mTen).sum ≤ 1048576) : c.ok :=
  ⟨fun x hx => by
    have := mem_sum mTen c.tens x hx
    unfold mTen at this
    unfold mTen at hs
    exact ⟨by omega, by omega, h.tens x hx⟩, h.o0, h.o1, h.o2, h.o3, h.o4, h.o5, h.o6, h.cap, by
    have := len_sum mTen (fun x => by unfold mTen; omega) c.tens
    omega⟩
theorem Tm.rng.ok {t : Tm} (h : t.rng) (hs : mTm t ≤ 1048576) : t.ok := by
  unfold mTm at hs
  have ha := len_sum mArr (fun x => by unfold mArr; omega) t.arr
  exact ⟨fun x hx => by
    have := mem_sum mArr t.arr x hx
    have h2 := h.arr x hx
    have h3 : mArr x = x.bytes.length + 1 := rfl
    exact ⟨h2.1, h2.2, by omega⟩, h.picks, h.ticks, h.draws, h.flts, h.steps, h.stop, h.dir, h.keep, by omega, by omega, by omega, by omega, by omega, by omega⟩
section
variable {H : Type} {enc : TypeId × Value → H} {W : World}
set_option maxRecDepth 100000 in
theorem open_cfg {base : Nat} {v : Value} {D : DataW H} {ps : List MemPlace} (hval : Value.okWide Tryd.prog W .any base 29 v) (h : DataW.Trod enc Tryd.prog W 0 (fun _ => true) true 29 v D ps) :
    ∃ (c : Cfg) (A0 : Option Addr) (n0 : Nat), v = .agg #[.slice A0 c.tens.length n0, .int .i64 c.o0, .int .i64 c.o1, .int .i64 c.o2, .int .i64 c.o3, .int .i64 c.o4, .int .i64 c.o5, .int .i64 c.o6, .int .i64 c.cap] ∧ CfV W.heap.size W c (.slice A0 c.tens.length n0) ∧ c.rng ∧ (c.tens.map mTen).sum + 1 ≤ Rows.uptoBulk D ∧ ∀ x ∈ ps, x.block < W.heap.size := by
  have hlt : ∀ x ∈ ps, x.block < W.heap.size := by obtain ⟨m, hm⟩ := h; exact DataW.trod_lt m _ _ _ hm
  obtain ⟨cs, rfl, hsz⟩ := okWide_struct Tryd.underlying29 hval
  obtain ⟨u0, u1, u2, u3, u4, u5, u6, u7, u8, rfl⟩ := array9 (hsz.trans ce_Config)
  obtain ⟨fuel, hf⟩ := h
  obtain ⟨y0, y1, y2, n2, hx, _, h0, h1, h2⟩ := trodS3 Tryd.underlying29 hf
  simp only [ce_lArrival, ce_lint, ce_luint64, ce_lFault, ce_lTenant, ce_int, ce_string, ce_uint64, ce_Timing, ce_Crash, ce_Shape, ce_Options, ce_Arrival, ce_Fault, ce_Tenant, ce_Term, ce_Config, Value.cells, List.drop_zero, List.drop_succ_cons, List.take_succ_cons, List.take_zero] at h0 h1 h2
  obtain ⟨z0, z1, z2, z3, z4, n3, hx1, _, g0, g1, g2, g3, g4⟩ := trodS5 Tryd.underlying27 h1
  simp only [ce_lArrival, ce_lint, ce_luint64, ce_lFault, ce_lTenant, ce_int, ce_string, ce_uint64, ce_Timing, ce_Crash, ce_Shape, ce_Options, ce_Arrival, ce_Fault, ce_Tenant, ce_Term, ce_Config, List.drop_zero, List.drop_succ_cons, List.take_succ_cons, List.take_zero] at g0 g1 g2 g3 g4
  obtain ⟨q0, q1, q2, n4, hx2, _, k0, k1, k2⟩ := trodS3 Tryd.underlying25 g0
  simp only [ce_lArrival, ce_lint, ce_luint64, ce_lFault, ce_lTenant, ce_int, ce_string, ce_uint64, ce_Timing, ce_Crash, ce_Shape, ce_Options, ce_Arrival, ce_Fault, ce_Tenant, ce_Term, ce_Config, List.drop_zero, List.drop_succ_cons, List.take_succ_cons, List.take_zero] at k0 k1 k2
  obtain ⟨A0, c0, xs, e0, r0, hc0, _, b0, s0⟩ := open_row (enc := enc) KTen 3 ⟨[], [], 0⟩ 23 46 Tryd.underlying23 ce_Tenant mTen (fun n cs x hl hx => el_ten n cs x hl hx) h0
  obtain rfl : u0 = .slice A0 xs.length c0 := by simpa using e0
  obtain ⟨i_u1, e_u1, rfl, w_u1⟩ := DataW.trod_int Tryd.underlying3 k0
  obtain rfl : u1 = .int .i64 i_u1 := by simpa using e_u1
  obtain ⟨i_u2, e_u2, rfl, w_u2⟩ := DataW.trod_int Tryd.underlying3 k1
  obtain rfl : u2 = .int .i64 i_u2 := by simpa using e_u2
  obtain ⟨i_u3, e_u3, rfl, w_u3⟩ := DataW.trod_int Tryd.underlying3 k2
  obtain rfl : u3 = .int .i64 i_u3 := by simpa using e_u3
  obtain ⟨i_u4, e_u4, rfl, w_u4⟩ := DataW.trod_int Tryd.underlying3 g1
  obtain rfl : u4 = .int .i64 i_u4 := by simpa using e_u4
  obtain ⟨i_u5, e_u5, rfl, w_u5⟩ := DataW.trod_int Tryd.underlying3 g2
  obtain rfl : u5 = .int .i64 i_u5 := by simpa using e_u5
  obtain ⟨i_u6, e_u6, rfl, w_u6⟩ := DataW.trod_int Tryd.underlying3 g3
  obtain rfl : u6 = .int .i64 i_u6 := by simpa using e_u6
  obtain ⟨i_u7, e_u7, rfl, w_u7⟩ := DataW.trod_int Tryd.underlying3 g4
  obtain rfl : u7 = .int .i64 i_u7 := by simpa using e_u7
  obtain ⟨i_u8, e_u8, rfl, w_u8⟩ := DataW.trod_int Tryd.underlying3 h2
  obtain rfl : u8 = .int .i64 i_u8 := by simpa using e_u8
  refine ⟨⟨xs, i_u1, i_u2, i_u3, i_u4, i_u5, i_u6, i_u7, i_u8⟩, A0, c0, rfl, rows_sr r0 hc0 fun _ _ h => h.1, ?_, ?_, hlt⟩
  · exact ⟨fun x hx => let ⟨_, h⟩ := rows_all r0 x hx; h.2, wf_i64 w_u1, wf_i64 w_u2, wf_i64 w_u3, wf_i64 w_u4, wf_i64 w_u5, wf_i64 w_u6, wf_i64 w_u7, wf_i64 w_u8⟩
  · have hx' : D = _ := hx
    rw [hx']
    simp only [Rows.uptoBulk, Rows.uptoBulkAll]
    omega
set_option maxRecDepth 100000 in
theorem open_terms {base : Nat} {v : Value} {D : DataW H} {ps : List MemPlace} (hval : Value.okWide Tryd.prog W .any base 30 v) (h : DataW.Trod enc Tryd.prog W 0 (fun _ => true) true 30 v D ps) :
    ∃ (A : Option Addr) (c : Nat) (ts : List Tm), v = .slice A ts.length c ∧ TRow W.heap.size W A ts ∧ ts.length ≤ c ∧ c ≤ maxLen ∧ (∀ t ∈ ts, t.rng) ∧ (ts.map mTm).sum + 1 ≤ Rows.uptoBulk D ∧ ∀ x ∈ ps, x.block < W.heap.size := by
  have hlt : ∀ x ∈ ps, x.block < W.heap.size := by obtain ⟨m, hm⟩ := h; exact DataW.trod_lt m _ _ _ hm
  obtain ⟨a, len, cap, rfl⟩ := okWide_slice Tryd.underlying30 hval
  obtain ⟨fuel, hf⟩ := h
  obtain ⟨A, c, ts, e, r, hc, hm, b, s⟩ := open_row (enc := enc) (KTm W) 9 ⟨[], [], [], [], [], 0, 0, 0, []⟩ 30 56 Tryd.underlying30 ce_Term mTm (fun n cs x hl hx => el_tm n cs x hl hx) hf
  simp only [Value.cells, List.cons.injEq, and_true] at e
  refine ⟨A, c, ts, e, ?_, hc, hm, fun t ht => ?_, s, hlt⟩
  · intro h0
    obtain ⟨ad, e, hcc⟩ := r.2.2 h0
    refine ⟨ad, e, fun j t ht => ?_⟩
    obtain ⟨cs, _, hk, hcell⟩ := hcc j t ht
    exact ⟨cs, hk.1, fun X hX i u hu => cell_keep (hcell i u hu) hX⟩
  · obtain ⟨_, hk⟩ := rows_all r t ht
    exact hk.2
end
theorem grows_open (W : World) (ht : Tab W) (c : Cfg) (A0 : Option Addr) (n0 : Nat) (h0 : CfV W.heap.size W c (.slice A0 c.tens.length n0)) (rc : c.rng) (sc : (c.tens.map mTen).sum ≤ 1048576)
    (A : Option Addr) (c1 : Nat) (ts : List Tm) (hr : TRow W.heap.size W A ts) (hle : ts.length ≤ c1) (hcap : c1 ≤ maxLen) (rt : ∀ t ∈ ts, t.rng) (st : (ts.map mTm).sum ≤ 1048576) (k : Int) (wk : (Lit.int .i64 k).wf = true) :
    Calls Tryd.prog 4 #[.agg #[.slice A0 c.tens.length n0, .int .i64 c.o0, .int .i64 c.o1, .int .i64 c.o2, .int .i64 c.o3, .int .i64 c.o4, .int .i64 c.o5, .int .i64 c.o6, .int .i64 c.cap], .slice A ts.length c1, .int .i64 k] W fun e w' => e = .returned (.bool true) ∧ Below W.heap.size W w' := by
  have hl := len_sum mTm (fun x => by unfold mTm; omega) ts
  have ha := all_len c ts rc rt
  exact grows_walk W ht c (rc.ok sc) ts (fun t h => (rt t h).ok (Nat.le_trans (mem_sum mTm ts t h) st)) (by omega) (by omega) A0 n0 h0 A c1 hle hcap hr k (wf_i64 wk)
end Go.Proofs.YtigcgpbdifihoaaDoor
