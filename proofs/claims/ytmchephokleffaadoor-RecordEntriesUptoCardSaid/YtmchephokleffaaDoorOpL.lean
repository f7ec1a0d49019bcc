/-
  Structs by value that came in, opened (written by gen_open.py).
-/
import Derived.Test.YtmchephokleffaaDoorOpG
import Derived.ChangeArms
set_option linter.unusedVariables false
set_option linter.unusedSimpArgs false
namespace Go.Proofs.YtmchephokleffaaDoor
open Go.ChangeShapes Go.WideShapes Go.ChangeAt Go.RowKit Go.Proofs.YtmchephokleffaaDoorW.PrintWords
section
variable {H : Type} {enc : TypeId × Value → H}
theorem trod_s3 {P : Program} {w : World} {base : Nat} {spare : Nat → Bool} {held : Bool} {t : TypeId} {f0 f1 f2 : Field} {fuel : Nat} {cs : List Value} {x : DataW H × List MemPlace} (ht : P.underlying t = some (.struct #[f0, f1, f2])) (h : DataW.trod enc P w base spare held fuel t cs = some x) :
    ∃ y0 y1 y2 n, x = (.agg [y0.1, y1.1, y2.1], y0.2 ++ (y1.2 ++ (y2.2))) ∧ cs.length = P.cellsOf t ∧ DataW.trod enc P w base spare held n f0.type ((cs.drop f0.offset).take (P.cellsOf f0.type)) = some y0 ∧ DataW.trod enc P w base spare held n f1.type ((cs.drop f1.offset).take (P.cellsOf f1.type)) = some y1 ∧ DataW.trod enc P w base spare held n f2.type ((cs.drop f2.offset).take (P.cellsOf f2.type)) = some y2 := by
  obtain ⟨xs, n, _, rfl, hl, hlen, hf⟩ := DataW.trod_struct ht h
  match xs, hlen with
  | [y0, y1, y2], _ => exact ⟨y0, y1, y2, n, by simp, hl, by simpa using hf 0 f0 rfl, by simpa using hf 1 f1 rfl, by simpa using hf 2 f2 rfl⟩
theorem trod_s3_mk {P : Program} {w : World} {base : Nat} {spare : Nat → Bool} {held : Bool} {t : TypeId} {f0 f1 f2 : Field} {n : Nat} {cs : List Value} {y0 y1 y2 : DataW H × List MemPlace} (ht : P.underlying t = some (.struct #[f0, f1, f2])) (hl : cs.length = P.cellsOf t)
    (h0 : DataW.trod enc P w base spare held n f0.type ((cs.drop f0.offset).take (P.cellsOf f0.type)) = some y0) (h1 : DataW.trod enc P w base spare held n f1.type ((cs.drop f1.offset).take (P.cellsOf f1.type)) = some y1) (h2 : DataW.trod enc P w base spare held n f2.type ((cs.drop f2.offset).take (P.cellsOf f2.type)) = some y2) : DataW.trod enc P w base spare held (n + 1) t cs = some (.agg [y0.1, y1.1, y2.1], y0.2 ++ (y1.2 ++ (y2.2))) := by
  have := trod_struct_mk (enc := enc) (w := w) (base := base) (spare := spare) (held := held) (n := n) (xs := [y0, y1, y2]) ht hl (by simp [h0, h1, h2])
  simpa using this
theorem arr3 {α : Type} {cs : Array α} (h : cs.size = 3) : ∃ c0 c1 c2, cs = #[c0, c1, c2] := by
  match cs, h with
  | ⟨[c0, c1, c2]⟩, _ => exact ⟨c0, c1, c2, rfl⟩
theorem trod_s4 {P : Program} {w : World} {base : Nat} {spare : Nat → Bool} {held : Bool} {t : TypeId} {f0 f1 f2 f3 : Field} {fuel : Nat} {cs : List Value} {x : DataW H × List MemPlace} (ht : P.underlying t = some (.struct #[f0, f1, f2, f3])) (h : DataW.trod enc P w base spare held fuel t cs = some x) :
    ∃ y0 y1 y2 y3 n, x = (.agg [y0.1, y1.1, y2.1, y3.1], y0.2 ++ (y1.2 ++ (y2.2 ++ (y3.2)))) ∧ cs.length = P.cellsOf t ∧ DataW.trod enc P w base spare held n f0.type ((cs.drop f0.offset).take (P.cellsOf f0.type)) = some y0 ∧ DataW.trod enc P w base spare held n f1.type ((cs.drop f1.offset).take (P.cellsOf f1.type)) = some y1 ∧ DataW.trod enc P w base spare held n f2.type ((cs.drop f2.offset).take (P.cellsOf f2.type)) = some y2 ∧ DataW.trod enc P w base spare held n f3.type ((cs.drop f3.offset).take (P.cellsOf f3.type)) = some y3 := by
  obtain ⟨xs, n, _, rfl, hl, hlen, hf⟩ := DataW.trod_struct ht h
  match xs, hlen with
  | [y0, y1, y2, y3], _ => exact ⟨y0, y1, y2, y3, n, by simp, hl, by simpa using hf 0 f0 rfl, by simpa using hf 1 f1 rfl, by simpa using hf 2 f2 rfl, by simpa using hf 3 f3 rfl⟩
theorem trod_s4_mk {P : Program} {w : World} {base : Nat} {spare : Nat → Bool} {held : Bool} {t : TypeId} {f0 f1 f2 f3 : Field} {n : Nat} {cs : List Value} {y0 y1 y2 y3 : DataW H × List MemPlace} (ht : P.underlying t = some (.struct #[f0, f1, f2, f3])) (hl : cs.length = P.cellsOf t)
    (h0 : DataW.trod enc P w base spare held n f0.type ((cs.drop f0.offset).take (P.cellsOf f0.type)) = some y0) (h1 : DataW.trod enc P w base spare held n f1.type ((cs.drop f1.offset).take (P.cellsOf f1.type)) = some y1) (h2 : DataW.trod enc P w base spare held n f2.type ((cs.drop f2.offset).take (P.cellsOf f2.type)) = some y2) (h3 : DataW.trod enc P w base spare held n f3.type ((cs.drop f3.offset).take (P.cellsOf f3.type)) = some y3) : DataW.trod enc P w base spare held (n + 1) t cs = some (.agg [y0.1, y1.1, y2.1, y3.1], y0.2 ++ (y1.2 ++ (y2.2 ++ (y3.2)))) := by
  have := trod_struct_mk (enc := enc) (w := w) (base := base) (spare := spare) (held := held) (n := n) (xs := [y0, y1, y2, y3]) ht hl (by simp [h0, h1, h2, h3])
  simpa using this
theorem arr4 {α : Type} {cs : Array α} (h : cs.size = 4) : ∃ c0 c1 c2 c3, cs = #[c0, c1, c2, c3] := by
  match cs, h with
  | ⟨[c0, c1, c2, c3]⟩, _ => exact ⟨c0, c1, c2, c3, rfl⟩
set_option maxRecDepth 100000 in
theorem open_led {W : World} {base b0 : Nat} {spare : Nat → Bool} {held : Bool} {v : Value} {D : DataW H} {ps : List MemPlace} (hval : Value.okWide Tryd.prog W .any b0 25 v) (h : DataW.Trod enc Tryd.prog W base spare held 25 v D ps) :
    ∃ (i0 : Int) (i1 : Int) (s2 : ByteArray), v = .agg #[.int .u64 i0, .int .u64 i1, .string s2] ∧ ((Lit.int .u64 i0).wf = true ∧ (Lit.int .u64 i1).wf = true) ∧ s2.size ≤ Rows.uptoBulk D ∧ ps = [] ∧ ∀ W2 base2 spare2 held2, DataW.Trod enc Tryd.prog W2 base2 spare2 held2 25 (.agg #[.int .u64 i0, .int .u64 i1, .string s2]) D [] := by
  obtain ⟨cs, rfl, hsz⟩ := okWide_struct Tryd.underlying25 hval
  have hce : Tryd.prog.cellsOf 25 = 3 := by kernel_rfl
  have hcs : Tryd.prog.cellsOf 9 = 1 := by kernel_rfl
  have hcu : Tryd.prog.cellsOf 23 = 1 := by kernel_rfl
  obtain ⟨u0, u1, u2, rfl⟩ := arr3 (hsz.trans hce)
  obtain ⟨fuel, hf⟩ := h
  obtain ⟨y0, y1, y2, n, hx, hl, h0, h1, h2⟩ := trod_s3 Tryd.underlying25 hf
  simp only [hcs, hcu, Value.cells, List.drop_zero, List.drop_succ_cons, List.take_succ_cons, List.take_zero] at h0 h1 h2
  obtain ⟨i0, e0, rfl, t0⟩ := DataW.trod_int Tryd.underlying23 h0
  obtain ⟨i1, e1, rfl, t1⟩ := DataW.trod_int Tryd.underlying23 h1
  obtain ⟨s2, e2, rfl, t2⟩ := DataW.trod_string Tryd.underlying9 h2
  obtain rfl : u0 = .int .u64 i0 := by simpa using e0
  obtain rfl : u1 = .int .u64 i1 := by simpa using e1
  obtain rfl : u2 = .string s2 := by simpa using e2
  simp only [List.append_nil, Prod.mk.injEq] at hx
  obtain ⟨rfl, rfl⟩ := hx
  refine ⟨i0, i1, s2, rfl, ⟨t0, t1⟩, ?_, rfl, fun W2 base2 spare2 held2 => ?_⟩
  · simp only [Rows.uptoBulk, Rows.uptoBulkAll, data_len]
    omega
  · obtain ⟨n0, g0⟩ := Go.ChangeShapes.shut_int (enc := enc) (w := W2) (base := base2) (spare := spare2) (held := held2) Tryd.underlying23 t0
    obtain ⟨n1, g1⟩ := Go.ChangeShapes.shut_int (enc := enc) (w := W2) (base := base2) (spare := spare2) (held := held2) Tryd.underlying23 t1
    obtain ⟨n2, g2⟩ := Go.ChangeMaps.shut_string (enc := enc) (w := W2) (base := base2) (sp := spare2) (held := held2) Tryd.underlying9 t2
    have hT := trod_s3_mk (enc := enc) (w := W2) (base := base2) (spare := spare2) (held := held2) (n := n0 + n1 + n2) (cs := [.int .u64 i0, .int .u64 i1, .string s2]) Tryd.underlying25 (by rw [hce]; rfl)
      (by simpa [hcu, Value.cells] using DataW.trod_le (show n0 ≤ n0 + n1 + n2 by omega) g0)
      (by simpa [hcu, Value.cells] using DataW.trod_le (show n1 ≤ n0 + n1 + n2 by omega) g1)
      (by simpa [hcs, Value.cells] using DataW.trod_le (show n2 ≤ n0 + n1 + n2 by omega) g2)
    exact ⟨_, by simpa [Value.cells] using hT⟩
set_option maxRecDepth 100000 in
theorem open_ent {W : World} {base b0 : Nat} {spare : Nat → Bool} {held : Bool} {v : Value} {D : DataW H} {ps : List MemPlace} (hval : Value.okWide Tryd.prog W .any b0 33 v) (h : DataW.Trod enc Tryd.prog W base spare held 33 v D ps) :
    ∃ (i0 : Int) (i1 : Int) (i2 : Int) (s3 : ByteArray), v = .agg #[.int .i64 i0, .int .i64 i1, .int .u64 i2, .string s3] ∧ ((Lit.int .i64 i0).wf = true ∧ (Lit.int .i64 i1).wf = true ∧ (Lit.int .u64 i2).wf = true) ∧ s3.size ≤ Rows.uptoBulk D ∧ ps = [] ∧ ∀ W2 base2 spare2 held2, DataW.Trod enc Tryd.prog W2 base2 spare2 held2 33 (.agg #[.int .i64 i0, .int .i64 i1, .int .u64 i2, .string s3]) D [] := by
  obtain ⟨cs, rfl, hsz⟩ := okWide_struct Tryd.underlying33 hval
  have hce : Tryd.prog.cellsOf 33 = 4 := by kernel_rfl
  have hci : Tryd.prog.cellsOf 3 = 1 := by kernel_rfl
  have hcs : Tryd.prog.cellsOf 9 = 1 := by kernel_rfl
  have hcu : Tryd.prog.cellsOf 23 = 1 := by kernel_rfl
  obtain ⟨u0, u1, u2, u3, rfl⟩ := arr4 (hsz.trans hce)
  obtain ⟨fuel, hf⟩ := h
  obtain ⟨y0, y1, y2, y3, n, hx, hl, h0, h1, h2, h3⟩ := trod_s4 Tryd.underlying33 hf
  simp only [hci, hcs, hcu, Value.cells, List.drop_zero, List.drop_succ_cons, List.take_succ_cons, List.take_zero] at h0 h1 h2 h3
  obtain ⟨i0, e0, rfl, t0⟩ := DataW.trod_int Tryd.underlying3 h0
  obtain ⟨i1, e1, rfl, t1⟩ := DataW.trod_int Tryd.underlying3 h1
  obtain ⟨i2, e2, rfl, t2⟩ := DataW.trod_int Tryd.underlying23 h2
  obtain ⟨s3, e3, rfl, t3⟩ := DataW.trod_string Tryd.underlying9 h3
  obtain rfl : u0 = .int .i64 i0 := by simpa using e0
  obtain rfl : u1 = .int .i64 i1 := by simpa using e1
  obtain rfl : u2 = .int .u64 i2 := by simpa using e2
  obtain rfl : u3 = .string s3 := by simpa using e3
  simp only [List.append_nil, Prod.mk.injEq] at hx
  obtain ⟨rfl, rfl⟩ := hx
  refine ⟨i0, i1, i2, s3, rfl, ⟨t0, t1, t2⟩, ?_, rfl, fun W2 base2 spare2 held2 => ?_⟩
  · simp only [Rows.uptoBulk, Rows.uptoBulkAll, data_len]
    omega
  · obtain ⟨n0, g0⟩ := Go.ChangeShapes.shut_int (enc := enc) (w := W2) (base := base2) (spare := spare2) (held := held2) Tryd.underlying3 t0
    obtain ⟨n1, g1⟩ := Go.ChangeShapes.shut_int (enc := enc) (w := W2) (base := base2) (spare := spare2) (held := held2) Tryd.underlying3 t1
    obtain ⟨n2, g2⟩ := Go.ChangeShapes.shut_int (enc := enc) (w := W2) (base := base2) (spare := spare2) (held := held2) Tryd.underlying23 t2
    obtain ⟨n3, g3⟩ := Go.ChangeMaps.shut_string (enc := enc) (w := W2) (base := base2) (sp := spare2) (held := held2) Tryd.underlying9 t3
    have hT := trod_s4_mk (enc := enc) (w := W2) (base := base2) (spare := spare2) (held := held2) (n := n0 + n1 + n2 + n3) (cs := [.int .i64 i0, .int .i64 i1, .int .u64 i2, .string s3]) Tryd.underlying33 (by rw [hce]; rfl)
      (by simpa [hci, Value.cells] using DataW.trod_le (show n0 ≤ n0 + n1 + n2 + n3 by omega) g0)
      (by simpa [hci, Value.cells] using DataW.trod_le (show n1 ≤ n0 + n1 + n2 + n3 by omega) g1)
      (by simpa [hcu, Value.cells] using DataW.trod_le (show n2 ≤ n0 + n1 + n2 + n3 by omega) g2)
      (by simpa [hcs, Value.cells] using DataW.trod_le (show n3 ≤ n0 + n1 + n2 + n3 by omega) g3)
    exact ⟨_, by simpa [Value.cells] using hT⟩
end
end Go.Proofs.YtmchephokleffaaDoor
