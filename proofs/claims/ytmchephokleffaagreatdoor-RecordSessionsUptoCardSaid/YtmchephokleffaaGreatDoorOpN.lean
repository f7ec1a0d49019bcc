/-
  Structs by value that came in, opened (written by gen_open.py).
-/
import Derived.Test.YtmchephokleffaaGreatDoorOpG
import Derived.ChangeArms
set_option linter.unusedVariables false
set_option linter.unusedSimpArgs false
namespace Go.Proofs.YtmchephokleffaaGreatDoor
open Go.ChangeShapes Go.WideShapes Go.ChangeAt Go.RowKit Go.Proofs.YtmchephokleffaaGreatDoorW.PrintWords
section
variable {H : Type} {enc : TypeId × Value → H}
theorem trod_s4 {P : Program} {w : World} {base : Nat} {spare : Nat → Bool} {held : Bool} {t : TypeId} {f0 f1 f2 f3 : Field} {fuel : Nat} {cs : List Value} {x : DataW H × List MemPlace} (ht : P.underlying t = some (.struct #[f0, f1, f2, f3])) (h : DataW.trod enc P w base spare held fuel t cs = some x) :
    ∃ y0 y1 y2 y3 n, x = (.agg [y0.1, y1.1, y2.1, y3.1], y0.2 ++ (y1.2 ++ (y2.2 ++ (y3.2)))) ∧ cs.length = P.cellsOf t ∧ DataW.trod enc P w base spare held n f0.type ((cs.drop f0.offset).take (P.cellsOf f0.type)) = some y0 ∧ DataW.trod enc P w base spare held n f1.type ((cs.drop f1.offset).take (P.cellsOf f1.type)) = some y1 ∧ DataW.trod enc P w base spare held n f2.type ((cs.drop f2.offset).take (P.cellsOf f2.type)) = some y2 ∧ DataW.trod enc P w base spare held n f3.type ((cs.drop f3.offset).take (P.cellsOf f3.type)) = some y3 := by
  obtain ⟨xs, n, _, rfl, hl, hlen, hf⟩ := DataW.trod_struct ht h
  match xs, hlen with
  | [y0, y1, y2, y3], _ => exact ⟨y0, y1, y2, y3, n, by simp, hl, by simpa using hf 0 f0 rfl, by simpa using hf 1 f1 rfl, by simpa using hf 2 f2 rfl, by simpa using hf 3 f3 rfl⟩
theorem trod_s4_mk {P : Program} {w : World} {base : Nat} {spare : Nat → Bool} {held : Bool} {t : TypeId} {f0 f1 f2 f3 : Field} {n : Nat} {cs : List Value} {y0 y1 y2 y3 : DataW H × List MemPlace} (ht : P.underlying t = some (.struct #[f0, f1, f2, f3])) (hl : cs.length = P.cellsOf t)
    (h0 : DataW.trod enc P w base spare held n f0.type ((cs.drop f0.offset).take (P.cellsOf f0.type)) = some y0) (h1 : DataW.trod enc P w base spare held n f1.type ((cs.drop f1.offset).take (P.cellsOf f1.type)) = some y1) (h2 : DataW.trod enc P w base spare held n f2.type ((cs.drop f2.offset).take (P.cellsOf f2.type)) = some y2) (h3 : DataW.trod enc P w base spare held n f3.type ((cs.drop f3.offset).take (P.cellsOf f3.type)) = some y3) : DataW.trod enc P w base spare held (n + 1) t cs = some (.agg [y0.1, y1.1, y2.1, y3.1], y0.2 ++ (y1.2 ++ (y2.2 ++ (y3.2)))) := by
  have := trod_struct_mk (enc := enc) (w := w) (base := base) (spare := spare) (held := held) (n := n) (xs := [y0, y1, y2, y3]) ht hl (by simp [h0, h1, h2, h3])
  simpa using this
theorem arr4 {α : Type} {cs : Array α} (h : cs.size = 4) : ∃ c0 c1 c2 c3, cs = #[c0, c1, c2, c3] := by
  match cs, h with
  | ⟨[c0, c1, c2, c3]⟩, _ => exact ⟨c0, c1, c2, c3, rfl⟩
theorem trod_s6 {P : Program} {w : World} {base : Nat} {spare : Nat → Bool} {held : Bool} {t : TypeId} {f0 f1 f2 f3 f4 f5 : Field} {fuel : Nat} {cs : List Value} {x : DataW H × List MemPlace} (ht : P.underlying t = some (.struct #[f0, f1, f2, f3, f4, f5])) (h : DataW.trod enc P w base spare held fuel t cs = some x) :
    ∃ y0 y1 y2 y3 y4 y5 n, x = (.agg [y0.1, y1.1, y2.1, y3.1, y4.1, y5.1], y0.2 ++ (y1.2 ++ (y2.2 ++ (y3.2 ++ (y4.2 ++ (y5.2)))))) ∧ cs.length = P.cellsOf t ∧ DataW.trod enc P w base spare held n f0.type ((cs.drop f0.offset).take (P.cellsOf f0.type)) = some y0 ∧ DataW.trod enc P w base spare held n f1.type ((cs.drop f1.offset).take (P.cellsOf f1.type)) = some y1 ∧ DataW.trod enc P w base spare held n f2.type ((cs.drop f2.offset).take (P.cellsOf f2.type)) = some y2 ∧ DataW.trod enc P w base spare held n f3.type ((cs.drop f3.offset).take (P.cellsOf f3.type)) = some y3 ∧ DataW.trod enc P w base spare held n f4.type ((cs.drop f4.offset).take (P.cellsOf f4.type)) = some y4 ∧ DataW.trod enc P w base spare held n f5.type ((cs.drop f5.offset).take (P.cellsOf f5.type)) = some y5 := by
  obtain ⟨xs, n, _, rfl, hl, hlen, hf⟩ := DataW.trod_struct ht h
  match xs, hlen with
  | [y0, y1, y2, y3, y4, y5], _ => exact ⟨y0, y1, y2, y3, y4, y5, n, by simp, hl, by simpa using hf 0 f0 rfl, by simpa using hf 1 f1 rfl, by simpa using hf 2 f2 rfl, by simpa using hf 3 f3 rfl, by simpa using hf 4 f4 rfl, by simpa using hf 5 f5 rfl⟩
theorem trod_s6_mk {P : Program} {w : World} {base : Nat} {spare : Nat → Bool} {held : Bool} {t : TypeId} {f0 f1 f2 f3 f4 f5 : Field} {n : Nat} {cs : List Value} {y0 y1 y2 y3 y4 y5 : DataW H × List MemPlace} (ht : P.underlying t = some (.struct #[f0, f1, f2, f3, f4, f5])) (hl : cs.length = P.cellsOf t)
    (h0 : DataW.trod enc P w base spare held n f0.type ((cs.drop f0.offset).take (P.cellsOf f0.type)) = some y0) (h1 : DataW.trod enc P w base spare held n f1.type ((cs.drop f1.offset).take (P.cellsOf f1.type)) = some y1) (h2 : DataW.trod enc P w base spare held n f2.type ((cs.drop f2.offset).take (P.cellsOf f2.type)) = some y2) (h3 : DataW.trod enc P w base spare held n f3.type ((cs.drop f3.offset).take (P.cellsOf f3.type)) = some y3) (h4 : DataW.trod enc P w base spare held n f4.type ((cs.drop f4.offset).take (P.cellsOf f4.type)) = some y4) (h5 : DataW.trod enc P w base spare held n f5.type ((cs.drop f5.offset).take (P.cellsOf f5.type)) = some y5) : DataW.trod enc P w base spare held (n + 1) t cs = some (.agg [y0.1, y1.1, y2.1, y3.1, y4.1, y5.1], y0.2 ++ (y1.2 ++ (y2.2 ++ (y3.2 ++ (y4.2 ++ (y5.2)))))) := by
  have := trod_struct_mk (enc := enc) (w := w) (base := base) (spare := spare) (held := held) (n := n) (xs := [y0, y1, y2, y3, y4, y5]) ht hl (by simp [h0, h1, h2, h3, h4, h5])
  simpa using this
theorem arr6 {α : Type} {cs : Array α} (h : cs.size = 6) : ∃ c0 c1 c2 c3 c4 c5, cs = #[c0, c1, c2, c3, c4, c5] := by
  match cs, h with
  | ⟨[c0, c1, c2, c3, c4, c5]⟩, _ => exact ⟨c0, c1, c2, c3, c4, c5, rfl⟩
set_option maxRecDepth 100000 in
theorem open_ses {W : World} {base b0 : Nat} {spare : Nat → Bool} {held : Bool} {v : Value} {D : DataW H} {ps : List MemPlace} (hval : Value.okWide Tryz.prog W .any b0 42 v) (h : DataW.Trod enc Tryz.prog W base spare held 42 v D ps) :
    ∃ (s0 : ByteArray) (s1 : ByteArray) (s2 : ByteArray) (i3 : Int), v = .agg #[.string s0, .string s1, .string s2, .int .u64 i3] ∧ ((Lit.int .u64 i3).wf = true) ∧ s0.size + s1.size + s2.size ≤ Rows.uptoBulk D ∧ ps = [] ∧ ∀ W2 base2 spare2 held2, DataW.Trod enc Tryz.prog W2 base2 spare2 held2 42 (.agg #[.string s0, .string s1, .string s2, .int .u64 i3]) D [] := by
  obtain ⟨cs, rfl, hsz⟩ := okWide_struct Tryz.underlying42 hval
  have hce : Tryz.prog.cellsOf 42 = 4 := by kernel_rfl
  have hcs : Tryz.prog.cellsOf 9 = 1 := by kernel_rfl
  have hcu : Tryz.prog.cellsOf 22 = 1 := by kernel_rfl
  obtain ⟨u0, u1, u2, u3, rfl⟩ := arr4 (hsz.trans hce)
  obtain ⟨fuel, hf⟩ := h
  obtain ⟨y0, y1, y2, y3, n, hx, hl, h0, h1, h2, h3⟩ := trod_s4 Tryz.underlying42 hf
  simp only [hcs, hcu, Value.cells, List.drop_zero, List.drop_succ_cons, List.take_succ_cons, List.take_zero] at h0 h1 h2 h3
  obtain ⟨s0, e0, rfl, t0⟩ := DataW.trod_string Tryz.underlying9 h0
  obtain ⟨s1, e1, rfl, t1⟩ := DataW.trod_string Tryz.underlying9 h1
  obtain ⟨s2, e2, rfl, t2⟩ := DataW.trod_string Tryz.underlying9 h2
  obtain ⟨i3, e3, rfl, t3⟩ := DataW.trod_int Tryz.underlying22 h3
  obtain rfl : u0 = .string s0 := by simpa using e0
  obtain rfl : u1 = .string s1 := by simpa using e1
  obtain rfl : u2 = .string s2 := by simpa using e2
  obtain rfl : u3 = .int .u64 i3 := by simpa using e3
  simp only [List.append_nil, Prod.mk.injEq] at hx
  obtain ⟨rfl, rfl⟩ := hx
  refine ⟨s0, s1, s2, i3, rfl, t3, ?_, rfl, fun W2 base2 spare2 held2 => ?_⟩
  · simp only [Rows.uptoBulk, Rows.uptoBulkAll, data_len]
    omega
  · obtain ⟨n0, g0⟩ := Go.ChangeMaps.shut_string (enc := enc) (w := W2) (base := base2) (sp := spare2) (held := held2) Tryz.underlying9 t0
    obtain ⟨n1, g1⟩ := Go.ChangeMaps.shut_string (enc := enc) (w := W2) (base := base2) (sp := spare2) (held := held2) Tryz.underlying9 t1
    obtain ⟨n2, g2⟩ := Go.ChangeMaps.shut_string (enc := enc) (w := W2) (base := base2) (sp := spare2) (held := held2) Tryz.underlying9 t2
    obtain ⟨n3, g3⟩ := Go.ChangeShapes.shut_int (enc := enc) (w := W2) (base := base2) (spare := spare2) (held := held2) Tryz.underlying22 t3
    have hT := trod_s4_mk (enc := enc) (w := W2) (base := base2) (spare := spare2) (held := held2) (n := n0 + n1 + n2 + n3) (cs := [.string s0, .string s1, .string s2, .int .u64 i3]) Tryz.underlying42 (by rw [hce]; rfl)
      (by simpa [hcs, Value.cells] using DataW.trod_le (show n0 ≤ n0 + n1 + n2 + n3 by omega) g0)
      (by simpa [hcs, Value.cells] using DataW.trod_le (show n1 ≤ n0 + n1 + n2 + n3 by omega) g1)
      (by simpa [hcs, Value.cells] using DataW.trod_le (show n2 ≤ n0 + n1 + n2 + n3 by omega) g2)
      (by simpa [hcu, Value.cells] using DataW.trod_le (show n3 ≤ n0 + n1 + n2 + n3 by omega) g3)
    exact ⟨_, by simpa [Value.cells] using hT⟩
set_option maxRecDepth 100000 in
theorem open_pla {W : World} {base b0 : Nat} {spare : Nat → Bool} {held : Bool} {v : Value} {D : DataW H} {ps : List MemPlace} (hval : Value.okWide Tryz.prog W .any b0 24 v) (h : DataW.Trod enc Tryz.prog W base spare held 24 v D ps) :
    ∃ (i0 : Int) (s1 : ByteArray) (s2 : ByteArray) (s3 : ByteArray) (i4 : Int) (i5 : Int), v = .agg #[.int .i64 i0, .string s1, .string s2, .string s3, .int .u64 i4, .int .i64 i5] ∧ ((Lit.int .i64 i0).wf = true ∧ (Lit.int .u64 i4).wf = true ∧ (Lit.int .i64 i5).wf = true) ∧ s1.size + s2.size + s3.size ≤ Rows.uptoBulk D ∧ ps = [] ∧ ∀ W2 base2 spare2 held2, DataW.Trod enc Tryz.prog W2 base2 spare2 held2 24 (.agg #[.int .i64 i0, .string s1, .string s2, .string s3, .int .u64 i4, .int .i64 i5]) D [] := by
  obtain ⟨cs, rfl, hsz⟩ := okWide_struct Tryz.underlying24 hval
  have hce : Tryz.prog.cellsOf 24 = 6 := by kernel_rfl
  have hci : Tryz.prog.cellsOf 3 = 1 := by kernel_rfl
  have hcs : Tryz.prog.cellsOf 9 = 1 := by kernel_rfl
  have hcu : Tryz.prog.cellsOf 22 = 1 := by kernel_rfl
  obtain ⟨u0, u1, u2, u3, u4, u5, rfl⟩ := arr6 (hsz.trans hce)
  obtain ⟨fuel, hf⟩ := h
  obtain ⟨y0, y1, y2, y3, y4, y5, n, hx, hl, h0, h1, h2, h3, h4, h5⟩ := trod_s6 Tryz.underlying24 hf
  simp only [hci, hcs, hcu, Value.cells, List.drop_zero, List.drop_succ_cons, List.take_succ_cons, List.take_zero] at h0 h1 h2 h3 h4 h5
  obtain ⟨i0, e0, rfl, t0⟩ := DataW.trod_int Tryz.underlying3 h0
  obtain ⟨s1, e1, rfl, t1⟩ := DataW.trod_string Tryz.underlying9 h1
  obtain ⟨s2, e2, rfl, t2⟩ := DataW.trod_string Tryz.underlying9 h2
  obtain ⟨s3, e3, rfl, t3⟩ := DataW.trod_string Tryz.underlying9 h3
  obtain ⟨i4, e4, rfl, t4⟩ := DataW.trod_int Tryz.underlying22 h4
  obtain ⟨i5, e5, rfl, t5⟩ := DataW.trod_int Tryz.underlying3 h5
  obtain rfl : u0 = .int .i64 i0 := by simpa using e0
  obtain rfl : u1 = .string s1 := by simpa using e1
  obtain rfl : u2 = .string s2 := by simpa using e2
  obtain rfl : u3 = .string s3 := by simpa using e3
  obtain rfl : u4 = .int .u64 i4 := by simpa using e4
  obtain rfl : u5 = .int .i64 i5 := by simpa using e5
  simp only [List.append_nil, Prod.mk.injEq] at hx
  obtain ⟨rfl, rfl⟩ := hx
  refine ⟨i0, s1, s2, s3, i4, i5, rfl, ⟨t0, t4, t5⟩, ?_, rfl, fun W2 base2 spare2 held2 => ?_⟩
  · simp only [Rows.uptoBulk, Rows.uptoBulkAll, data_len]
    omega
  · obtain ⟨n0, g0⟩ := Go.ChangeShapes.shut_int (enc := enc) (w := W2) (base := base2) (spare := spare2) (held := held2) Tryz.underlying3 t0
    obtain ⟨n1, g1⟩ := Go.ChangeMaps.shut_string (enc := enc) (w := W2) (base := base2) (sp := spare2) (held := held2) Tryz.underlying9 t1
    obtain ⟨n2, g2⟩ := Go.ChangeMaps.shut_string (enc := enc) (w := W2) (base := base2) (sp := spare2) (held := held2) Tryz.underlying9 t2
    obtain ⟨n3, g3⟩ := Go.ChangeMaps.shut_string (enc := enc) (w := W2) (base := base2) (sp := spare2) (held := held2) Tryz.underlying9 t3
    obtain ⟨n4, g4⟩ := Go.ChangeShapes.shut_int (enc := enc) (w := W2) (base := base2) (spare := spare2) (held := held2) Tryz.underlying22 t4
    obtain ⟨n5, g5⟩ := Go.ChangeShapes.shut_int (enc := enc) (w := W2) (base := base2) (spare := spare2) (held := held2) Tryz.underlying3 t5
    have hT := trod_s6_mk (enc := enc) (w := W2) (base := base2) (spare := spare2) (held := held2) (n := n0 + n1 + n2 + n3 + n4 + n5) (cs := [.int .i64 i0, .string s1, .string s2, .string s3, .int .u64 i4, .int .i64 i5]) Tryz.underlying24 (by rw [hce]; rfl)
      (by simpa [hci, Value.cells] using DataW.trod_le (show n0 ≤ n0 + n1 + n2 + n3 + n4 + n5 by omega) g0)
      (by simpa [hcs, Value.cells] using DataW.trod_le (show n1 ≤ n0 + n1 + n2 + n3 + n4 + n5 by omega) g1)
      (by simpa [hcs, Value.cells] using DataW.trod_le (show n2 ≤ n0 + n1 + n2 + n3 + n4 + n5 by omega) g2)
      (by simpa [hcs, Value.cells] using DataW.trod_le (show n3 ≤ n0 + n1 + n2 + n3 + n4 + n5 by omega) g3)
      (by simpa [hcu, Value.cells] using DataW.trod_le (show n4 ≤ n0 + n1 + n2 + n3 + n4 + n5 by omega) g4)
      (by simpa [hci, Value.cells] using DataW.trod_le (show n5 ≤ n0 + n1 + n2 + n3 + n4 + n5 by omega) g5)
    exact ⟨_, by simpa [Value.cells] using hT⟩
end
end Go.Proofs.YtmchephokleffaaGreatDoor
