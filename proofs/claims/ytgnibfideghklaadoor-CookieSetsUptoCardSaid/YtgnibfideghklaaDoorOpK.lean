/-
  A cookie by value that came in, opened.
-/
import Derived.Test.YtgnibfideghklaaDoorLaid19
import Derived.Test.YtgnibfideghklaaDoorKz2
set_option linter.unusedVariables false
namespace Go.Proofs.YtgnibfideghklaaDoor
open Go.ChangeShapes Go.WideShapes Go.ChangeAt Go.RowKit Go.Proofs.YtgnibfideghklaaDoorW.PrintWords Go.Proofs.YtgnibfideghklaaDoor.PCookieReads
section
variable {H : Type} {enc : TypeId × Value → H}
theorem trod_struct8 {P : Program} {w : World} {base : Nat} {spare : Nat → Bool} {held : Bool} {t : TypeId} {f0 f1 f2 f3 f4 f5 f6 f7 : Field} {fuel : Nat} {cs : List Value} {x : DataW H × List MemPlace} (ht : P.underlying t = some (.struct #[f0, f1, f2, f3, f4, f5, f6, f7])) (h : DataW.trod enc P w base spare held fuel t cs = some x) :
    ∃ y0 y1 y2 y3 y4 y5 y6 y7 n, x = (.agg [y0.1, y1.1, y2.1, y3.1, y4.1, y5.1, y6.1, y7.1], y0.2 ++ (y1.2 ++ (y2.2 ++ (y3.2 ++ (y4.2 ++ (y5.2 ++ (y6.2 ++ y7.2))))))) ∧ cs.length = P.cellsOf t ∧ DataW.trod enc P w base spare held n f0.type ((cs.drop f0.offset).take (P.cellsOf f0.type)) = some y0 ∧ DataW.trod enc P w base spare held n f1.type ((cs.drop f1.offset).take (P.cellsOf f1.type)) = some y1 ∧ DataW.trod enc P w base spare held n f2.type ((cs.drop f2.offset).take (P.cellsOf f2.type)) = some y2 ∧ DataW.trod enc P w base spare held n f3.type ((cs.drop f3.offset).take (P.cellsOf f3.type)) = some y3 ∧ DataW.trod enc P w base spare held n f4.type ((cs.drop f4.offset).take (P.cellsOf f4.type)) = some y4 ∧ DataW.trod enc P w base spare held n f5.type ((cs.drop f5.offset).take (P.cellsOf f5.type)) = some y5 ∧ DataW.trod enc P w base spare held n f6.type ((cs.drop f6.offset).take (P.cellsOf f6.type)) = some y6 ∧ DataW.trod enc P w base spare held n f7.type ((cs.drop f7.offset).take (P.cellsOf f7.type)) = some y7 := by
  obtain ⟨xs, n, _, rfl, hl, hlen, hf⟩ := DataW.trod_struct ht h
  match xs, hlen with
  | [y0, y1, y2, y3, y4, y5, y6, y7], _ => exact ⟨y0, y1, y2, y3, y4, y5, y6, y7, n, by simp, hl, by simpa using hf 0 f0 rfl, by simpa using hf 1 f1 rfl, by simpa using hf 2 f2 rfl, by simpa using hf 3 f3 rfl, by simpa using hf 4 f4 rfl, by simpa using hf 5 f5 rfl, by simpa using hf 6 f6 rfl, by simpa using hf 7 f7 rfl⟩
theorem trod_struct8_mk {P : Program} {w : World} {base : Nat} {spare : Nat → Bool} {held : Bool} {t : TypeId} {f0 f1 f2 f3 f4 f5 f6 f7 : Field} {n : Nat} {cs : List Value} {y0 y1 y2 y3 y4 y5 y6 y7 : DataW H × List MemPlace} (ht : P.underlying t = some (.struct #[f0, f1, f2, f3, f4, f5, f6, f7])) (hl : cs.length = P.cellsOf t)
    (h0 : DataW.trod enc P w base spare held n f0.type ((cs.drop f0.offset).take (P.cellsOf f0.type)) = some y0) (h1 : DataW.trod enc P w base spare held n f1.type ((cs.drop f1.offset).take (P.cellsOf f1.type)) = some y1) (h2 : DataW.trod enc P w base spare held n f2.type ((cs.drop f2.offset).take (P.cellsOf f2.type)) = some y2) (h3 : DataW.trod enc P w base spare held n f3.type ((cs.drop f3.offset).take (P.cellsOf f3.type)) = some y3) (h4 : DataW.trod enc P w base spare held n f4.type ((cs.drop f4.offset).take (P.cellsOf f4.type)) = some y4) (h5 : DataW.trod enc P w base spare held n f5.type ((cs.drop f5.offset).take (P.cellsOf f5.type)) = some y5) (h6 : DataW.trod enc P w base spare held n f6.type ((cs.drop f6.offset).take (P.cellsOf f6.type)) = some y6) (h7 : DataW.trod enc P w base spare held n f7.type ((cs.drop f7.offset).take (P.cellsOf f7.type)) = some y7) : DataW.trod enc P w base spare held (n + 1) t cs = some (.agg [y0.1, y1.1, y2.1, y3.1, y4.1, y5.1, y6.1, y7.1], y0.2 ++ (y1.2 ++ (y2.2 ++ (y3.2 ++ (y4.2 ++ (y5.2 ++ (y6.2 ++ y7.2))))))) := by
  have := trod_struct_mk (enc := enc) (w := w) (base := base) (spare := spare) (held := held) (n := n) (xs := [y0, y1, y2, y3, y4, y5, y6, y7]) ht hl (by simp [h0, h1, h2, h3, h4, h5, h6, h7])
  simpa using this
theorem open_ck {W : World} {base b0 : Nat} {spare : Nat → Bool} {held : Bool} {v : Value} {D : DataW H} {ps : List MemPlace} (hval : Value.okWide Tryd.prog W .any b0 37 v) (h : DataW.Trod enc Tryd.prog W base spare held 37 v D ps) :
    ∃ c : Ck, v = c.V ∧ c.nm.length + c.vl.length + c.pa.length + c.si.length ≤ Rows.uptoBulk D ∧ (c.nm.length + c.vl.length + c.pa.length + c.si.length ≤ 1048576 → c.Fit) ∧ ps = [] ∧ ∀ W2 base2 spare2 held2, DataW.Trod enc Tryd.prog W2 base2 spare2 held2 37 c.V D [] := by
  obtain ⟨cs, rfl, hsz⟩ := okWide_struct Tryd.underlying37 hval
  have hce : Tryd.prog.cellsOf 37 = 8 := by kernel_rfl
  have hcs : Tryd.prog.cellsOf 9 = 1 := by kernel_rfl
  have hci : Tryd.prog.cellsOf 3 = 1 := by kernel_rfl
  have hcb : Tryd.prog.cellsOf 4 = 1 := by kernel_rfl
  obtain ⟨u0, u1, u2, u3, u4, u5, u6, u7, rfl⟩ := array8 (hsz.trans hce)
  obtain ⟨fuel, hf⟩ := h
  obtain ⟨y0, y1, y2, y3, y4, y5, y6, y7, n, hx, hl, h0, h1, h2, h3, h4, h5, h6, h7⟩ := trod_struct8 Tryd.underlying37 hf
  simp only [hcs, hci, hcb, Value.cells, List.drop_zero, List.drop_succ_cons, List.take_succ_cons, List.take_zero] at h0 h1 h2 h3 h4 h5 h6 h7
  obtain ⟨s0, e0, rfl, t0⟩ := DataW.trod_string Tryd.underlying9 h0
  obtain ⟨s1, e1, rfl, t1⟩ := DataW.trod_string Tryd.underlying9 h1
  obtain ⟨s2, e2, rfl, t2⟩ := DataW.trod_string Tryd.underlying9 h2
  obtain ⟨i3, e3, rfl, w3⟩ := DataW.trod_int Tryd.underlying3 h3
  obtain ⟨b4, e4, rfl⟩ := DataW.trod_bool Tryd.underlying4 h4
  obtain ⟨b5, e5, rfl⟩ := DataW.trod_bool Tryd.underlying4 h5
  obtain ⟨b6, e6, rfl⟩ := DataW.trod_bool Tryd.underlying4 h6
  obtain ⟨s7, e7, rfl, t7⟩ := DataW.trod_string Tryd.underlying9 h7
  obtain rfl : u0 = .string s0 := by simpa using e0
  obtain rfl : u1 = .string s1 := by simpa using e1
  obtain rfl : u2 = .string s2 := by simpa using e2
  obtain rfl : u3 = .int .i64 i3 := by simpa using e3
  obtain rfl : u4 = .bool b4 := by simpa using e4
  obtain rfl : u5 = .bool b5 := by simpa using e5
  obtain rfl : u6 = .bool b6 := by simpa using e6
  obtain rfl : u7 = .string s7 := by simpa using e7
  simp only [List.append_nil, Prod.mk.injEq] at hx
  obtain ⟨rfl, rfl⟩ := hx
  refine ⟨⟨s0.data.toList, s1.data.toList, s2.data.toList, i3, b4, b5, b6, s7.data.toList⟩, by simp [Ck.V, of_data], ?_, fun h => ⟨h, w3⟩, rfl, fun W2 base2 spare2 held2 => ?_⟩
  · simp only [Rows.uptoBulk, Rows.uptoBulkAll]
    omega
  · obtain ⟨n0, g0⟩ := Go.ChangeMaps.shut_string (enc := enc) (w := W2) (base := base2) (sp := spare2) (held := held2) Tryd.underlying9 t0
    obtain ⟨n1, g1⟩ := Go.ChangeMaps.shut_string (enc := enc) (w := W2) (base := base2) (sp := spare2) (held := held2) Tryd.underlying9 t1
    obtain ⟨n2, g2⟩ := Go.ChangeMaps.shut_string (enc := enc) (w := W2) (base := base2) (sp := spare2) (held := held2) Tryd.underlying9 t2
    obtain ⟨n3, g3⟩ := Go.ChangeShapes.shut_int (enc := enc) (w := W2) (base := base2) (spare := spare2) (held := held2) Tryd.underlying3 w3
    obtain ⟨n4, g4⟩ := Go.RowKit.shut_bool (enc := enc) (w := W2) (base := base2) (spare := spare2) (held := held2) Tryd.underlying4 b4
    obtain ⟨n5, g5⟩ := Go.RowKit.shut_bool (enc := enc) (w := W2) (base := base2) (spare := spare2) (held := held2) Tryd.underlying4 b5
    obtain ⟨n6, g6⟩ := Go.RowKit.shut_bool (enc := enc) (w := W2) (base := base2) (spare := spare2) (held := held2) Tryd.underlying4 b6
    obtain ⟨n7, g7⟩ := Go.ChangeMaps.shut_string (enc := enc) (w := W2) (base := base2) (sp := spare2) (held := held2) Tryd.underlying9 t7
    have hT := trod_struct8_mk (enc := enc) (w := W2) (base := base2) (spare := spare2) (held := held2) (n := n0 + n1 + n2 + n3 + n4 + n5 + n6 + n7) (cs := [.string s0, .string s1, .string s2, .int .i64 i3, .bool b4, .bool b5, .bool b6, .string s7]) Tryd.underlying37 (by rw [hce]; rfl)
      (by simpa [hcs, Value.cells] using DataW.trod_le (show n0 ≤ n0 + n1 + n2 + n3 + n4 + n5 + n6 + n7 by omega) g0)
      (by simpa [hcs, Value.cells] using DataW.trod_le (show n1 ≤ n0 + n1 + n2 + n3 + n4 + n5 + n6 + n7 by omega) g1)
      (by simpa [hcs, Value.cells] using DataW.trod_le (show n2 ≤ n0 + n1 + n2 + n3 + n4 + n5 + n6 + n7 by omega) g2)
      (by simpa [hci, Value.cells] using DataW.trod_le (show n3 ≤ n0 + n1 + n2 + n3 + n4 + n5 + n6 + n7 by omega) g3)
      (by simpa [hcb, Value.cells] using DataW.trod_le (show n4 ≤ n0 + n1 + n2 + n3 + n4 + n5 + n6 + n7 by omega) g4)
      (by simpa [hcb, Value.cells] using DataW.trod_le (show n5 ≤ n0 + n1 + n2 + n3 + n4 + n5 + n6 + n7 by omega) g5)
      (by simpa [hcb, Value.cells] using DataW.trod_le (show n6 ≤ n0 + n1 + n2 + n3 + n4 + n5 + n6 + n7 by omega) g6)
      (by simpa [hcs, Value.cells] using DataW.trod_le (show n7 ≤ n0 + n1 + n2 + n3 + n4 + n5 + n6 + n7 by omega) g7)
    exact ⟨_, by simpa [Ck.V, of_data, Value.cells] using hT⟩
end
end Go.Proofs.YtgnibfideghklaaDoor
