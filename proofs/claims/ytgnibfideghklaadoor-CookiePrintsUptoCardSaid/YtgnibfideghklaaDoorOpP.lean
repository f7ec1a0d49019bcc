/-
  A slice of pairs that came in, opened.
-/
import Derived.Test.YtgnibfideghklaaDoorLaid19
import Derived.Test.YtgnibfideghklaaDoorQ8
set_option linter.unusedVariables false
namespace Go.Proofs.YtgnibfideghklaaDoor
open Go.ChangeShapes Go.WideShapes Go.ChangeAt Go.RowKit Go.Proofs.YtgnibfideghklaaDoorW.PrintWords Go.Proofs.YtgnibfideghklaaDoor.PCookieReads
section
variable {H : Type} {enc : TypeId × Value → H}
theorem open_Cp {W : World} {base : Nat} {v : Value} {D : DataW H} {ps : List MemPlace} (hval : Value.okWide Tryd.prog W .any base 27 v) (h : DataW.Trod enc Tryd.prog W 0 (fun _ => true) true 27 v D ps) :
    ∃ (A : Option Addr) (c : Nat) (xs : List S43), v = .slice A xs.length c ∧ Kd.C k43 W A xs.length xs ∧ xs.length ≤ c ∧ c ≤ maxLen ∧ xs.length ≤ Rows.uptoBulk D ∧ (xs.map fun x => x.f0.size + x.f1.size).sum ≤ Rows.uptoBulk D ∧ ∀ x ∈ ps, x.block < W.heap.size :=
  open_C k43 z43 27 43 Tryd.underlying27 (by kernel_rfl) (fun x : S43 => x.f0.size + x.f1.size) (fun n cs x Pl hl hx => by
    have hl2 : cs.length = 2 := hl
    match cs, hl2 with
    | [u0, u1], _ =>
      obtain ⟨y0, y1, n, hxe, _, h0, h1⟩ := trod_struct2 Tryd.underlying43 hx
      have hce : Tryd.prog.cellsOf 9 = 1 := by kernel_rfl
      simp only [hce, List.drop_zero, List.drop_succ_cons, List.take_succ_cons, List.take_zero] at h0 h1
      obtain ⟨s0, e0, rfl, _⟩ := DataW.trod_string Tryd.underlying9 h0
      obtain ⟨s1, e1, rfl, _⟩ := DataW.trod_string Tryd.underlying9 h1
      obtain rfl : u0 = .string s0 := by simpa using e0
      obtain rfl : u1 = .string s1 := by simpa using e1
      refine ⟨⟨s0, s1⟩, k43_mk W ⟨s0, s1⟩, ?_⟩
      have hx3 := congrArg Prod.fst hxe
      simp only at hx3
      subst hx3
      simp only [Rows.uptoBulk, Rows.uptoBulkAll]
      rw [data_len, data_len]
      omega) hval h
end
end Go.Proofs.YtgnibfideghklaaDoor
