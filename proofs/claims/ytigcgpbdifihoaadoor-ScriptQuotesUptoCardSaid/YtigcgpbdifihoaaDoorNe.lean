/-
  Chapter 28: a line of words: what it says.
-/
import Derived.Test.YtigcgpbdifihoaaDoorNd
set_option linter.unusedVariables false
set_option linter.unusedSimpArgs false
namespace Go.Proofs.YtigcgpbdifihoaaDoor
open Go.RowKit Go.Proofs.YtigcgpbdifihoaaDoorW.PrintWords Go.Proofs.YtigcgpbdifihoaaDoor.PScriptRequests
inductive Wd where
  | str (l : List UInt8)
  | quo (l : List UInt8)
  | great (n : Nat)
  | num (n : Int)
def Wd.val : Wd → Value
  | .str l => .iface 9 (.string (B l))
  | .quo l => .iface 65 (.string (B l))
  | .great n => .iface 91 (.int .u64 (n : Nat))
  | .num n => .iface 3 (.int .i64 n)
def Wd.txt : Wd → List UInt8
  | .str l => l
  | .quo l => quoteL l
  | .great n => Lib.decDigits n
  | .num n => Lib.itoa n
def Wd.bad : Wd → Bool
  | .num n => !shortB n
  | _ => false
def Wd.ok : Wd → Prop
  | .str l => l.length < 1000000000
  | .quo l => l.length < 1000000000
  | .great n => n < 18446744073709551616
  | .num n => -9223372036854775808 ≤ n ∧ n ≤ 9223372036854775807
def tailW (r : List Wd) : List UInt8 := r.flatMap fun y => 32 :: y.txt
def wordsL : List Wd → List UInt8
  | [] => []
  | x :: r => x.txt ++ tailW r
def lineL (ws : List Wd) : List UInt8 := wordsL ws ++ [10]
theorem words_one (x : Wd) : wordsL [x] = x.txt := by simp [wordsL, tailW]
theorem words_app : ∀ (P : List Wd) (x : Wd), P ≠ [] → wordsL (P ++ [x]) = wordsL P ++ [32] ++ x.txt
  | [], _, h => absurd rfl h
  | a :: r, x, _ => by simp [wordsL, tailW]
theorem words_pre : ∀ (P R : List Wd), (wordsL P).length ≤ (wordsL (P ++ R)).length
  | [], R => by simp [wordsL]
  | a :: r, R => by simp [wordsL, tailW]
theorem words_len (P R : List Wd) (x : Wd) : (wordsL P).length + x.txt.length ≤ (wordsL (P ++ x :: R)).length := by
  have h := words_pre (P ++ [x]) R
  rw [List.append_assoc, List.singleton_append] at h
  by_cases hP : P = []
  · subst hP
    simp [wordsL] at h ⊢
  · rw [words_app P x hP] at h
    simp at h
    omega
theorem words_len1 (P R : List Wd) (x : Wd) (hP : P ≠ []) : (wordsL P).length + 1 + x.txt.length ≤ (wordsL (P ++ x :: R)).length := by
  have h := words_pre (P ++ [x]) R
  rw [List.append_assoc, List.singleton_append, words_app P x hP] at h
  simp at h
  omega
/-- The table of tens stands in all worlds that keep what lies below C. -/
def TB (C : Nat) (w : World) : Prop := ∀ W, Below C w W → Tab W
theorem TB.next {C : Nat} {w w' : World} (h : TB C w) (hb : Below C w w') : TB C w' := fun W hW => h W (hb.trans hW)
theorem TB.tab {C : Nat} {w : World} (h : TB C w) : Tab w := h w (Below.refl _ _)
theorem Tab.tb {w : World} (h : Tab w) : TB w.heap.size w := fun W hW => h.below hW
/-- A writer, its flag set. -/
theorem BA.flag {C b : Nat} {p : Value} {l : List UInt8} {w : World} {g : Bool} (h : BA 63 [.bool g] C b p l w) (g2 : Bool) : BA 63 [.bool g2] C b p l (w.setCell ⟨b, 2, none⟩ (.bool g2)) := by
  obtain ⟨hB, v, hb, hown, hne⟩ := h
  refine ⟨hB, v, ?_, ?_, hne⟩
  · simp [World.setCell, Array.getElem?_modify, hb]
  · refine hown.kept (row := some b) ⟨rfl, rfl, rfl, by simp [World.setCell], fun k _ hk => Below.heap_setCell _ _ _ _ (fun e => hk (by simp [e]))⟩ ?_
    exact Or.inr hne
theorem IB.flag {C b : Nat} {l : List UInt8} {w : World} {g : Bool} (h : IB 63 [.bool g] C b l w) (g2 : Bool) : IB 63 [.bool g2] C b l (w.setCell ⟨b, 2, none⟩ (.bool g2)) :=
  h.elim (fun x => Or.inl (x.flag g2)) fun x => Or.inr (x.flag g2)
theorem IB.cell2 {T : TypeId} {C b : Nat} {l : List UInt8} {w : World} {g : Bool} (h : IB T [.bool g] C b l w) : w.cell? ⟨b, 2, none⟩ = some (.bool g) ∧ w.frozen? ⟨b, 2, none⟩ = false := by
  obtain ⟨p, _, v, hb, _⟩ := h.ba
  exact ⟨by rw [Lib.cell_of_heap hb]; rfl, Lib.frozen_of_heap hb 2⟩
theorem IB.ge {T : TypeId} {r : List Value} {C b : Nat} {l : List UInt8} {w : World} (h : IB T r C b l w) : C ≤ b := h.elim (·.1) (·.1)
theorem IB.below {T : TypeId} {r : List Value} {C b : Nat} {l : List UInt8} {w w' : World} (h : IB T r C b l w) (hb : Below w.heap.size w w') : IB T r C b l w' := h.elim (fun x => Or.inl (x.below hb)) fun x => Or.inr (x.below hb)
theorem Fr.flag {C b : Nat} {w w' : World} (h : Fr C b w w') (hC : C ≤ b) (v : Value) : Fr C b w (w'.setCell ⟨b, 2, none⟩ v) := ⟨h.1.setCell (p := ⟨b, 2, none⟩) hC _, h.2.setCell ⟨b, 2, none⟩ rfl _⟩
/-- A row of words, whatever was done to the writer. -/
theorem row_cell {T : TypeId} {r : List Value} {C D b : Nat} {l : List UInt8} {w : World} (h : IB T r C b l w) (hT : T ≠ 20) {ws : List Wd} {k cap : Nat} (hrow : w.ownsRow D 20 1 (.slice (some ⟨k, 0, none⟩) ws.length cap) ws.length (ws.map Wd.val)) :
    ∀ W, Fr C b w W → ∀ P x R, ws = P ++ x :: R → W.cell? ⟨k, P.length, none⟩ = some x.val := by
  intro W hF P x R hl
  have hc := hrow.cells (g := k) rfl P.length x.val (by rw [hl]; simp)
  rw [Lib.add_plain, Nat.zero_add] at hc
  obtain ⟨p, _, v, hb, _⟩ := h.ba
  rcases hrow.2 with ⟨hv, _⟩ | ⟨g, cap', cur, hv, _, hg, _⟩
  · cases hv
  · injection hv with hv
    injection hv with hv
    injection hv with hv
    subst hv
    have hkb : k ≠ b := by
      rintro rfl
      rw [hg] at hb
      injection hb with hb
      injection hb with _ hb
      exact hT hb.symm
    rw [World.cell?_of_block (a := ⟨k, P.length, none⟩) (w := w) (w' := W) ?_]
    · exact hc
    · rw [hF.2 k _ hg (by simpa using hkb) (fun c fz e => by injection e with _ e; exact absurd e (by decide)), hg]
section
variable (w : World)
theorem as_s (x : Value) : (Instr.typeAssert (.iface 9 x) 20 9 true).run Tryd.prog w = .ok (.tuple #[x, .bool true]) w := by kernel_rfl
theorem as_qs (x : Value) : (Instr.typeAssert (.iface 65 x) 20 9 true).run Tryd.prog w = .ok (.tuple #[.string ⟨#[]⟩, .bool false]) w := by kernel_rfl
theorem as_qq (x : Value) : (Instr.typeAssert (.iface 65 x) 20 65 true).run Tryd.prog w = .ok (.tuple #[x, .bool true]) w := by kernel_rfl
theorem as_us (x : Value) : (Instr.typeAssert (.iface 91 x) 20 9 true).run Tryd.prog w = .ok (.tuple #[.string ⟨#[]⟩, .bool false]) w := by kernel_rfl
theorem as_uq (x : Value) : (Instr.typeAssert (.iface 91 x) 20 65 true).run Tryd.prog w = .ok (.tuple #[.string ⟨#[]⟩, .bool false]) w := by kernel_rfl
theorem as_uu (x : Value) : (Instr.typeAssert (.iface 91 x) 20 91 true).run Tryd.prog w = .ok (.tuple #[x, .bool true]) w := by kernel_rfl
theorem as_is (x : Value) : (Instr.typeAssert (.iface 3 x) 20 9 true).run Tryd.prog w = .ok (.tuple #[.string ⟨#[]⟩, .bool false]) w := by kernel_rfl
theorem as_iq (x : Value) : (Instr.typeAssert (.iface 3 x) 20 65 true).run Tryd.prog w = .ok (.tuple #[.string ⟨#[]⟩, .bool false]) w := by kernel_rfl
theorem as_iu (x : Value) : (Instr.typeAssert (.iface 3 x) 20 91 true).run Tryd.prog w = .ok (.tuple #[.int .u64 0, .bool false]) w := by kernel_rfl
theorem as_ii (x : Value) : (Instr.typeAssert (.iface 3 x) 20 3 true).run Tryd.prog w = .ok (.tuple #[x, .bool true]) w := by kernel_rfl
end
end Go.Proofs.YtigcgpbdifihoaaDoor
