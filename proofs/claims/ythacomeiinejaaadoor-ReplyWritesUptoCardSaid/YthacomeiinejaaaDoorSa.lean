/-
  Chapter 18: the statuses' map and a status's words, walked.
-/
import Derived.Test.YthacomeiinejaaaDoorProg
import Derived.Test.YthacomeiinejaaaDoorWZeros
import Derived.Test.YthacomeiinejaaaDoorWKept
import Derived.WalkKit
import Derived.Lib.Strings
import Derived.WalkLawsBesides
import Derived.WalkSpells
import Derived.Lib.Hide
import Derived.Deep.LoopGhost
import Derived.Deep.QuietTactic
import Derived.BigQuiet
import Derived.Deep.DeepFit
import Derived.Maps.Own
import Derived.Maps.OwnOps
set_option linter.unusedVariables false
set_option linter.unusedSimpArgs false
namespace Go.Proofs.YthacomeiinejaaaDoor
open Go.RowKit Go.Proofs.YthacomeiinejaaaDoorW.PrintWords
/-- The statuses and their words. -/
def stats : List (Int × ByteArray) := [(200, ⟨#[79, 75]⟩), (201, ⟨#[67, 114, 101, 97, 116, 101, 100]⟩), (204, ⟨#[78, 111, 32, 67, 111, 110, 116, 101, 110, 116]⟩), (400, ⟨#[66, 97, 100, 32, 82, 101, 113, 117, 101, 115, 116]⟩), (401, ⟨#[85, 110, 97, 117, 116, 104, 111, 114, 105, 122, 101, 100]⟩), (404, ⟨#[78, 111, 116, 32, 70, 111, 117, 110, 100]⟩), (405, ⟨#[77, 101, 116, 104, 111, 100, 32, 78, 111, 116, 32, 65, 108, 108, 111, 119, 101, 100]⟩), (413, ⟨#[67, 111, 110, 116, 101, 110, 116, 32, 84, 111, 111, 32, 76, 97, 114, 103, 101]⟩), (429, ⟨#[84, 111, 111, 32, 77, 97, 110, 121, 32, 82, 101, 113, 117, 101, 115, 116, 115]⟩), (431, ⟨#[82, 101, 113, 117, 101, 115, 116, 32, 72, 101, 97, 100, 101, 114, 32, 70, 105, 101, 108, 100, 115, 32, 84, 111, 111, 32, 76, 97, 114, 103, 101]⟩), (500, ⟨#[73, 110, 116, 101, 114, 110, 97, 108, 32, 83, 101, 114, 118, 101, 114, 32, 69, 114, 114, 111, 114]⟩), (503, ⟨#[83, 101, 114, 118, 105, 99, 101, 32, 85, 110, 97, 118, 97, 105, 108, 97, 98, 108, 101]⟩), (507, ⟨#[73, 110, 115, 117, 102, 102, 105, 99, 105, 101, 110, 116, 32, 83, 116, 111, 114, 97, 103, 101]⟩)]
def stA : Nat → Nat → List (Int × ByteArray) → List MapEntry
  | 0, _, _ => []
  | _, _, [] => []
  | n + 1, i, (k, v) :: l => ⟨.int .i64 k, .string v, i⟩ :: stA n (i + 1) l
def stM (n : Nat) : Array MapEntry := (stA n 0 stats).toArray
def wordsB (a : Int) : ByteArray := ((stats.find? fun p => p.1 == a).map (·.2)).getD ⟨#[]⟩
theorem set_new (w : World) (o o2 : Obj) : ({ heap := (w.alloc o).heap.setIfInBounds w.heap.size o2, tape := w.tape, drawn := w.drawn, os := (w.alloc o).os, output := (w.alloc o).output } : World) = w.alloc o2 := by
  have : (w.heap.push o).setIfInBounds w.heap.size o2 = w.heap.push o2 := by
    apply Array.ext'
    simp
  show World.mk ((w.heap.push o).setIfInBounds w.heap.size o2) _ _ _ _ = _
  rw [this]
  rfl
theorem ins_run (w : World) (es es2 : Array MapEntry) (c : Nat) (key : Int) (v : ByteArray) (hw : (Lit.int .i64 key).wf = true) (hk : ∀ e ∈ es.toList, ∃ i : Int, e.key = .int .i64 i ∧ (Lit.int .i64 i).wf = true ∧ i ≠ key) (he : es2 = es.push ⟨.int .i64 key, .string v, c⟩) :
    (Instr.mapUpdate 52 (.map (some w.heap.size)) (.int .i64 key) (.string v)).run Tryd.prog (w.alloc (.map es c)) = .ok () (w.alloc (.map es2 (c + 1))) := by
  have K := Go.Maps.int_keyed Tryd.underlying3
  have hb : (w.alloc (.map es c)).heap[w.heap.size]? = some (.map es c) := by simpa using heap_alloc_new w _
  have hkey : keyOf Tryd.prog 3 (.int .i64 key) = some (.int .i64 key) := Go.Maps.keyOf_int_mk Tryd.underlying3 hw
  rcases K.find (w.alloc (.map es c)) hkey es.toList (fun e h => by obtain ⟨i, h1, h2, _⟩ := hk e h; exact ⟨_, by rw [h1]; exact Go.Maps.keyOf_int_mk Tryd.underlying3 h2⟩) with ⟨h1, h2⟩ | ⟨j, e0, h1, h2, h3⟩
  · subst he
    simp [Instr.mapUpdate, run_underlying Tryd.underlying52, MapKept.run_getObj_map hb, K.check (w.alloc (.map es c)) false hkey, h1, MapKept.run_setObj_map _ hb, Result.andThen, set_new]
  · obtain ⟨i, h4, _, h5⟩ := hk e0 (List.mem_of_getElem? h2)
    rw [h4] at h3
    injection h3 with _ h3
    exact absurd h3 h5
theorem stA_keys : ∀ (n i : Nat) (l : List (Int × ByteArray)) (e : MapEntry), e ∈ stA n i l → ∃ p ∈ l.take n, e.key = .int .i64 p.1 ∧ e.val = .string p.2
  | 0, _, _, e, h => by simp [stA] at h
  | _ + 1, _, [], e, h => by simp [stA] at h
  | n + 1, i, (k, v) :: l, e, h => by
    unfold stA at h
    rcases List.mem_cons.1 h with rfl | h
    · exact ⟨(k, v), by simp, rfl, rfl⟩
    · obtain ⟨p, hp, h2⟩ := stA_keys n (i + 1) l e h
      exact ⟨p, by simp [hp], h2⟩
theorem stM_keys (n : Nat) (key : Int) (hk : ∀ p ∈ stats.take n, (Lit.int .i64 p.1).wf = true ∧ p.1 ≠ key) : ∀ e ∈ (stM n).toList, ∃ i : Int, e.key = .int .i64 i ∧ (Lit.int .i64 i).wf = true ∧ i ≠ key := fun e h => by
  obtain ⟨p, hp, h2, _⟩ := stA_keys n 0 stats e (by simpa [stM] using h)
  exact ⟨p.1, h2, (hk p hp).1, (hk p hp).2⟩
theorem ins0 (w : World) : (Instr.mapUpdate 52 (.map (some w.heap.size)) (.int .i64 200) (.string ⟨#[79, 75]⟩)).run Tryd.prog (w.alloc (.map #[] 0)) = .ok () (w.alloc (.map (stM 1) 1)) := ins_run w (stM 0) _ 0 _ _ (by decide) (stM_keys 0 200 (by decide)) rfl
theorem ins1 (w : World) : (Instr.mapUpdate 52 (.map (some w.heap.size)) (.int .i64 201) (.string ⟨#[67, 114, 101, 97, 116, 101, 100]⟩)).run Tryd.prog (w.alloc (.map (stM 1) 1)) = .ok () (w.alloc (.map (stM 2) 2)) := ins_run w (stM 1) _ 1 _ _ (by decide) (stM_keys 1 201 (by decide)) rfl
theorem ins2 (w : World) : (Instr.mapUpdate 52 (.map (some w.heap.size)) (.int .i64 204) (.string ⟨#[78, 111, 32, 67, 111, 110, 116, 101, 110, 116]⟩)).run Tryd.prog (w.alloc (.map (stM 2) 2)) = .ok () (w.alloc (.map (stM 3) 3)) := ins_run w (stM 2) _ 2 _ _ (by decide) (stM_keys 2 204 (by decide)) rfl
theorem ins3 (w : World) : (Instr.mapUpdate 52 (.map (some w.heap.size)) (.int .i64 400) (.string ⟨#[66, 97, 100, 32, 82, 101, 113, 117, 101, 115, 116]⟩)).run Tryd.prog (w.alloc (.map (stM 3) 3)) = .ok () (w.alloc (.map (stM 4) 4)) := ins_run w (stM 3) _ 3 _ _ (by decide) (stM_keys 3 400 (by decide)) rfl
theorem ins4 (w : World) : (Instr.mapUpdate 52 (.map (some w.heap.size)) (.int .i64 401) (.string ⟨#[85, 110, 97, 117, 116, 104, 111, 114, 105, 122, 101, 100]⟩)).run Tryd.prog (w.alloc (.map (stM 4) 4)) = .ok () (w.alloc (.map (stM 5) 5)) := ins_run w (stM 4) _ 4 _ _ (by decide) (stM_keys 4 401 (by decide)) rfl
theorem ins5 (w : World) : (Instr.mapUpdate 52 (.map (some w.heap.size)) (.int .i64 404) (.string ⟨#[78, 111, 116, 32, 70, 111, 117, 110, 100]⟩)).run Tryd.prog (w.alloc (.map (stM 5) 5)) = .ok () (w.alloc (.map (stM 6) 6)) := ins_run w (stM 5) _ 5 _ _ (by decide) (stM_keys 5 404 (by decide)) rfl
theorem ins6 (w : World) : (Instr.mapUpdate 52 (.map (some w.heap.size)) (.int .i64 405) (.string ⟨#[77, 101, 116, 104, 111, 100, 32, 78, 111, 116, 32, 65, 108, 108, 111, 119, 101, 100]⟩)).run Tryd.prog (w.alloc (.map (stM 6) 6)) = .ok () (w.alloc (.map (stM 7) 7)) := ins_run w (stM 6) _ 6 _ _ (by decide) (stM_keys 6 405 (by decide)) rfl
theorem ins7 (w : World) : (Instr.mapUpdate 52 (.map (some w.heap.size)) (.int .i64 413) (.string ⟨#[67, 111, 110, 116, 101, 110, 116, 32, 84, 111, 111, 32, 76, 97, 114, 103, 101]⟩)).run Tryd.prog (w.alloc (.map (stM 7) 7)) = .ok () (w.alloc (.map (stM 8) 8)) := ins_run w (stM 7) _ 7 _ _ (by decide) (stM_keys 7 413 (by decide)) rfl
theorem ins8 (w : World) : (Instr.mapUpdate 52 (.map (some w.heap.size)) (.int .i64 429) (.string ⟨#[84, 111, 111, 32, 77, 97, 110, 121, 32, 82, 101, 113, 117, 101, 115, 116, 115]⟩)).run Tryd.prog (w.alloc (.map (stM 8) 8)) = .ok () (w.alloc (.map (stM 9) 9)) := ins_run w (stM 8) _ 8 _ _ (by decide) (stM_keys 8 429 (by decide)) rfl
theorem ins9 (w : World) : (Instr.mapUpdate 52 (.map (some w.heap.size)) (.int .i64 431) (.string ⟨#[82, 101, 113, 117, 101, 115, 116, 32, 72, 101, 97, 100, 101, 114, 32, 70, 105, 101, 108, 100, 115, 32, 84, 111, 111, 32, 76, 97, 114, 103, 101]⟩)).run Tryd.prog (w.alloc (.map (stM 9) 9)) = .ok () (w.alloc (.map (stM 10) 10)) := ins_run w (stM 9) _ 9 _ _ (by decide) (stM_keys 9 431 (by decide)) rfl
theorem ins10 (w : World) : (Instr.mapUpdate 52 (.map (some w.heap.size)) (.int .i64 500) (.string ⟨#[73, 110, 116, 101, 114, 110, 97, 108, 32, 83, 101, 114, 118, 101, 114, 32, 69, 114, 114, 111, 114]⟩)).run Tryd.prog (w.alloc (.map (stM 10) 10)) = .ok () (w.alloc (.map (stM 11) 11)) := ins_run w (stM 10) _ 10 _ _ (by decide) (stM_keys 10 500 (by decide)) rfl
theorem ins11 (w : World) : (Instr.mapUpdate 52 (.map (some w.heap.size)) (.int .i64 503) (.string ⟨#[83, 101, 114, 118, 105, 99, 101, 32, 85, 110, 97, 118, 97, 105, 108, 97, 98, 108, 101]⟩)).run Tryd.prog (w.alloc (.map (stM 11) 11)) = .ok () (w.alloc (.map (stM 12) 12)) := ins_run w (stM 11) _ 11 _ _ (by decide) (stM_keys 11 503 (by decide)) rfl
theorem ins12 (w : World) : (Instr.mapUpdate 52 (.map (some w.heap.size)) (.int .i64 507) (.string ⟨#[73, 110, 115, 117, 102, 102, 105, 99, 105, 101, 110, 116, 32, 83, 116, 111, 114, 97, 103, 101]⟩)).run Tryd.prog (w.alloc (.map (stM 12) 12)) = .ok () (w.alloc (.map (stM 13) 13)) := ins_run w (stM 12) _ 12 _ _ (by decide) (stM_keys 12 507 (by decide)) rfl
set_option maxRecDepth 100000 in
theorem all_ok (w : World) : Calls Tryd.prog 28 #[] w fun e w' => e = .returned (.map (some w.heap.size)) ∧ w' = w.alloc (.map (stM 13) 13) := by
  have hmm := @run_makeMap Tryd.prog
  have hi0 := ins0 w
  have hi1 := ins1 w
  have hi2 := ins2 w
  have hi3 := ins3 w
  have hi4 := ins4 w
  have hi5 := ins5 w
  have hi6 := ins6 w
  have hi7 := ins7 w
  have hi8 := ins8 w
  have hi9 := ins9 w
  have hi10 := ins10 w
  have hi11 := ins11 w
  have hi12 := ins12 w
  go_enter Tryd.func28, Tryd.ntmps28
  go_wp2
  go_ret
  exact ⟨rfl, rfl⟩
theorem st_wf : ∀ p ∈ stats, (Lit.int .i64 p.1).wf = true := by decide
theorem look_ok (w : World) (a : Int) (hw : (Lit.int .i64 a).wf = true) : (Instr.lookup 52 (.map (some w.heap.size)) (.int .i64 a) false).run Tryd.prog (w.alloc (.map (stM 13) 13)) = .ok (.string (wordsB a)) (w.alloc (.map (stM 13) 13)) := by
  have K := Go.Maps.int_keyed Tryd.underlying3
  have hb : (w.alloc (.map (stM 13) 13)).heap[w.heap.size]? = some (.map (stM 13) 13) := by simpa using heap_alloc_new w _
  have hkey : keyOf Tryd.prog 3 (.int .i64 a) = some (.int .i64 a) := Go.Maps.keyOf_int_mk Tryd.underlying3 hw
  have hz : (zeroValue 9).run Tryd.prog (w.alloc (.map (stM 13) 13)) = .ok (.string ⟨#[]⟩) (w.alloc (.map (stM 13) 13)) := Tryd.zeroValue9 _
  have hks : ∀ e ∈ (stM 13).toList, ∃ p ∈ stats, e.key = .int .i64 p.1 ∧ e.val = .string p.2 := fun e h => by
    obtain ⟨p, hp, h2⟩ := stA_keys 13 0 stats e (by simpa [stM] using h)
    exact ⟨p, List.mem_of_mem_take hp, h2⟩
  rcases K.find (w.alloc (.map (stM 13) 13)) hkey (stM 13).toList (fun e h => by obtain ⟨p, hp, h1, _⟩ := hks e h; exact ⟨_, by rw [h1]; exact Go.Maps.keyOf_int_mk Tryd.underlying3 (st_wf p hp)⟩) with ⟨h1, h2⟩ | ⟨j, e0, h1, h2, h3⟩
  · have hnone : wordsB a = ⟨#[]⟩ := by
      have : stats.find? (fun p => p.1 == a) = none := by
        rw [List.find?_eq_none]
        intro p hp
        simp only [beq_iff_eq]
        intro e
        subst e
        have hall : ∀ p ∈ stats, ∃ e ∈ (stM 13).toList, e.key = .int .i64 p.1 := by
          intro p hp
          simp only [stats, List.mem_cons, List.not_mem_nil, or_false] at hp
          rcases hp with rfl | rfl | rfl | rfl | rfl | rfl | rfl | rfl | rfl | rfl | rfl | rfl | rfl <;> simp [stM, stA, stats]
        obtain ⟨e, h4, h5⟩ := hall p hp
        exact h2 e h4 h5
      unfold wordsB
      rw [this]
      rfl
    rw [hnone]
    simp [Instr.lookup, run_underlying Tryd.underlying52, MapKept.run_getObj_map hb, K.check _ _ hkey, h1, hz, Result.andThen]
  · have hval : e0.val = .string (wordsB a) := by
      obtain ⟨p, hp, h4, h5⟩ := hks e0 (List.mem_of_getElem? h2)
      rw [h4] at h3
      injection h3 with _ h3
      rw [h5, ← h3]
      have hw2 : ∀ p ∈ stats, wordsB p.1 = p.2 := by decide
      rw [hw2 p hp]
    simp [Instr.lookup, run_underlying Tryd.underlying52, MapKept.run_getObj_map hb, K.check _ _ hkey, h1, Result.andThen, hval]
theorem words_any (w : World) (a : Int) (hw : (Lit.int .i64 a).wf = true) : Calls Tryd.prog 18 #[.int .i64 a] w fun e w' => e = .returned (.string (wordsB a)) ∧ Below w.heap.size w w' := by
  have hl := look_ok w a hw
  go_enter Tryd.func18, Tryd.ntmps18
  go_wp2_with (first | (go_at_call 28; go_must (refine (all_ok w).mono ?_; rintro e w1 ⟨rfl, rfl⟩)))
  go_ret
  exact ⟨rfl, below_alloc (Below.refl _ _) _⟩
end Go.Proofs.YthacomeiinejaaaDoor
