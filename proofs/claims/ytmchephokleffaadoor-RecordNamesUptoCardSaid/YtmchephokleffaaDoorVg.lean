/-
  Chapter 22: the map of shapes, walked.
-/
import Derived.Test.YtmchephokleffaaDoorVf
import Derived.Maps.RangeRun
import Derived.Maps.RangeWalk
set_option linter.unusedVariables false
set_option linter.unusedSimpArgs false
namespace Go.Proofs.YtmchephokleffaaDoor
open Go.RowKit Go.Proofs.YtmchephokleffaaDoorW.PrintWords Go.Proofs.YtmchephokleffaaDoor.PRecord
theorem push_set (h : Array Obj) (o o' : Obj) : (h.push o).setIfInBounds h.size o' = h.push o' := by
  apply Array.ext'
  rw [Array.toList_setIfInBounds, Array.toList_push, Array.toList_push, List.set_append_right _ _ (by simp)]
  simp
theorem check_int (kt : TypeId) (hk : Tryd.prog.underlying kt = some (.int .i64)) (w : World) (x : Int) (n : Nat) : (Instr.checkKey false (n + 1) kt (.int .i64 x)).run Tryd.prog w = .ok () w := by
  simp [Instr.checkKey, run_underlying hk, Result.andThen]
/-- A store of a new key into a map that lies in the heap's last block. -/
theorem ins_at (t kt et : TypeId) (ht : Tryd.prog.underlying t = some (.map kt et)) (hk : Tryd.prog.underlying kt = some (.int .i64)) (w : World) (es : Array MapEntry) (clock : Nat) (x : Int) (v : Value)
    (hf : Instr.findNow (.int .i64) (.int .i64 x) es.toList 0 = some none) :
    (Instr.mapUpdate t (.map (some w.heap.size)) (.int .i64 x) v).run Tryd.prog (w.alloc (.map es clock)) = .ok () (w.alloc (.map (es.push ⟨.int .i64 x, v, clock⟩) (clock + 1))) := by
  have hb : (w.alloc (.map es clock)).heap[w.heap.size]? = some (.map es clock) := heap_alloc_new w _
  have hck := check_int kt hk (w.alloc (.map es clock)) x 9999
  rw [show 9999 + 1 = 10000 from rfl] at hck
  simp only [Instr.mapUpdate, Instr.findKey, Sem.run_bind, run_underlying ht, run_underlying hk, MapKept.run_getObj_map hb, MapKept.run_setObj_map _ hb, hck, hf, Result.andThen_ok, Sem.run_pure]
  unfold World.alloc
  simp [push_set]
def shE (letter : ByteArray) (p r : FuncId) : Value := .agg #[.string letter, .func (.func p) #[] #[], .func (.func r) #[] #[]]
def sh1 : Value := shE ⟨#[108]⟩ 53 54
def sh2 : Value := shE ⟨#[115]⟩ 55 56
def sh3 : Value := shE ⟨#[117]⟩ 58 59
def sh4 : Value := shE ⟨#[101]⟩ 61 63
def sh5 : Value := shE ⟨#[97]⟩ 64 65
def shM : Array MapEntry := #[⟨.int .i64 1, sh1, 0⟩, ⟨.int .i64 2, sh2, 1⟩, ⟨.int .i64 3, sh3, 2⟩, ⟨.int .i64 4, sh4, 3⟩, ⟨.int .i64 5, sh5, 4⟩]
set_option maxHeartbeats 2000000 in
theorem shapes_any (w : World) : Calls Tryd.prog 41 #[] w fun e w' => e = .returned (.map (some w.heap.size)) ∧ w' = w.alloc (.map shM 5) := by
  have hi1 := ins_at 72 3 77 Tryd.underlying72 Tryd.underlying3 w #[] 0 1 sh1 rfl
  have hi2 := ins_at 72 3 77 Tryd.underlying72 Tryd.underlying3 w #[⟨.int .i64 1, sh1, 0⟩] 1 2 sh2 rfl
  have hi3 := ins_at 72 3 77 Tryd.underlying72 Tryd.underlying3 w #[⟨.int .i64 1, sh1, 0⟩, ⟨.int .i64 2, sh2, 1⟩] 2 3 sh3 rfl
  have hi4 := ins_at 72 3 77 Tryd.underlying72 Tryd.underlying3 w #[⟨.int .i64 1, sh1, 0⟩, ⟨.int .i64 2, sh2, 1⟩, ⟨.int .i64 3, sh3, 2⟩] 3 4 sh4 rfl
  have hi5 := ins_at 72 3 77 Tryd.underlying72 Tryd.underlying3 w #[⟨.int .i64 1, sh1, 0⟩, ⟨.int .i64 2, sh2, 1⟩, ⟨.int .i64 3, sh3, 2⟩, ⟨.int .i64 4, sh4, 3⟩] 4 5 sh5 rfl
  simp only [List.push_toArray, List.nil_append, List.cons_append, sh1, sh2, sh3, sh4, sh5, shE, Nat.reduceAdd] at hi1 hi2 hi3 hi4 hi5
  have hmm := @run_makeMap Tryd.prog
  go_enter Tryd.func41, Tryd.ntmps41
  go_wp2_with (fail)
  go_ret
  exact ⟨rfl, rfl⟩
theorem shapes_at (w : World) (b : Nat) (hb : w.heap.size = b) : Calls Tryd.prog 41 #[] w fun e w' => e = .returned (.map (some b)) ∧ w' = w.alloc (.map shM 5) := by
  subst hb
  exact shapes_any w
end Go.Proofs.YtmchephokleffaaDoor
