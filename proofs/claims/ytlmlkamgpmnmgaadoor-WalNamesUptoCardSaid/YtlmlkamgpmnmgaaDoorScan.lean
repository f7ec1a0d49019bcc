/-
  Scan, Records: walked.
-/
import Derived.Test.YtlmlkamgpmnmgaaDoorEach
set_option linter.unusedVariables false
set_option linter.unusedSimpArgs false
namespace Go.Proofs.YtlmlkamgpmnmgaaDoor
open Go.RowKit Go.Proofs.YtlmlkamgpmnmgaaDoorW.PrintWords
theorem ss_new (w : World) : SS w ((w.alloc (.cells #[.slice none 0 0] 50)).alloc (.cells #[.int .i64 0] 3)) w.heap.size (w.heap.size + 1) (.slice none 0 0) [] 0 := by
  have hs : (w.alloc (.cells #[.slice none 0 0] 50)).heap.size = w.heap.size + 1 := by simp
  refine ⟨Nat.le_refl _, by omega, ?_, ?_, SRow.nil _ _, ((Below.refl _ w).alloc (Nat.le_refl _) _).alloc (by simp) _⟩
  · rw [Below.heap_alloc _ _ _ (by simp)]
    exact heap_alloc_new w _
  · have := heap_alloc_new (w.alloc (.cells #[.slice none 0 0] 50)) (.cells #[.int .i64 0] 3)
    rwa [hs] at this
theorem results_cct {P : Program} {fn : Func} {tmps : Array Value} {w : World} {p q u : Tmp} {tp tq : TypeId} {a b : Addr} {va vb : Value} (h : fn.results = #[.cell p tp, .cell q tq, .tmp u]) (hp : tmps.getD p undef = .pointer (some a)) (hq : tmps.getD q undef = .pointer (some b))
    (ha : (loadVar tp a).run P w = .ok va w) (hb : (loadVar tq b).run P w = .ok vb w) : (results fn tmps).run P w = .ok (.tuple #[va, vb, tmps.getD u undef]) w := by
  have hp' : tmps[p]?.getD undef = .pointer (some a) := by simpa using hp
  have hq' : tmps[q]?.getD undef = .pointer (some b) := by simpa using hq
  simp [results, h, hp', hq', asAddr, ha, hb]
theorem SS.again {wS w : World} {vr ve : Nat} {v : Value} {recs : List ByteArray} {en : Nat} (h : SS wS w vr ve v recs en) : SS wS ((w.setCell ⟨vr, 0, none⟩ v).setCell ⟨ve, 0, none⟩ (.int .i64 (en : Int))) vr ve v recs en := by
  have hn1 := own_ne h.row h.br (by decide)
  have hn2 := own_ne h.row h.be (by decide)
  refine ⟨h.ger, h.gee, blk_far (blk_set h.br 0 v) h.ne _, blk_set (blk_far h.be (Ne.symm h.ne) v) 0 _, ?_, (h.bel.setCell (p := ⟨vr, 0, none⟩) h.ger _).setCell (p := ⟨ve, 0, none⟩) h.gee _⟩
  refine h.row.frame fun q hq => ?_
  have hq1 : q ≠ vr := fun e => hn1 (by rw [hq, e])
  have hq2 : q ≠ ve := fun e => hn2 (by rw [hq, e])
  exact (Below.heap_setCell _ _ _ _ hq2).trans (Below.heap_setCell _ _ _ _ hq1)
theorem load_strs {w : World} {vr : Nat} {A : Option Addr} {n c : Nat} (h : w.cell? ⟨vr, 0, none⟩ = some (.slice A n c)) : (loadVar 50 ⟨vr, 0, none⟩).run Tryd.prog w = .ok (.slice A n c) w := by
  go_simp
theorem load_int {w : World} {ve : Nat} {i : Int} (h : w.cell? ⟨ve, 0, none⟩ = some (.int .i64 i)) : (loadVar 3 ⟨ve, 0, none⟩).run Tryd.prog w = .ok (.int .i64 i) w := by
  go_simp
set_option maxHeartbeats 1000000 in
set_option maxRecDepth 100000 in
theorem scan_any {w : World} {A : Option Addr} {n c : Nat} {L : List UInt8} (hr : Rd w A n L) (hnc : n ≤ c) (hn : n ≤ 1073741824) :
    Calls Tryd.prog 19 #[.slice A n c] w fun e w' => ∃ v, e = .returned (.tuple #[v, .int .i64 (((scanR L).2.1 : Nat) : Int), .int .i64 (((scanR L).2.2 : Nat) : Int)]) ∧ SRow w' w.heap.size v (scanR L).1 ∧ Below w.heap.size w w' := by
  have hmf : ∀ (fn : Fn) (first cap : Array Value) (w : World), (Instr.makeFunc fn first cap).run Tryd.prog w = .ok (.func fn first cap) w := fun _ _ _ _ => rfl
  have hL := hr.len
  have hE := Lib.hid (each_any (ss_new w) hr hnc hn (by simp))
  rw [← hL] at hE
  change Hid (Calls _ _ _ _ (fun e w' => e = .returned (.int .i64 (((scanR L).2.2 : Nat) : Int)) ∧ ∃ v', SS w w' w.heap.size (w.heap.size + 1) v' (scanR L).1 (scanR L).2.1)) at hE
  generalize scanR L = fin at *
  rw [hL] at hE
  clear hL
  go_enter Tryd.func19, Tryd.ntmps19
  go_wp2_with (first | (go_at_call 33; go_must (refine hE.out.mono ?_; rintro e w2 ⟨rfl, v2, hs2⟩)))
  obtain ⟨A2, c2, hve, _, _⟩ := hs2.row.rd
  subst hve
  have k0 : w2.cell? ⟨w.heap.size, 0, none⟩ = some (.slice A2 fin.1.length c2) := (blk_cell hs2.br 0).trans rfl
  have k1 : w2.cell? ⟨w.heap.size + 1, 0, none⟩ = some (.int .i64 (fin.2.1 : Int)) := (blk_cell hs2.be 0).trans rfl
  have f0 := blk_frozen hs2.br 0
  have f1 := blk_frozen hs2.be 0
  replace hs2 := Lib.hid hs2
  go_region
  all_goals (try go_wp2)
  have h4 := hs2.out.again.drew
  exact bodyPost_ret (results_cct rfl rfl rfl (load_strs ((blk_cell h4.br 0).trans rfl)) (load_int ((blk_cell h4.be 0).trans rfl))) rfl ⟨_, rfl, h4.row, h4.bel⟩
set_option maxHeartbeats 400000 in
theorem records_any (w : World) (A : Option Addr) (n c : Nat) (L : List UInt8) (hr : Rd w A n L) :
    Calls Tryd.prog 20 #[.slice A n c] w fun e w' => e = .returned (.func (.func 35) #[] #[.pointer (some ⟨w.heap.size, 0, none⟩)]) ∧ Below w.heap.size w w' := by
  have hmf : ∀ (fn : Fn) (first cap : Array Value) (w : World), (Instr.makeFunc fn first cap).run Tryd.prog w = .ok (.func fn first cap) w := fun _ _ _ _ => rfl
  have hcv := conv_rd c hr
  have h1 := Lib.hid ((Below.refl w.heap.size w).alloc (Nat.le_refl _) (.cells #[.string ⟨#[]⟩] 9))
  go_enter Tryd.func20, Tryd.ntmps20
  go_wp2
  go_ret
  exact ⟨rfl, (Below.refl _ w).alloc (Nat.le_refl _) _⟩
end Go.Proofs.YtlmlkamgpmnmgaaDoor
