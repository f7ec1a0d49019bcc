/-
  Chapter 11: how a level's files are told apart: cmp.Compare, cmp.Or, the order of a level.
-/
import Derived.Test.YtbhfcjgejnnpcaaMe
import Derived.Test.YtbhfcjgejnnpcaaShelf
set_option linter.unusedVariables false
set_option linter.unusedSimpArgs false
namespace Go.Proofs.Ytbhfcjgejnnpcaa
open Go.RowKit Go.Proofs.YtbhfcjgejnnpcaaW.PrintWords Go.Proofs.Ytbhfcjgejnnpcaa.PManifest
def cmpI (x y : Int) : Int := if x < y then -1 else if y < x then 1 else 0
def cmpS (x y : ByteArray) : Int := if lessB x y = true then -1 else if lessB y x = true then 1 else 0
def cmpT (n : Int) (a b : S44) : Int := if n = 0 then cmpI a.f0 b.f0 else if cmpS a.f3 b.f3 = 0 then cmpI a.f0 b.f0 else cmpS a.f3 b.f3
theorem cmpI_any (x y : Int) (w : World) : Calls Try.prog 68 #[.int .i64 x, .int .i64 y] w fun e w' => e = .returned (.int .i64 (cmpI x y)) ∧ w = w' := by
  refine (Try.cmp_Compare_int x y w).mono fun e w' h => ⟨?_, h.2.symm⟩
  rw [h.1]
  rfl
set_option maxRecDepth 100000 in
theorem nanS_any (x : ByteArray) (w : World) : Calls Try.prog 88 #[.string x] w fun e w' => e = .returned (.bool false) ∧ w = w' := by
  have k1 : (x.toList == x.toList) = true := beq_self_eq_true _
  have k2 : (x.toList != x.toList) = false := by rw [bne, k1]; rfl
  go_enter Try.func88, Try.ntmps88
  go_wp2
  go_ret
  exact ⟨rfl, rfl⟩
set_option maxRecDepth 100000 in
theorem cmpS_any (x y : ByteArray) (w : World) : Calls Try.prog 70 #[.string x, .string y] w fun e w' => e = .returned (.int .i64 (cmpS x y)) ∧ w = w' := by
  unfold cmpS lessB
  cases h1 : Op.bytesLess x.toList y.toList <;> cases h2 : Op.bytesLess y.toList x.toList
  all_goals
    have h3 := less_flip x.toList y.toList
    rw [h1, h2] at h3
    first | (rw [if_pos rfl]) | (rw [if_neg (by decide)]; first | (rw [if_pos rfl]) | (rw [if_neg (by decide)]))
    go_enter Try.func70, Try.ntmps70
    go_wp2_with (first | (go_at_call 88; go_must (refine (nanS_any _ _).mono ?_; rintro e w' ⟨rfl, rfl⟩)))
    go_ret
    exact ⟨rfl, rfl⟩
set_option maxRecDepth 100000 in
theorem or_any (x y : Int) (g : Nat) (w : World) (h0 : w.cell? ⟨g, 0, none⟩ = some (.int .i64 x)) (h1 : w.cell? ⟨g, 1, none⟩ = some (.int .i64 y)) :
    Calls Try.prog 69 #[.slice (some ⟨g, 0, none⟩) 2 2] w fun e w' => e = .returned (.int .i64 (if x = 0 then y else x)) ∧ w = w' := by
  go_enter Try.func69, Try.ntmps69
  go_wp2
  go_loop [8] (fun i => i = .int .i64 0 ∨ (i = .int .i64 1 ∧ x = 0) ∨ (i = .int .i64 2 ∧ x = 0 ∧ y = 0)) (fun i => 2 - (intOf i).toNat)
  case atStart => exact Or.inl rfl
  case round =>
    rcases hrel with rfl | ⟨rfl, hx⟩ | ⟨rfl, hx, hy⟩
    · by_cases hx : x = 0
      · subst hx
        go_wp2
        go_round
        case rel => simp
        case measure => simp [intOf]
      · have k : (x == 0) = false := beq_eq_false_iff_ne.2 hx
        have k2 : (x != 0) = true := by rw [bne, k]; rfl
        go_wp2
        go_ret
        exact ⟨rfl, rfl⟩
    · subst hx
      by_cases hy : y = 0
      · subst hy
        go_wp2
        go_round
        case rel => simp
        case measure => simp [intOf]
      · have k : (y == 0) = false := beq_eq_false_iff_ne.2 hy
        have k2 : (y != 0) = true := by rw [bne, k]; rfl
        go_wp2
        go_ret
        exact ⟨rfl, rfl⟩
    · subst hx
      subst hy
      go_wp2
      go_ret
      exact ⟨rfl, rfl⟩
/-- Blocks and draws behind a world. -/
def DW (W V : World) : Prop := ∃ q os', V = Go.Sort.grow (W.drewN q) os'
theorem DW.refl (W : World) : DW W W := ⟨0, #[], by simp [Go.Sort.grow]; rfl⟩
theorem DW.alloc {W V : World} (h : DW W V) (o : Obj) : DW W (V.alloc o) := by
  obtain ⟨q, os, rfl⟩ := h
  exact ⟨q, _, by rw [Go.Sort.alloc_eq_grow, Go.Sort.grow_grow]⟩
theorem DW.drew {W V : World} (h : DW W V) : DW W V.drew := by
  obtain ⟨q, os, rfl⟩ := h
  exact ⟨q + 1, os, rfl⟩
/-- The two files of a comparison in their boxes. -/
def BX (W : World) (a b : S44) (V : World) : Prop := V.heap[W.heap.size]? = some (.cells #[.int .i64 a.f0, .int .i64 a.f1, .int .i64 a.f2, .string a.f3, .string a.f4] 44 (0, 0)) ∧ V.heap[W.heap.size + 1]? = some (.cells #[.int .i64 b.f0, .int .i64 b.f1, .int .i64 b.f2, .string b.f3, .string b.f4] 44 (0, 0)) ∧ DW W V
theorem BX.alloc {W V : World} {a b : S44} (h : BX W a b V) (o : Obj) : BX W a b (V.alloc o) := ⟨blk_alloc h.1 o, blk_alloc h.2.1 o, h.2.2.alloc o⟩
theorem BX.drew {W V : World} {a b : S44} (h : BX W a b V) : BX W a b V.drew := ⟨h.1, h.2.1, h.2.2.drew⟩
theorem BX.all {W V : World} {a b : S44} (h : BX W a b V) : V.cell? ⟨W.heap.size, 0, none⟩ = some (.int .i64 a.f0) ∧ V.cell? ⟨W.heap.size, 3, none⟩ = some (.string a.f3) ∧ V.cell? ⟨W.heap.size + 1, 0, none⟩ = some (.int .i64 b.f0) ∧ V.cell? ⟨W.heap.size + 1, 3, none⟩ = some (.string b.f3) ∧ BX W a b V :=
  ⟨(blk_cell h.1 0).trans rfl, (blk_cell h.1 3).trans rfl, (blk_cell h.2.1 0).trans rfl, (blk_cell h.2.1 3).trans rfl, h⟩
theorem BX.new (W : World) (a b : S44) : BX W a b ((W.alloc (.cells #[.int .i64 a.f0, .int .i64 a.f1, .int .i64 a.f2, .string a.f3, .string a.f4] 44)).alloc (.cells #[.int .i64 b.f0, .int .i64 b.f1, .int .i64 b.f2, .string b.f3, .string b.f4] 44)) := by
  refine ⟨blk_alloc (heap_alloc_new W _) _, ?_, ((DW.refl W).alloc _).alloc _⟩
  have := heap_alloc_new (W.alloc (.cells #[.int .i64 a.f0, .int .i64 a.f1, .int .i64 a.f2, .string a.f3, .string a.f4] 44)) (.cells #[.int .i64 b.f0, .int .i64 b.f1, .int .i64 b.f2, .string b.f3, .string b.f4] 44)
  simpa using this
set_option maxHeartbeats 1000000 in
set_option maxRecDepth 100000 in
theorem closure_any (n : Int) (p : Addr) (a b : S44) (W : World) (hp : W.cell? p = some (.int .i64 n)) :
    Calls Try.prog 67 #[.agg #[.int .i64 a.f0, .int .i64 a.f1, .int .i64 a.f2, .string a.f3, .string a.f4], .agg #[.int .i64 b.f0, .int .i64 b.f1, .int .i64 b.f2, .string b.f3, .string b.f4], .pointer (some p)] W fun e w' => e = .returned (.int .i64 (cmpT n a b)) ∧ ∃ q os', w' = Go.Sort.grow (W.drewN q) os' := by
  have hb1 := below_alloc (Below.refl W.heap.size W) (.cells #[.int .i64 a.f0, .int .i64 a.f1, .int .i64 a.f2, .string a.f3, .string a.f4] 44)
  have hb2 := below_alloc hb1 (.cells #[.int .i64 b.f0, .int .i64 b.f1, .int .i64 b.f2, .string b.f3, .string b.f4] 44)
  have hp2 := pw_cell_below hb2 hp
  have hI := fun w => cmpI_any a.f0 b.f0 w
  unfold cmpT
  by_cases h0 : n = 0
  · subst h0
    rw [if_pos rfl]
    generalize cmpI a.f0 b.f0 = r at *
    replace hI := Lib.hid hI
    clear hb1 hb2
    go_enter Try.func67, Try.ntmps67
    go_wp2_with (first | (go_at_call 68; go_must (refine (hI.out _).mono ?_; rintro e w' ⟨rfl, rfl⟩)))
    go_ret
    exact ⟨rfl, 0, _, by rw [Go.Sort.alloc_eq_grow, Go.Sort.alloc_eq_grow, Go.Sort.grow_grow]; rfl⟩
  · rw [if_neg h0]
    have k : (n == 0) = false := beq_eq_false_iff_ne.2 h0
    have hS := fun w => cmpS_any a.f3 b.f3 w
    generalize cmpI a.f0 b.f0 = r at *
    generalize cmpS a.f3 b.f3 = s at *
    have hO := fun g w h0 h1 => or_any s r g w h0 h1
    generalize (if s = 0 then r else s) = t at *
    replace hO := Lib.hid hO
    replace hI := Lib.hid hI
    replace hS := Lib.hid hS
    clear hb1 hb2
    go_enter Try.func67, Try.ntmps67
    go_upto_region 3 with (fail)
    have hX0 := Lib.hid (BX.drew (BX.new W a b))
    go_region_held3 (fun V => V.cell? ⟨W.heap.size, 0, none⟩ = some (.int .i64 a.f0) ∧ V.cell? ⟨W.heap.size, 3, none⟩ = some (.string a.f3) ∧ V.cell? ⟨W.heap.size + 1, 0, none⟩ = some (.int .i64 b.f0) ∧ V.cell? ⟨W.heap.size + 1, 3, none⟩ = some (.string b.f3) ∧ BX W a b V) (first | exact hX0.out.all | exact BX.all (by assumption) | exact BX.all (BX.alloc (by assumption) _)) (first | (go_at_call 68; refine (hI.out _).mono ?_; rintro e w' ⟨rfl, rfl⟩) | (go_at_call 70; refine (hS.out _).mono ?_; rintro e w' ⟨rfl, rfl⟩) | (go_at_call 69; refine (hO.out _ _ (by go_simp) (by go_simp)).mono ?_; rintro e w' ⟨rfl, rfl⟩))
    go_wp2
    go_ret
    exact ⟨rfl, ((((DW.refl W).alloc _).alloc _).alloc _).drew⟩
end Go.Proofs.Ytbhfcjgejnnpcaa
