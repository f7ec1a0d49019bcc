/-
  Chapter 11: slices of files: a row of one's own, Clone, Delete, Clip, trimmed.
-/
import Derived.Test.YtbhfcjgejnnpcaaMc
import Derived.Deep.CutBlock
import Derived.StillTailTactics
import Derived.Lib.SliceRun
import Derived.Laws.IdiomCopy
import Derived.WalkSpells
set_option linter.unusedVariables false
set_option linter.unusedSimpArgs false
namespace Go.Proofs.Ytbhfcjgejnnpcaa
open Go.RowKit Go.Proofs.YtbhfcjgejnnpcaaW.PrintWords Go.Proofs.Ytbhfcjgejnnpcaa.PManifest
def cellsT (t : S44) : List Value := [.int .i64 t.f0, .int .i64 t.f1, .int .i64 t.f2, .string t.f3, .string t.f4]
/-- A row of files of the call's own. -/
def Rw (W : World) (base : Nat) (v : Value) (l : List S44) : Prop := Kd.R k44 44 W base (fun _ => True) v l
theorem Rw.below {W W2 : World} {base : Nat} {v : Value} {l : List S44} (h : Rw W base v l) (hb : Below W.heap.size W W2) : Rw W2 base v l := Kd.R_below h hb
theorem Rw.reads {W : World} {base : Nat} {v : Value} {l : List S44} (h : Rw W base v l) : ∃ A c, v = .slice A l.length c ∧ l.length ≤ c ∧ Kd.C k44 W A l.length l := Kd.R_reads h
theorem Rw.nil (W : World) (base : Nat) : Rw W base (.slice none 0 0) [] := Kd.R_nil _ _ _ _ _
theorem Rw.own {W : World} {base : Nat} {v : Value} {l : List S44} (h : Rw W base v l) : ∃ cs, W.ownsRow base 44 5 v l.length cs := ⟨_, h.2.choose_spec.1⟩
theorem Rw.lower {W : World} {base base2 : Nat} {v : Value} {l : List S44} (h : Rw W base v l) (hb : base2 ≤ base) : Rw W base2 v l := by
  obtain ⟨h1, cs, ho, hr⟩ := h
  exact ⟨h1, cs, own_weaken ho hb, hr.imp_ (fun _ _ hp => k44.M_lower hb hp)⟩
theorem Rw.move {W W2 : World} {base : Nat} {v : Value} {l : List S44} (h : Rw W base v l) (hm : ∀ k, v.ownBlock = some k → W2.heap[k]? = W.heap[k]?) : Rw W2 base v l := by
  obtain ⟨h1, cs, ho, hr⟩ := h
  refine ⟨h1, cs, own_move ho hm, hr.imp_ (fun x c hp => ?_)⟩
  have e := k44_openM hp
  subst e
  exact k44_mkM W2 base _ x
theorem Rw.ge {W : World} {base : Nat} {v : Value} {l : List S44} (h : Rw W base v l) : ∀ g, v.ownBlock = some g → base ≤ g ∧ g < W.heap.size := fun g hg => by
  obtain ⟨cs, ho⟩ := h.own
  exact ⟨own_base ho g hg, own_lt ho g hg⟩
/-- A store behind the row's end. -/
theorem Rw.past {W : World} {base g n c i : Nat} {l : List S44} (h : Rw W base (.slice (some ⟨g, 0, none⟩) n c) l) (hi : l.length * 5 ≤ i) (u : Value) : Rw (W.setCell ⟨g, i, none⟩ u) base (.slice (some ⟨g, 0, none⟩) n c) l := by
  obtain ⟨h1, cs, ho, hr⟩ := h
  refine ⟨h1, cs, ?_, hr.imp_ (fun x c hp => ?_)⟩
  · obtain ⟨hl, h2⟩ := ho
    refine ⟨hl, ?_⟩
    rcases h2 with ⟨h2, _⟩ | ⟨g2, cap, cur, hv, hb, hh, hn, hm, hs, ht⟩
    · cases h2
    · injection hv with hg hn2 hc
      injection hg with hg
      injection hg with hg
      subst hg
      refine .inr ⟨g, cap, cur.setIfInBounds i u, by rw [← hn2, ← hc], hb, blk_set hh i u, hn, hm, by simpa using hs, ?_⟩
      rw [← ht, Array.toList_setIfInBounds]
      exact List.take_set_of_le hi
  · have e := k44_openM hp
    subst e
    exact k44_mkM _ base _ x
theorem Rw.cellsAt {W : World} {base g n c : Nat} {l : List S44} (h : Rw W base (.slice (some ⟨g, 0, none⟩) n c) l) : ∃ cur, W.heap[g]? = some (.cells cur 44 (0, 0)) ∧ cur.size = c * 5 ∧ l.length ≤ c := by
  obtain ⟨cs, ho⟩ := h.own
  rcases ho.2 with ⟨h2, _⟩ | ⟨g2, cap, cur, hv, hb, hh, hn, hm, hs, ht⟩
  · cases h2
  · injection hv with hg hn2 hc
    injection hg with hg
    injection hg with hg
    subst hg
    subst hc
    exact ⟨cur, hh, hs, hn⟩
theorem nil_eq (A : Option Addr) (n c : Nat) : ∀ W : World, (binOp .eql 41 (.slice A n c) (.slice none 0 0)).run Try.prog W = .ok (.bool A.isNone) W := fun W => Lib.run_eql_slice_nil W _ 44 A n c 0 0 Try.underlying41
set_option maxHeartbeats 1000000 in
set_option maxRecDepth 100000 in
theorem clone_any (l : List S44) (hl : l.length < 1000000000) (A : Option Addr) (c : Nat) (w : World) (hr : Kd.C k44 w A l.length l) (hc : l.length ≤ c) :
    Calls Try.prog 34 #[.slice A l.length c] w fun e w' => ∃ v, e = .returned v ∧ Rw w' w.heap.size v l ∧ Below w.heap.size w w' := by
  cases A with
  | none =>
    have h0 : l = [] := by
      cases l with
      | nil => rfl
      | cons x r =>
        obtain ⟨ad, e, _⟩ := hr.2.2 (by simp)
        cases e
    subst h0
    clear hr
    have hq : ∀ W : World, (binOp .eql 41 (.slice none 0 c) (.slice none 0 0)).run Try.prog W = .ok (.bool true) W := nil_eq none 0 c
    go_enter Try.func34, Try.ntmps34
    go_wp2
    go_ret
    exact ⟨_, rfl, Rw.nil _ _, Below.refl _ _⟩
  | some ad =>
    have hr0 := Lib.hid (Kd.C_below hr (below_alloc (Below.refl w.heap.size w) (.cells #[] 44)))
    have hb0 := Lib.hid (below_alloc (Below.refl w.heap.size w) (.cells #[] 44))
    have hv0 : Rw (w.alloc (.cells #[] 44)) w.heap.size (.slice (some ⟨w.heap.size, 0, none⟩) 0 0) [] :=
      ⟨fun _ _ => trivial, [], ⟨by simp, .inr ⟨w.heap.size, 0, #[], rfl, Nat.le_refl _, heap_alloc_new w _, Nat.le_refl _, by unfold maxLen; omega, rfl, rfl⟩⟩, Reps.none _ _⟩
    replace hv0 := Lib.hid hv0
    clear hr
    have hq : ∀ W : World, (binOp .eql 41 (.slice (some ad) l.length c) (.slice none 0 0)).run Try.prog W = .ok (.bool false) W := nil_eq (some ad) l.length c
    go_enter Try.func34, Try.ntmps34
    go_wp2_with (first | (at_builtin; go_must (refine Kd.R_append_rows k44 (w0 := w) w.heap.size rfl (.tmp 5) (.tmp 6) 41 44 (.agg #[(.int .i64 0), (.int .i64 0), (.int .i64 0), (.string ⟨#[]⟩), (.string ⟨#[]⟩)]) 56 rfl Try.underlying41 info44 rfl (by decide) (by omega) (.slice (some ⟨w.heap.size, 0, none⟩) 0 0) ([] : List S44) l (some ad) l.length c (fun _ => True) (fun _ => False) rfl rfl hv0.out hr0.out (fun x cs h => by rw [k44_open h]; exact k44_mkM _ _ _ x) (fun _ h => h.elim) (fun _ _ => trivial) hb0.out hb0.out.size (by simp; omega) ?_; intro v1 w1 ho hb hg hat; replace ho := Lib.hid ho; replace hb := Lib.hid hb; clear hg hat)))
    go_ret
    exact ⟨_, rfl, ho.out, hb.out⟩
def zeros5 : List Value := [.int .i64 0, .int .i64 0, .int .i64 0, .string ⟨#[]⟩, .string ⟨#[]⟩]
theorem zeroT (w : World) : (zeroValue 44).run Try.prog w = .ok (.agg #[.int .i64 0, .int .i64 0, .int .i64 0, .string ⟨#[]⟩, .string ⟨#[]⟩]) w := by kernel_rfl
theorem run_clear_one (w : World) (ty : TypeId) (b o c : Nat) (hc : ∀ j, j < 5 → (w.cell? ⟨b, o + j, none⟩).isSome = true) (hf : ∀ j, j < 5 → w.frozen? ⟨b, o + j, none⟩ = false) :
    (Builtin.clear_ #[41] ty #[.slice (some ⟨b, o, none⟩) 1 c]).run Try.prog w = .ok (.tuple #[]) (w.setCells b o zeros5) := by
  have hzc : (Builtin.zeroCells (Value.agg #[.int .i64 0, .int .i64 0, .int .i64 0, .string ⟨#[]⟩, .string ⟨#[]⟩]).cells 1).toList = zeros5 := by
    unfold Builtin.zeroCells Value.cells zeros5
    apply List.ext_getElem
    · simp
    · intro i h1 h2
      simp at h2
      match i, h2 with
      | 0, _ => simp
      | 1, _ => simp
      | 2, _ => simp
      | 3, _ => simp
      | 4, _ => simp
      | n + 5, h => exact absurd h (by omega)
  have hst := run_storeCells_cells (P := Try.prog) b o zeros5 0 w (fun j hj => by rw [Nat.add_zero]; exact hc j hj) (fun j hj => by rw [Nat.add_zero]; exact hf j hj) (by intro u hu; simp [zeros5] at hu; rcases hu with rfl | rfl <;> rfl)
  simp only [Nat.add_zero] at hst
  simp [Builtin.clear_, run_underlying Try.underlying41, zeroT, hzc, hst]
theorem setCells5 (w : World) (b o : Nat) : w.setCells b o zeros5 = ((((w.setCell ⟨b, o, none⟩ (.int .i64 0)).setCell ⟨b, o + 1, none⟩ (.int .i64 0)).setCell ⟨b, o + 1 + 1, none⟩ (.int .i64 0)).setCell ⟨b, o + 1 + 1 + 1, none⟩ (.string ⟨#[]⟩)).setCell ⟨b, o + 1 + 1 + 1 + 1, none⟩ (.string ⟨#[]⟩) := rfl
theorem Rw.cleared {W : World} {base g n c o : Nat} {l : List S44} (h : Rw W base (.slice (some ⟨g, 0, none⟩) n c) l) (ho : l.length * 5 ≤ o) : Rw (W.setCells g o zeros5) base (.slice (some ⟨g, 0, none⟩) n c) l := by
  rw [setCells5]
  exact ((((h.past ho _).past (by omega) _).past (by omega) _).past (by omega) _).past (by omega) _
theorem grown_set {w W : World} {g : Nat} (h : w.grownBy W (some g)) (i : Nat) (u : Value) : w.grownBy (W.setCell ⟨g, i, none⟩ u) (some g) := by
  obtain ⟨h1, h2, h3, h4, h5⟩ := h
  have hk := Below.setCell (a := W) (w := W) (B := g) (Below.refl _ _) (p := ⟨g, i, none⟩) (Nat.le_refl _) u
  refine ⟨hk.os.trans h1, hk.tape.trans h2, hk.output.trans h3, Nat.le_trans h4 hk.size, fun j hj hne => ?_⟩
  exact (Below.heap_setCell _ ⟨g, i, none⟩ _ j (by intro e; exact hne (by rw [e]))).trans (h5 j hj hne)
theorem info44s : (Try.prog.info? 44).map (·.size) = some 5 := by kernel_rfl
theorem slice_h (W : World) (g n c m : Nat) (hm : m ≤ c) : (Instr.slice 41 (.slice (some ⟨g, 0, none⟩) n c) none (some (.int .i64 (m : Int))) none).run Try.prog W = .ok (.slice (some ⟨g, 0, none⟩) m c) W := by
  have hel : Try.prog.elem 41 = 44 := by simp [Program.elem, Try.underlying41]
  have hu : Try.prog.underlying 41 = some (.slice (Try.prog.elem 41)) := by rw [hel]; exact Try.underlying41
  obtain ⟨i, hi, hsz⟩ := Option.map_eq_some_iff.1 info44s
  rw [run_slice_h W 41 (some ⟨g, 0, none⟩) n c hu .i64 (m : Int) (Int.natCast_nonneg _) (by omega), hel]
  simp [Go.sizeOf, typeInfo, hi, hsz, sliced, Result.andThen, add_plain]
theorem slice_l (W : World) (A : Option Addr) (n c m : Nat) (hm : m ≤ n) : (Instr.slice 41 (.slice A n c) (some (.int .i64 (m : Int))) none none).run Try.prog W = .ok (.slice (if c = m then A else A.map (·.add (m * 5))) (n - m) (c - m)) W := by
  have hel : Try.prog.elem 41 = 44 := by simp [Program.elem, Try.underlying41]
  have hu : Try.prog.underlying 41 = some (.slice (Try.prog.elem 41)) := by rw [hel]; exact Try.underlying41
  obtain ⟨i, hi, hsz⟩ := Option.map_eq_some_iff.1 info44s
  rw [run_slice_l W 41 A n c hu .i64 (m : Int) (Int.natCast_nonneg _) (by omega), hel]
  simp [Go.sizeOf, typeInfo, hi, hsz, sliced, Result.andThen]
theorem slice_end (W : World) (g m c : Nat) (hm : m + 1 ≤ c) : (Instr.slice 41 (.slice (some ⟨g, 0, none⟩) m c) (some (.int .i64 (m : Int))) (some (.int .i64 ((m : Int) + 1))) none).run Try.prog W = .ok (.slice (some ⟨g, m * 5, none⟩) 1 (c - m)) W := by
  have hel : Try.prog.elem 41 = 44 := by simp [Program.elem, Try.underlying41]
  have hu : Try.prog.underlying 41 = some (.slice (Try.prog.elem 41)) := by rw [hel]; exact Try.underlying41
  obtain ⟨i, hi, hsz⟩ := Option.map_eq_some_iff.1 info44s
  rw [run_slice_lh W 41 (some ⟨g, 0, none⟩) m c hu .i64 .i64 (m : Int) ((m : Int) + 1) (Int.natCast_nonneg _) (by omega) (by omega), hel]
  have e1 : ((m : Int) + 1).toNat - m = 1 := by omega
  have e2 : ¬ c = m := by omega
  simp [Go.sizeOf, typeInfo, hi, hsz, sliced, Result.andThen, e1, e2, add_plain]
theorem slice_mid (W : World) (A : Option Addr) (k m c : Nat) (hk : k ≤ m) (hc : m + 1 ≤ c) : ∃ v, (Instr.slice 41 (.slice A (m + 1) c) (some (.int .i64 (k : Int))) (some (.int .i64 ((k : Int) + 1))) (some (.int .i64 ((m : Int) + 1)))).run Try.prog W = .ok v W := by
  have hel : Try.prog.elem 41 = 44 := by simp [Program.elem, Try.underlying41]
  have hu : Try.prog.underlying 41 = some (.slice (Try.prog.elem 41)) := by rw [hel]; exact Try.underlying41
  obtain ⟨i, hi, hsz⟩ := Option.map_eq_some_iff.1 info44s
  rw [run_slice_lhm W 41 A (m + 1) c hu .i64 .i64 .i64 (k : Int) ((k : Int) + 1) ((m : Int) + 1) (Int.natCast_nonneg _) (by omega) (by omega) (by omega), hel]
  simp [Go.sizeOf, typeInfo, hi, hsz, sliced, Result.andThen]
set_option maxHeartbeats 1000000 in
set_option maxRecDepth 100000 in
theorem delete_any (l : List S44) (m : Nat) (hlm : l.length = m + 1) (hl : l.length < 1000000000) (g c k : Nat) (hk : k ≤ m) (base : Nat) (w : World) (hv : Rw w base (.slice (some ⟨g, 0, none⟩) (m + 1) c) l) :
    Calls Try.prog 37 #[.slice (some ⟨g, 0, none⟩) (m + 1) c, .int .i64 (k : Nat), .int .i64 ((k : Int) + 1)] w fun e w' => e = .returned (.slice (some ⟨g, 0, none⟩) m c) ∧ Rw w' base (.slice (some ⟨g, 0, none⟩) m c) (l.eraseIdx k) ∧ w.grownBy w' (some g) := by
  obtain ⟨cur, hh, hcs, hcap⟩ := hv.cellsAt
  obtain ⟨u, hu⟩ := slice_mid w (some ⟨g, 0, none⟩) k m c hk (by omega)
  have s1 : ∀ W, (Instr.slice 41 (.slice (some ⟨g, 0, none⟩) (m + 1) c) none (some (.int .i64 (k : Int))) none).run Try.prog W = .ok (.slice (some ⟨g, 0, none⟩) k c) W := fun W => slice_h W g _ _ k (by omega)
  obtain ⟨A2, hA2⟩ : ∃ A2, A2 = if c = k + 1 then some ⟨g, 0, none⟩ else (some (⟨g, 0, none⟩ : Addr)).map (·.add ((k + 1) * k44.sz)) := ⟨_, rfl⟩
  have s2 : ∀ W, (Instr.slice 41 (.slice (some ⟨g, 0, none⟩) (m + 1) c) (some (.int .i64 ((k : Int) + 1))) none none).run Try.prog W = .ok (.slice A2 (m + 1 - (k + 1)) (c - (k + 1))) W := fun W => by
    rw [hA2]
    exact slice_l W (some ⟨g, 0, none⟩) (m + 1) c (k + 1) (by omega)
  have hv1 : Rw w.drew base (.slice (some ⟨g, 0, none⟩) (m + 1) c) l := hv.below (below_drew (Below.refl _ _))
  have hbase : base ≤ w.drew.heap.size := by have := hv.ge g rfl; exact Nat.le_trans this.1 (Nat.le_of_lt this.2)
  have hle : (l.eraseIdx k).length = m := by rw [List.length_eraseIdx]; simp [hlm]; omega
  have hend : ∀ w1, Rw w1 base (.slice (some ⟨g, 0, none⟩) m c) (l.eraseIdx k) → w.drew.grownBy w1 (some g) → (∀ ty, (Builtin.clear_ #[41] ty #[.slice (some ⟨g, m * 5, none⟩) 1 (c - m)]).run Try.prog w1 = .ok (.tuple #[]) (w1.setCells g (m * 5) zeros5)) ∧ Hid (Rw (w1.setCells g (m * 5) zeros5) base (.slice (some ⟨g, 0, none⟩) m c) (l.eraseIdx k) ∧ w.grownBy (w1.setCells g (m * 5) zeros5) (some g)) := fun w1 hR0 hg => by
    obtain ⟨cur1, hh1, hcs1, hcap1⟩ := hR0.cellsAt
    refine ⟨fun ty => run_clear_one w1 ty g (m * 5) (c - m) (fun j hj => by rw [blk_cell hh1]; simp; omega) (fun j hj => blk_frozen hh1 _), Lib.hid ⟨hR0.cleared (by rw [hle]; omega), ?_⟩⟩
    have hg2 : w.grownBy w1 (some g) := ⟨hg.os, hg.tape, hg.output, hg.size, hg.block⟩
    rw [setCells5]
    exact grown_set (grown_set (grown_set (grown_set (grown_set hg2 _ _) _ _) _ _) _ _) _ _
  have s3 := fun W => slice_end W g m c (by omega)
  replace hend := Lib.hid hend
  replace hv1 := Lib.hid hv1
  replace hA2 := Lib.hid hA2
  clear hh hcs hle
  go_enter Try.func37, Try.ntmps37
  go_wp2
  go_still_tail 6, (by kernel_rfl)
  change wpList _ _ _ _ _ w.drew
  go_wp2_with (first | (at_builtin; go_must (refine Kd.R_delete k44 (w0 := w) base rfl (.tmp 22) (.tmp 25) 41 44 rfl Try.underlying41 info44s rfl rfl hA2.out (by omega) hv1.out (by omega) (pw_below_drewN (Below.refl base w) 1) hbase ?_; intro w1 hR1 _ hg1; obtain ⟨hcl, he⟩ := hend.out w1 hR1 hg1; clear hR1 hg1)))
  go_ret
  exact ⟨rfl, he.out⟩
end Go.Proofs.Ytbhfcjgejnnpcaa
