/-
  The scan's own function: a record more, and where it ends.
-/
import Derived.Test.YtlmlkamgpmnmgaaDoorSkip
set_option linter.unusedVariables false
set_option linter.unusedSimpArgs false
namespace Go.Proofs.YtlmlkamgpmnmgaaDoor
open Go.RowKit Go.Proofs.YtlmlkamgpmnmgaaDoorW.PrintWords
/-- A row of strings of one's own. -/
def SRow (w : World) (B : Nat) (v : Value) (l : List ByteArray) : Prop := w.ownsRow B 9 1 v l.length (encs Value.string l)
/-- A slice of strings that is read. -/
def SRd (w : World) (A : Option Addr) (n : Nat) (l : List ByteArray) : Prop := ReadsOf Value.string ByteArray.empty w A n l
theorem SRow.rd {w : World} {B : Nat} {v : Value} {l : List ByteArray} (h : SRow w B v l) : ∃ A c, v = .slice A l.length c ∧ SRd w A l.length l ∧ l.length ≤ c := by
  obtain ⟨A, c, h1, h2, h3⟩ := own_reads_of_le (d := ByteArray.empty) h
  exact ⟨A, c, h1, h3, h2⟩
theorem SRow.nil (w : World) (B : Nat) : SRow w B (.slice none 0 0) [] := World.ownsRow_nil w B _ 1
theorem SRow.below {w w1 : World} {B : Nat} {v : Value} {l : List ByteArray} (h : SRow w B v l) (hb : Below w.heap.size w w1) : SRow w1 B v l := pw_own_below h hb
theorem SRow.frame {w w1 : World} {B : Nat} {v : Value} {l : List ByteArray} (h : SRow w B v l) (hb : ∀ g, v.ownBlock = some g → w1.heap[g]? = w.heap[g]?) : SRow w1 B v l := by
  obtain ⟨h1, h2⟩ := h
  refine ⟨h1, ?_⟩
  rcases h2 with h2 | ⟨b, cap, cur, rfl, hB, hh, r⟩
  · exact .inl h2
  · exact .inr ⟨b, cap, cur, rfl, hB, by rw [hb b rfl]; exact hh, r⟩
theorem SRow.ge {w : World} {B : Nat} {v : Value} {l : List ByteArray} (h : SRow w B v l) : ∀ g, v.ownBlock = some g → B ≤ g := fun _ hg => own_base h _ hg
theorem SRow.lt {w : World} {B : Nat} {v : Value} {l : List ByteArray} (h : SRow w B v l) : ∀ g, v.ownBlock = some g → g < w.heap.size := fun _ hg => own_lt h _ hg
theorem SRd.len {w : World} {A : Option Addr} {n : Nat} {l : List ByteArray} (h : SRd w A n l) : l.length = n := h.1
theorem SRd.below {w w1 : World} {A : Option Addr} {n : Nat} {l : List ByteArray} (h : SRd w A n l) (hb : Below w.heap.size w w1) : SRd w1 A n l := ReadsOf.below h hb
theorem SRd.drewN {w : World} {A : Option Addr} {n : Nat} {l : List ByteArray} (h : SRd w A n l) (m : Nat) : SRd (w.drewN m) A n l := h
theorem SRd.at_ {w : World} {A : Option Addr} {n : Nat} {l : List ByteArray} (h : SRd w A n l) (i : Nat) (hi : i < n) : ∃ ad, A = some ad ∧ w.cell? (ad.add i) = some (.string (l.getD i ByteArray.empty)) := by
  obtain ⟨ad, e, hc⟩ := h.2.2 (by omega)
  exact ⟨ad, e, hc i hi⟩
theorem info_str : (Tryd.prog.info? 9).map (fun i => (i.zero, i.size, i.bytes)) = some (some (.string ⟨#[]⟩), 1, 16) := by kernel_rfl
section
variable {ops : Array Oper} {rest : List Oper} {o : Oper} {a : Act} {Q : Exit → Act → World → Prop}
/-- 'append(v, s)', v a row of strings. -/
theorem w_append_s {w0 W : World} (B : Nat) (hgd : o.guard = none) (s x : Operand)
    (ho : o.op = .call { callee := .builtin .append, args := #[s, x], argTypes := #[50, 50] })
    {v : Value} {l : List ByteArray} (b : ByteArray) (hs : a.eval s = v) (hx : a.eval x = .slice (some ⟨W.heap.size, 0, none⟩) 1 1)
    (HO : SRow W B v l) (HB : Below B w0 W) (hB : B ≤ W.heap.size) (hl : (l.length + 1) * 16 ≤ 140737488355328)
    (h : ∀ v1 w1, Hid (SRow w1 B v1 (l ++ [b])) → Hid (Below B w0 w1) → Hid (W.grownBy w1 v.ownBlock) → wpList Tryd.prog ops Q rest (a.put o.dst v1) w1) :
    wpList Tryd.prog ops Q (o :: rest) a (W.alloc (.cells #[.string b] 9)) :=
  print_append_of Value.string B hgd s x 50 9 (.string ⟨#[]⟩) 16 ho Tryd.underlying50 info_str rfl (by decide) v l b hs hx rfl HO HB hB hl
    fun v1 w1 h1 h2 h3 _ => h v1 w1 h1 h2 h3
end
/-- The two variables that the scan's function writes. -/
structure SS (wS w : World) (vr ve : Nat) (v : Value) (recs : List ByteArray) (en : Nat) : Prop where
  ger : wS.heap.size ≤ vr
  gee : wS.heap.size ≤ ve
  br : w.heap[vr]? = some (.cells #[v] 50 (0, 0))
  be : w.heap[ve]? = some (.cells #[.int .i64 (en : Int)] 3 (0, 0))
  row : SRow w wS.heap.size v recs
  bel : Below wS.heap.size wS w
theorem SS.ne {wS w : World} {vr ve : Nat} {v : Value} {recs : List ByteArray} {en : Nat} (h : SS wS w vr ve v recs en) : vr ≠ ve := blk_ne h.br h.be (by decide)
theorem SS.kept {wS w w1 : World} {vr ve : Nat} {v : Value} {recs : List ByteArray} {en : Nat} {S : Nat → Prop} (h : SS wS w vr ve v recs en) (hk : Kept w w1 S) (hb : Below wS.heap.size wS w1)
    (h1 : ¬ S vr) (h2 : ¬ S ve) (h3 : ∀ q, v.ownBlock = some q → ¬ S q) : SS wS w1 vr ve v recs en :=
  ⟨h.ger, h.gee, blk_kept h.br hk h1, blk_kept h.be hk h2, h.row.frame (fun q hq => hk.2 q (h.row.lt q hq) (h3 q hq)), hb⟩
theorem SS.drewN {wS w : World} {vr ve : Nat} {v : Value} {recs : List ByteArray} {en : Nat} (h : SS wS w vr ve v recs en) (m : Nat) : SS wS (w.drewN m) vr ve v recs en :=
  ⟨h.ger, h.gee, h.br, h.be, h.row, pw_below_drewN h.bel m⟩
theorem SS.grow {wS w w1 : World} {vr ve : Nat} {v v1 : Value} {recs : List ByteArray} {en : Nat} (h : SS wS w vr ve v recs en) (rec : ByteArray) (en2 : Nat)
    (hr : SRow w1 wS.heap.size v1 (recs ++ [rec])) (hb : Below wS.heap.size wS w1) (hg : w.grownBy w1 v.ownBlock) :
    SS wS ((w1.setCell ⟨vr, 0, none⟩ v1).setCell ⟨ve, 0, none⟩ (.int .i64 (en2 : Int))) vr ve v1 (recs ++ [rec]) en2 ∧ Kept w ((w1.setCell ⟨vr, 0, none⟩ v1).setCell ⟨ve, 0, none⟩ (.int .i64 (en2 : Int))) (fun k => k = vr ∨ k = ve ∨ v.ownBlock = some k) := by
  have hbr := blk_grown h.br hg (own_ne h.row h.br (by decide))
  have hbe := blk_grown h.be hg (own_ne h.row h.be (by decide))
  have hn1 := own_ne hr hbr (by decide)
  have hn2 := own_ne hr hbe (by decide)
  refine ⟨⟨h.ger, h.gee, blk_far (blk_set hbr 0 v1) h.ne _, blk_set (blk_far hbe (Ne.symm h.ne) v1) 0 _, ?_, (hb.setCell (p := ⟨vr, 0, none⟩) h.ger _).setCell (p := ⟨ve, 0, none⟩) h.gee _⟩, ?_⟩
  · refine hr.frame fun q hq => ?_
    have hq1 : q ≠ vr := fun e => hn1 (by rw [hq, e])
    have hq2 : q ≠ ve := fun e => hn2 (by rw [hq, e])
    exact (Below.heap_setCell _ _ _ _ hq2).trans (Below.heap_setCell _ _ _ _ hq1)
  · exact ((Kept.of_grown hg (Kept.refl w _) (fun k hk => .inl (.inr (.inr hk)))).setCell (p := ⟨vr, 0, none⟩) (.inl (.inl rfl)) _).setCell (p := ⟨ve, 0, none⟩) (.inl (.inr (.inl rfl))) _
set_option maxHeartbeats 800000 in
theorem yield_any {wS w : World} {vr ve : Nat} {v : Value} {recs : List ByteArray} {en : Nat} (h : SS wS w vr ve v recs en) (p : Nat) (rec : ByteArray) (hl : recs.length + 1 ≤ 1099511627776) :
    Calls Tryd.prog 34 #[.int .i64 (p : Int), .string rec, .pointer (some ⟨vr, 0, none⟩), .pointer (some ⟨ve, 0, none⟩)] w fun e w' => e = .returned (.bool true) ∧ ∃ v', SS wS w' vr ve v' (recs ++ [rec]) p ∧ Kept w w' (fun k => k = vr ∨ k = ve ∨ v.ownBlock = some k) := by
  have H := Lib.hid h
  obtain ⟨A1, c1, hve, _, _⟩ := h.row.rd
  subst hve
  have k0 : w.cell? ⟨vr, 0, none⟩ = some (.slice A1 recs.length c1) := (blk_cell h.br 0).trans rfl
  have hsz := h.bel.size
  clear h
  go_enter Tryd.func34, Tryd.ntmps34
  go_wp2_with (first  | (at_builtin; refine w_append_s wS.heap.size rfl (.tmp 7) (.tmp 9) rfl rec rfl rfl H.out.row H.out.bel hsz (by omega) ?_; intro v1 w1 ho1 hb1 hg1; obtain ⟨A2, c2, hve1, _, _⟩ := ho1.out.rd; subst hve1; have hend := Lib.hid (H.out.grow rec p ho1.out hb1.out hg1.out); have hbr := blk_grown H.out.br hg1.out (own_ne H.out.row H.out.br (by decide)); have hbe := blk_grown H.out.be hg1.out (own_ne H.out.row H.out.be (by decide)); have k1 : w1.cell? ⟨vr, 0, none⟩ = some (.slice A1 recs.length c1) := (blk_cell hbr 0).trans rfl; have k2 : w1.cell? ⟨ve, 0, none⟩ = some (.int .i64 (en : Int)) := (blk_cell hbe 0).trans rfl; have f1 := blk_frozen hbr 0; have f2 := blk_frozen hbe 0; have hne := H.out.ne; replace hbr := Lib.hid hbr; replace hbe := Lib.hid hbe))
  go_ret
  have he := hend.out
  simp only [List.length_append, List.length_singleton] at he
  exact ⟨rfl, _, he⟩
end Go.Proofs.YtlmlkamgpmnmgaaDoor
