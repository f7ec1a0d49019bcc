/-
  Chapter 18: a reply's head is read; Parse.
-/
import Derived.Test.YthacomeiinejaaaDoorSs
import Derived.Test.YthacomeiinejaaaDoorSc
set_option linter.unusedVariables false
set_option linter.unusedSimpArgs false
namespace Go.Proofs.YthacomeiinejaaaDoor
open Go.RowKit Go.Proofs.YthacomeiinejaaaDoorW.PrintWords Go.Proofs.YthacomeiinejaaaDoor.PReplyWrites
theorem len_take (t l : List UInt8) (s d : Bool) : (takeL t (l, s, d)).2.1.length ≤ l.length := by
  unfold takeL
  dsimp only
  split
  · exact Nat.le_refl _
  · split
    · exact Nat.le_refl _
    · split
      · rw [List.length_drop]; omega
      · split
        · split <;> exact Nat.le_refl _
        · exact Nat.le_refl _
theorem len_must (t l : List UInt8) (s d : Bool) : (mustL t (l, s, d)).1.length ≤ l.length := by
  have := len_take t l s d
  unfold mustL
  split
  · exact this
  · split <;> exact this
theorem len_status (l : List UInt8) : (statusL l).2.1.length ≤ l.length := by
  have h := len_must verL l false false
  unfold statusL
  dsimp only
  split
  · exact h
  · split
    · exact h
    · split
      · rw [List.length_drop]; omega
      · exact h
theorem len_numGo (z : Bool) : ∀ (l : List UInt8) (k n : Nat) (r : Nat × Nat × List UInt8), numGo z k n l = some r → r.2.2.length ≤ l.length
  | [], k, n, r, h => by
    simp [numGo] at h
    subst h
    simp
  | c :: l, k, n, r, h => by
    have e : numGo z k n (c :: l) = if isDig c then (if 65536 < 10 * n + (c.toNat - 48) then none else if 1 < k + 1 ∧ z = true then none else numGo z (k + 1) (10 * n + (c.toNat - 48)) l) else some (n, k, c :: l) := rfl
    rw [e] at h
    by_cases h1 : isDig c = true
    · rw [if_pos h1] at h
      by_cases h2 : 65536 < 10 * n + (c.toNat - 48)
      · rw [if_pos h2] at h; simp at h
      · rw [if_neg h2] at h
        by_cases h3 : 1 < k + 1 ∧ z = true
        · rw [if_pos h3] at h; simp at h
        · rw [if_neg h3] at h
          have := len_numGo z l _ _ r h
          simp only [List.length_cons]
          omega
    · rw [if_neg h1] at h
      injection h with h
      subst h
      exact Nat.le_refl _
theorem len_number (l : List UInt8) : (numberL l).2.1.length ≤ l.length := by
  unfold numberL
  cases h : numGo (l.head? == some 48) 0 0 l with
  | none => exact Nat.le_refl _
  | some r =>
    have := len_numGo _ l 0 0 r h
    obtain ⟨n, k, R⟩ := r
    dsimp only at this ⊢
    split
    · split <;> exact this
    · exact Nat.le_trans (len_must _ _ _ _) this
theorem take_fine {t l l2 : List UInt8} {s d s2 d2 : Bool} (h : takeL t (l, s, d) = (true, l2, s2, d2)) : s2 = false ∧ d2 = false := by
  cases s with
  | true => simp [takeL] at h
  | false =>
    cases d with
    | true => simp [takeL] at h
    | false =>
      unfold takeL at h
      simp only [Bool.false_eq_true, if_false] at h
      split at h
      · simp at h
        exact ⟨h.2.1, h.2.2⟩
      · split at h
        · split at h <;> simp at h
        · simp at h
/-- The frame of 'head': the reader, and its own two blocks. -/
structure HF (w0 w W : World) (g p4 : Nat) (cs : Array Value) (l : List UInt8) (s d : Bool) : Prop where
  hI : IsS47 w0 W g (B l) s d
  hB : Below w0.heap.size w0 W
  hK : KeepBut w W g none
  k2 : W.heap[w.heap.size]? = some (.cells #[.int .i64 0, .string ⟨#[]⟩, .string ⟨#[]⟩, .bool false] 23 (0, 0))
  k4 : W.heap[p4]? = some (.cells cs 23 (0, 0))
  h4 : w.heap.size < p4
theorem HF.call {w0 w W W2 : World} {g p4 : Nat} {cs : Array Value} {l l2 : List UInt8} {s d s2 d2 : Bool} (h : HF w0 w W g p4 cs l s d) (hg : g < w.heap.size) (hI : IsS47 w0 W2 g (B l2) s2 d2) (hB : Below w0.heap.size w0 W2) (hK : KeepBut W W2 g none) : HF w0 w W2 g p4 cs l2 s2 d2 := by
  have h1 : w.heap.size < W.heap.size := (Array.getElem?_eq_some_iff.1 h.k2).1
  have h2 : p4 < W.heap.size := (Array.getElem?_eq_some_iff.1 h.k4).1
  have h4 := h.h4
  exact ⟨hI, hB, h.hK.trans hK (Or.inl rfl), (hK.2 _ h1 (by omega) (by simp)).trans h.k2, (hK.2 _ h2 (by omega) (by simp)).trans h.k4, h4⟩
theorem HF.put {w0 w W : World} {g p4 : Nat} {cs cs2 : Array Value} {l : List UInt8} {s d : Bool} (h : HF w0 w W g p4 cs l s d) (hg : g < w.heap.size) (hw : w0.heap.size ≤ w.heap.size) (i : Nat) (v : Value) (hc : cs.setIfInBounds i v = cs2) : HF w0 w (W.setCell ⟨p4, i, none⟩ v) g p4 cs2 l s d := by
  have h4 := h.h4
  refine ⟨h.hI.far (by show g ≠ p4; omega) v, h.hB.setCell (by show _ ≤ p4; omega) v, ⟨by simpa [World.setCell] using h.hK.1, fun k hk h1 h2 => (Below.heap_setCell W ⟨p4, i, none⟩ v k (by show k ≠ p4; omega)).trans (h.hK.2 k hk h1 h2)⟩, (Below.heap_setCell W ⟨p4, i, none⟩ v _ (by show w.heap.size ≠ p4; omega)).trans h.k2, blk_put h.k4 i v hc, h4⟩
theorem HF.bad {w0 w W : World} {g p4 : Nat} {cs : Array Value} {l : List UInt8} {s d : Bool} (h : HF w0 w W g p4 cs l s d) (hg : g < w.heap.size) (hw : w0.heap.size ≤ g) : HF w0 w (W.setCell ⟨g, 2, none⟩ (.bool true)) g p4 cs l s true := by
  have h4 := h.h4
  exact ⟨h.hI.set_2 true, h.hB.setCell hw _, h.hK.set_ 2 _, (Below.heap_setCell W ⟨g, 2, none⟩ _ _ (by show w.heap.size ≠ g; omega)).trans h.k2, (Below.heap_setCell W ⟨g, 2, none⟩ _ _ (by show p4 ≠ g; omega)).trans h.k4, h4⟩
theorem HF.start {w0 w w1 : World} {g : Nat} {l : List UInt8} {s d : Bool} (hg : g < w.heap.size) (hI : IsS47 w0 w1 g (B l) s d) (hB : Below w0.heap.size w0 w1) (hK : KeepBut (w.alloc (.cells #[.int .i64 0, .string ⟨#[]⟩, .string ⟨#[]⟩, .bool false] 23)) w1 g none) (cs : Array Value) : HF w0 w (w1.alloc (.cells cs 23)) g w1.heap.size cs l s d := by
  have h1 : w.heap.size + 1 ≤ w1.heap.size := by simpa using hK.1
  have h2 : w1.heap[w.heap.size]? = some (.cells #[.int .i64 0, .string ⟨#[]⟩, .string ⟨#[]⟩, .bool false] 23 (0, 0)) := (hK.2 _ (by simp) (by omega) (by simp)).trans (heap_alloc_new w _)
  exact ⟨hI.alloc _, hB.alloc hB.size _, ⟨by simp; omega, fun i hi h3 h4 => (heap_alloc_old w1 _ (by omega)).trans ((hK.2 i (by simp; omega) h3 h4).trans (heap_alloc_old w _ hi))⟩, (heap_alloc_old w1 _ (by omega)).trans h2, heap_alloc_new w1 _, by omega⟩
theorem results_ct {P : Program} {fn : Func} {tmps : Array Value} {w : World} {p u : Tmp} {tp : TypeId} {a : Addr} {va : Value} (h : fn.results = #[.cell p tp, .tmp u]) (hp : tmps.getD p undef = .pointer (some a))
    (ha : (loadVar tp a).run P w = .ok va w) : (results fn tmps).run P w = .ok (.tuple #[va, tmps.getD u undef]) w := by
  have hp' : tmps[p]?.getD undef = .pointer (some a) := by simpa using hp
  simp [results, h, hp', asAddr, ha]
def put4 (W : World) (p : Nat) (a b c d : Value) : World := (((W.setCell ⟨p, 0, none⟩ a).setCell ⟨p, 1, none⟩ b).setCell ⟨p, 2, none⟩ c).setCell ⟨p, 3, none⟩ d
theorem put4_blk {W : World} {p : Nat} {x0 x1 x2 x3 : Value} {t : TypeId} (h : W.heap[p]? = some (.cells #[x0, x1, x2, x3] t (0, 0))) (a b c d : Value) : (put4 W p a b c d).heap[p]? = some (.cells #[a, b, c, d] t (0, 0)) :=
  blk_put (blk_put (blk_put (blk_put h 0 a rfl) 1 b rfl) 2 c rfl) 3 d rfl
theorem load_reply {W : World} {p : Nat} {a b c d : Value} (h : W.heap[p]? = some (.cells #[a, b, c, d] 23 (0, 0))) : (loadVar 23 ⟨p, 0, none⟩).run Tryd.prog W = .ok (.agg #[a, b, c, d]) W :=
  run_loadVar_row W p 23 23 #[a, b, c, d] (0, 0) _ h Tryd.underlying23 rfl (by kernel_rfl)
theorem HF.fin {w0 w W : World} {g p4 : Nat} {cs : Array Value} {l : List UInt8} {s d : Bool} (h : HF w0 w W g p4 cs l s d) (hg : g < w.heap.size) (hw : w0.heap.size ≤ w.heap.size) (a b c e : Value) :
    IsS47 w0 (put4 W w.heap.size a b c e) g (B l) s d ∧ Below w0.heap.size w0 (put4 W w.heap.size a b c e) ∧ KeepBut w (put4 W w.heap.size a b c e) g none := by
  have hne : g ≠ w.heap.size := by omega
  refine ⟨(((h.hI.far (p := ⟨_, 0, none⟩) hne a).far (p := ⟨_, 1, none⟩) hne b).far (p := ⟨_, 2, none⟩) hne c).far (p := ⟨_, 3, none⟩) hne e, (((h.hB.setCell (p := ⟨w.heap.size, 0, none⟩) hw a).setCell (p := ⟨w.heap.size, 1, none⟩) hw b).setCell (p := ⟨w.heap.size, 2, none⟩) hw c).setCell (p := ⟨w.heap.size, 3, none⟩) hw e, ?_⟩
  exact keep_far (keep_far (keep_far (keep_far h.hK (p := ⟨w.heap.size, 0, none⟩) (Nat.le_refl _) a) (p := ⟨w.heap.size, 1, none⟩) (Nat.le_refl _) b) (p := ⟨w.heap.size, 2, none⟩) (Nat.le_refl _) c) (p := ⟨w.heap.size, 3, none⟩) (Nat.le_refl _) e
set_option maxHeartbeats 16000000 in
set_option maxRecDepth 100000 in
theorem head_any (g : Nat) (l : List UInt8) (hlen : l.length ≤ 4611686018427387904) (w0 w : World) (htab : Tab w0) (hI : IsS47 w0 w g (B l) false false) (hB : Below w0.heap.size w0 w) :
    Calls Tryd.prog 26 #[.pointer (some ⟨g, 0, none⟩)] w fun e w' => e = .returned (.tuple #[.agg #[.int .i64 (headL l).1, .string ⟨#[]⟩, .string (B (headL l).2.1), .bool (headL l).2.2.1], .int .i64 ((headL l).2.2.2.1 : Int)]) ∧ IsS47 w0 w' g (B (headL l).2.2.2.2.1) (headL l).2.2.2.2.2.1 (headL l).2.2.2.2.2.2 ∧ Below w0.heap.size w0 w' ∧ KeepBut w w' g none := by
  have hge := hI.2
  have hgl : g < w.heap.size := hI.lt
  have hS := Lib.hid (status_any g l hlen w0 _ htab (hI.alloc (.cells #[.int .i64 0, .string ⟨#[]⟩, .string ⟨#[]⟩, .bool false] 23)) (hB.alloc hB.size _))
  have hl1 := len_status l
  have hh : headL l = ((statusL l).1, (tail2 (mark (takeL typeL (statusL l).2).1 (sizeL (statusL l).1 (takeL typeL (statusL l).2).2).1 (sizeL (statusL l).1 (takeL typeL (statusL l).2).2).2)).1, (tail2 (mark (takeL typeL (statusL l).2).1 (sizeL (statusL l).1 (takeL typeL (statusL l).2).2).1 (sizeL (statusL l).1 (takeL typeL (statusL l).2).2).2)).2.1, (sizeL (statusL l).1 (takeL typeL (statusL l).2).2).1, (tail2 (mark (takeL typeL (statusL l).2).1 (sizeL (statusL l).1 (takeL typeL (statusL l).2).2).1 (sizeL (statusL l).1 (takeL typeL (statusL l).2).2).2)).2.2) := rfl
  generalize headL l = H at *
  generalize statusL l = a at *
  obtain ⟨st, l1, s1, d1⟩ := a
  dsimp only at hS hl1 hh
  have hl2 := len_take typeL l1 s1 d1
  have hT := fun W h1 h2 => take_any g typeL l1 s1 d1 w0 W h1 h2
  generalize takeL typeL (l1, s1, d1) = t at *
  obtain ⟨ty, l2, s2, d2⟩ := t
  dsimp only at hT hl2 hh
  replace hT := Lib.hid hT
  have hw0 := hB.size
  replace hI := Lib.hid hI
  replace hB := Lib.hid hB
  by_cases h204 : st = 204
  · subst h204
    have hz : sizeL 204 (l2, s2, d2) = (0, l2, s2, d2) := rfl
    rw [hz] at hh
    dsimp only at hh
    cases ty with
    | false =>
      have hm : mark false 0 (l2, s2, d2) = (l2, s2, d2) := rfl
      rw [hm] at hh
      have hl6 := len_take cookL l2 s2 d2
      have hT6 := fun W h1 h2 => take_any g cookL l2 s2 d2 w0 W h1 h2
      have hfi := fun a b c h => @take_fine cookL l2 a s2 d2 b c h
      unfold tail2 at hh
      generalize takeL cookL (l2, s2, d2) = t6 at *
      obtain ⟨hc, l6, s6, d6⟩ := t6
      dsimp only at hT6 hh hl6
      replace hT6 := Lib.hid hT6
      cases hc with
      | true =>
        obtain ⟨rfl, rfl⟩ := hfi _ _ _ rfl
        clear hfi
        rw [if_pos rfl] at hh
        have hC := fun W h1 h2 => cookie_any g l6 (by omega) w0 W h1 h2
        generalize cookieL l6 = k at *
        obtain ⟨c, l7, s7, d7⟩ := k
        dsimp only at hC hh
        replace hC := Lib.hid hC
        unfold tail3 at hh
        have hT8 := fun W h1 h2 => take_any g closeL l7 s7 d7 w0 W h1 h2
        generalize takeL closeL (l7, s7, d7) = t8 at *
        obtain ⟨cl, l8, s8, d8⟩ := t8
        dsimp only at hT8 hh
        replace hT8 := Lib.hid hT8
        have hM9 := fun W h1 h2 => must_any g crlfL l8 s8 d8 w0 W h1 h2
        generalize mustL crlfL (l8, s8, d8) = m9 at *
        obtain ⟨l9, s9, d9⟩ := m9
        dsimp only at hM9 hh
        replace hM9 := Lib.hid hM9
        replace hh := Lib.hid hh
        go_enter Tryd.func26, Tryd.ntmps26
        go_wp2_with (first  | (go_at_call 31; go_must (refine hS.out.mono ?_; rintro e w1 ⟨rfl, hI1, hB1, hK1⟩; have hF0 := HF.start hgl hI1 hB1 hK1; replace hF0 := Lib.hid hF0; clear hI1 hB1 hK1 hS))  | (go_at_call 32; have _t := hT; go_must (refine (hT.out _ (hF0.out _).hI (hF0.out _).hB).mono ?_; rintro e w2 ⟨rfl, hI2, hB2, hK2⟩; clear hT; have hF := (hF0.out _).call hgl hI2 hB2 hK2; clear hF0 hI2 hB2 hK2; have q0 := (blk_cell hF.k4 0).trans rfl; have q2 := (blk_cell hF.k4 2).trans rfl; have q3 := (blk_cell hF.k4 3).trans rfl; have y2 := blk_frozen hF.k4 2; have y3 := blk_frozen hF.k4 3; have c1 := cellS47_1 hF.hI.1; have c2 := cellS47_2 hF.hI.1; have f2 := blk_frozen hF.hI.1 2; replace hF := Lib.hid hF))  | (go_at_call 32; have _t := hT6; go_must (refine (hT6.out _ hF.out.hI hF.out.hB).mono ?_; rintro e1 wn ⟨rfl, hIn, hBn, hKn⟩; clear hT6; replace hF := hF.out.call hgl hIn hBn hKn; clear hIn hBn hKn; have q0 := (blk_cell hF.k4 0).trans rfl; have q2 := (blk_cell hF.k4 2).trans rfl; have q3 := (blk_cell hF.k4 3).trans rfl; have y2 := blk_frozen hF.k4 2; have y3 := blk_frozen hF.k4 3; have c1 := cellS47_1 hF.hI.1; have c2 := cellS47_2 hF.hI.1; have f2 := blk_frozen hF.hI.1 2; replace hF := Lib.hid hF))  | (go_at_call 35; have _t := hC; go_must (refine (hC.out _ hF.out.hI hF.out.hB).mono ?_; rintro e1 wn ⟨rfl, hIn, hBn, hKn⟩; clear hC; replace hF := hF.out.call hgl hIn hBn hKn; clear hIn hBn hKn; have q0 := (blk_cell hF.k4 0).trans rfl; have q2 := (blk_cell hF.k4 2).trans rfl; have q3 := (blk_cell hF.k4 3).trans rfl; have y2 := blk_frozen hF.k4 2; have y3 := blk_frozen hF.k4 3; have c1 := cellS47_1 hF.hI.1; have c2 := cellS47_2 hF.hI.1; have f2 := blk_frozen hF.hI.1 2; replace hF := Lib.hid hF))  | (go_at_call 32; have _t := hT8; replace hF := Lib.hid (hF.out.put hgl hw0 2 (.string (B c)) rfl); go_must (refine (hT8.out _ hF.out.hI hF.out.hB).mono ?_; rintro e1 wn ⟨rfl, hIn, hBn, hKn⟩; clear hT8; replace hF := hF.out.call hgl hIn hBn hKn; clear hIn hBn hKn; have q0 := (blk_cell hF.k4 0).trans rfl; have q2 := (blk_cell hF.k4 2).trans rfl; have q3 := (blk_cell hF.k4 3).trans rfl; have y2 := blk_frozen hF.k4 2; have y3 := blk_frozen hF.k4 3; have c1 := cellS47_1 hF.hI.1; have c2 := cellS47_2 hF.hI.1; have f2 := blk_frozen hF.hI.1 2; replace hF := Lib.hid hF))  | (go_at_call 33; have _t := hM9; replace hF := Lib.hid (hF.out.put hgl hw0 3 (.bool cl) rfl); go_must (refine (hM9.out _ hF.out.hI hF.out.hB).mono ?_; rintro e1 wn ⟨rfl, hIn, hBn, hKn⟩; clear hM9; replace hF := hF.out.call hgl hIn hBn hKn; clear hIn hBn hKn; have q0 := (blk_cell hF.k4 0).trans rfl; have q2 := (blk_cell hF.k4 2).trans rfl; have q3 := (blk_cell hF.k4 3).trans rfl; have y2 := blk_frozen hF.k4 2; have y3 := blk_frozen hF.k4 3; have c1 := cellS47_1 hF.hI.1; have c2 := cellS47_2 hF.hI.1; have f2 := blk_frozen hF.hI.1 2; have q1 := (blk_cell hF.k4 1).trans rfl; have z0 := (blk_cell hF.k2 0).trans rfl; have z1 := (blk_cell hF.k2 1).trans rfl; have z2 := (blk_cell hF.k2 2).trans rfl; have z3 := (blk_cell hF.k2 3).trans rfl; have x0 := blk_frozen hF.k2 0; have x1 := blk_frozen hF.k2 1; have x2 := blk_frozen hF.k2 2; have x3 := blk_frozen hF.k2 3; replace hF := Lib.hid hF)))
        rw [hh.out]
        exact bodyPost_ret (results_ct rfl rfl (load_reply (put4_blk hF.out.k2 _ _ _ _))) rfl ⟨rfl, hF.out.fin hgl hw0 _ _ _ _⟩
      | false =>
        clear hfi
        rw [if_neg (by simp)] at hh
        obtain ⟨c, hcn⟩ : ∃ c : List UInt8, c = [] := ⟨_, rfl⟩
        rw [← hcn] at hh
        obtain ⟨l7, s7, d7, h7⟩ : ∃ a b c, (a, b, c) = (l6, s6, d6) := ⟨_, _, _, rfl⟩
        injection h7 with h7 h8
        injection h8 with h8 h9
        subst h7 h8 h9
        unfold tail3 at hh
        have hT8 := fun W h1 h2 => take_any g closeL l7 s7 d7 w0 W h1 h2
        generalize takeL closeL (l7, s7, d7) = t8 at *
        obtain ⟨cl, l8, s8, d8⟩ := t8
        dsimp only at hT8 hh
        replace hT8 := Lib.hid hT8
        have hM9 := fun W h1 h2 => must_any g crlfL l8 s8 d8 w0 W h1 h2
        generalize mustL crlfL (l8, s8, d8) = m9 at *
        obtain ⟨l9, s9, d9⟩ := m9
        dsimp only at hM9 hh
        replace hM9 := Lib.hid hM9
        replace hh := Lib.hid hh
        go_enter Tryd.func26, Tryd.ntmps26
        go_wp2_with (first  | (go_at_call 31; go_must (refine hS.out.mono ?_; rintro e w1 ⟨rfl, hI1, hB1, hK1⟩; have hF0 := HF.start hgl hI1 hB1 hK1; replace hF0 := Lib.hid hF0; clear hI1 hB1 hK1 hS))  | (go_at_call 32; have _t := hT; go_must (refine (hT.out _ (hF0.out _).hI (hF0.out _).hB).mono ?_; rintro e w2 ⟨rfl, hI2, hB2, hK2⟩; clear hT; have hF := (hF0.out _).call hgl hI2 hB2 hK2; clear hF0 hI2 hB2 hK2; have q0 := (blk_cell hF.k4 0).trans rfl; have q2 := (blk_cell hF.k4 2).trans rfl; have q3 := (blk_cell hF.k4 3).trans rfl; have y2 := blk_frozen hF.k4 2; have y3 := blk_frozen hF.k4 3; have c1 := cellS47_1 hF.hI.1; have c2 := cellS47_2 hF.hI.1; have f2 := blk_frozen hF.hI.1 2; replace hF := Lib.hid hF))  | (go_at_call 32; have _t := hT6; go_must (refine (hT6.out _ hF.out.hI hF.out.hB).mono ?_; rintro e1 wn ⟨rfl, hIn, hBn, hKn⟩; clear hT6; replace hF := hF.out.call hgl hIn hBn hKn; clear hIn hBn hKn; have q0 := (blk_cell hF.k4 0).trans rfl; have q2 := (blk_cell hF.k4 2).trans rfl; have q3 := (blk_cell hF.k4 3).trans rfl; have y2 := blk_frozen hF.k4 2; have y3 := blk_frozen hF.k4 3; have c1 := cellS47_1 hF.hI.1; have c2 := cellS47_2 hF.hI.1; have f2 := blk_frozen hF.hI.1 2; replace hF := Lib.hid hF))  | (go_at_call 32; have _t := hT8; go_must (refine (hT8.out _ hF.out.hI hF.out.hB).mono ?_; rintro e1 wn ⟨rfl, hIn, hBn, hKn⟩; clear hT8; replace hF := hF.out.call hgl hIn hBn hKn; clear hIn hBn hKn; have q0 := (blk_cell hF.k4 0).trans rfl; have q2 := (blk_cell hF.k4 2).trans rfl; have q3 := (blk_cell hF.k4 3).trans rfl; have y2 := blk_frozen hF.k4 2; have y3 := blk_frozen hF.k4 3; have c1 := cellS47_1 hF.hI.1; have c2 := cellS47_2 hF.hI.1; have f2 := blk_frozen hF.hI.1 2; replace hF := Lib.hid hF))  | (go_at_call 33; have _t := hM9; replace hF := Lib.hid (hF.out.put hgl hw0 3 (.bool cl) rfl); go_must (refine (hM9.out _ hF.out.hI hF.out.hB).mono ?_; rintro e1 wn ⟨rfl, hIn, hBn, hKn⟩; clear hM9; replace hF := hF.out.call hgl hIn hBn hKn; clear hIn hBn hKn; have q0 := (blk_cell hF.k4 0).trans rfl; have q2 := (blk_cell hF.k4 2).trans rfl; have q3 := (blk_cell hF.k4 3).trans rfl; have y2 := blk_frozen hF.k4 2; have y3 := blk_frozen hF.k4 3; have c1 := cellS47_1 hF.hI.1; have c2 := cellS47_2 hF.hI.1; have f2 := blk_frozen hF.hI.1 2; have q1 := (blk_cell hF.k4 1).trans rfl; have z0 := (blk_cell hF.k2 0).trans rfl; have z1 := (blk_cell hF.k2 1).trans rfl; have z2 := (blk_cell hF.k2 2).trans rfl; have z3 := (blk_cell hF.k2 3).trans rfl; have x0 := blk_frozen hF.k2 0; have x1 := blk_frozen hF.k2 1; have x2 := blk_frozen hF.k2 2; have x3 := blk_frozen hF.k2 3; replace hF := Lib.hid hF)))
        subst hcn
        rw [hh.out]
        exact bodyPost_ret (results_ct rfl rfl (load_reply (put4_blk hF.out.k2 _ _ _ _))) rfl ⟨rfl, hF.out.fin hgl hw0 _ _ _ _⟩
    | true =>
      cases s2 with
      | true =>
        have hm : mark true 0 (l2, true, d2) = (l2, true, d2) := rfl
        rw [hm] at hh
        have hl6 := len_take cookL l2 true d2
        have hT6 := fun W h1 h2 => take_any g cookL l2 true d2 w0 W h1 h2
        have hfi := fun a b c h => @take_fine cookL l2 a true d2 b c h
        unfold tail2 at hh
        generalize takeL cookL (l2, true, d2) = t6 at *
        obtain ⟨hc, l6, s6, d6⟩ := t6
        dsimp only at hT6 hh hl6
        replace hT6 := Lib.hid hT6
        cases hc with
        | true =>
          obtain ⟨rfl, rfl⟩ := hfi _ _ _ rfl
          clear hfi
          rw [if_pos rfl] at hh
          have hC := fun W h1 h2 => cookie_any g l6 (by omega) w0 W h1 h2
          generalize cookieL l6 = k at *
          obtain ⟨c, l7, s7, d7⟩ := k
          dsimp only at hC hh
          replace hC := Lib.hid hC
          unfold tail3 at hh
          have hT8 := fun W h1 h2 => take_any g closeL l7 s7 d7 w0 W h1 h2
          generalize takeL closeL (l7, s7, d7) = t8 at *
          obtain ⟨cl, l8, s8, d8⟩ := t8
          dsimp only at hT8 hh
          replace hT8 := Lib.hid hT8
          have hM9 := fun W h1 h2 => must_any g crlfL l8 s8 d8 w0 W h1 h2
          generalize mustL crlfL (l8, s8, d8) = m9 at *
          obtain ⟨l9, s9, d9⟩ := m9
          dsimp only at hM9 hh
          replace hM9 := Lib.hid hM9
          replace hh := Lib.hid hh
          go_enter Tryd.func26, Tryd.ntmps26
          go_wp2_with (first  | (go_at_call 31; go_must (refine hS.out.mono ?_; rintro e w1 ⟨rfl, hI1, hB1, hK1⟩; have hF0 := HF.start hgl hI1 hB1 hK1; replace hF0 := Lib.hid hF0; clear hI1 hB1 hK1 hS))  | (go_at_call 32; have _t := hT; go_must (refine (hT.out _ (hF0.out _).hI (hF0.out _).hB).mono ?_; rintro e w2 ⟨rfl, hI2, hB2, hK2⟩; clear hT; have hF := (hF0.out _).call hgl hI2 hB2 hK2; clear hF0 hI2 hB2 hK2; have q0 := (blk_cell hF.k4 0).trans rfl; have q2 := (blk_cell hF.k4 2).trans rfl; have q3 := (blk_cell hF.k4 3).trans rfl; have y2 := blk_frozen hF.k4 2; have y3 := blk_frozen hF.k4 3; have c1 := cellS47_1 hF.hI.1; have c2 := cellS47_2 hF.hI.1; have f2 := blk_frozen hF.hI.1 2; replace hF := Lib.hid hF))  | (go_at_call 32; have _t := hT6; go_must (refine (hT6.out _ hF.out.hI hF.out.hB).mono ?_; rintro e1 wn ⟨rfl, hIn, hBn, hKn⟩; clear hT6; replace hF := hF.out.call hgl hIn hBn hKn; clear hIn hBn hKn; have q0 := (blk_cell hF.k4 0).trans rfl; have q2 := (blk_cell hF.k4 2).trans rfl; have q3 := (blk_cell hF.k4 3).trans rfl; have y2 := blk_frozen hF.k4 2; have y3 := blk_frozen hF.k4 3; have c1 := cellS47_1 hF.hI.1; have c2 := cellS47_2 hF.hI.1; have f2 := blk_frozen hF.hI.1 2; replace hF := Lib.hid hF))  | (go_at_call 35; have _t := hC; go_must (refine (hC.out _ hF.out.hI hF.out.hB).mono ?_; rintro e1 wn ⟨rfl, hIn, hBn, hKn⟩; clear hC; replace hF := hF.out.call hgl hIn hBn hKn; clear hIn hBn hKn; have q0 := (blk_cell hF.k4 0).trans rfl; have q2 := (blk_cell hF.k4 2).trans rfl; have q3 := (blk_cell hF.k4 3).trans rfl; have y2 := blk_frozen hF.k4 2; have y3 := blk_frozen hF.k4 3; have c1 := cellS47_1 hF.hI.1; have c2 := cellS47_2 hF.hI.1; have f2 := blk_frozen hF.hI.1 2; replace hF := Lib.hid hF))  | (go_at_call 32; have _t := hT8; replace hF := Lib.hid (hF.out.put hgl hw0 2 (.string (B c)) rfl); go_must (refine (hT8.out _ hF.out.hI hF.out.hB).mono ?_; rintro e1 wn ⟨rfl, hIn, hBn, hKn⟩; clear hT8; replace hF := hF.out.call hgl hIn hBn hKn; clear hIn hBn hKn; have q0 := (blk_cell hF.k4 0).trans rfl; have q2 := (blk_cell hF.k4 2).trans rfl; have q3 := (blk_cell hF.k4 3).trans rfl; have y2 := blk_frozen hF.k4 2; have y3 := blk_frozen hF.k4 3; have c1 := cellS47_1 hF.hI.1; have c2 := cellS47_2 hF.hI.1; have f2 := blk_frozen hF.hI.1 2; replace hF := Lib.hid hF))  | (go_at_call 33; have _t := hM9; replace hF := Lib.hid (hF.out.put hgl hw0 3 (.bool cl) rfl); go_must (refine (hM9.out _ hF.out.hI hF.out.hB).mono ?_; rintro e1 wn ⟨rfl, hIn, hBn, hKn⟩; clear hM9; replace hF := hF.out.call hgl hIn hBn hKn; clear hIn hBn hKn; have q0 := (blk_cell hF.k4 0).trans rfl; have q2 := (blk_cell hF.k4 2).trans rfl; have q3 := (blk_cell hF.k4 3).trans rfl; have y2 := blk_frozen hF.k4 2; have y3 := blk_frozen hF.k4 3; have c1 := cellS47_1 hF.hI.1; have c2 := cellS47_2 hF.hI.1; have f2 := blk_frozen hF.hI.1 2; have q1 := (blk_cell hF.k4 1).trans rfl; have z0 := (blk_cell hF.k2 0).trans rfl; have z1 := (blk_cell hF.k2 1).trans rfl; have z2 := (blk_cell hF.k2 2).trans rfl; have z3 := (blk_cell hF.k2 3).trans rfl; have x0 := blk_frozen hF.k2 0; have x1 := blk_frozen hF.k2 1; have x2 := blk_frozen hF.k2 2; have x3 := blk_frozen hF.k2 3; replace hF := Lib.hid hF)))
          rw [hh.out]
          exact bodyPost_ret (results_ct rfl rfl (load_reply (put4_blk hF.out.k2 _ _ _ _))) rfl ⟨rfl, hF.out.fin hgl hw0 _ _ _ _⟩
        | false =>
          clear hfi
          rw [if_neg (by simp)] at hh
          obtain ⟨c, hcn⟩ : ∃ c : List UInt8, c = [] := ⟨_, rfl⟩
          rw [← hcn] at hh
          obtain ⟨l7, s7, d7, h7⟩ : ∃ a b c, (a, b, c) = (l6, s6, d6) := ⟨_, _, _, rfl⟩
          injection h7 with h7 h8
          injection h8 with h8 h9
          subst h7 h8 h9
          unfold tail3 at hh
          have hT8 := fun W h1 h2 => take_any g closeL l7 s7 d7 w0 W h1 h2
          generalize takeL closeL (l7, s7, d7) = t8 at *
          obtain ⟨cl, l8, s8, d8⟩ := t8
          dsimp only at hT8 hh
          replace hT8 := Lib.hid hT8
          have hM9 := fun W h1 h2 => must_any g crlfL l8 s8 d8 w0 W h1 h2
          generalize mustL crlfL (l8, s8, d8) = m9 at *
          obtain ⟨l9, s9, d9⟩ := m9
          dsimp only at hM9 hh
          replace hM9 := Lib.hid hM9
          replace hh := Lib.hid hh
          go_enter Tryd.func26, Tryd.ntmps26
          go_wp2_with (first  | (go_at_call 31; go_must (refine hS.out.mono ?_; rintro e w1 ⟨rfl, hI1, hB1, hK1⟩; have hF0 := HF.start hgl hI1 hB1 hK1; replace hF0 := Lib.hid hF0; clear hI1 hB1 hK1 hS))  | (go_at_call 32; have _t := hT; go_must (refine (hT.out _ (hF0.out _).hI (hF0.out _).hB).mono ?_; rintro e w2 ⟨rfl, hI2, hB2, hK2⟩; clear hT; have hF := (hF0.out _).call hgl hI2 hB2 hK2; clear hF0 hI2 hB2 hK2; have q0 := (blk_cell hF.k4 0).trans rfl; have q2 := (blk_cell hF.k4 2).trans rfl; have q3 := (blk_cell hF.k4 3).trans rfl; have y2 := blk_frozen hF.k4 2; have y3 := blk_frozen hF.k4 3; have c1 := cellS47_1 hF.hI.1; have c2 := cellS47_2 hF.hI.1; have f2 := blk_frozen hF.hI.1 2; replace hF := Lib.hid hF))  | (go_at_call 32; have _t := hT6; go_must (refine (hT6.out _ hF.out.hI hF.out.hB).mono ?_; rintro e1 wn ⟨rfl, hIn, hBn, hKn⟩; clear hT6; replace hF := hF.out.call hgl hIn hBn hKn; clear hIn hBn hKn; have q0 := (blk_cell hF.k4 0).trans rfl; have q2 := (blk_cell hF.k4 2).trans rfl; have q3 := (blk_cell hF.k4 3).trans rfl; have y2 := blk_frozen hF.k4 2; have y3 := blk_frozen hF.k4 3; have c1 := cellS47_1 hF.hI.1; have c2 := cellS47_2 hF.hI.1; have f2 := blk_frozen hF.hI.1 2; replace hF := Lib.hid hF))  | (go_at_call 32; have _t := hT8; go_must (refine (hT8.out _ hF.out.hI hF.out.hB).mono ?_; rintro e1 wn ⟨rfl, hIn, hBn, hKn⟩; clear hT8; replace hF := hF.out.call hgl hIn hBn hKn; clear hIn hBn hKn; have q0 := (blk_cell hF.k4 0).trans rfl; have q2 := (blk_cell hF.k4 2).trans rfl; have q3 := (blk_cell hF.k4 3).trans rfl; have y2 := blk_frozen hF.k4 2; have y3 := blk_frozen hF.k4 3; have c1 := cellS47_1 hF.hI.1; have c2 := cellS47_2 hF.hI.1; have f2 := blk_frozen hF.hI.1 2; replace hF := Lib.hid hF))  | (go_at_call 33; have _t := hM9; replace hF := Lib.hid (hF.out.put hgl hw0 3 (.bool cl) rfl); go_must (refine (hM9.out _ hF.out.hI hF.out.hB).mono ?_; rintro e1 wn ⟨rfl, hIn, hBn, hKn⟩; clear hM9; replace hF := hF.out.call hgl hIn hBn hKn; clear hIn hBn hKn; have q0 := (blk_cell hF.k4 0).trans rfl; have q2 := (blk_cell hF.k4 2).trans rfl; have q3 := (blk_cell hF.k4 3).trans rfl; have y2 := blk_frozen hF.k4 2; have y3 := blk_frozen hF.k4 3; have c1 := cellS47_1 hF.hI.1; have c2 := cellS47_2 hF.hI.1; have f2 := blk_frozen hF.hI.1 2; have q1 := (blk_cell hF.k4 1).trans rfl; have z0 := (blk_cell hF.k2 0).trans rfl; have z1 := (blk_cell hF.k2 1).trans rfl; have z2 := (blk_cell hF.k2 2).trans rfl; have z3 := (blk_cell hF.k2 3).trans rfl; have x0 := blk_frozen hF.k2 0; have x1 := blk_frozen hF.k2 1; have x2 := blk_frozen hF.k2 2; have x3 := blk_frozen hF.k2 3; replace hF := Lib.hid hF)))
          subst hcn
          rw [hh.out]
          exact bodyPost_ret (results_ct rfl rfl (load_reply (put4_blk hF.out.k2 _ _ _ _))) rfl ⟨rfl, hF.out.fin hgl hw0 _ _ _ _⟩
      | false =>
        have hm : mark true 0 (l2, false, d2) = (l2, false, true) := rfl
        rw [hm] at hh
        have hl6 := len_take cookL l2 false true
        have hT6 := fun W h1 h2 => take_any g cookL l2 false true w0 W h1 h2
        have hfi := fun a b c h => @take_fine cookL l2 a false true b c h
        unfold tail2 at hh
        generalize takeL cookL (l2, false, true) = t6 at *
        obtain ⟨hc, l6, s6, d6⟩ := t6
        dsimp only at hT6 hh hl6
        replace hT6 := Lib.hid hT6
        cases hc with
        | true =>
          obtain ⟨rfl, rfl⟩ := hfi _ _ _ rfl
          clear hfi
          rw [if_pos rfl] at hh
          have hC := fun W h1 h2 => cookie_any g l6 (by omega) w0 W h1 h2
          generalize cookieL l6 = k at *
          obtain ⟨c, l7, s7, d7⟩ := k
          dsimp only at hC hh
          replace hC := Lib.hid hC
          unfold tail3 at hh
          have hT8 := fun W h1 h2 => take_any g closeL l7 s7 d7 w0 W h1 h2
          generalize takeL closeL (l7, s7, d7) = t8 at *
          obtain ⟨cl, l8, s8, d8⟩ := t8
          dsimp only at hT8 hh
          replace hT8 := Lib.hid hT8
          have hM9 := fun W h1 h2 => must_any g crlfL l8 s8 d8 w0 W h1 h2
          generalize mustL crlfL (l8, s8, d8) = m9 at *
          obtain ⟨l9, s9, d9⟩ := m9
          dsimp only at hM9 hh
          replace hM9 := Lib.hid hM9
          replace hh := Lib.hid hh
          go_enter Tryd.func26, Tryd.ntmps26
          go_wp2_with (first  | (go_at_call 31; go_must (refine hS.out.mono ?_; rintro e w1 ⟨rfl, hI1, hB1, hK1⟩; have hF0 := HF.start hgl hI1 hB1 hK1; replace hF0 := Lib.hid hF0; clear hI1 hB1 hK1 hS))  | (go_at_call 32; have _t := hT; go_must (refine (hT.out _ (hF0.out _).hI (hF0.out _).hB).mono ?_; rintro e w2 ⟨rfl, hI2, hB2, hK2⟩; clear hT; have hF := (hF0.out _).call hgl hI2 hB2 hK2; clear hF0 hI2 hB2 hK2; have q0 := (blk_cell hF.k4 0).trans rfl; have q2 := (blk_cell hF.k4 2).trans rfl; have q3 := (blk_cell hF.k4 3).trans rfl; have y2 := blk_frozen hF.k4 2; have y3 := blk_frozen hF.k4 3; have c1 := cellS47_1 hF.hI.1; have c2 := cellS47_2 hF.hI.1; have f2 := blk_frozen hF.hI.1 2; replace hF := Lib.hid hF))  | (go_at_call 32; have _t := hT6; replace hF := Lib.hid (hF.out.bad hgl hge); go_must (refine (hT6.out _ hF.out.hI hF.out.hB).mono ?_; rintro e1 wn ⟨rfl, hIn, hBn, hKn⟩; clear hT6; replace hF := hF.out.call hgl hIn hBn hKn; clear hIn hBn hKn; have q0 := (blk_cell hF.k4 0).trans rfl; have q2 := (blk_cell hF.k4 2).trans rfl; have q3 := (blk_cell hF.k4 3).trans rfl; have y2 := blk_frozen hF.k4 2; have y3 := blk_frozen hF.k4 3; have c1 := cellS47_1 hF.hI.1; have c2 := cellS47_2 hF.hI.1; have f2 := blk_frozen hF.hI.1 2; replace hF := Lib.hid hF))  | (go_at_call 35; have _t := hC; go_must (refine (hC.out _ hF.out.hI hF.out.hB).mono ?_; rintro e1 wn ⟨rfl, hIn, hBn, hKn⟩; clear hC; replace hF := hF.out.call hgl hIn hBn hKn; clear hIn hBn hKn; have q0 := (blk_cell hF.k4 0).trans rfl; have q2 := (blk_cell hF.k4 2).trans rfl; have q3 := (blk_cell hF.k4 3).trans rfl; have y2 := blk_frozen hF.k4 2; have y3 := blk_frozen hF.k4 3; have c1 := cellS47_1 hF.hI.1; have c2 := cellS47_2 hF.hI.1; have f2 := blk_frozen hF.hI.1 2; replace hF := Lib.hid hF))  | (go_at_call 32; have _t := hT8; replace hF := Lib.hid (hF.out.put hgl hw0 2 (.string (B c)) rfl); go_must (refine (hT8.out _ hF.out.hI hF.out.hB).mono ?_; rintro e1 wn ⟨rfl, hIn, hBn, hKn⟩; clear hT8; replace hF := hF.out.call hgl hIn hBn hKn; clear hIn hBn hKn; have q0 := (blk_cell hF.k4 0).trans rfl; have q2 := (blk_cell hF.k4 2).trans rfl; have q3 := (blk_cell hF.k4 3).trans rfl; have y2 := blk_frozen hF.k4 2; have y3 := blk_frozen hF.k4 3; have c1 := cellS47_1 hF.hI.1; have c2 := cellS47_2 hF.hI.1; have f2 := blk_frozen hF.hI.1 2; replace hF := Lib.hid hF))  | (go_at_call 33; have _t := hM9; replace hF := Lib.hid (hF.out.put hgl hw0 3 (.bool cl) rfl); go_must (refine (hM9.out _ hF.out.hI hF.out.hB).mono ?_; rintro e1 wn ⟨rfl, hIn, hBn, hKn⟩; clear hM9; replace hF := hF.out.call hgl hIn hBn hKn; clear hIn hBn hKn; have q0 := (blk_cell hF.k4 0).trans rfl; have q2 := (blk_cell hF.k4 2).trans rfl; have q3 := (blk_cell hF.k4 3).trans rfl; have y2 := blk_frozen hF.k4 2; have y3 := blk_frozen hF.k4 3; have c1 := cellS47_1 hF.hI.1; have c2 := cellS47_2 hF.hI.1; have f2 := blk_frozen hF.hI.1 2; have q1 := (blk_cell hF.k4 1).trans rfl; have z0 := (blk_cell hF.k2 0).trans rfl; have z1 := (blk_cell hF.k2 1).trans rfl; have z2 := (blk_cell hF.k2 2).trans rfl; have z3 := (blk_cell hF.k2 3).trans rfl; have x0 := blk_frozen hF.k2 0; have x1 := blk_frozen hF.k2 1; have x2 := blk_frozen hF.k2 2; have x3 := blk_frozen hF.k2 3; replace hF := Lib.hid hF)))
          rw [hh.out]
          exact bodyPost_ret (results_ct rfl rfl (load_reply (put4_blk hF.out.k2 _ _ _ _))) rfl ⟨rfl, hF.out.fin hgl hw0 _ _ _ _⟩
        | false =>
          clear hfi
          rw [if_neg (by simp)] at hh
          obtain ⟨c, hcn⟩ : ∃ c : List UInt8, c = [] := ⟨_, rfl⟩
          rw [← hcn] at hh
          obtain ⟨l7, s7, d7, h7⟩ : ∃ a b c, (a, b, c) = (l6, s6, d6) := ⟨_, _, _, rfl⟩
          injection h7 with h7 h8
          injection h8 with h8 h9
          subst h7 h8 h9
          unfold tail3 at hh
          have hT8 := fun W h1 h2 => take_any g closeL l7 s7 d7 w0 W h1 h2
          generalize takeL closeL (l7, s7, d7) = t8 at *
          obtain ⟨cl, l8, s8, d8⟩ := t8
          dsimp only at hT8 hh
          replace hT8 := Lib.hid hT8
          have hM9 := fun W h1 h2 => must_any g crlfL l8 s8 d8 w0 W h1 h2
          generalize mustL crlfL (l8, s8, d8) = m9 at *
          obtain ⟨l9, s9, d9⟩ := m9
          dsimp only at hM9 hh
          replace hM9 := Lib.hid hM9
          replace hh := Lib.hid hh
          go_enter Tryd.func26, Tryd.ntmps26
          go_wp2_with (first  | (go_at_call 31; go_must (refine hS.out.mono ?_; rintro e w1 ⟨rfl, hI1, hB1, hK1⟩; have hF0 := HF.start hgl hI1 hB1 hK1; replace hF0 := Lib.hid hF0; clear hI1 hB1 hK1 hS))  | (go_at_call 32; have _t := hT; go_must (refine (hT.out _ (hF0.out _).hI (hF0.out _).hB).mono ?_; rintro e w2 ⟨rfl, hI2, hB2, hK2⟩; clear hT; have hF := (hF0.out _).call hgl hI2 hB2 hK2; clear hF0 hI2 hB2 hK2; have q0 := (blk_cell hF.k4 0).trans rfl; have q2 := (blk_cell hF.k4 2).trans rfl; have q3 := (blk_cell hF.k4 3).trans rfl; have y2 := blk_frozen hF.k4 2; have y3 := blk_frozen hF.k4 3; have c1 := cellS47_1 hF.hI.1; have c2 := cellS47_2 hF.hI.1; have f2 := blk_frozen hF.hI.1 2; replace hF := Lib.hid hF))  | (go_at_call 32; have _t := hT6; replace hF := Lib.hid (hF.out.bad hgl hge); go_must (refine (hT6.out _ hF.out.hI hF.out.hB).mono ?_; rintro e1 wn ⟨rfl, hIn, hBn, hKn⟩; clear hT6; replace hF := hF.out.call hgl hIn hBn hKn; clear hIn hBn hKn; have q0 := (blk_cell hF.k4 0).trans rfl; have q2 := (blk_cell hF.k4 2).trans rfl; have q3 := (blk_cell hF.k4 3).trans rfl; have y2 := blk_frozen hF.k4 2; have y3 := blk_frozen hF.k4 3; have c1 := cellS47_1 hF.hI.1; have c2 := cellS47_2 hF.hI.1; have f2 := blk_frozen hF.hI.1 2; replace hF := Lib.hid hF))  | (go_at_call 32; have _t := hT8; go_must (refine (hT8.out _ hF.out.hI hF.out.hB).mono ?_; rintro e1 wn ⟨rfl, hIn, hBn, hKn⟩; clear hT8; replace hF := hF.out.call hgl hIn hBn hKn; clear hIn hBn hKn; have q0 := (blk_cell hF.k4 0).trans rfl; have q2 := (blk_cell hF.k4 2).trans rfl; have q3 := (blk_cell hF.k4 3).trans rfl; have y2 := blk_frozen hF.k4 2; have y3 := blk_frozen hF.k4 3; have c1 := cellS47_1 hF.hI.1; have c2 := cellS47_2 hF.hI.1; have f2 := blk_frozen hF.hI.1 2; replace hF := Lib.hid hF))  | (go_at_call 33; have _t := hM9; replace hF := Lib.hid (hF.out.put hgl hw0 3 (.bool cl) rfl); go_must (refine (hM9.out _ hF.out.hI hF.out.hB).mono ?_; rintro e1 wn ⟨rfl, hIn, hBn, hKn⟩; clear hM9; replace hF := hF.out.call hgl hIn hBn hKn; clear hIn hBn hKn; have q0 := (blk_cell hF.k4 0).trans rfl; have q2 := (blk_cell hF.k4 2).trans rfl; have q3 := (blk_cell hF.k4 3).trans rfl; have y2 := blk_frozen hF.k4 2; have y3 := blk_frozen hF.k4 3; have c1 := cellS47_1 hF.hI.1; have c2 := cellS47_2 hF.hI.1; have f2 := blk_frozen hF.hI.1 2; have q1 := (blk_cell hF.k4 1).trans rfl; have z0 := (blk_cell hF.k2 0).trans rfl; have z1 := (blk_cell hF.k2 1).trans rfl; have z2 := (blk_cell hF.k2 2).trans rfl; have z3 := (blk_cell hF.k2 3).trans rfl; have x0 := blk_frozen hF.k2 0; have x1 := blk_frozen hF.k2 1; have x2 := blk_frozen hF.k2 2; have x3 := blk_frozen hF.k2 3; replace hF := Lib.hid hF)))
          subst hcn
          rw [hh.out]
          exact bodyPost_ret (results_ct rfl rfl (load_reply (put4_blk hF.out.k2 _ _ _ _))) rfl ⟨rfl, hF.out.fin hgl hw0 _ _ _ _⟩
  · have hz : sizeL st (l2, s2, d2) = if (mustL lenL (l2, s2, d2)).2.1 = true then (0, mustL lenL (l2, s2, d2)) else if (mustL lenL (l2, s2, d2)).2.2 = true then (0, mustL lenL (l2, s2, d2)) else numberL (mustL lenL (l2, s2, d2)).1 := if_neg h204
    rw [hz] at hh
    clear hz
    have hl3 := len_must lenL l2 s2 d2
    have hM3 := fun W h1 h2 => must_any g lenL l2 s2 d2 w0 W h1 h2
    generalize mustL lenL (l2, s2, d2) = m3 at *
    obtain ⟨l3, s3, d3⟩ := m3
    dsimp only at hM3 hh hl3
    replace hM3 := Lib.hid hM3
    cases s3 with
    | true =>
      rw [if_pos rfl] at hh
      dsimp only at hh
      have hm : mark ty 0 (l3, true, d3) = (l3, true, d3) := by cases ty <;> rfl
      rw [hm] at hh
      cases ty with
      | false =>
        have hl6 := len_take cookL l3 true d3
        have hT6 := fun W h1 h2 => take_any g cookL l3 true d3 w0 W h1 h2
        have hfi := fun a b c h => @take_fine cookL l3 a true d3 b c h
        unfold tail2 at hh
        generalize takeL cookL (l3, true, d3) = t6 at *
        obtain ⟨hc, l6, s6, d6⟩ := t6
        dsimp only at hT6 hh hl6
        replace hT6 := Lib.hid hT6
        cases hc with
        | true =>
          obtain ⟨rfl, rfl⟩ := hfi _ _ _ rfl
          clear hfi
          rw [if_pos rfl] at hh
          have hC := fun W h1 h2 => cookie_any g l6 (by omega) w0 W h1 h2
          generalize cookieL l6 = k at *
          obtain ⟨c, l7, s7, d7⟩ := k
          dsimp only at hC hh
          replace hC := Lib.hid hC
          unfold tail3 at hh
          have hT8 := fun W h1 h2 => take_any g closeL l7 s7 d7 w0 W h1 h2
          generalize takeL closeL (l7, s7, d7) = t8 at *
          obtain ⟨cl, l8, s8, d8⟩ := t8
          dsimp only at hT8 hh
          replace hT8 := Lib.hid hT8
          have hM9 := fun W h1 h2 => must_any g crlfL l8 s8 d8 w0 W h1 h2
          generalize mustL crlfL (l8, s8, d8) = m9 at *
          obtain ⟨l9, s9, d9⟩ := m9
          dsimp only at hM9 hh
          replace hM9 := Lib.hid hM9
          replace hh := Lib.hid hh
          go_enter Tryd.func26, Tryd.ntmps26
          go_wp2_with (first  | (go_at_call 31; go_must (refine hS.out.mono ?_; rintro e w1 ⟨rfl, hI1, hB1, hK1⟩; have hF0 := HF.start hgl hI1 hB1 hK1; replace hF0 := Lib.hid hF0; clear hI1 hB1 hK1 hS))  | (go_at_call 32; have _t := hT; go_must (refine (hT.out _ (hF0.out _).hI (hF0.out _).hB).mono ?_; rintro e w2 ⟨rfl, hI2, hB2, hK2⟩; clear hT; have hF := (hF0.out _).call hgl hI2 hB2 hK2; clear hF0 hI2 hB2 hK2; have q0 := (blk_cell hF.k4 0).trans rfl; have q2 := (blk_cell hF.k4 2).trans rfl; have q3 := (blk_cell hF.k4 3).trans rfl; have y2 := blk_frozen hF.k4 2; have y3 := blk_frozen hF.k4 3; have c1 := cellS47_1 hF.hI.1; have c2 := cellS47_2 hF.hI.1; have f2 := blk_frozen hF.hI.1 2; replace hF := Lib.hid hF))  | (go_at_call 33; have _t := hM3; go_must (refine (hM3.out _ hF.out.hI hF.out.hB).mono ?_; rintro e1 wn ⟨rfl, hIn, hBn, hKn⟩; clear hM3; replace hF := hF.out.call hgl hIn hBn hKn; clear hIn hBn hKn; have q0 := (blk_cell hF.k4 0).trans rfl; have q2 := (blk_cell hF.k4 2).trans rfl; have q3 := (blk_cell hF.k4 3).trans rfl; have y2 := blk_frozen hF.k4 2; have y3 := blk_frozen hF.k4 3; have c1 := cellS47_1 hF.hI.1; have c2 := cellS47_2 hF.hI.1; have f2 := blk_frozen hF.hI.1 2; replace hF := Lib.hid hF))  | (go_at_call 32; have _t := hT6; go_must (refine (hT6.out _ hF.out.hI hF.out.hB).mono ?_; rintro e1 wn ⟨rfl, hIn, hBn, hKn⟩; clear hT6; replace hF := hF.out.call hgl hIn hBn hKn; clear hIn hBn hKn; have q0 := (blk_cell hF.k4 0).trans rfl; have q2 := (blk_cell hF.k4 2).trans rfl; have q3 := (blk_cell hF.k4 3).trans rfl; have y2 := blk_frozen hF.k4 2; have y3 := blk_frozen hF.k4 3; have c1 := cellS47_1 hF.hI.1; have c2 := cellS47_2 hF.hI.1; have f2 := blk_frozen hF.hI.1 2; replace hF := Lib.hid hF))  | (go_at_call 35; have _t := hC; go_must (refine (hC.out _ hF.out.hI hF.out.hB).mono ?_; rintro e1 wn ⟨rfl, hIn, hBn, hKn⟩; clear hC; replace hF := hF.out.call hgl hIn hBn hKn; clear hIn hBn hKn; have q0 := (blk_cell hF.k4 0).trans rfl; have q2 := (blk_cell hF.k4 2).trans rfl; have q3 := (blk_cell hF.k4 3).trans rfl; have y2 := blk_frozen hF.k4 2; have y3 := blk_frozen hF.k4 3; have c1 := cellS47_1 hF.hI.1; have c2 := cellS47_2 hF.hI.1; have f2 := blk_frozen hF.hI.1 2; replace hF := Lib.hid hF))  | (go_at_call 32; have _t := hT8; replace hF := Lib.hid (hF.out.put hgl hw0 2 (.string (B c)) rfl); go_must (refine (hT8.out _ hF.out.hI hF.out.hB).mono ?_; rintro e1 wn ⟨rfl, hIn, hBn, hKn⟩; clear hT8; replace hF := hF.out.call hgl hIn hBn hKn; clear hIn hBn hKn; have q0 := (blk_cell hF.k4 0).trans rfl; have q2 := (blk_cell hF.k4 2).trans rfl; have q3 := (blk_cell hF.k4 3).trans rfl; have y2 := blk_frozen hF.k4 2; have y3 := blk_frozen hF.k4 3; have c1 := cellS47_1 hF.hI.1; have c2 := cellS47_2 hF.hI.1; have f2 := blk_frozen hF.hI.1 2; replace hF := Lib.hid hF))  | (go_at_call 33; have _t := hM9; replace hF := Lib.hid (hF.out.put hgl hw0 3 (.bool cl) rfl); go_must (refine (hM9.out _ hF.out.hI hF.out.hB).mono ?_; rintro e1 wn ⟨rfl, hIn, hBn, hKn⟩; clear hM9; replace hF := hF.out.call hgl hIn hBn hKn; clear hIn hBn hKn; have q0 := (blk_cell hF.k4 0).trans rfl; have q2 := (blk_cell hF.k4 2).trans rfl; have q3 := (blk_cell hF.k4 3).trans rfl; have y2 := blk_frozen hF.k4 2; have y3 := blk_frozen hF.k4 3; have c1 := cellS47_1 hF.hI.1; have c2 := cellS47_2 hF.hI.1; have f2 := blk_frozen hF.hI.1 2; have q1 := (blk_cell hF.k4 1).trans rfl; have z0 := (blk_cell hF.k2 0).trans rfl; have z1 := (blk_cell hF.k2 1).trans rfl; have z2 := (blk_cell hF.k2 2).trans rfl; have z3 := (blk_cell hF.k2 3).trans rfl; have x0 := blk_frozen hF.k2 0; have x1 := blk_frozen hF.k2 1; have x2 := blk_frozen hF.k2 2; have x3 := blk_frozen hF.k2 3; replace hF := Lib.hid hF)))
          rw [hh.out]
          exact bodyPost_ret (results_ct rfl rfl (load_reply (put4_blk hF.out.k2 _ _ _ _))) rfl ⟨rfl, hF.out.fin hgl hw0 _ _ _ _⟩
        | false =>
          clear hfi
          rw [if_neg (by simp)] at hh
          obtain ⟨c, hcn⟩ : ∃ c : List UInt8, c = [] := ⟨_, rfl⟩
          rw [← hcn] at hh
          obtain ⟨l7, s7, d7, h7⟩ : ∃ a b c, (a, b, c) = (l6, s6, d6) := ⟨_, _, _, rfl⟩
          injection h7 with h7 h8
          injection h8 with h8 h9
          subst h7 h8 h9
          unfold tail3 at hh
          have hT8 := fun W h1 h2 => take_any g closeL l7 s7 d7 w0 W h1 h2
          generalize takeL closeL (l7, s7, d7) = t8 at *
          obtain ⟨cl, l8, s8, d8⟩ := t8
          dsimp only at hT8 hh
          replace hT8 := Lib.hid hT8
          have hM9 := fun W h1 h2 => must_any g crlfL l8 s8 d8 w0 W h1 h2
          generalize mustL crlfL (l8, s8, d8) = m9 at *
          obtain ⟨l9, s9, d9⟩ := m9
          dsimp only at hM9 hh
          replace hM9 := Lib.hid hM9
          replace hh := Lib.hid hh
          go_enter Tryd.func26, Tryd.ntmps26
          go_wp2_with (first  | (go_at_call 31; go_must (refine hS.out.mono ?_; rintro e w1 ⟨rfl, hI1, hB1, hK1⟩; have hF0 := HF.start hgl hI1 hB1 hK1; replace hF0 := Lib.hid hF0; clear hI1 hB1 hK1 hS))  | (go_at_call 32; have _t := hT; go_must (refine (hT.out _ (hF0.out _).hI (hF0.out _).hB).mono ?_; rintro e w2 ⟨rfl, hI2, hB2, hK2⟩; clear hT; have hF := (hF0.out _).call hgl hI2 hB2 hK2; clear hF0 hI2 hB2 hK2; have q0 := (blk_cell hF.k4 0).trans rfl; have q2 := (blk_cell hF.k4 2).trans rfl; have q3 := (blk_cell hF.k4 3).trans rfl; have y2 := blk_frozen hF.k4 2; have y3 := blk_frozen hF.k4 3; have c1 := cellS47_1 hF.hI.1; have c2 := cellS47_2 hF.hI.1; have f2 := blk_frozen hF.hI.1 2; replace hF := Lib.hid hF))  | (go_at_call 33; have _t := hM3; go_must (refine (hM3.out _ hF.out.hI hF.out.hB).mono ?_; rintro e1 wn ⟨rfl, hIn, hBn, hKn⟩; clear hM3; replace hF := hF.out.call hgl hIn hBn hKn; clear hIn hBn hKn; have q0 := (blk_cell hF.k4 0).trans rfl; have q2 := (blk_cell hF.k4 2).trans rfl; have q3 := (blk_cell hF.k4 3).trans rfl; have y2 := blk_frozen hF.k4 2; have y3 := blk_frozen hF.k4 3; have c1 := cellS47_1 hF.hI.1; have c2 := cellS47_2 hF.hI.1; have f2 := blk_frozen hF.hI.1 2; replace hF := Lib.hid hF))  | (go_at_call 32; have _t := hT6; go_must (refine (hT6.out _ hF.out.hI hF.out.hB).mono ?_; rintro e1 wn ⟨rfl, hIn, hBn, hKn⟩; clear hT6; replace hF := hF.out.call hgl hIn hBn hKn; clear hIn hBn hKn; have q0 := (blk_cell hF.k4 0).trans rfl; have q2 := (blk_cell hF.k4 2).trans rfl; have q3 := (blk_cell hF.k4 3).trans rfl; have y2 := blk_frozen hF.k4 2; have y3 := blk_frozen hF.k4 3; have c1 := cellS47_1 hF.hI.1; have c2 := cellS47_2 hF.hI.1; have f2 := blk_frozen hF.hI.1 2; replace hF := Lib.hid hF))  | (go_at_call 32; have _t := hT8; go_must (refine (hT8.out _ hF.out.hI hF.out.hB).mono ?_; rintro e1 wn ⟨rfl, hIn, hBn, hKn⟩; clear hT8; replace hF := hF.out.call hgl hIn hBn hKn; clear hIn hBn hKn; have q0 := (blk_cell hF.k4 0).trans rfl; have q2 := (blk_cell hF.k4 2).trans rfl; have q3 := (blk_cell hF.k4 3).trans rfl; have y2 := blk_frozen hF.k4 2; have y3 := blk_frozen hF.k4 3; have c1 := cellS47_1 hF.hI.1; have c2 := cellS47_2 hF.hI.1; have f2 := blk_frozen hF.hI.1 2; replace hF := Lib.hid hF))  | (go_at_call 33; have _t := hM9; replace hF := Lib.hid (hF.out.put hgl hw0 3 (.bool cl) rfl); go_must (refine (hM9.out _ hF.out.hI hF.out.hB).mono ?_; rintro e1 wn ⟨rfl, hIn, hBn, hKn⟩; clear hM9; replace hF := hF.out.call hgl hIn hBn hKn; clear hIn hBn hKn; have q0 := (blk_cell hF.k4 0).trans rfl; have q2 := (blk_cell hF.k4 2).trans rfl; have q3 := (blk_cell hF.k4 3).trans rfl; have y2 := blk_frozen hF.k4 2; have y3 := blk_frozen hF.k4 3; have c1 := cellS47_1 hF.hI.1; have c2 := cellS47_2 hF.hI.1; have f2 := blk_frozen hF.hI.1 2; have q1 := (blk_cell hF.k4 1).trans rfl; have z0 := (blk_cell hF.k2 0).trans rfl; have z1 := (blk_cell hF.k2 1).trans rfl; have z2 := (blk_cell hF.k2 2).trans rfl; have z3 := (blk_cell hF.k2 3).trans rfl; have x0 := blk_frozen hF.k2 0; have x1 := blk_frozen hF.k2 1; have x2 := blk_frozen hF.k2 2; have x3 := blk_frozen hF.k2 3; replace hF := Lib.hid hF)))
          subst hcn
          rw [hh.out]
          exact bodyPost_ret (results_ct rfl rfl (load_reply (put4_blk hF.out.k2 _ _ _ _))) rfl ⟨rfl, hF.out.fin hgl hw0 _ _ _ _⟩
      | true =>
        have hl6 := len_take cookL l3 true d3
        have hT6 := fun W h1 h2 => take_any g cookL l3 true d3 w0 W h1 h2
        have hfi := fun a b c h => @take_fine cookL l3 a true d3 b c h
        unfold tail2 at hh
        generalize takeL cookL (l3, true, d3) = t6 at *
        obtain ⟨hc, l6, s6, d6⟩ := t6
        dsimp only at hT6 hh hl6
        replace hT6 := Lib.hid hT6
        cases hc with
        | true =>
          obtain ⟨rfl, rfl⟩ := hfi _ _ _ rfl
          clear hfi
          rw [if_pos rfl] at hh
          have hC := fun W h1 h2 => cookie_any g l6 (by omega) w0 W h1 h2
          generalize cookieL l6 = k at *
          obtain ⟨c, l7, s7, d7⟩ := k
          dsimp only at hC hh
          replace hC := Lib.hid hC
          unfold tail3 at hh
          have hT8 := fun W h1 h2 => take_any g closeL l7 s7 d7 w0 W h1 h2
          generalize takeL closeL (l7, s7, d7) = t8 at *
          obtain ⟨cl, l8, s8, d8⟩ := t8
          dsimp only at hT8 hh
          replace hT8 := Lib.hid hT8
          have hM9 := fun W h1 h2 => must_any g crlfL l8 s8 d8 w0 W h1 h2
          generalize mustL crlfL (l8, s8, d8) = m9 at *
          obtain ⟨l9, s9, d9⟩ := m9
          dsimp only at hM9 hh
          replace hM9 := Lib.hid hM9
          replace hh := Lib.hid hh
          go_enter Tryd.func26, Tryd.ntmps26
          go_wp2_with (first  | (go_at_call 31; go_must (refine hS.out.mono ?_; rintro e w1 ⟨rfl, hI1, hB1, hK1⟩; have hF0 := HF.start hgl hI1 hB1 hK1; replace hF0 := Lib.hid hF0; clear hI1 hB1 hK1 hS))  | (go_at_call 32; have _t := hT; go_must (refine (hT.out _ (hF0.out _).hI (hF0.out _).hB).mono ?_; rintro e w2 ⟨rfl, hI2, hB2, hK2⟩; clear hT; have hF := (hF0.out _).call hgl hI2 hB2 hK2; clear hF0 hI2 hB2 hK2; have q0 := (blk_cell hF.k4 0).trans rfl; have q2 := (blk_cell hF.k4 2).trans rfl; have q3 := (blk_cell hF.k4 3).trans rfl; have y2 := blk_frozen hF.k4 2; have y3 := blk_frozen hF.k4 3; have c1 := cellS47_1 hF.hI.1; have c2 := cellS47_2 hF.hI.1; have f2 := blk_frozen hF.hI.1 2; replace hF := Lib.hid hF))  | (go_at_call 33; have _t := hM3; go_must (refine (hM3.out _ hF.out.hI hF.out.hB).mono ?_; rintro e1 wn ⟨rfl, hIn, hBn, hKn⟩; clear hM3; replace hF := hF.out.call hgl hIn hBn hKn; clear hIn hBn hKn; have q0 := (blk_cell hF.k4 0).trans rfl; have q2 := (blk_cell hF.k4 2).trans rfl; have q3 := (blk_cell hF.k4 3).trans rfl; have y2 := blk_frozen hF.k4 2; have y3 := blk_frozen hF.k4 3; have c1 := cellS47_1 hF.hI.1; have c2 := cellS47_2 hF.hI.1; have f2 := blk_frozen hF.hI.1 2; replace hF := Lib.hid hF))  | (go_at_call 32; have _t := hT6; go_must (refine (hT6.out _ hF.out.hI hF.out.hB).mono ?_; rintro e1 wn ⟨rfl, hIn, hBn, hKn⟩; clear hT6; replace hF := hF.out.call hgl hIn hBn hKn; clear hIn hBn hKn; have q0 := (blk_cell hF.k4 0).trans rfl; have q2 := (blk_cell hF.k4 2).trans rfl; have q3 := (blk_cell hF.k4 3).trans rfl; have y2 := blk_frozen hF.k4 2; have y3 := blk_frozen hF.k4 3; have c1 := cellS47_1 hF.hI.1; have c2 := cellS47_2 hF.hI.1; have f2 := blk_frozen hF.hI.1 2; replace hF := Lib.hid hF))  | (go_at_call 35; have _t := hC; go_must (refine (hC.out _ hF.out.hI hF.out.hB).mono ?_; rintro e1 wn ⟨rfl, hIn, hBn, hKn⟩; clear hC; replace hF := hF.out.call hgl hIn hBn hKn; clear hIn hBn hKn; have q0 := (blk_cell hF.k4 0).trans rfl; have q2 := (blk_cell hF.k4 2).trans rfl; have q3 := (blk_cell hF.k4 3).trans rfl; have y2 := blk_frozen hF.k4 2; have y3 := blk_frozen hF.k4 3; have c1 := cellS47_1 hF.hI.1; have c2 := cellS47_2 hF.hI.1; have f2 := blk_frozen hF.hI.1 2; replace hF := Lib.hid hF))  | (go_at_call 32; have _t := hT8; replace hF := Lib.hid (hF.out.put hgl hw0 2 (.string (B c)) rfl); go_must (refine (hT8.out _ hF.out.hI hF.out.hB).mono ?_; rintro e1 wn ⟨rfl, hIn, hBn, hKn⟩; clear hT8; replace hF := hF.out.call hgl hIn hBn hKn; clear hIn hBn hKn; have q0 := (blk_cell hF.k4 0).trans rfl; have q2 := (blk_cell hF.k4 2).trans rfl; have q3 := (blk_cell hF.k4 3).trans rfl; have y2 := blk_frozen hF.k4 2; have y3 := blk_frozen hF.k4 3; have c1 := cellS47_1 hF.hI.1; have c2 := cellS47_2 hF.hI.1; have f2 := blk_frozen hF.hI.1 2; replace hF := Lib.hid hF))  | (go_at_call 33; have _t := hM9; replace hF := Lib.hid (hF.out.put hgl hw0 3 (.bool cl) rfl); go_must (refine (hM9.out _ hF.out.hI hF.out.hB).mono ?_; rintro e1 wn ⟨rfl, hIn, hBn, hKn⟩; clear hM9; replace hF := hF.out.call hgl hIn hBn hKn; clear hIn hBn hKn; have q0 := (blk_cell hF.k4 0).trans rfl; have q2 := (blk_cell hF.k4 2).trans rfl; have q3 := (blk_cell hF.k4 3).trans rfl; have y2 := blk_frozen hF.k4 2; have y3 := blk_frozen hF.k4 3; have c1 := cellS47_1 hF.hI.1; have c2 := cellS47_2 hF.hI.1; have f2 := blk_frozen hF.hI.1 2; have q1 := (blk_cell hF.k4 1).trans rfl; have z0 := (blk_cell hF.k2 0).trans rfl; have z1 := (blk_cell hF.k2 1).trans rfl; have z2 := (blk_cell hF.k2 2).trans rfl; have z3 := (blk_cell hF.k2 3).trans rfl; have x0 := blk_frozen hF.k2 0; have x1 := blk_frozen hF.k2 1; have x2 := blk_frozen hF.k2 2; have x3 := blk_frozen hF.k2 3; replace hF := Lib.hid hF)))
          rw [hh.out]
          exact bodyPost_ret (results_ct rfl rfl (load_reply (put4_blk hF.out.k2 _ _ _ _))) rfl ⟨rfl, hF.out.fin hgl hw0 _ _ _ _⟩
        | false =>
          clear hfi
          rw [if_neg (by simp)] at hh
          obtain ⟨c, hcn⟩ : ∃ c : List UInt8, c = [] := ⟨_, rfl⟩
          rw [← hcn] at hh
          obtain ⟨l7, s7, d7, h7⟩ : ∃ a b c, (a, b, c) = (l6, s6, d6) := ⟨_, _, _, rfl⟩
          injection h7 with h7 h8
          injection h8 with h8 h9
          subst h7 h8 h9
          unfold tail3 at hh
          have hT8 := fun W h1 h2 => take_any g closeL l7 s7 d7 w0 W h1 h2
          generalize takeL closeL (l7, s7, d7) = t8 at *
          obtain ⟨cl, l8, s8, d8⟩ := t8
          dsimp only at hT8 hh
          replace hT8 := Lib.hid hT8
          have hM9 := fun W h1 h2 => must_any g crlfL l8 s8 d8 w0 W h1 h2
          generalize mustL crlfL (l8, s8, d8) = m9 at *
          obtain ⟨l9, s9, d9⟩ := m9
          dsimp only at hM9 hh
          replace hM9 := Lib.hid hM9
          replace hh := Lib.hid hh
          go_enter Tryd.func26, Tryd.ntmps26
          go_wp2_with (first  | (go_at_call 31; go_must (refine hS.out.mono ?_; rintro e w1 ⟨rfl, hI1, hB1, hK1⟩; have hF0 := HF.start hgl hI1 hB1 hK1; replace hF0 := Lib.hid hF0; clear hI1 hB1 hK1 hS))  | (go_at_call 32; have _t := hT; go_must (refine (hT.out _ (hF0.out _).hI (hF0.out _).hB).mono ?_; rintro e w2 ⟨rfl, hI2, hB2, hK2⟩; clear hT; have hF := (hF0.out _).call hgl hI2 hB2 hK2; clear hF0 hI2 hB2 hK2; have q0 := (blk_cell hF.k4 0).trans rfl; have q2 := (blk_cell hF.k4 2).trans rfl; have q3 := (blk_cell hF.k4 3).trans rfl; have y2 := blk_frozen hF.k4 2; have y3 := blk_frozen hF.k4 3; have c1 := cellS47_1 hF.hI.1; have c2 := cellS47_2 hF.hI.1; have f2 := blk_frozen hF.hI.1 2; replace hF := Lib.hid hF))  | (go_at_call 33; have _t := hM3; go_must (refine (hM3.out _ hF.out.hI hF.out.hB).mono ?_; rintro e1 wn ⟨rfl, hIn, hBn, hKn⟩; clear hM3; replace hF := hF.out.call hgl hIn hBn hKn; clear hIn hBn hKn; have q0 := (blk_cell hF.k4 0).trans rfl; have q2 := (blk_cell hF.k4 2).trans rfl; have q3 := (blk_cell hF.k4 3).trans rfl; have y2 := blk_frozen hF.k4 2; have y3 := blk_frozen hF.k4 3; have c1 := cellS47_1 hF.hI.1; have c2 := cellS47_2 hF.hI.1; have f2 := blk_frozen hF.hI.1 2; replace hF := Lib.hid hF))  | (go_at_call 32; have _t := hT6; go_must (refine (hT6.out _ hF.out.hI hF.out.hB).mono ?_; rintro e1 wn ⟨rfl, hIn, hBn, hKn⟩; clear hT6; replace hF := hF.out.call hgl hIn hBn hKn; clear hIn hBn hKn; have q0 := (blk_cell hF.k4 0).trans rfl; have q2 := (blk_cell hF.k4 2).trans rfl; have q3 := (blk_cell hF.k4 3).trans rfl; have y2 := blk_frozen hF.k4 2; have y3 := blk_frozen hF.k4 3; have c1 := cellS47_1 hF.hI.1; have c2 := cellS47_2 hF.hI.1; have f2 := blk_frozen hF.hI.1 2; replace hF := Lib.hid hF))  | (go_at_call 32; have _t := hT8; go_must (refine (hT8.out _ hF.out.hI hF.out.hB).mono ?_; rintro e1 wn ⟨rfl, hIn, hBn, hKn⟩; clear hT8; replace hF := hF.out.call hgl hIn hBn hKn; clear hIn hBn hKn; have q0 := (blk_cell hF.k4 0).trans rfl; have q2 := (blk_cell hF.k4 2).trans rfl; have q3 := (blk_cell hF.k4 3).trans rfl; have y2 := blk_frozen hF.k4 2; have y3 := blk_frozen hF.k4 3; have c1 := cellS47_1 hF.hI.1; have c2 := cellS47_2 hF.hI.1; have f2 := blk_frozen hF.hI.1 2; replace hF := Lib.hid hF))  | (go_at_call 33; have _t := hM9; replace hF := Lib.hid (hF.out.put hgl hw0 3 (.bool cl) rfl); go_must (refine (hM9.out _ hF.out.hI hF.out.hB).mono ?_; rintro e1 wn ⟨rfl, hIn, hBn, hKn⟩; clear hM9; replace hF := hF.out.call hgl hIn hBn hKn; clear hIn hBn hKn; have q0 := (blk_cell hF.k4 0).trans rfl; have q2 := (blk_cell hF.k4 2).trans rfl; have q3 := (blk_cell hF.k4 3).trans rfl; have y2 := blk_frozen hF.k4 2; have y3 := blk_frozen hF.k4 3; have c1 := cellS47_1 hF.hI.1; have c2 := cellS47_2 hF.hI.1; have f2 := blk_frozen hF.hI.1 2; have q1 := (blk_cell hF.k4 1).trans rfl; have z0 := (blk_cell hF.k2 0).trans rfl; have z1 := (blk_cell hF.k2 1).trans rfl; have z2 := (blk_cell hF.k2 2).trans rfl; have z3 := (blk_cell hF.k2 3).trans rfl; have x0 := blk_frozen hF.k2 0; have x1 := blk_frozen hF.k2 1; have x2 := blk_frozen hF.k2 2; have x3 := blk_frozen hF.k2 3; replace hF := Lib.hid hF)))
          subst hcn
          rw [hh.out]
          exact bodyPost_ret (results_ct rfl rfl (load_reply (put4_blk hF.out.k2 _ _ _ _))) rfl ⟨rfl, hF.out.fin hgl hw0 _ _ _ _⟩
    | false =>
      rw [if_neg (by simp)] at hh
      cases d3 with
      | true =>
        rw [if_pos rfl] at hh
        dsimp only at hh
        cases ty with
        | false =>
          have hm : mark false 0 (l3, false, true) = (l3, false, true) := rfl
          rw [hm] at hh
          have hl6 := len_take cookL l3 false true
          have hT6 := fun W h1 h2 => take_any g cookL l3 false true w0 W h1 h2
          have hfi := fun a b c h => @take_fine cookL l3 a false true b c h
          unfold tail2 at hh
          generalize takeL cookL (l3, false, true) = t6 at *
          obtain ⟨hc, l6, s6, d6⟩ := t6
          dsimp only at hT6 hh hl6
          replace hT6 := Lib.hid hT6
          cases hc with
          | true =>
            obtain ⟨rfl, rfl⟩ := hfi _ _ _ rfl
            clear hfi
            rw [if_pos rfl] at hh
            have hC := fun W h1 h2 => cookie_any g l6 (by omega) w0 W h1 h2
            generalize cookieL l6 = k at *
            obtain ⟨c, l7, s7, d7⟩ := k
            dsimp only at hC hh
            replace hC := Lib.hid hC
            unfold tail3 at hh
            have hT8 := fun W h1 h2 => take_any g closeL l7 s7 d7 w0 W h1 h2
            generalize takeL closeL (l7, s7, d7) = t8 at *
            obtain ⟨cl, l8, s8, d8⟩ := t8
            dsimp only at hT8 hh
            replace hT8 := Lib.hid hT8
            have hM9 := fun W h1 h2 => must_any g crlfL l8 s8 d8 w0 W h1 h2
            generalize mustL crlfL (l8, s8, d8) = m9 at *
            obtain ⟨l9, s9, d9⟩ := m9
            dsimp only at hM9 hh
            replace hM9 := Lib.hid hM9
            replace hh := Lib.hid hh
            go_enter Tryd.func26, Tryd.ntmps26
            go_wp2_with (first  | (go_at_call 31; go_must (refine hS.out.mono ?_; rintro e w1 ⟨rfl, hI1, hB1, hK1⟩; have hF0 := HF.start hgl hI1 hB1 hK1; replace hF0 := Lib.hid hF0; clear hI1 hB1 hK1 hS))  | (go_at_call 32; have _t := hT; go_must (refine (hT.out _ (hF0.out _).hI (hF0.out _).hB).mono ?_; rintro e w2 ⟨rfl, hI2, hB2, hK2⟩; clear hT; have hF := (hF0.out _).call hgl hI2 hB2 hK2; clear hF0 hI2 hB2 hK2; have q0 := (blk_cell hF.k4 0).trans rfl; have q2 := (blk_cell hF.k4 2).trans rfl; have q3 := (blk_cell hF.k4 3).trans rfl; have y2 := blk_frozen hF.k4 2; have y3 := blk_frozen hF.k4 3; have c1 := cellS47_1 hF.hI.1; have c2 := cellS47_2 hF.hI.1; have f2 := blk_frozen hF.hI.1 2; replace hF := Lib.hid hF))  | (go_at_call 33; have _t := hM3; go_must (refine (hM3.out _ hF.out.hI hF.out.hB).mono ?_; rintro e1 wn ⟨rfl, hIn, hBn, hKn⟩; clear hM3; replace hF := hF.out.call hgl hIn hBn hKn; clear hIn hBn hKn; have q0 := (blk_cell hF.k4 0).trans rfl; have q2 := (blk_cell hF.k4 2).trans rfl; have q3 := (blk_cell hF.k4 3).trans rfl; have y2 := blk_frozen hF.k4 2; have y3 := blk_frozen hF.k4 3; have c1 := cellS47_1 hF.hI.1; have c2 := cellS47_2 hF.hI.1; have f2 := blk_frozen hF.hI.1 2; replace hF := Lib.hid hF))  | (go_at_call 32; have _t := hT6; go_must (refine (hT6.out _ hF.out.hI hF.out.hB).mono ?_; rintro e1 wn ⟨rfl, hIn, hBn, hKn⟩; clear hT6; replace hF := hF.out.call hgl hIn hBn hKn; clear hIn hBn hKn; have q0 := (blk_cell hF.k4 0).trans rfl; have q2 := (blk_cell hF.k4 2).trans rfl; have q3 := (blk_cell hF.k4 3).trans rfl; have y2 := blk_frozen hF.k4 2; have y3 := blk_frozen hF.k4 3; have c1 := cellS47_1 hF.hI.1; have c2 := cellS47_2 hF.hI.1; have f2 := blk_frozen hF.hI.1 2; replace hF := Lib.hid hF))  | (go_at_call 35; have _t := hC; go_must (refine (hC.out _ hF.out.hI hF.out.hB).mono ?_; rintro e1 wn ⟨rfl, hIn, hBn, hKn⟩; clear hC; replace hF := hF.out.call hgl hIn hBn hKn; clear hIn hBn hKn; have q0 := (blk_cell hF.k4 0).trans rfl; have q2 := (blk_cell hF.k4 2).trans rfl; have q3 := (blk_cell hF.k4 3).trans rfl; have y2 := blk_frozen hF.k4 2; have y3 := blk_frozen hF.k4 3; have c1 := cellS47_1 hF.hI.1; have c2 := cellS47_2 hF.hI.1; have f2 := blk_frozen hF.hI.1 2; replace hF := Lib.hid hF))  | (go_at_call 32; have _t := hT8; replace hF := Lib.hid (hF.out.put hgl hw0 2 (.string (B c)) rfl); go_must (refine (hT8.out _ hF.out.hI hF.out.hB).mono ?_; rintro e1 wn ⟨rfl, hIn, hBn, hKn⟩; clear hT8; replace hF := hF.out.call hgl hIn hBn hKn; clear hIn hBn hKn; have q0 := (blk_cell hF.k4 0).trans rfl; have q2 := (blk_cell hF.k4 2).trans rfl; have q3 := (blk_cell hF.k4 3).trans rfl; have y2 := blk_frozen hF.k4 2; have y3 := blk_frozen hF.k4 3; have c1 := cellS47_1 hF.hI.1; have c2 := cellS47_2 hF.hI.1; have f2 := blk_frozen hF.hI.1 2; replace hF := Lib.hid hF))  | (go_at_call 33; have _t := hM9; replace hF := Lib.hid (hF.out.put hgl hw0 3 (.bool cl) rfl); go_must (refine (hM9.out _ hF.out.hI hF.out.hB).mono ?_; rintro e1 wn ⟨rfl, hIn, hBn, hKn⟩; clear hM9; replace hF := hF.out.call hgl hIn hBn hKn; clear hIn hBn hKn; have q0 := (blk_cell hF.k4 0).trans rfl; have q2 := (blk_cell hF.k4 2).trans rfl; have q3 := (blk_cell hF.k4 3).trans rfl; have y2 := blk_frozen hF.k4 2; have y3 := blk_frozen hF.k4 3; have c1 := cellS47_1 hF.hI.1; have c2 := cellS47_2 hF.hI.1; have f2 := blk_frozen hF.hI.1 2; have q1 := (blk_cell hF.k4 1).trans rfl; have z0 := (blk_cell hF.k2 0).trans rfl; have z1 := (blk_cell hF.k2 1).trans rfl; have z2 := (blk_cell hF.k2 2).trans rfl; have z3 := (blk_cell hF.k2 3).trans rfl; have x0 := blk_frozen hF.k2 0; have x1 := blk_frozen hF.k2 1; have x2 := blk_frozen hF.k2 2; have x3 := blk_frozen hF.k2 3; replace hF := Lib.hid hF)))
            rw [hh.out]
            exact bodyPost_ret (results_ct rfl rfl (load_reply (put4_blk hF.out.k2 _ _ _ _))) rfl ⟨rfl, hF.out.fin hgl hw0 _ _ _ _⟩
          | false =>
            clear hfi
            rw [if_neg (by simp)] at hh
            obtain ⟨c, hcn⟩ : ∃ c : List UInt8, c = [] := ⟨_, rfl⟩
            rw [← hcn] at hh
            obtain ⟨l7, s7, d7, h7⟩ : ∃ a b c, (a, b, c) = (l6, s6, d6) := ⟨_, _, _, rfl⟩
            injection h7 with h7 h8
            injection h8 with h8 h9
            subst h7 h8 h9
            unfold tail3 at hh
            have hT8 := fun W h1 h2 => take_any g closeL l7 s7 d7 w0 W h1 h2
            generalize takeL closeL (l7, s7, d7) = t8 at *
            obtain ⟨cl, l8, s8, d8⟩ := t8
            dsimp only at hT8 hh
            replace hT8 := Lib.hid hT8
            have hM9 := fun W h1 h2 => must_any g crlfL l8 s8 d8 w0 W h1 h2
            generalize mustL crlfL (l8, s8, d8) = m9 at *
            obtain ⟨l9, s9, d9⟩ := m9
            dsimp only at hM9 hh
            replace hM9 := Lib.hid hM9
            replace hh := Lib.hid hh
            go_enter Tryd.func26, Tryd.ntmps26
            go_wp2_with (first  | (go_at_call 31; go_must (refine hS.out.mono ?_; rintro e w1 ⟨rfl, hI1, hB1, hK1⟩; have hF0 := HF.start hgl hI1 hB1 hK1; replace hF0 := Lib.hid hF0; clear hI1 hB1 hK1 hS))  | (go_at_call 32; have _t := hT; go_must (refine (hT.out _ (hF0.out _).hI (hF0.out _).hB).mono ?_; rintro e w2 ⟨rfl, hI2, hB2, hK2⟩; clear hT; have hF := (hF0.out _).call hgl hI2 hB2 hK2; clear hF0 hI2 hB2 hK2; have q0 := (blk_cell hF.k4 0).trans rfl; have q2 := (blk_cell hF.k4 2).trans rfl; have q3 := (blk_cell hF.k4 3).trans rfl; have y2 := blk_frozen hF.k4 2; have y3 := blk_frozen hF.k4 3; have c1 := cellS47_1 hF.hI.1; have c2 := cellS47_2 hF.hI.1; have f2 := blk_frozen hF.hI.1 2; replace hF := Lib.hid hF))  | (go_at_call 33; have _t := hM3; go_must (refine (hM3.out _ hF.out.hI hF.out.hB).mono ?_; rintro e1 wn ⟨rfl, hIn, hBn, hKn⟩; clear hM3; replace hF := hF.out.call hgl hIn hBn hKn; clear hIn hBn hKn; have q0 := (blk_cell hF.k4 0).trans rfl; have q2 := (blk_cell hF.k4 2).trans rfl; have q3 := (blk_cell hF.k4 3).trans rfl; have y2 := blk_frozen hF.k4 2; have y3 := blk_frozen hF.k4 3; have c1 := cellS47_1 hF.hI.1; have c2 := cellS47_2 hF.hI.1; have f2 := blk_frozen hF.hI.1 2; replace hF := Lib.hid hF))  | (go_at_call 32; have _t := hT6; go_must (refine (hT6.out _ hF.out.hI hF.out.hB).mono ?_; rintro e1 wn ⟨rfl, hIn, hBn, hKn⟩; clear hT6; replace hF := hF.out.call hgl hIn hBn hKn; clear hIn hBn hKn; have q0 := (blk_cell hF.k4 0).trans rfl; have q2 := (blk_cell hF.k4 2).trans rfl; have q3 := (blk_cell hF.k4 3).trans rfl; have y2 := blk_frozen hF.k4 2; have y3 := blk_frozen hF.k4 3; have c1 := cellS47_1 hF.hI.1; have c2 := cellS47_2 hF.hI.1; have f2 := blk_frozen hF.hI.1 2; replace hF := Lib.hid hF))  | (go_at_call 32; have _t := hT8; go_must (refine (hT8.out _ hF.out.hI hF.out.hB).mono ?_; rintro e1 wn ⟨rfl, hIn, hBn, hKn⟩; clear hT8; replace hF := hF.out.call hgl hIn hBn hKn; clear hIn hBn hKn; have q0 := (blk_cell hF.k4 0).trans rfl; have q2 := (blk_cell hF.k4 2).trans rfl; have q3 := (blk_cell hF.k4 3).trans rfl; have y2 := blk_frozen hF.k4 2; have y3 := blk_frozen hF.k4 3; have c1 := cellS47_1 hF.hI.1; have c2 := cellS47_2 hF.hI.1; have f2 := blk_frozen hF.hI.1 2; replace hF := Lib.hid hF))  | (go_at_call 33; have _t := hM9; replace hF := Lib.hid (hF.out.put hgl hw0 3 (.bool cl) rfl); go_must (refine (hM9.out _ hF.out.hI hF.out.hB).mono ?_; rintro e1 wn ⟨rfl, hIn, hBn, hKn⟩; clear hM9; replace hF := hF.out.call hgl hIn hBn hKn; clear hIn hBn hKn; have q0 := (blk_cell hF.k4 0).trans rfl; have q2 := (blk_cell hF.k4 2).trans rfl; have q3 := (blk_cell hF.k4 3).trans rfl; have y2 := blk_frozen hF.k4 2; have y3 := blk_frozen hF.k4 3; have c1 := cellS47_1 hF.hI.1; have c2 := cellS47_2 hF.hI.1; have f2 := blk_frozen hF.hI.1 2; have q1 := (blk_cell hF.k4 1).trans rfl; have z0 := (blk_cell hF.k2 0).trans rfl; have z1 := (blk_cell hF.k2 1).trans rfl; have z2 := (blk_cell hF.k2 2).trans rfl; have z3 := (blk_cell hF.k2 3).trans rfl; have x0 := blk_frozen hF.k2 0; have x1 := blk_frozen hF.k2 1; have x2 := blk_frozen hF.k2 2; have x3 := blk_frozen hF.k2 3; replace hF := Lib.hid hF)))
            subst hcn
            rw [hh.out]
            exact bodyPost_ret (results_ct rfl rfl (load_reply (put4_blk hF.out.k2 _ _ _ _))) rfl ⟨rfl, hF.out.fin hgl hw0 _ _ _ _⟩
        | true =>
          have hm : mark true 0 (l3, false, true) = (l3, false, true) := rfl
          rw [hm] at hh
          have hl6 := len_take cookL l3 false true
          have hT6 := fun W h1 h2 => take_any g cookL l3 false true w0 W h1 h2
          have hfi := fun a b c h => @take_fine cookL l3 a false true b c h
          unfold tail2 at hh
          generalize takeL cookL (l3, false, true) = t6 at *
          obtain ⟨hc, l6, s6, d6⟩ := t6
          dsimp only at hT6 hh hl6
          replace hT6 := Lib.hid hT6
          cases hc with
          | true =>
            obtain ⟨rfl, rfl⟩ := hfi _ _ _ rfl
            clear hfi
            rw [if_pos rfl] at hh
            have hC := fun W h1 h2 => cookie_any g l6 (by omega) w0 W h1 h2
            generalize cookieL l6 = k at *
            obtain ⟨c, l7, s7, d7⟩ := k
            dsimp only at hC hh
            replace hC := Lib.hid hC
            unfold tail3 at hh
            have hT8 := fun W h1 h2 => take_any g closeL l7 s7 d7 w0 W h1 h2
            generalize takeL closeL (l7, s7, d7) = t8 at *
            obtain ⟨cl, l8, s8, d8⟩ := t8
            dsimp only at hT8 hh
            replace hT8 := Lib.hid hT8
            have hM9 := fun W h1 h2 => must_any g crlfL l8 s8 d8 w0 W h1 h2
            generalize mustL crlfL (l8, s8, d8) = m9 at *
            obtain ⟨l9, s9, d9⟩ := m9
            dsimp only at hM9 hh
            replace hM9 := Lib.hid hM9
            replace hh := Lib.hid hh
            go_enter Tryd.func26, Tryd.ntmps26
            go_wp2_with (first  | (go_at_call 31; go_must (refine hS.out.mono ?_; rintro e w1 ⟨rfl, hI1, hB1, hK1⟩; have hF0 := HF.start hgl hI1 hB1 hK1; replace hF0 := Lib.hid hF0; clear hI1 hB1 hK1 hS))  | (go_at_call 32; have _t := hT; go_must (refine (hT.out _ (hF0.out _).hI (hF0.out _).hB).mono ?_; rintro e w2 ⟨rfl, hI2, hB2, hK2⟩; clear hT; have hF := (hF0.out _).call hgl hI2 hB2 hK2; clear hF0 hI2 hB2 hK2; have q0 := (blk_cell hF.k4 0).trans rfl; have q2 := (blk_cell hF.k4 2).trans rfl; have q3 := (blk_cell hF.k4 3).trans rfl; have y2 := blk_frozen hF.k4 2; have y3 := blk_frozen hF.k4 3; have c1 := cellS47_1 hF.hI.1; have c2 := cellS47_2 hF.hI.1; have f2 := blk_frozen hF.hI.1 2; replace hF := Lib.hid hF))  | (go_at_call 33; have _t := hM3; go_must (refine (hM3.out _ hF.out.hI hF.out.hB).mono ?_; rintro e1 wn ⟨rfl, hIn, hBn, hKn⟩; clear hM3; replace hF := hF.out.call hgl hIn hBn hKn; clear hIn hBn hKn; have q0 := (blk_cell hF.k4 0).trans rfl; have q2 := (blk_cell hF.k4 2).trans rfl; have q3 := (blk_cell hF.k4 3).trans rfl; have y2 := blk_frozen hF.k4 2; have y3 := blk_frozen hF.k4 3; have c1 := cellS47_1 hF.hI.1; have c2 := cellS47_2 hF.hI.1; have f2 := blk_frozen hF.hI.1 2; replace hF := Lib.hid hF))  | (go_at_call 32; have _t := hT6; replace hF := Lib.hid (hF.out.bad hgl hge); go_must (refine (hT6.out _ hF.out.hI hF.out.hB).mono ?_; rintro e1 wn ⟨rfl, hIn, hBn, hKn⟩; clear hT6; replace hF := hF.out.call hgl hIn hBn hKn; clear hIn hBn hKn; have q0 := (blk_cell hF.k4 0).trans rfl; have q2 := (blk_cell hF.k4 2).trans rfl; have q3 := (blk_cell hF.k4 3).trans rfl; have y2 := blk_frozen hF.k4 2; have y3 := blk_frozen hF.k4 3; have c1 := cellS47_1 hF.hI.1; have c2 := cellS47_2 hF.hI.1; have f2 := blk_frozen hF.hI.1 2; replace hF := Lib.hid hF))  | (go_at_call 35; have _t := hC; go_must (refine (hC.out _ hF.out.hI hF.out.hB).mono ?_; rintro e1 wn ⟨rfl, hIn, hBn, hKn⟩; clear hC; replace hF := hF.out.call hgl hIn hBn hKn; clear hIn hBn hKn; have q0 := (blk_cell hF.k4 0).trans rfl; have q2 := (blk_cell hF.k4 2).trans rfl; have q3 := (blk_cell hF.k4 3).trans rfl; have y2 := blk_frozen hF.k4 2; have y3 := blk_frozen hF.k4 3; have c1 := cellS47_1 hF.hI.1; have c2 := cellS47_2 hF.hI.1; have f2 := blk_frozen hF.hI.1 2; replace hF := Lib.hid hF))  | (go_at_call 32; have _t := hT8; replace hF := Lib.hid (hF.out.put hgl hw0 2 (.string (B c)) rfl); go_must (refine (hT8.out _ hF.out.hI hF.out.hB).mono ?_; rintro e1 wn ⟨rfl, hIn, hBn, hKn⟩; clear hT8; replace hF := hF.out.call hgl hIn hBn hKn; clear hIn hBn hKn; have q0 := (blk_cell hF.k4 0).trans rfl; have q2 := (blk_cell hF.k4 2).trans rfl; have q3 := (blk_cell hF.k4 3).trans rfl; have y2 := blk_frozen hF.k4 2; have y3 := blk_frozen hF.k4 3; have c1 := cellS47_1 hF.hI.1; have c2 := cellS47_2 hF.hI.1; have f2 := blk_frozen hF.hI.1 2; replace hF := Lib.hid hF))  | (go_at_call 33; have _t := hM9; replace hF := Lib.hid (hF.out.put hgl hw0 3 (.bool cl) rfl); go_must (refine (hM9.out _ hF.out.hI hF.out.hB).mono ?_; rintro e1 wn ⟨rfl, hIn, hBn, hKn⟩; clear hM9; replace hF := hF.out.call hgl hIn hBn hKn; clear hIn hBn hKn; have q0 := (blk_cell hF.k4 0).trans rfl; have q2 := (blk_cell hF.k4 2).trans rfl; have q3 := (blk_cell hF.k4 3).trans rfl; have y2 := blk_frozen hF.k4 2; have y3 := blk_frozen hF.k4 3; have c1 := cellS47_1 hF.hI.1; have c2 := cellS47_2 hF.hI.1; have f2 := blk_frozen hF.hI.1 2; have q1 := (blk_cell hF.k4 1).trans rfl; have z0 := (blk_cell hF.k2 0).trans rfl; have z1 := (blk_cell hF.k2 1).trans rfl; have z2 := (blk_cell hF.k2 2).trans rfl; have z3 := (blk_cell hF.k2 3).trans rfl; have x0 := blk_frozen hF.k2 0; have x1 := blk_frozen hF.k2 1; have x2 := blk_frozen hF.k2 2; have x3 := blk_frozen hF.k2 3; replace hF := Lib.hid hF)))
            rw [hh.out]
            exact bodyPost_ret (results_ct rfl rfl (load_reply (put4_blk hF.out.k2 _ _ _ _))) rfl ⟨rfl, hF.out.fin hgl hw0 _ _ _ _⟩
          | false =>
            clear hfi
            rw [if_neg (by simp)] at hh
            obtain ⟨c, hcn⟩ : ∃ c : List UInt8, c = [] := ⟨_, rfl⟩
            rw [← hcn] at hh
            obtain ⟨l7, s7, d7, h7⟩ : ∃ a b c, (a, b, c) = (l6, s6, d6) := ⟨_, _, _, rfl⟩
            injection h7 with h7 h8
            injection h8 with h8 h9
            subst h7 h8 h9
            unfold tail3 at hh
            have hT8 := fun W h1 h2 => take_any g closeL l7 s7 d7 w0 W h1 h2
            generalize takeL closeL (l7, s7, d7) = t8 at *
            obtain ⟨cl, l8, s8, d8⟩ := t8
            dsimp only at hT8 hh
            replace hT8 := Lib.hid hT8
            have hM9 := fun W h1 h2 => must_any g crlfL l8 s8 d8 w0 W h1 h2
            generalize mustL crlfL (l8, s8, d8) = m9 at *
            obtain ⟨l9, s9, d9⟩ := m9
            dsimp only at hM9 hh
            replace hM9 := Lib.hid hM9
            replace hh := Lib.hid hh
            go_enter Tryd.func26, Tryd.ntmps26
            go_wp2_with (first  | (go_at_call 31; go_must (refine hS.out.mono ?_; rintro e w1 ⟨rfl, hI1, hB1, hK1⟩; have hF0 := HF.start hgl hI1 hB1 hK1; replace hF0 := Lib.hid hF0; clear hI1 hB1 hK1 hS))  | (go_at_call 32; have _t := hT; go_must (refine (hT.out _ (hF0.out _).hI (hF0.out _).hB).mono ?_; rintro e w2 ⟨rfl, hI2, hB2, hK2⟩; clear hT; have hF := (hF0.out _).call hgl hI2 hB2 hK2; clear hF0 hI2 hB2 hK2; have q0 := (blk_cell hF.k4 0).trans rfl; have q2 := (blk_cell hF.k4 2).trans rfl; have q3 := (blk_cell hF.k4 3).trans rfl; have y2 := blk_frozen hF.k4 2; have y3 := blk_frozen hF.k4 3; have c1 := cellS47_1 hF.hI.1; have c2 := cellS47_2 hF.hI.1; have f2 := blk_frozen hF.hI.1 2; replace hF := Lib.hid hF))  | (go_at_call 33; have _t := hM3; go_must (refine (hM3.out _ hF.out.hI hF.out.hB).mono ?_; rintro e1 wn ⟨rfl, hIn, hBn, hKn⟩; clear hM3; replace hF := hF.out.call hgl hIn hBn hKn; clear hIn hBn hKn; have q0 := (blk_cell hF.k4 0).trans rfl; have q2 := (blk_cell hF.k4 2).trans rfl; have q3 := (blk_cell hF.k4 3).trans rfl; have y2 := blk_frozen hF.k4 2; have y3 := blk_frozen hF.k4 3; have c1 := cellS47_1 hF.hI.1; have c2 := cellS47_2 hF.hI.1; have f2 := blk_frozen hF.hI.1 2; replace hF := Lib.hid hF))  | (go_at_call 32; have _t := hT6; replace hF := Lib.hid (hF.out.bad hgl hge); go_must (refine (hT6.out _ hF.out.hI hF.out.hB).mono ?_; rintro e1 wn ⟨rfl, hIn, hBn, hKn⟩; clear hT6; replace hF := hF.out.call hgl hIn hBn hKn; clear hIn hBn hKn; have q0 := (blk_cell hF.k4 0).trans rfl; have q2 := (blk_cell hF.k4 2).trans rfl; have q3 := (blk_cell hF.k4 3).trans rfl; have y2 := blk_frozen hF.k4 2; have y3 := blk_frozen hF.k4 3; have c1 := cellS47_1 hF.hI.1; have c2 := cellS47_2 hF.hI.1; have f2 := blk_frozen hF.hI.1 2; replace hF := Lib.hid hF))  | (go_at_call 32; have _t := hT8; go_must (refine (hT8.out _ hF.out.hI hF.out.hB).mono ?_; rintro e1 wn ⟨rfl, hIn, hBn, hKn⟩; clear hT8; replace hF := hF.out.call hgl hIn hBn hKn; clear hIn hBn hKn; have q0 := (blk_cell hF.k4 0).trans rfl; have q2 := (blk_cell hF.k4 2).trans rfl; have q3 := (blk_cell hF.k4 3).trans rfl; have y2 := blk_frozen hF.k4 2; have y3 := blk_frozen hF.k4 3; have c1 := cellS47_1 hF.hI.1; have c2 := cellS47_2 hF.hI.1; have f2 := blk_frozen hF.hI.1 2; replace hF := Lib.hid hF))  | (go_at_call 33; have _t := hM9; replace hF := Lib.hid (hF.out.put hgl hw0 3 (.bool cl) rfl); go_must (refine (hM9.out _ hF.out.hI hF.out.hB).mono ?_; rintro e1 wn ⟨rfl, hIn, hBn, hKn⟩; clear hM9; replace hF := hF.out.call hgl hIn hBn hKn; clear hIn hBn hKn; have q0 := (blk_cell hF.k4 0).trans rfl; have q2 := (blk_cell hF.k4 2).trans rfl; have q3 := (blk_cell hF.k4 3).trans rfl; have y2 := blk_frozen hF.k4 2; have y3 := blk_frozen hF.k4 3; have c1 := cellS47_1 hF.hI.1; have c2 := cellS47_2 hF.hI.1; have f2 := blk_frozen hF.hI.1 2; have q1 := (blk_cell hF.k4 1).trans rfl; have z0 := (blk_cell hF.k2 0).trans rfl; have z1 := (blk_cell hF.k2 1).trans rfl; have z2 := (blk_cell hF.k2 2).trans rfl; have z3 := (blk_cell hF.k2 3).trans rfl; have x0 := blk_frozen hF.k2 0; have x1 := blk_frozen hF.k2 1; have x2 := blk_frozen hF.k2 2; have x3 := blk_frozen hF.k2 3; replace hF := Lib.hid hF)))
            subst hcn
            rw [hh.out]
            exact bodyPost_ret (results_ct rfl rfl (load_reply (put4_blk hF.out.k2 _ _ _ _))) rfl ⟨rfl, hF.out.fin hgl hw0 _ _ _ _⟩
      | false =>
        rw [if_neg (by simp)] at hh
        have hN := fun W h1 h2 => number_any g l3 (by omega) w0 W h1 h2
        have hl4 := len_number l3
        generalize numberL l3 = n3 at *
        obtain ⟨z, l4, s4, d4⟩ := n3
        dsimp only at hN hh hl4
        replace hN := Lib.hid hN
        cases ty with
        | false =>
          by_cases hzp : 0 < z
          · have hzi : (0 : Int) < (z : Int) := by omega
            have hd : decide (0 < z) = true := by simp [hzp]
            cases s4 with
            | true =>
              have hm : mark false z (l4, true, d4) = (l4, true, d4) := by unfold mark; rw [hd]; rfl
              rw [hm] at hh
              clear hd hm
              have hl6 := len_take cookL l4 true d4
              have hT6 := fun W h1 h2 => take_any g cookL l4 true d4 w0 W h1 h2
              have hfi := fun a b c h => @take_fine cookL l4 a true d4 b c h
              unfold tail2 at hh
              generalize takeL cookL (l4, true, d4) = t6 at *
              obtain ⟨hc, l6, s6, d6⟩ := t6
              dsimp only at hT6 hh hl6
              replace hT6 := Lib.hid hT6
              cases hc with
              | true =>
                obtain ⟨rfl, rfl⟩ := hfi _ _ _ rfl
                clear hfi
                rw [if_pos rfl] at hh
                have hC := fun W h1 h2 => cookie_any g l6 (by omega) w0 W h1 h2
                generalize cookieL l6 = k at *
                obtain ⟨c, l7, s7, d7⟩ := k
                dsimp only at hC hh
                replace hC := Lib.hid hC
                unfold tail3 at hh
                have hT8 := fun W h1 h2 => take_any g closeL l7 s7 d7 w0 W h1 h2
                generalize takeL closeL (l7, s7, d7) = t8 at *
                obtain ⟨cl, l8, s8, d8⟩ := t8
                dsimp only at hT8 hh
                replace hT8 := Lib.hid hT8
                have hM9 := fun W h1 h2 => must_any g crlfL l8 s8 d8 w0 W h1 h2
                generalize mustL crlfL (l8, s8, d8) = m9 at *
                obtain ⟨l9, s9, d9⟩ := m9
                dsimp only at hM9 hh
                replace hM9 := Lib.hid hM9
                replace hh := Lib.hid hh
                go_enter Tryd.func26, Tryd.ntmps26
                go_wp2_with (first  | (go_at_call 31; go_must (refine hS.out.mono ?_; rintro e w1 ⟨rfl, hI1, hB1, hK1⟩; have hF0 := HF.start hgl hI1 hB1 hK1; replace hF0 := Lib.hid hF0; clear hI1 hB1 hK1 hS))  | (go_at_call 32; have _t := hT; go_must (refine (hT.out _ (hF0.out _).hI (hF0.out _).hB).mono ?_; rintro e w2 ⟨rfl, hI2, hB2, hK2⟩; clear hT; have hF := (hF0.out _).call hgl hI2 hB2 hK2; clear hF0 hI2 hB2 hK2; have q0 := (blk_cell hF.k4 0).trans rfl; have q2 := (blk_cell hF.k4 2).trans rfl; have q3 := (blk_cell hF.k4 3).trans rfl; have y2 := blk_frozen hF.k4 2; have y3 := blk_frozen hF.k4 3; have c1 := cellS47_1 hF.hI.1; have c2 := cellS47_2 hF.hI.1; have f2 := blk_frozen hF.hI.1 2; replace hF := Lib.hid hF))  | (go_at_call 33; have _t := hM3; go_must (refine (hM3.out _ hF.out.hI hF.out.hB).mono ?_; rintro e1 wn ⟨rfl, hIn, hBn, hKn⟩; clear hM3; replace hF := hF.out.call hgl hIn hBn hKn; clear hIn hBn hKn; have q0 := (blk_cell hF.k4 0).trans rfl; have q2 := (blk_cell hF.k4 2).trans rfl; have q3 := (blk_cell hF.k4 3).trans rfl; have y2 := blk_frozen hF.k4 2; have y3 := blk_frozen hF.k4 3; have c1 := cellS47_1 hF.hI.1; have c2 := cellS47_2 hF.hI.1; have f2 := blk_frozen hF.hI.1 2; replace hF := Lib.hid hF))  | (go_at_call 34; have _t := hN; go_must (refine (hN.out _ hF.out.hI hF.out.hB).mono ?_; rintro e1 wn ⟨rfl, hIn, hBn, hKn⟩; clear hN; replace hF := hF.out.call hgl hIn hBn hKn; clear hIn hBn hKn; have q0 := (blk_cell hF.k4 0).trans rfl; have q2 := (blk_cell hF.k4 2).trans rfl; have q3 := (blk_cell hF.k4 3).trans rfl; have y2 := blk_frozen hF.k4 2; have y3 := blk_frozen hF.k4 3; have c1 := cellS47_1 hF.hI.1; have c2 := cellS47_2 hF.hI.1; have f2 := blk_frozen hF.hI.1 2; replace hF := Lib.hid hF))  | (go_at_call 32; have _t := hT6; go_must (refine (hT6.out _ hF.out.hI hF.out.hB).mono ?_; rintro e1 wn ⟨rfl, hIn, hBn, hKn⟩; clear hT6; replace hF := hF.out.call hgl hIn hBn hKn; clear hIn hBn hKn; have q0 := (blk_cell hF.k4 0).trans rfl; have q2 := (blk_cell hF.k4 2).trans rfl; have q3 := (blk_cell hF.k4 3).trans rfl; have y2 := blk_frozen hF.k4 2; have y3 := blk_frozen hF.k4 3; have c1 := cellS47_1 hF.hI.1; have c2 := cellS47_2 hF.hI.1; have f2 := blk_frozen hF.hI.1 2; replace hF := Lib.hid hF))  | (go_at_call 35; have _t := hC; go_must (refine (hC.out _ hF.out.hI hF.out.hB).mono ?_; rintro e1 wn ⟨rfl, hIn, hBn, hKn⟩; clear hC; replace hF := hF.out.call hgl hIn hBn hKn; clear hIn hBn hKn; have q0 := (blk_cell hF.k4 0).trans rfl; have q2 := (blk_cell hF.k4 2).trans rfl; have q3 := (blk_cell hF.k4 3).trans rfl; have y2 := blk_frozen hF.k4 2; have y3 := blk_frozen hF.k4 3; have c1 := cellS47_1 hF.hI.1; have c2 := cellS47_2 hF.hI.1; have f2 := blk_frozen hF.hI.1 2; replace hF := Lib.hid hF))  | (go_at_call 32; have _t := hT8; replace hF := Lib.hid (hF.out.put hgl hw0 2 (.string (B c)) rfl); go_must (refine (hT8.out _ hF.out.hI hF.out.hB).mono ?_; rintro e1 wn ⟨rfl, hIn, hBn, hKn⟩; clear hT8; replace hF := hF.out.call hgl hIn hBn hKn; clear hIn hBn hKn; have q0 := (blk_cell hF.k4 0).trans rfl; have q2 := (blk_cell hF.k4 2).trans rfl; have q3 := (blk_cell hF.k4 3).trans rfl; have y2 := blk_frozen hF.k4 2; have y3 := blk_frozen hF.k4 3; have c1 := cellS47_1 hF.hI.1; have c2 := cellS47_2 hF.hI.1; have f2 := blk_frozen hF.hI.1 2; replace hF := Lib.hid hF))  | (go_at_call 33; have _t := hM9; replace hF := Lib.hid (hF.out.put hgl hw0 3 (.bool cl) rfl); go_must (refine (hM9.out _ hF.out.hI hF.out.hB).mono ?_; rintro e1 wn ⟨rfl, hIn, hBn, hKn⟩; clear hM9; replace hF := hF.out.call hgl hIn hBn hKn; clear hIn hBn hKn; have q0 := (blk_cell hF.k4 0).trans rfl; have q2 := (blk_cell hF.k4 2).trans rfl; have q3 := (blk_cell hF.k4 3).trans rfl; have y2 := blk_frozen hF.k4 2; have y3 := blk_frozen hF.k4 3; have c1 := cellS47_1 hF.hI.1; have c2 := cellS47_2 hF.hI.1; have f2 := blk_frozen hF.hI.1 2; have q1 := (blk_cell hF.k4 1).trans rfl; have z0 := (blk_cell hF.k2 0).trans rfl; have z1 := (blk_cell hF.k2 1).trans rfl; have z2 := (blk_cell hF.k2 2).trans rfl; have z3 := (blk_cell hF.k2 3).trans rfl; have x0 := blk_frozen hF.k2 0; have x1 := blk_frozen hF.k2 1; have x2 := blk_frozen hF.k2 2; have x3 := blk_frozen hF.k2 3; replace hF := Lib.hid hF)))
                rw [hh.out]
                exact bodyPost_ret (results_ct rfl rfl (load_reply (put4_blk hF.out.k2 _ _ _ _))) rfl ⟨rfl, hF.out.fin hgl hw0 _ _ _ _⟩
              | false =>
                clear hfi
                rw [if_neg (by simp)] at hh
                obtain ⟨c, hcn⟩ : ∃ c : List UInt8, c = [] := ⟨_, rfl⟩
                rw [← hcn] at hh
                obtain ⟨l7, s7, d7, h7⟩ : ∃ a b c, (a, b, c) = (l6, s6, d6) := ⟨_, _, _, rfl⟩
                injection h7 with h7 h8
                injection h8 with h8 h9
                subst h7 h8 h9
                unfold tail3 at hh
                have hT8 := fun W h1 h2 => take_any g closeL l7 s7 d7 w0 W h1 h2
                generalize takeL closeL (l7, s7, d7) = t8 at *
                obtain ⟨cl, l8, s8, d8⟩ := t8
                dsimp only at hT8 hh
                replace hT8 := Lib.hid hT8
                have hM9 := fun W h1 h2 => must_any g crlfL l8 s8 d8 w0 W h1 h2
                generalize mustL crlfL (l8, s8, d8) = m9 at *
                obtain ⟨l9, s9, d9⟩ := m9
                dsimp only at hM9 hh
                replace hM9 := Lib.hid hM9
                replace hh := Lib.hid hh
                go_enter Tryd.func26, Tryd.ntmps26
                go_wp2_with (first  | (go_at_call 31; go_must (refine hS.out.mono ?_; rintro e w1 ⟨rfl, hI1, hB1, hK1⟩; have hF0 := HF.start hgl hI1 hB1 hK1; replace hF0 := Lib.hid hF0; clear hI1 hB1 hK1 hS))  | (go_at_call 32; have _t := hT; go_must (refine (hT.out _ (hF0.out _).hI (hF0.out _).hB).mono ?_; rintro e w2 ⟨rfl, hI2, hB2, hK2⟩; clear hT; have hF := (hF0.out _).call hgl hI2 hB2 hK2; clear hF0 hI2 hB2 hK2; have q0 := (blk_cell hF.k4 0).trans rfl; have q2 := (blk_cell hF.k4 2).trans rfl; have q3 := (blk_cell hF.k4 3).trans rfl; have y2 := blk_frozen hF.k4 2; have y3 := blk_frozen hF.k4 3; have c1 := cellS47_1 hF.hI.1; have c2 := cellS47_2 hF.hI.1; have f2 := blk_frozen hF.hI.1 2; replace hF := Lib.hid hF))  | (go_at_call 33; have _t := hM3; go_must (refine (hM3.out _ hF.out.hI hF.out.hB).mono ?_; rintro e1 wn ⟨rfl, hIn, hBn, hKn⟩; clear hM3; replace hF := hF.out.call hgl hIn hBn hKn; clear hIn hBn hKn; have q0 := (blk_cell hF.k4 0).trans rfl; have q2 := (blk_cell hF.k4 2).trans rfl; have q3 := (blk_cell hF.k4 3).trans rfl; have y2 := blk_frozen hF.k4 2; have y3 := blk_frozen hF.k4 3; have c1 := cellS47_1 hF.hI.1; have c2 := cellS47_2 hF.hI.1; have f2 := blk_frozen hF.hI.1 2; replace hF := Lib.hid hF))  | (go_at_call 34; have _t := hN; go_must (refine (hN.out _ hF.out.hI hF.out.hB).mono ?_; rintro e1 wn ⟨rfl, hIn, hBn, hKn⟩; clear hN; replace hF := hF.out.call hgl hIn hBn hKn; clear hIn hBn hKn; have q0 := (blk_cell hF.k4 0).trans rfl; have q2 := (blk_cell hF.k4 2).trans rfl; have q3 := (blk_cell hF.k4 3).trans rfl; have y2 := blk_frozen hF.k4 2; have y3 := blk_frozen hF.k4 3; have c1 := cellS47_1 hF.hI.1; have c2 := cellS47_2 hF.hI.1; have f2 := blk_frozen hF.hI.1 2; replace hF := Lib.hid hF))  | (go_at_call 32; have _t := hT6; go_must (refine (hT6.out _ hF.out.hI hF.out.hB).mono ?_; rintro e1 wn ⟨rfl, hIn, hBn, hKn⟩; clear hT6; replace hF := hF.out.call hgl hIn hBn hKn; clear hIn hBn hKn; have q0 := (blk_cell hF.k4 0).trans rfl; have q2 := (blk_cell hF.k4 2).trans rfl; have q3 := (blk_cell hF.k4 3).trans rfl; have y2 := blk_frozen hF.k4 2; have y3 := blk_frozen hF.k4 3; have c1 := cellS47_1 hF.hI.1; have c2 := cellS47_2 hF.hI.1; have f2 := blk_frozen hF.hI.1 2; replace hF := Lib.hid hF))  | (go_at_call 32; have _t := hT8; go_must (refine (hT8.out _ hF.out.hI hF.out.hB).mono ?_; rintro e1 wn ⟨rfl, hIn, hBn, hKn⟩; clear hT8; replace hF := hF.out.call hgl hIn hBn hKn; clear hIn hBn hKn; have q0 := (blk_cell hF.k4 0).trans rfl; have q2 := (blk_cell hF.k4 2).trans rfl; have q3 := (blk_cell hF.k4 3).trans rfl; have y2 := blk_frozen hF.k4 2; have y3 := blk_frozen hF.k4 3; have c1 := cellS47_1 hF.hI.1; have c2 := cellS47_2 hF.hI.1; have f2 := blk_frozen hF.hI.1 2; replace hF := Lib.hid hF))  | (go_at_call 33; have _t := hM9; replace hF := Lib.hid (hF.out.put hgl hw0 3 (.bool cl) rfl); go_must (refine (hM9.out _ hF.out.hI hF.out.hB).mono ?_; rintro e1 wn ⟨rfl, hIn, hBn, hKn⟩; clear hM9; replace hF := hF.out.call hgl hIn hBn hKn; clear hIn hBn hKn; have q0 := (blk_cell hF.k4 0).trans rfl; have q2 := (blk_cell hF.k4 2).trans rfl; have q3 := (blk_cell hF.k4 3).trans rfl; have y2 := blk_frozen hF.k4 2; have y3 := blk_frozen hF.k4 3; have c1 := cellS47_1 hF.hI.1; have c2 := cellS47_2 hF.hI.1; have f2 := blk_frozen hF.hI.1 2; have q1 := (blk_cell hF.k4 1).trans rfl; have z0 := (blk_cell hF.k2 0).trans rfl; have z1 := (blk_cell hF.k2 1).trans rfl; have z2 := (blk_cell hF.k2 2).trans rfl; have z3 := (blk_cell hF.k2 3).trans rfl; have x0 := blk_frozen hF.k2 0; have x1 := blk_frozen hF.k2 1; have x2 := blk_frozen hF.k2 2; have x3 := blk_frozen hF.k2 3; replace hF := Lib.hid hF)))
                subst hcn
                rw [hh.out]
                exact bodyPost_ret (results_ct rfl rfl (load_reply (put4_blk hF.out.k2 _ _ _ _))) rfl ⟨rfl, hF.out.fin hgl hw0 _ _ _ _⟩
            | false =>
              have hm : mark false z (l4, false, d4) = (l4, false, true) := by unfold mark; rw [hd]; rfl
              rw [hm] at hh
              clear hd hm
              have hl6 := len_take cookL l4 false true
              have hT6 := fun W h1 h2 => take_any g cookL l4 false true w0 W h1 h2
              have hfi := fun a b c h => @take_fine cookL l4 a false true b c h
              unfold tail2 at hh
              generalize takeL cookL (l4, false, true) = t6 at *
              obtain ⟨hc, l6, s6, d6⟩ := t6
              dsimp only at hT6 hh hl6
              replace hT6 := Lib.hid hT6
              cases hc with
              | true =>
                obtain ⟨rfl, rfl⟩ := hfi _ _ _ rfl
                clear hfi
                rw [if_pos rfl] at hh
                have hC := fun W h1 h2 => cookie_any g l6 (by omega) w0 W h1 h2
                generalize cookieL l6 = k at *
                obtain ⟨c, l7, s7, d7⟩ := k
                dsimp only at hC hh
                replace hC := Lib.hid hC
                unfold tail3 at hh
                have hT8 := fun W h1 h2 => take_any g closeL l7 s7 d7 w0 W h1 h2
                generalize takeL closeL (l7, s7, d7) = t8 at *
                obtain ⟨cl, l8, s8, d8⟩ := t8
                dsimp only at hT8 hh
                replace hT8 := Lib.hid hT8
                have hM9 := fun W h1 h2 => must_any g crlfL l8 s8 d8 w0 W h1 h2
                generalize mustL crlfL (l8, s8, d8) = m9 at *
                obtain ⟨l9, s9, d9⟩ := m9
                dsimp only at hM9 hh
                replace hM9 := Lib.hid hM9
                replace hh := Lib.hid hh
                go_enter Tryd.func26, Tryd.ntmps26
                go_wp2_with (first  | (go_at_call 31; go_must (refine hS.out.mono ?_; rintro e w1 ⟨rfl, hI1, hB1, hK1⟩; have hF0 := HF.start hgl hI1 hB1 hK1; replace hF0 := Lib.hid hF0; clear hI1 hB1 hK1 hS))  | (go_at_call 32; have _t := hT; go_must (refine (hT.out _ (hF0.out _).hI (hF0.out _).hB).mono ?_; rintro e w2 ⟨rfl, hI2, hB2, hK2⟩; clear hT; have hF := (hF0.out _).call hgl hI2 hB2 hK2; clear hF0 hI2 hB2 hK2; have q0 := (blk_cell hF.k4 0).trans rfl; have q2 := (blk_cell hF.k4 2).trans rfl; have q3 := (blk_cell hF.k4 3).trans rfl; have y2 := blk_frozen hF.k4 2; have y3 := blk_frozen hF.k4 3; have c1 := cellS47_1 hF.hI.1; have c2 := cellS47_2 hF.hI.1; have f2 := blk_frozen hF.hI.1 2; replace hF := Lib.hid hF))  | (go_at_call 33; have _t := hM3; go_must (refine (hM3.out _ hF.out.hI hF.out.hB).mono ?_; rintro e1 wn ⟨rfl, hIn, hBn, hKn⟩; clear hM3; replace hF := hF.out.call hgl hIn hBn hKn; clear hIn hBn hKn; have q0 := (blk_cell hF.k4 0).trans rfl; have q2 := (blk_cell hF.k4 2).trans rfl; have q3 := (blk_cell hF.k4 3).trans rfl; have y2 := blk_frozen hF.k4 2; have y3 := blk_frozen hF.k4 3; have c1 := cellS47_1 hF.hI.1; have c2 := cellS47_2 hF.hI.1; have f2 := blk_frozen hF.hI.1 2; replace hF := Lib.hid hF))  | (go_at_call 34; have _t := hN; go_must (refine (hN.out _ hF.out.hI hF.out.hB).mono ?_; rintro e1 wn ⟨rfl, hIn, hBn, hKn⟩; clear hN; replace hF := hF.out.call hgl hIn hBn hKn; clear hIn hBn hKn; have q0 := (blk_cell hF.k4 0).trans rfl; have q2 := (blk_cell hF.k4 2).trans rfl; have q3 := (blk_cell hF.k4 3).trans rfl; have y2 := blk_frozen hF.k4 2; have y3 := blk_frozen hF.k4 3; have c1 := cellS47_1 hF.hI.1; have c2 := cellS47_2 hF.hI.1; have f2 := blk_frozen hF.hI.1 2; replace hF := Lib.hid hF))  | (go_at_call 32; have _t := hT6; replace hF := Lib.hid (hF.out.bad hgl hge); go_must (refine (hT6.out _ hF.out.hI hF.out.hB).mono ?_; rintro e1 wn ⟨rfl, hIn, hBn, hKn⟩; clear hT6; replace hF := hF.out.call hgl hIn hBn hKn; clear hIn hBn hKn; have q0 := (blk_cell hF.k4 0).trans rfl; have q2 := (blk_cell hF.k4 2).trans rfl; have q3 := (blk_cell hF.k4 3).trans rfl; have y2 := blk_frozen hF.k4 2; have y3 := blk_frozen hF.k4 3; have c1 := cellS47_1 hF.hI.1; have c2 := cellS47_2 hF.hI.1; have f2 := blk_frozen hF.hI.1 2; replace hF := Lib.hid hF))  | (go_at_call 35; have _t := hC; go_must (refine (hC.out _ hF.out.hI hF.out.hB).mono ?_; rintro e1 wn ⟨rfl, hIn, hBn, hKn⟩; clear hC; replace hF := hF.out.call hgl hIn hBn hKn; clear hIn hBn hKn; have q0 := (blk_cell hF.k4 0).trans rfl; have q2 := (blk_cell hF.k4 2).trans rfl; have q3 := (blk_cell hF.k4 3).trans rfl; have y2 := blk_frozen hF.k4 2; have y3 := blk_frozen hF.k4 3; have c1 := cellS47_1 hF.hI.1; have c2 := cellS47_2 hF.hI.1; have f2 := blk_frozen hF.hI.1 2; replace hF := Lib.hid hF))  | (go_at_call 32; have _t := hT8; replace hF := Lib.hid (hF.out.put hgl hw0 2 (.string (B c)) rfl); go_must (refine (hT8.out _ hF.out.hI hF.out.hB).mono ?_; rintro e1 wn ⟨rfl, hIn, hBn, hKn⟩; clear hT8; replace hF := hF.out.call hgl hIn hBn hKn; clear hIn hBn hKn; have q0 := (blk_cell hF.k4 0).trans rfl; have q2 := (blk_cell hF.k4 2).trans rfl; have q3 := (blk_cell hF.k4 3).trans rfl; have y2 := blk_frozen hF.k4 2; have y3 := blk_frozen hF.k4 3; have c1 := cellS47_1 hF.hI.1; have c2 := cellS47_2 hF.hI.1; have f2 := blk_frozen hF.hI.1 2; replace hF := Lib.hid hF))  | (go_at_call 33; have _t := hM9; replace hF := Lib.hid (hF.out.put hgl hw0 3 (.bool cl) rfl); go_must (refine (hM9.out _ hF.out.hI hF.out.hB).mono ?_; rintro e1 wn ⟨rfl, hIn, hBn, hKn⟩; clear hM9; replace hF := hF.out.call hgl hIn hBn hKn; clear hIn hBn hKn; have q0 := (blk_cell hF.k4 0).trans rfl; have q2 := (blk_cell hF.k4 2).trans rfl; have q3 := (blk_cell hF.k4 3).trans rfl; have y2 := blk_frozen hF.k4 2; have y3 := blk_frozen hF.k4 3; have c1 := cellS47_1 hF.hI.1; have c2 := cellS47_2 hF.hI.1; have f2 := blk_frozen hF.hI.1 2; have q1 := (blk_cell hF.k4 1).trans rfl; have z0 := (blk_cell hF.k2 0).trans rfl; have z1 := (blk_cell hF.k2 1).trans rfl; have z2 := (blk_cell hF.k2 2).trans rfl; have z3 := (blk_cell hF.k2 3).trans rfl; have x0 := blk_frozen hF.k2 0; have x1 := blk_frozen hF.k2 1; have x2 := blk_frozen hF.k2 2; have x3 := blk_frozen hF.k2 3; replace hF := Lib.hid hF)))
                rw [hh.out]
                exact bodyPost_ret (results_ct rfl rfl (load_reply (put4_blk hF.out.k2 _ _ _ _))) rfl ⟨rfl, hF.out.fin hgl hw0 _ _ _ _⟩
              | false =>
                clear hfi
                rw [if_neg (by simp)] at hh
                obtain ⟨c, hcn⟩ : ∃ c : List UInt8, c = [] := ⟨_, rfl⟩
                rw [← hcn] at hh
                obtain ⟨l7, s7, d7, h7⟩ : ∃ a b c, (a, b, c) = (l6, s6, d6) := ⟨_, _, _, rfl⟩
                injection h7 with h7 h8
                injection h8 with h8 h9
                subst h7 h8 h9
                unfold tail3 at hh
                have hT8 := fun W h1 h2 => take_any g closeL l7 s7 d7 w0 W h1 h2
                generalize takeL closeL (l7, s7, d7) = t8 at *
                obtain ⟨cl, l8, s8, d8⟩ := t8
                dsimp only at hT8 hh
                replace hT8 := Lib.hid hT8
                have hM9 := fun W h1 h2 => must_any g crlfL l8 s8 d8 w0 W h1 h2
                generalize mustL crlfL (l8, s8, d8) = m9 at *
                obtain ⟨l9, s9, d9⟩ := m9
                dsimp only at hM9 hh
                replace hM9 := Lib.hid hM9
                replace hh := Lib.hid hh
                go_enter Tryd.func26, Tryd.ntmps26
                go_wp2_with (first  | (go_at_call 31; go_must (refine hS.out.mono ?_; rintro e w1 ⟨rfl, hI1, hB1, hK1⟩; have hF0 := HF.start hgl hI1 hB1 hK1; replace hF0 := Lib.hid hF0; clear hI1 hB1 hK1 hS))  | (go_at_call 32; have _t := hT; go_must (refine (hT.out _ (hF0.out _).hI (hF0.out _).hB).mono ?_; rintro e w2 ⟨rfl, hI2, hB2, hK2⟩; clear hT; have hF := (hF0.out _).call hgl hI2 hB2 hK2; clear hF0 hI2 hB2 hK2; have q0 := (blk_cell hF.k4 0).trans rfl; have q2 := (blk_cell hF.k4 2).trans rfl; have q3 := (blk_cell hF.k4 3).trans rfl; have y2 := blk_frozen hF.k4 2; have y3 := blk_frozen hF.k4 3; have c1 := cellS47_1 hF.hI.1; have c2 := cellS47_2 hF.hI.1; have f2 := blk_frozen hF.hI.1 2; replace hF := Lib.hid hF))  | (go_at_call 33; have _t := hM3; go_must (refine (hM3.out _ hF.out.hI hF.out.hB).mono ?_; rintro e1 wn ⟨rfl, hIn, hBn, hKn⟩; clear hM3; replace hF := hF.out.call hgl hIn hBn hKn; clear hIn hBn hKn; have q0 := (blk_cell hF.k4 0).trans rfl; have q2 := (blk_cell hF.k4 2).trans rfl; have q3 := (blk_cell hF.k4 3).trans rfl; have y2 := blk_frozen hF.k4 2; have y3 := blk_frozen hF.k4 3; have c1 := cellS47_1 hF.hI.1; have c2 := cellS47_2 hF.hI.1; have f2 := blk_frozen hF.hI.1 2; replace hF := Lib.hid hF))  | (go_at_call 34; have _t := hN; go_must (refine (hN.out _ hF.out.hI hF.out.hB).mono ?_; rintro e1 wn ⟨rfl, hIn, hBn, hKn⟩; clear hN; replace hF := hF.out.call hgl hIn hBn hKn; clear hIn hBn hKn; have q0 := (blk_cell hF.k4 0).trans rfl; have q2 := (blk_cell hF.k4 2).trans rfl; have q3 := (blk_cell hF.k4 3).trans rfl; have y2 := blk_frozen hF.k4 2; have y3 := blk_frozen hF.k4 3; have c1 := cellS47_1 hF.hI.1; have c2 := cellS47_2 hF.hI.1; have f2 := blk_frozen hF.hI.1 2; replace hF := Lib.hid hF))  | (go_at_call 32; have _t := hT6; replace hF := Lib.hid (hF.out.bad hgl hge); go_must (refine (hT6.out _ hF.out.hI hF.out.hB).mono ?_; rintro e1 wn ⟨rfl, hIn, hBn, hKn⟩; clear hT6; replace hF := hF.out.call hgl hIn hBn hKn; clear hIn hBn hKn; have q0 := (blk_cell hF.k4 0).trans rfl; have q2 := (blk_cell hF.k4 2).trans rfl; have q3 := (blk_cell hF.k4 3).trans rfl; have y2 := blk_frozen hF.k4 2; have y3 := blk_frozen hF.k4 3; have c1 := cellS47_1 hF.hI.1; have c2 := cellS47_2 hF.hI.1; have f2 := blk_frozen hF.hI.1 2; replace hF := Lib.hid hF))  | (go_at_call 32; have _t := hT8; go_must (refine (hT8.out _ hF.out.hI hF.out.hB).mono ?_; rintro e1 wn ⟨rfl, hIn, hBn, hKn⟩; clear hT8; replace hF := hF.out.call hgl hIn hBn hKn; clear hIn hBn hKn; have q0 := (blk_cell hF.k4 0).trans rfl; have q2 := (blk_cell hF.k4 2).trans rfl; have q3 := (blk_cell hF.k4 3).trans rfl; have y2 := blk_frozen hF.k4 2; have y3 := blk_frozen hF.k4 3; have c1 := cellS47_1 hF.hI.1; have c2 := cellS47_2 hF.hI.1; have f2 := blk_frozen hF.hI.1 2; replace hF := Lib.hid hF))  | (go_at_call 33; have _t := hM9; replace hF := Lib.hid (hF.out.put hgl hw0 3 (.bool cl) rfl); go_must (refine (hM9.out _ hF.out.hI hF.out.hB).mono ?_; rintro e1 wn ⟨rfl, hIn, hBn, hKn⟩; clear hM9; replace hF := hF.out.call hgl hIn hBn hKn; clear hIn hBn hKn; have q0 := (blk_cell hF.k4 0).trans rfl; have q2 := (blk_cell hF.k4 2).trans rfl; have q3 := (blk_cell hF.k4 3).trans rfl; have y2 := blk_frozen hF.k4 2; have y3 := blk_frozen hF.k4 3; have c1 := cellS47_1 hF.hI.1; have c2 := cellS47_2 hF.hI.1; have f2 := blk_frozen hF.hI.1 2; have q1 := (blk_cell hF.k4 1).trans rfl; have z0 := (blk_cell hF.k2 0).trans rfl; have z1 := (blk_cell hF.k2 1).trans rfl; have z2 := (blk_cell hF.k2 2).trans rfl; have z3 := (blk_cell hF.k2 3).trans rfl; have x0 := blk_frozen hF.k2 0; have x1 := blk_frozen hF.k2 1; have x2 := blk_frozen hF.k2 2; have x3 := blk_frozen hF.k2 3; replace hF := Lib.hid hF)))
                subst hcn
                rw [hh.out]
                exact bodyPost_ret (results_ct rfl rfl (load_reply (put4_blk hF.out.k2 _ _ _ _))) rfl ⟨rfl, hF.out.fin hgl hw0 _ _ _ _⟩
          · have hz0 : z = 0 := by omega
            subst hz0
            have hd : decide (0 < 0) = false := by simp
            have hm : mark false 0 (l4, s4, d4) = (l4, s4, d4) := by unfold mark; rw [hd]; rfl
            rw [hm] at hh
            clear hd hm
            have hl6 := len_take cookL l4 s4 d4
            have hT6 := fun W h1 h2 => take_any g cookL l4 s4 d4 w0 W h1 h2
            have hfi := fun a b c h => @take_fine cookL l4 a s4 d4 b c h
            unfold tail2 at hh
            generalize takeL cookL (l4, s4, d4) = t6 at *
            obtain ⟨hc, l6, s6, d6⟩ := t6
            dsimp only at hT6 hh hl6
            replace hT6 := Lib.hid hT6
            cases hc with
            | true =>
              obtain ⟨rfl, rfl⟩ := hfi _ _ _ rfl
              clear hfi
              rw [if_pos rfl] at hh
              have hC := fun W h1 h2 => cookie_any g l6 (by omega) w0 W h1 h2
              generalize cookieL l6 = k at *
              obtain ⟨c, l7, s7, d7⟩ := k
              dsimp only at hC hh
              replace hC := Lib.hid hC
              unfold tail3 at hh
              have hT8 := fun W h1 h2 => take_any g closeL l7 s7 d7 w0 W h1 h2
              generalize takeL closeL (l7, s7, d7) = t8 at *
              obtain ⟨cl, l8, s8, d8⟩ := t8
              dsimp only at hT8 hh
              replace hT8 := Lib.hid hT8
              have hM9 := fun W h1 h2 => must_any g crlfL l8 s8 d8 w0 W h1 h2
              generalize mustL crlfL (l8, s8, d8) = m9 at *
              obtain ⟨l9, s9, d9⟩ := m9
              dsimp only at hM9 hh
              replace hM9 := Lib.hid hM9
              replace hh := Lib.hid hh
              go_enter Tryd.func26, Tryd.ntmps26
              go_wp2_with (first  | (go_at_call 31; go_must (refine hS.out.mono ?_; rintro e w1 ⟨rfl, hI1, hB1, hK1⟩; have hF0 := HF.start hgl hI1 hB1 hK1; replace hF0 := Lib.hid hF0; clear hI1 hB1 hK1 hS))  | (go_at_call 32; have _t := hT; go_must (refine (hT.out _ (hF0.out _).hI (hF0.out _).hB).mono ?_; rintro e w2 ⟨rfl, hI2, hB2, hK2⟩; clear hT; have hF := (hF0.out _).call hgl hI2 hB2 hK2; clear hF0 hI2 hB2 hK2; have q0 := (blk_cell hF.k4 0).trans rfl; have q2 := (blk_cell hF.k4 2).trans rfl; have q3 := (blk_cell hF.k4 3).trans rfl; have y2 := blk_frozen hF.k4 2; have y3 := blk_frozen hF.k4 3; have c1 := cellS47_1 hF.hI.1; have c2 := cellS47_2 hF.hI.1; have f2 := blk_frozen hF.hI.1 2; replace hF := Lib.hid hF))  | (go_at_call 33; have _t := hM3; go_must (refine (hM3.out _ hF.out.hI hF.out.hB).mono ?_; rintro e1 wn ⟨rfl, hIn, hBn, hKn⟩; clear hM3; replace hF := hF.out.call hgl hIn hBn hKn; clear hIn hBn hKn; have q0 := (blk_cell hF.k4 0).trans rfl; have q2 := (blk_cell hF.k4 2).trans rfl; have q3 := (blk_cell hF.k4 3).trans rfl; have y2 := blk_frozen hF.k4 2; have y3 := blk_frozen hF.k4 3; have c1 := cellS47_1 hF.hI.1; have c2 := cellS47_2 hF.hI.1; have f2 := blk_frozen hF.hI.1 2; replace hF := Lib.hid hF))  | (go_at_call 34; have _t := hN; go_must (refine (hN.out _ hF.out.hI hF.out.hB).mono ?_; rintro e1 wn ⟨rfl, hIn, hBn, hKn⟩; clear hN; replace hF := hF.out.call hgl hIn hBn hKn; clear hIn hBn hKn; have q0 := (blk_cell hF.k4 0).trans rfl; have q2 := (blk_cell hF.k4 2).trans rfl; have q3 := (blk_cell hF.k4 3).trans rfl; have y2 := blk_frozen hF.k4 2; have y3 := blk_frozen hF.k4 3; have c1 := cellS47_1 hF.hI.1; have c2 := cellS47_2 hF.hI.1; have f2 := blk_frozen hF.hI.1 2; replace hF := Lib.hid hF))  | (go_at_call 32; have _t := hT6; go_must (refine (hT6.out _ hF.out.hI hF.out.hB).mono ?_; rintro e1 wn ⟨rfl, hIn, hBn, hKn⟩; clear hT6; replace hF := hF.out.call hgl hIn hBn hKn; clear hIn hBn hKn; have q0 := (blk_cell hF.k4 0).trans rfl; have q2 := (blk_cell hF.k4 2).trans rfl; have q3 := (blk_cell hF.k4 3).trans rfl; have y2 := blk_frozen hF.k4 2; have y3 := blk_frozen hF.k4 3; have c1 := cellS47_1 hF.hI.1; have c2 := cellS47_2 hF.hI.1; have f2 := blk_frozen hF.hI.1 2; replace hF := Lib.hid hF))  | (go_at_call 35; have _t := hC; go_must (refine (hC.out _ hF.out.hI hF.out.hB).mono ?_; rintro e1 wn ⟨rfl, hIn, hBn, hKn⟩; clear hC; replace hF := hF.out.call hgl hIn hBn hKn; clear hIn hBn hKn; have q0 := (blk_cell hF.k4 0).trans rfl; have q2 := (blk_cell hF.k4 2).trans rfl; have q3 := (blk_cell hF.k4 3).trans rfl; have y2 := blk_frozen hF.k4 2; have y3 := blk_frozen hF.k4 3; have c1 := cellS47_1 hF.hI.1; have c2 := cellS47_2 hF.hI.1; have f2 := blk_frozen hF.hI.1 2; replace hF := Lib.hid hF))  | (go_at_call 32; have _t := hT8; replace hF := Lib.hid (hF.out.put hgl hw0 2 (.string (B c)) rfl); go_must (refine (hT8.out _ hF.out.hI hF.out.hB).mono ?_; rintro e1 wn ⟨rfl, hIn, hBn, hKn⟩; clear hT8; replace hF := hF.out.call hgl hIn hBn hKn; clear hIn hBn hKn; have q0 := (blk_cell hF.k4 0).trans rfl; have q2 := (blk_cell hF.k4 2).trans rfl; have q3 := (blk_cell hF.k4 3).trans rfl; have y2 := blk_frozen hF.k4 2; have y3 := blk_frozen hF.k4 3; have c1 := cellS47_1 hF.hI.1; have c2 := cellS47_2 hF.hI.1; have f2 := blk_frozen hF.hI.1 2; replace hF := Lib.hid hF))  | (go_at_call 33; have _t := hM9; replace hF := Lib.hid (hF.out.put hgl hw0 3 (.bool cl) rfl); go_must (refine (hM9.out _ hF.out.hI hF.out.hB).mono ?_; rintro e1 wn ⟨rfl, hIn, hBn, hKn⟩; clear hM9; replace hF := hF.out.call hgl hIn hBn hKn; clear hIn hBn hKn; have q0 := (blk_cell hF.k4 0).trans rfl; have q2 := (blk_cell hF.k4 2).trans rfl; have q3 := (blk_cell hF.k4 3).trans rfl; have y2 := blk_frozen hF.k4 2; have y3 := blk_frozen hF.k4 3; have c1 := cellS47_1 hF.hI.1; have c2 := cellS47_2 hF.hI.1; have f2 := blk_frozen hF.hI.1 2; have q1 := (blk_cell hF.k4 1).trans rfl; have z0 := (blk_cell hF.k2 0).trans rfl; have z1 := (blk_cell hF.k2 1).trans rfl; have z2 := (blk_cell hF.k2 2).trans rfl; have z3 := (blk_cell hF.k2 3).trans rfl; have x0 := blk_frozen hF.k2 0; have x1 := blk_frozen hF.k2 1; have x2 := blk_frozen hF.k2 2; have x3 := blk_frozen hF.k2 3; replace hF := Lib.hid hF)))
              rw [hh.out]
              exact bodyPost_ret (results_ct rfl rfl (load_reply (put4_blk hF.out.k2 _ _ _ _))) rfl ⟨rfl, hF.out.fin hgl hw0 _ _ _ _⟩
            | false =>
              clear hfi
              rw [if_neg (by simp)] at hh
              obtain ⟨c, hcn⟩ : ∃ c : List UInt8, c = [] := ⟨_, rfl⟩
              rw [← hcn] at hh
              obtain ⟨l7, s7, d7, h7⟩ : ∃ a b c, (a, b, c) = (l6, s6, d6) := ⟨_, _, _, rfl⟩
              injection h7 with h7 h8
              injection h8 with h8 h9
              subst h7 h8 h9
              unfold tail3 at hh
              have hT8 := fun W h1 h2 => take_any g closeL l7 s7 d7 w0 W h1 h2
              generalize takeL closeL (l7, s7, d7) = t8 at *
              obtain ⟨cl, l8, s8, d8⟩ := t8
              dsimp only at hT8 hh
              replace hT8 := Lib.hid hT8
              have hM9 := fun W h1 h2 => must_any g crlfL l8 s8 d8 w0 W h1 h2
              generalize mustL crlfL (l8, s8, d8) = m9 at *
              obtain ⟨l9, s9, d9⟩ := m9
              dsimp only at hM9 hh
              replace hM9 := Lib.hid hM9
              replace hh := Lib.hid hh
              go_enter Tryd.func26, Tryd.ntmps26
              go_wp2_with (first  | (go_at_call 31; go_must (refine hS.out.mono ?_; rintro e w1 ⟨rfl, hI1, hB1, hK1⟩; have hF0 := HF.start hgl hI1 hB1 hK1; replace hF0 := Lib.hid hF0; clear hI1 hB1 hK1 hS))  | (go_at_call 32; have _t := hT; go_must (refine (hT.out _ (hF0.out _).hI (hF0.out _).hB).mono ?_; rintro e w2 ⟨rfl, hI2, hB2, hK2⟩; clear hT; have hF := (hF0.out _).call hgl hI2 hB2 hK2; clear hF0 hI2 hB2 hK2; have q0 := (blk_cell hF.k4 0).trans rfl; have q2 := (blk_cell hF.k4 2).trans rfl; have q3 := (blk_cell hF.k4 3).trans rfl; have y2 := blk_frozen hF.k4 2; have y3 := blk_frozen hF.k4 3; have c1 := cellS47_1 hF.hI.1; have c2 := cellS47_2 hF.hI.1; have f2 := blk_frozen hF.hI.1 2; replace hF := Lib.hid hF))  | (go_at_call 33; have _t := hM3; go_must (refine (hM3.out _ hF.out.hI hF.out.hB).mono ?_; rintro e1 wn ⟨rfl, hIn, hBn, hKn⟩; clear hM3; replace hF := hF.out.call hgl hIn hBn hKn; clear hIn hBn hKn; have q0 := (blk_cell hF.k4 0).trans rfl; have q2 := (blk_cell hF.k4 2).trans rfl; have q3 := (blk_cell hF.k4 3).trans rfl; have y2 := blk_frozen hF.k4 2; have y3 := blk_frozen hF.k4 3; have c1 := cellS47_1 hF.hI.1; have c2 := cellS47_2 hF.hI.1; have f2 := blk_frozen hF.hI.1 2; replace hF := Lib.hid hF))  | (go_at_call 34; have _t := hN; go_must (refine (hN.out _ hF.out.hI hF.out.hB).mono ?_; rintro e1 wn ⟨rfl, hIn, hBn, hKn⟩; clear hN; replace hF := hF.out.call hgl hIn hBn hKn; clear hIn hBn hKn; have q0 := (blk_cell hF.k4 0).trans rfl; have q2 := (blk_cell hF.k4 2).trans rfl; have q3 := (blk_cell hF.k4 3).trans rfl; have y2 := blk_frozen hF.k4 2; have y3 := blk_frozen hF.k4 3; have c1 := cellS47_1 hF.hI.1; have c2 := cellS47_2 hF.hI.1; have f2 := blk_frozen hF.hI.1 2; replace hF := Lib.hid hF))  | (go_at_call 32; have _t := hT6; go_must (refine (hT6.out _ hF.out.hI hF.out.hB).mono ?_; rintro e1 wn ⟨rfl, hIn, hBn, hKn⟩; clear hT6; replace hF := hF.out.call hgl hIn hBn hKn; clear hIn hBn hKn; have q0 := (blk_cell hF.k4 0).trans rfl; have q2 := (blk_cell hF.k4 2).trans rfl; have q3 := (blk_cell hF.k4 3).trans rfl; have y2 := blk_frozen hF.k4 2; have y3 := blk_frozen hF.k4 3; have c1 := cellS47_1 hF.hI.1; have c2 := cellS47_2 hF.hI.1; have f2 := blk_frozen hF.hI.1 2; replace hF := Lib.hid hF))  | (go_at_call 32; have _t := hT8; go_must (refine (hT8.out _ hF.out.hI hF.out.hB).mono ?_; rintro e1 wn ⟨rfl, hIn, hBn, hKn⟩; clear hT8; replace hF := hF.out.call hgl hIn hBn hKn; clear hIn hBn hKn; have q0 := (blk_cell hF.k4 0).trans rfl; have q2 := (blk_cell hF.k4 2).trans rfl; have q3 := (blk_cell hF.k4 3).trans rfl; have y2 := blk_frozen hF.k4 2; have y3 := blk_frozen hF.k4 3; have c1 := cellS47_1 hF.hI.1; have c2 := cellS47_2 hF.hI.1; have f2 := blk_frozen hF.hI.1 2; replace hF := Lib.hid hF))  | (go_at_call 33; have _t := hM9; replace hF := Lib.hid (hF.out.put hgl hw0 3 (.bool cl) rfl); go_must (refine (hM9.out _ hF.out.hI hF.out.hB).mono ?_; rintro e1 wn ⟨rfl, hIn, hBn, hKn⟩; clear hM9; replace hF := hF.out.call hgl hIn hBn hKn; clear hIn hBn hKn; have q0 := (blk_cell hF.k4 0).trans rfl; have q2 := (blk_cell hF.k4 2).trans rfl; have q3 := (blk_cell hF.k4 3).trans rfl; have y2 := blk_frozen hF.k4 2; have y3 := blk_frozen hF.k4 3; have c1 := cellS47_1 hF.hI.1; have c2 := cellS47_2 hF.hI.1; have f2 := blk_frozen hF.hI.1 2; have q1 := (blk_cell hF.k4 1).trans rfl; have z0 := (blk_cell hF.k2 0).trans rfl; have z1 := (blk_cell hF.k2 1).trans rfl; have z2 := (blk_cell hF.k2 2).trans rfl; have z3 := (blk_cell hF.k2 3).trans rfl; have x0 := blk_frozen hF.k2 0; have x1 := blk_frozen hF.k2 1; have x2 := blk_frozen hF.k2 2; have x3 := blk_frozen hF.k2 3; replace hF := Lib.hid hF)))
              subst hcn
              rw [hh.out]
              exact bodyPost_ret (results_ct rfl rfl (load_reply (put4_blk hF.out.k2 _ _ _ _))) rfl ⟨rfl, hF.out.fin hgl hw0 _ _ _ _⟩
        | true =>
          by_cases hzp : 0 < z
          · have hzi : (0 : Int) < (z : Int) := by omega
            have hd : decide (0 < z) = true := by simp [hzp]
            have hm : mark true z (l4, s4, d4) = (l4, s4, d4) := by unfold mark; rw [hd]; rfl
            rw [hm] at hh
            clear hd hm
            have hl6 := len_take cookL l4 s4 d4
            have hT6 := fun W h1 h2 => take_any g cookL l4 s4 d4 w0 W h1 h2
            have hfi := fun a b c h => @take_fine cookL l4 a s4 d4 b c h
            unfold tail2 at hh
            generalize takeL cookL (l4, s4, d4) = t6 at *
            obtain ⟨hc, l6, s6, d6⟩ := t6
            dsimp only at hT6 hh hl6
            replace hT6 := Lib.hid hT6
            cases hc with
            | true =>
              obtain ⟨rfl, rfl⟩ := hfi _ _ _ rfl
              clear hfi
              rw [if_pos rfl] at hh
              have hC := fun W h1 h2 => cookie_any g l6 (by omega) w0 W h1 h2
              generalize cookieL l6 = k at *
              obtain ⟨c, l7, s7, d7⟩ := k
              dsimp only at hC hh
              replace hC := Lib.hid hC
              unfold tail3 at hh
              have hT8 := fun W h1 h2 => take_any g closeL l7 s7 d7 w0 W h1 h2
              generalize takeL closeL (l7, s7, d7) = t8 at *
              obtain ⟨cl, l8, s8, d8⟩ := t8
              dsimp only at hT8 hh
              replace hT8 := Lib.hid hT8
              have hM9 := fun W h1 h2 => must_any g crlfL l8 s8 d8 w0 W h1 h2
              generalize mustL crlfL (l8, s8, d8) = m9 at *
              obtain ⟨l9, s9, d9⟩ := m9
              dsimp only at hM9 hh
              replace hM9 := Lib.hid hM9
              replace hh := Lib.hid hh
              go_enter Tryd.func26, Tryd.ntmps26
              go_wp2_with (first  | (go_at_call 31; go_must (refine hS.out.mono ?_; rintro e w1 ⟨rfl, hI1, hB1, hK1⟩; have hF0 := HF.start hgl hI1 hB1 hK1; replace hF0 := Lib.hid hF0; clear hI1 hB1 hK1 hS))  | (go_at_call 32; have _t := hT; go_must (refine (hT.out _ (hF0.out _).hI (hF0.out _).hB).mono ?_; rintro e w2 ⟨rfl, hI2, hB2, hK2⟩; clear hT; have hF := (hF0.out _).call hgl hI2 hB2 hK2; clear hF0 hI2 hB2 hK2; have q0 := (blk_cell hF.k4 0).trans rfl; have q2 := (blk_cell hF.k4 2).trans rfl; have q3 := (blk_cell hF.k4 3).trans rfl; have y2 := blk_frozen hF.k4 2; have y3 := blk_frozen hF.k4 3; have c1 := cellS47_1 hF.hI.1; have c2 := cellS47_2 hF.hI.1; have f2 := blk_frozen hF.hI.1 2; replace hF := Lib.hid hF))  | (go_at_call 33; have _t := hM3; go_must (refine (hM3.out _ hF.out.hI hF.out.hB).mono ?_; rintro e1 wn ⟨rfl, hIn, hBn, hKn⟩; clear hM3; replace hF := hF.out.call hgl hIn hBn hKn; clear hIn hBn hKn; have q0 := (blk_cell hF.k4 0).trans rfl; have q2 := (blk_cell hF.k4 2).trans rfl; have q3 := (blk_cell hF.k4 3).trans rfl; have y2 := blk_frozen hF.k4 2; have y3 := blk_frozen hF.k4 3; have c1 := cellS47_1 hF.hI.1; have c2 := cellS47_2 hF.hI.1; have f2 := blk_frozen hF.hI.1 2; replace hF := Lib.hid hF))  | (go_at_call 34; have _t := hN; go_must (refine (hN.out _ hF.out.hI hF.out.hB).mono ?_; rintro e1 wn ⟨rfl, hIn, hBn, hKn⟩; clear hN; replace hF := hF.out.call hgl hIn hBn hKn; clear hIn hBn hKn; have q0 := (blk_cell hF.k4 0).trans rfl; have q2 := (blk_cell hF.k4 2).trans rfl; have q3 := (blk_cell hF.k4 3).trans rfl; have y2 := blk_frozen hF.k4 2; have y3 := blk_frozen hF.k4 3; have c1 := cellS47_1 hF.hI.1; have c2 := cellS47_2 hF.hI.1; have f2 := blk_frozen hF.hI.1 2; replace hF := Lib.hid hF))  | (go_at_call 32; have _t := hT6; go_must (refine (hT6.out _ hF.out.hI hF.out.hB).mono ?_; rintro e1 wn ⟨rfl, hIn, hBn, hKn⟩; clear hT6; replace hF := hF.out.call hgl hIn hBn hKn; clear hIn hBn hKn; have q0 := (blk_cell hF.k4 0).trans rfl; have q2 := (blk_cell hF.k4 2).trans rfl; have q3 := (blk_cell hF.k4 3).trans rfl; have y2 := blk_frozen hF.k4 2; have y3 := blk_frozen hF.k4 3; have c1 := cellS47_1 hF.hI.1; have c2 := cellS47_2 hF.hI.1; have f2 := blk_frozen hF.hI.1 2; replace hF := Lib.hid hF))  | (go_at_call 35; have _t := hC; go_must (refine (hC.out _ hF.out.hI hF.out.hB).mono ?_; rintro e1 wn ⟨rfl, hIn, hBn, hKn⟩; clear hC; replace hF := hF.out.call hgl hIn hBn hKn; clear hIn hBn hKn; have q0 := (blk_cell hF.k4 0).trans rfl; have q2 := (blk_cell hF.k4 2).trans rfl; have q3 := (blk_cell hF.k4 3).trans rfl; have y2 := blk_frozen hF.k4 2; have y3 := blk_frozen hF.k4 3; have c1 := cellS47_1 hF.hI.1; have c2 := cellS47_2 hF.hI.1; have f2 := blk_frozen hF.hI.1 2; replace hF := Lib.hid hF))  | (go_at_call 32; have _t := hT8; replace hF := Lib.hid (hF.out.put hgl hw0 2 (.string (B c)) rfl); go_must (refine (hT8.out _ hF.out.hI hF.out.hB).mono ?_; rintro e1 wn ⟨rfl, hIn, hBn, hKn⟩; clear hT8; replace hF := hF.out.call hgl hIn hBn hKn; clear hIn hBn hKn; have q0 := (blk_cell hF.k4 0).trans rfl; have q2 := (blk_cell hF.k4 2).trans rfl; have q3 := (blk_cell hF.k4 3).trans rfl; have y2 := blk_frozen hF.k4 2; have y3 := blk_frozen hF.k4 3; have c1 := cellS47_1 hF.hI.1; have c2 := cellS47_2 hF.hI.1; have f2 := blk_frozen hF.hI.1 2; replace hF := Lib.hid hF))  | (go_at_call 33; have _t := hM9; replace hF := Lib.hid (hF.out.put hgl hw0 3 (.bool cl) rfl); go_must (refine (hM9.out _ hF.out.hI hF.out.hB).mono ?_; rintro e1 wn ⟨rfl, hIn, hBn, hKn⟩; clear hM9; replace hF := hF.out.call hgl hIn hBn hKn; clear hIn hBn hKn; have q0 := (blk_cell hF.k4 0).trans rfl; have q2 := (blk_cell hF.k4 2).trans rfl; have q3 := (blk_cell hF.k4 3).trans rfl; have y2 := blk_frozen hF.k4 2; have y3 := blk_frozen hF.k4 3; have c1 := cellS47_1 hF.hI.1; have c2 := cellS47_2 hF.hI.1; have f2 := blk_frozen hF.hI.1 2; have q1 := (blk_cell hF.k4 1).trans rfl; have z0 := (blk_cell hF.k2 0).trans rfl; have z1 := (blk_cell hF.k2 1).trans rfl; have z2 := (blk_cell hF.k2 2).trans rfl; have z3 := (blk_cell hF.k2 3).trans rfl; have x0 := blk_frozen hF.k2 0; have x1 := blk_frozen hF.k2 1; have x2 := blk_frozen hF.k2 2; have x3 := blk_frozen hF.k2 3; replace hF := Lib.hid hF)))
              rw [hh.out]
              exact bodyPost_ret (results_ct rfl rfl (load_reply (put4_blk hF.out.k2 _ _ _ _))) rfl ⟨rfl, hF.out.fin hgl hw0 _ _ _ _⟩
            | false =>
              clear hfi
              rw [if_neg (by simp)] at hh
              obtain ⟨c, hcn⟩ : ∃ c : List UInt8, c = [] := ⟨_, rfl⟩
              rw [← hcn] at hh
              obtain ⟨l7, s7, d7, h7⟩ : ∃ a b c, (a, b, c) = (l6, s6, d6) := ⟨_, _, _, rfl⟩
              injection h7 with h7 h8
              injection h8 with h8 h9
              subst h7 h8 h9
              unfold tail3 at hh
              have hT8 := fun W h1 h2 => take_any g closeL l7 s7 d7 w0 W h1 h2
              generalize takeL closeL (l7, s7, d7) = t8 at *
              obtain ⟨cl, l8, s8, d8⟩ := t8
              dsimp only at hT8 hh
              replace hT8 := Lib.hid hT8
              have hM9 := fun W h1 h2 => must_any g crlfL l8 s8 d8 w0 W h1 h2
              generalize mustL crlfL (l8, s8, d8) = m9 at *
              obtain ⟨l9, s9, d9⟩ := m9
              dsimp only at hM9 hh
              replace hM9 := Lib.hid hM9
              replace hh := Lib.hid hh
              go_enter Tryd.func26, Tryd.ntmps26
              go_wp2_with (first  | (go_at_call 31; go_must (refine hS.out.mono ?_; rintro e w1 ⟨rfl, hI1, hB1, hK1⟩; have hF0 := HF.start hgl hI1 hB1 hK1; replace hF0 := Lib.hid hF0; clear hI1 hB1 hK1 hS))  | (go_at_call 32; have _t := hT; go_must (refine (hT.out _ (hF0.out _).hI (hF0.out _).hB).mono ?_; rintro e w2 ⟨rfl, hI2, hB2, hK2⟩; clear hT; have hF := (hF0.out _).call hgl hI2 hB2 hK2; clear hF0 hI2 hB2 hK2; have q0 := (blk_cell hF.k4 0).trans rfl; have q2 := (blk_cell hF.k4 2).trans rfl; have q3 := (blk_cell hF.k4 3).trans rfl; have y2 := blk_frozen hF.k4 2; have y3 := blk_frozen hF.k4 3; have c1 := cellS47_1 hF.hI.1; have c2 := cellS47_2 hF.hI.1; have f2 := blk_frozen hF.hI.1 2; replace hF := Lib.hid hF))  | (go_at_call 33; have _t := hM3; go_must (refine (hM3.out _ hF.out.hI hF.out.hB).mono ?_; rintro e1 wn ⟨rfl, hIn, hBn, hKn⟩; clear hM3; replace hF := hF.out.call hgl hIn hBn hKn; clear hIn hBn hKn; have q0 := (blk_cell hF.k4 0).trans rfl; have q2 := (blk_cell hF.k4 2).trans rfl; have q3 := (blk_cell hF.k4 3).trans rfl; have y2 := blk_frozen hF.k4 2; have y3 := blk_frozen hF.k4 3; have c1 := cellS47_1 hF.hI.1; have c2 := cellS47_2 hF.hI.1; have f2 := blk_frozen hF.hI.1 2; replace hF := Lib.hid hF))  | (go_at_call 34; have _t := hN; go_must (refine (hN.out _ hF.out.hI hF.out.hB).mono ?_; rintro e1 wn ⟨rfl, hIn, hBn, hKn⟩; clear hN; replace hF := hF.out.call hgl hIn hBn hKn; clear hIn hBn hKn; have q0 := (blk_cell hF.k4 0).trans rfl; have q2 := (blk_cell hF.k4 2).trans rfl; have q3 := (blk_cell hF.k4 3).trans rfl; have y2 := blk_frozen hF.k4 2; have y3 := blk_frozen hF.k4 3; have c1 := cellS47_1 hF.hI.1; have c2 := cellS47_2 hF.hI.1; have f2 := blk_frozen hF.hI.1 2; replace hF := Lib.hid hF))  | (go_at_call 32; have _t := hT6; go_must (refine (hT6.out _ hF.out.hI hF.out.hB).mono ?_; rintro e1 wn ⟨rfl, hIn, hBn, hKn⟩; clear hT6; replace hF := hF.out.call hgl hIn hBn hKn; clear hIn hBn hKn; have q0 := (blk_cell hF.k4 0).trans rfl; have q2 := (blk_cell hF.k4 2).trans rfl; have q3 := (blk_cell hF.k4 3).trans rfl; have y2 := blk_frozen hF.k4 2; have y3 := blk_frozen hF.k4 3; have c1 := cellS47_1 hF.hI.1; have c2 := cellS47_2 hF.hI.1; have f2 := blk_frozen hF.hI.1 2; replace hF := Lib.hid hF))  | (go_at_call 32; have _t := hT8; go_must (refine (hT8.out _ hF.out.hI hF.out.hB).mono ?_; rintro e1 wn ⟨rfl, hIn, hBn, hKn⟩; clear hT8; replace hF := hF.out.call hgl hIn hBn hKn; clear hIn hBn hKn; have q0 := (blk_cell hF.k4 0).trans rfl; have q2 := (blk_cell hF.k4 2).trans rfl; have q3 := (blk_cell hF.k4 3).trans rfl; have y2 := blk_frozen hF.k4 2; have y3 := blk_frozen hF.k4 3; have c1 := cellS47_1 hF.hI.1; have c2 := cellS47_2 hF.hI.1; have f2 := blk_frozen hF.hI.1 2; replace hF := Lib.hid hF))  | (go_at_call 33; have _t := hM9; replace hF := Lib.hid (hF.out.put hgl hw0 3 (.bool cl) rfl); go_must (refine (hM9.out _ hF.out.hI hF.out.hB).mono ?_; rintro e1 wn ⟨rfl, hIn, hBn, hKn⟩; clear hM9; replace hF := hF.out.call hgl hIn hBn hKn; clear hIn hBn hKn; have q0 := (blk_cell hF.k4 0).trans rfl; have q2 := (blk_cell hF.k4 2).trans rfl; have q3 := (blk_cell hF.k4 3).trans rfl; have y2 := blk_frozen hF.k4 2; have y3 := blk_frozen hF.k4 3; have c1 := cellS47_1 hF.hI.1; have c2 := cellS47_2 hF.hI.1; have f2 := blk_frozen hF.hI.1 2; have q1 := (blk_cell hF.k4 1).trans rfl; have z0 := (blk_cell hF.k2 0).trans rfl; have z1 := (blk_cell hF.k2 1).trans rfl; have z2 := (blk_cell hF.k2 2).trans rfl; have z3 := (blk_cell hF.k2 3).trans rfl; have x0 := blk_frozen hF.k2 0; have x1 := blk_frozen hF.k2 1; have x2 := blk_frozen hF.k2 2; have x3 := blk_frozen hF.k2 3; replace hF := Lib.hid hF)))
              subst hcn
              rw [hh.out]
              exact bodyPost_ret (results_ct rfl rfl (load_reply (put4_blk hF.out.k2 _ _ _ _))) rfl ⟨rfl, hF.out.fin hgl hw0 _ _ _ _⟩
          · have hz0 : z = 0 := by omega
            subst hz0
            have hd : decide (0 < 0) = false := by simp
            cases s4 with
            | true =>
              have hm : mark true 0 (l4, true, d4) = (l4, true, d4) := by unfold mark; rw [hd]; rfl
              rw [hm] at hh
              clear hd hm
              have hl6 := len_take cookL l4 true d4
              have hT6 := fun W h1 h2 => take_any g cookL l4 true d4 w0 W h1 h2
              have hfi := fun a b c h => @take_fine cookL l4 a true d4 b c h
              unfold tail2 at hh
              generalize takeL cookL (l4, true, d4) = t6 at *
              obtain ⟨hc, l6, s6, d6⟩ := t6
              dsimp only at hT6 hh hl6
              replace hT6 := Lib.hid hT6
              cases hc with
              | true =>
                obtain ⟨rfl, rfl⟩ := hfi _ _ _ rfl
                clear hfi
                rw [if_pos rfl] at hh
                have hC := fun W h1 h2 => cookie_any g l6 (by omega) w0 W h1 h2
                generalize cookieL l6 = k at *
                obtain ⟨c, l7, s7, d7⟩ := k
                dsimp only at hC hh
                replace hC := Lib.hid hC
                unfold tail3 at hh
                have hT8 := fun W h1 h2 => take_any g closeL l7 s7 d7 w0 W h1 h2
                generalize takeL closeL (l7, s7, d7) = t8 at *
                obtain ⟨cl, l8, s8, d8⟩ := t8
                dsimp only at hT8 hh
                replace hT8 := Lib.hid hT8
                have hM9 := fun W h1 h2 => must_any g crlfL l8 s8 d8 w0 W h1 h2
                generalize mustL crlfL (l8, s8, d8) = m9 at *
                obtain ⟨l9, s9, d9⟩ := m9
                dsimp only at hM9 hh
                replace hM9 := Lib.hid hM9
                replace hh := Lib.hid hh
                go_enter Tryd.func26, Tryd.ntmps26
                go_wp2_with (first  | (go_at_call 31; go_must (refine hS.out.mono ?_; rintro e w1 ⟨rfl, hI1, hB1, hK1⟩; have hF0 := HF.start hgl hI1 hB1 hK1; replace hF0 := Lib.hid hF0; clear hI1 hB1 hK1 hS))  | (go_at_call 32; have _t := hT; go_must (refine (hT.out _ (hF0.out _).hI (hF0.out _).hB).mono ?_; rintro e w2 ⟨rfl, hI2, hB2, hK2⟩; clear hT; have hF := (hF0.out _).call hgl hI2 hB2 hK2; clear hF0 hI2 hB2 hK2; have q0 := (blk_cell hF.k4 0).trans rfl; have q2 := (blk_cell hF.k4 2).trans rfl; have q3 := (blk_cell hF.k4 3).trans rfl; have y2 := blk_frozen hF.k4 2; have y3 := blk_frozen hF.k4 3; have c1 := cellS47_1 hF.hI.1; have c2 := cellS47_2 hF.hI.1; have f2 := blk_frozen hF.hI.1 2; replace hF := Lib.hid hF))  | (go_at_call 33; have _t := hM3; go_must (refine (hM3.out _ hF.out.hI hF.out.hB).mono ?_; rintro e1 wn ⟨rfl, hIn, hBn, hKn⟩; clear hM3; replace hF := hF.out.call hgl hIn hBn hKn; clear hIn hBn hKn; have q0 := (blk_cell hF.k4 0).trans rfl; have q2 := (blk_cell hF.k4 2).trans rfl; have q3 := (blk_cell hF.k4 3).trans rfl; have y2 := blk_frozen hF.k4 2; have y3 := blk_frozen hF.k4 3; have c1 := cellS47_1 hF.hI.1; have c2 := cellS47_2 hF.hI.1; have f2 := blk_frozen hF.hI.1 2; replace hF := Lib.hid hF))  | (go_at_call 34; have _t := hN; go_must (refine (hN.out _ hF.out.hI hF.out.hB).mono ?_; rintro e1 wn ⟨rfl, hIn, hBn, hKn⟩; clear hN; replace hF := hF.out.call hgl hIn hBn hKn; clear hIn hBn hKn; have q0 := (blk_cell hF.k4 0).trans rfl; have q2 := (blk_cell hF.k4 2).trans rfl; have q3 := (blk_cell hF.k4 3).trans rfl; have y2 := blk_frozen hF.k4 2; have y3 := blk_frozen hF.k4 3; have c1 := cellS47_1 hF.hI.1; have c2 := cellS47_2 hF.hI.1; have f2 := blk_frozen hF.hI.1 2; replace hF := Lib.hid hF))  | (go_at_call 32; have _t := hT6; go_must (refine (hT6.out _ hF.out.hI hF.out.hB).mono ?_; rintro e1 wn ⟨rfl, hIn, hBn, hKn⟩; clear hT6; replace hF := hF.out.call hgl hIn hBn hKn; clear hIn hBn hKn; have q0 := (blk_cell hF.k4 0).trans rfl; have q2 := (blk_cell hF.k4 2).trans rfl; have q3 := (blk_cell hF.k4 3).trans rfl; have y2 := blk_frozen hF.k4 2; have y3 := blk_frozen hF.k4 3; have c1 := cellS47_1 hF.hI.1; have c2 := cellS47_2 hF.hI.1; have f2 := blk_frozen hF.hI.1 2; replace hF := Lib.hid hF))  | (go_at_call 35; have _t := hC; go_must (refine (hC.out _ hF.out.hI hF.out.hB).mono ?_; rintro e1 wn ⟨rfl, hIn, hBn, hKn⟩; clear hC; replace hF := hF.out.call hgl hIn hBn hKn; clear hIn hBn hKn; have q0 := (blk_cell hF.k4 0).trans rfl; have q2 := (blk_cell hF.k4 2).trans rfl; have q3 := (blk_cell hF.k4 3).trans rfl; have y2 := blk_frozen hF.k4 2; have y3 := blk_frozen hF.k4 3; have c1 := cellS47_1 hF.hI.1; have c2 := cellS47_2 hF.hI.1; have f2 := blk_frozen hF.hI.1 2; replace hF := Lib.hid hF))  | (go_at_call 32; have _t := hT8; replace hF := Lib.hid (hF.out.put hgl hw0 2 (.string (B c)) rfl); go_must (refine (hT8.out _ hF.out.hI hF.out.hB).mono ?_; rintro e1 wn ⟨rfl, hIn, hBn, hKn⟩; clear hT8; replace hF := hF.out.call hgl hIn hBn hKn; clear hIn hBn hKn; have q0 := (blk_cell hF.k4 0).trans rfl; have q2 := (blk_cell hF.k4 2).trans rfl; have q3 := (blk_cell hF.k4 3).trans rfl; have y2 := blk_frozen hF.k4 2; have y3 := blk_frozen hF.k4 3; have c1 := cellS47_1 hF.hI.1; have c2 := cellS47_2 hF.hI.1; have f2 := blk_frozen hF.hI.1 2; replace hF := Lib.hid hF))  | (go_at_call 33; have _t := hM9; replace hF := Lib.hid (hF.out.put hgl hw0 3 (.bool cl) rfl); go_must (refine (hM9.out _ hF.out.hI hF.out.hB).mono ?_; rintro e1 wn ⟨rfl, hIn, hBn, hKn⟩; clear hM9; replace hF := hF.out.call hgl hIn hBn hKn; clear hIn hBn hKn; have q0 := (blk_cell hF.k4 0).trans rfl; have q2 := (blk_cell hF.k4 2).trans rfl; have q3 := (blk_cell hF.k4 3).trans rfl; have y2 := blk_frozen hF.k4 2; have y3 := blk_frozen hF.k4 3; have c1 := cellS47_1 hF.hI.1; have c2 := cellS47_2 hF.hI.1; have f2 := blk_frozen hF.hI.1 2; have q1 := (blk_cell hF.k4 1).trans rfl; have z0 := (blk_cell hF.k2 0).trans rfl; have z1 := (blk_cell hF.k2 1).trans rfl; have z2 := (blk_cell hF.k2 2).trans rfl; have z3 := (blk_cell hF.k2 3).trans rfl; have x0 := blk_frozen hF.k2 0; have x1 := blk_frozen hF.k2 1; have x2 := blk_frozen hF.k2 2; have x3 := blk_frozen hF.k2 3; replace hF := Lib.hid hF)))
                rw [hh.out]
                exact bodyPost_ret (results_ct rfl rfl (load_reply (put4_blk hF.out.k2 _ _ _ _))) rfl ⟨rfl, hF.out.fin hgl hw0 _ _ _ _⟩
              | false =>
                clear hfi
                rw [if_neg (by simp)] at hh
                obtain ⟨c, hcn⟩ : ∃ c : List UInt8, c = [] := ⟨_, rfl⟩
                rw [← hcn] at hh
                obtain ⟨l7, s7, d7, h7⟩ : ∃ a b c, (a, b, c) = (l6, s6, d6) := ⟨_, _, _, rfl⟩
                injection h7 with h7 h8
                injection h8 with h8 h9
                subst h7 h8 h9
                unfold tail3 at hh
                have hT8 := fun W h1 h2 => take_any g closeL l7 s7 d7 w0 W h1 h2
                generalize takeL closeL (l7, s7, d7) = t8 at *
                obtain ⟨cl, l8, s8, d8⟩ := t8
                dsimp only at hT8 hh
                replace hT8 := Lib.hid hT8
                have hM9 := fun W h1 h2 => must_any g crlfL l8 s8 d8 w0 W h1 h2
                generalize mustL crlfL (l8, s8, d8) = m9 at *
                obtain ⟨l9, s9, d9⟩ := m9
                dsimp only at hM9 hh
                replace hM9 := Lib.hid hM9
                replace hh := Lib.hid hh
                go_enter Tryd.func26, Tryd.ntmps26
                go_wp2_with (first  | (go_at_call 31; go_must (refine hS.out.mono ?_; rintro e w1 ⟨rfl, hI1, hB1, hK1⟩; have hF0 := HF.start hgl hI1 hB1 hK1; replace hF0 := Lib.hid hF0; clear hI1 hB1 hK1 hS))  | (go_at_call 32; have _t := hT; go_must (refine (hT.out _ (hF0.out _).hI (hF0.out _).hB).mono ?_; rintro e w2 ⟨rfl, hI2, hB2, hK2⟩; clear hT; have hF := (hF0.out _).call hgl hI2 hB2 hK2; clear hF0 hI2 hB2 hK2; have q0 := (blk_cell hF.k4 0).trans rfl; have q2 := (blk_cell hF.k4 2).trans rfl; have q3 := (blk_cell hF.k4 3).trans rfl; have y2 := blk_frozen hF.k4 2; have y3 := blk_frozen hF.k4 3; have c1 := cellS47_1 hF.hI.1; have c2 := cellS47_2 hF.hI.1; have f2 := blk_frozen hF.hI.1 2; replace hF := Lib.hid hF))  | (go_at_call 33; have _t := hM3; go_must (refine (hM3.out _ hF.out.hI hF.out.hB).mono ?_; rintro e1 wn ⟨rfl, hIn, hBn, hKn⟩; clear hM3; replace hF := hF.out.call hgl hIn hBn hKn; clear hIn hBn hKn; have q0 := (blk_cell hF.k4 0).trans rfl; have q2 := (blk_cell hF.k4 2).trans rfl; have q3 := (blk_cell hF.k4 3).trans rfl; have y2 := blk_frozen hF.k4 2; have y3 := blk_frozen hF.k4 3; have c1 := cellS47_1 hF.hI.1; have c2 := cellS47_2 hF.hI.1; have f2 := blk_frozen hF.hI.1 2; replace hF := Lib.hid hF))  | (go_at_call 34; have _t := hN; go_must (refine (hN.out _ hF.out.hI hF.out.hB).mono ?_; rintro e1 wn ⟨rfl, hIn, hBn, hKn⟩; clear hN; replace hF := hF.out.call hgl hIn hBn hKn; clear hIn hBn hKn; have q0 := (blk_cell hF.k4 0).trans rfl; have q2 := (blk_cell hF.k4 2).trans rfl; have q3 := (blk_cell hF.k4 3).trans rfl; have y2 := blk_frozen hF.k4 2; have y3 := blk_frozen hF.k4 3; have c1 := cellS47_1 hF.hI.1; have c2 := cellS47_2 hF.hI.1; have f2 := blk_frozen hF.hI.1 2; replace hF := Lib.hid hF))  | (go_at_call 32; have _t := hT6; go_must (refine (hT6.out _ hF.out.hI hF.out.hB).mono ?_; rintro e1 wn ⟨rfl, hIn, hBn, hKn⟩; clear hT6; replace hF := hF.out.call hgl hIn hBn hKn; clear hIn hBn hKn; have q0 := (blk_cell hF.k4 0).trans rfl; have q2 := (blk_cell hF.k4 2).trans rfl; have q3 := (blk_cell hF.k4 3).trans rfl; have y2 := blk_frozen hF.k4 2; have y3 := blk_frozen hF.k4 3; have c1 := cellS47_1 hF.hI.1; have c2 := cellS47_2 hF.hI.1; have f2 := blk_frozen hF.hI.1 2; replace hF := Lib.hid hF))  | (go_at_call 32; have _t := hT8; go_must (refine (hT8.out _ hF.out.hI hF.out.hB).mono ?_; rintro e1 wn ⟨rfl, hIn, hBn, hKn⟩; clear hT8; replace hF := hF.out.call hgl hIn hBn hKn; clear hIn hBn hKn; have q0 := (blk_cell hF.k4 0).trans rfl; have q2 := (blk_cell hF.k4 2).trans rfl; have q3 := (blk_cell hF.k4 3).trans rfl; have y2 := blk_frozen hF.k4 2; have y3 := blk_frozen hF.k4 3; have c1 := cellS47_1 hF.hI.1; have c2 := cellS47_2 hF.hI.1; have f2 := blk_frozen hF.hI.1 2; replace hF := Lib.hid hF))  | (go_at_call 33; have _t := hM9; replace hF := Lib.hid (hF.out.put hgl hw0 3 (.bool cl) rfl); go_must (refine (hM9.out _ hF.out.hI hF.out.hB).mono ?_; rintro e1 wn ⟨rfl, hIn, hBn, hKn⟩; clear hM9; replace hF := hF.out.call hgl hIn hBn hKn; clear hIn hBn hKn; have q0 := (blk_cell hF.k4 0).trans rfl; have q2 := (blk_cell hF.k4 2).trans rfl; have q3 := (blk_cell hF.k4 3).trans rfl; have y2 := blk_frozen hF.k4 2; have y3 := blk_frozen hF.k4 3; have c1 := cellS47_1 hF.hI.1; have c2 := cellS47_2 hF.hI.1; have f2 := blk_frozen hF.hI.1 2; have q1 := (blk_cell hF.k4 1).trans rfl; have z0 := (blk_cell hF.k2 0).trans rfl; have z1 := (blk_cell hF.k2 1).trans rfl; have z2 := (blk_cell hF.k2 2).trans rfl; have z3 := (blk_cell hF.k2 3).trans rfl; have x0 := blk_frozen hF.k2 0; have x1 := blk_frozen hF.k2 1; have x2 := blk_frozen hF.k2 2; have x3 := blk_frozen hF.k2 3; replace hF := Lib.hid hF)))
                subst hcn
                rw [hh.out]
                exact bodyPost_ret (results_ct rfl rfl (load_reply (put4_blk hF.out.k2 _ _ _ _))) rfl ⟨rfl, hF.out.fin hgl hw0 _ _ _ _⟩
            | false =>
              have hm : mark true 0 (l4, false, d4) = (l4, false, true) := by unfold mark; rw [hd]; rfl
              rw [hm] at hh
              clear hd hm
              have hl6 := len_take cookL l4 false true
              have hT6 := fun W h1 h2 => take_any g cookL l4 false true w0 W h1 h2
              have hfi := fun a b c h => @take_fine cookL l4 a false true b c h
              unfold tail2 at hh
              generalize takeL cookL (l4, false, true) = t6 at *
              obtain ⟨hc, l6, s6, d6⟩ := t6
              dsimp only at hT6 hh hl6
              replace hT6 := Lib.hid hT6
              cases hc with
              | true =>
                obtain ⟨rfl, rfl⟩ := hfi _ _ _ rfl
                clear hfi
                rw [if_pos rfl] at hh
                have hC := fun W h1 h2 => cookie_any g l6 (by omega) w0 W h1 h2
                generalize cookieL l6 = k at *
                obtain ⟨c, l7, s7, d7⟩ := k
                dsimp only at hC hh
                replace hC := Lib.hid hC
                unfold tail3 at hh
                have hT8 := fun W h1 h2 => take_any g closeL l7 s7 d7 w0 W h1 h2
                generalize takeL closeL (l7, s7, d7) = t8 at *
                obtain ⟨cl, l8, s8, d8⟩ := t8
                dsimp only at hT8 hh
                replace hT8 := Lib.hid hT8
                have hM9 := fun W h1 h2 => must_any g crlfL l8 s8 d8 w0 W h1 h2
                generalize mustL crlfL (l8, s8, d8) = m9 at *
                obtain ⟨l9, s9, d9⟩ := m9
                dsimp only at hM9 hh
                replace hM9 := Lib.hid hM9
                replace hh := Lib.hid hh
                go_enter Tryd.func26, Tryd.ntmps26
                go_wp2_with (first  | (go_at_call 31; go_must (refine hS.out.mono ?_; rintro e w1 ⟨rfl, hI1, hB1, hK1⟩; have hF0 := HF.start hgl hI1 hB1 hK1; replace hF0 := Lib.hid hF0; clear hI1 hB1 hK1 hS))  | (go_at_call 32; have _t := hT; go_must (refine (hT.out _ (hF0.out _).hI (hF0.out _).hB).mono ?_; rintro e w2 ⟨rfl, hI2, hB2, hK2⟩; clear hT; have hF := (hF0.out _).call hgl hI2 hB2 hK2; clear hF0 hI2 hB2 hK2; have q0 := (blk_cell hF.k4 0).trans rfl; have q2 := (blk_cell hF.k4 2).trans rfl; have q3 := (blk_cell hF.k4 3).trans rfl; have y2 := blk_frozen hF.k4 2; have y3 := blk_frozen hF.k4 3; have c1 := cellS47_1 hF.hI.1; have c2 := cellS47_2 hF.hI.1; have f2 := blk_frozen hF.hI.1 2; replace hF := Lib.hid hF))  | (go_at_call 33; have _t := hM3; go_must (refine (hM3.out _ hF.out.hI hF.out.hB).mono ?_; rintro e1 wn ⟨rfl, hIn, hBn, hKn⟩; clear hM3; replace hF := hF.out.call hgl hIn hBn hKn; clear hIn hBn hKn; have q0 := (blk_cell hF.k4 0).trans rfl; have q2 := (blk_cell hF.k4 2).trans rfl; have q3 := (blk_cell hF.k4 3).trans rfl; have y2 := blk_frozen hF.k4 2; have y3 := blk_frozen hF.k4 3; have c1 := cellS47_1 hF.hI.1; have c2 := cellS47_2 hF.hI.1; have f2 := blk_frozen hF.hI.1 2; replace hF := Lib.hid hF))  | (go_at_call 34; have _t := hN; go_must (refine (hN.out _ hF.out.hI hF.out.hB).mono ?_; rintro e1 wn ⟨rfl, hIn, hBn, hKn⟩; clear hN; replace hF := hF.out.call hgl hIn hBn hKn; clear hIn hBn hKn; have q0 := (blk_cell hF.k4 0).trans rfl; have q2 := (blk_cell hF.k4 2).trans rfl; have q3 := (blk_cell hF.k4 3).trans rfl; have y2 := blk_frozen hF.k4 2; have y3 := blk_frozen hF.k4 3; have c1 := cellS47_1 hF.hI.1; have c2 := cellS47_2 hF.hI.1; have f2 := blk_frozen hF.hI.1 2; replace hF := Lib.hid hF))  | (go_at_call 32; have _t := hT6; replace hF := Lib.hid (hF.out.bad hgl hge); go_must (refine (hT6.out _ hF.out.hI hF.out.hB).mono ?_; rintro e1 wn ⟨rfl, hIn, hBn, hKn⟩; clear hT6; replace hF := hF.out.call hgl hIn hBn hKn; clear hIn hBn hKn; have q0 := (blk_cell hF.k4 0).trans rfl; have q2 := (blk_cell hF.k4 2).trans rfl; have q3 := (blk_cell hF.k4 3).trans rfl; have y2 := blk_frozen hF.k4 2; have y3 := blk_frozen hF.k4 3; have c1 := cellS47_1 hF.hI.1; have c2 := cellS47_2 hF.hI.1; have f2 := blk_frozen hF.hI.1 2; replace hF := Lib.hid hF))  | (go_at_call 35; have _t := hC; go_must (refine (hC.out _ hF.out.hI hF.out.hB).mono ?_; rintro e1 wn ⟨rfl, hIn, hBn, hKn⟩; clear hC; replace hF := hF.out.call hgl hIn hBn hKn; clear hIn hBn hKn; have q0 := (blk_cell hF.k4 0).trans rfl; have q2 := (blk_cell hF.k4 2).trans rfl; have q3 := (blk_cell hF.k4 3).trans rfl; have y2 := blk_frozen hF.k4 2; have y3 := blk_frozen hF.k4 3; have c1 := cellS47_1 hF.hI.1; have c2 := cellS47_2 hF.hI.1; have f2 := blk_frozen hF.hI.1 2; replace hF := Lib.hid hF))  | (go_at_call 32; have _t := hT8; replace hF := Lib.hid (hF.out.put hgl hw0 2 (.string (B c)) rfl); go_must (refine (hT8.out _ hF.out.hI hF.out.hB).mono ?_; rintro e1 wn ⟨rfl, hIn, hBn, hKn⟩; clear hT8; replace hF := hF.out.call hgl hIn hBn hKn; clear hIn hBn hKn; have q0 := (blk_cell hF.k4 0).trans rfl; have q2 := (blk_cell hF.k4 2).trans rfl; have q3 := (blk_cell hF.k4 3).trans rfl; have y2 := blk_frozen hF.k4 2; have y3 := blk_frozen hF.k4 3; have c1 := cellS47_1 hF.hI.1; have c2 := cellS47_2 hF.hI.1; have f2 := blk_frozen hF.hI.1 2; replace hF := Lib.hid hF))  | (go_at_call 33; have _t := hM9; replace hF := Lib.hid (hF.out.put hgl hw0 3 (.bool cl) rfl); go_must (refine (hM9.out _ hF.out.hI hF.out.hB).mono ?_; rintro e1 wn ⟨rfl, hIn, hBn, hKn⟩; clear hM9; replace hF := hF.out.call hgl hIn hBn hKn; clear hIn hBn hKn; have q0 := (blk_cell hF.k4 0).trans rfl; have q2 := (blk_cell hF.k4 2).trans rfl; have q3 := (blk_cell hF.k4 3).trans rfl; have y2 := blk_frozen hF.k4 2; have y3 := blk_frozen hF.k4 3; have c1 := cellS47_1 hF.hI.1; have c2 := cellS47_2 hF.hI.1; have f2 := blk_frozen hF.hI.1 2; have q1 := (blk_cell hF.k4 1).trans rfl; have z0 := (blk_cell hF.k2 0).trans rfl; have z1 := (blk_cell hF.k2 1).trans rfl; have z2 := (blk_cell hF.k2 2).trans rfl; have z3 := (blk_cell hF.k2 3).trans rfl; have x0 := blk_frozen hF.k2 0; have x1 := blk_frozen hF.k2 1; have x2 := blk_frozen hF.k2 2; have x3 := blk_frozen hF.k2 3; replace hF := Lib.hid hF)))
                rw [hh.out]
                exact bodyPost_ret (results_ct rfl rfl (load_reply (put4_blk hF.out.k2 _ _ _ _))) rfl ⟨rfl, hF.out.fin hgl hw0 _ _ _ _⟩
              | false =>
                clear hfi
                rw [if_neg (by simp)] at hh
                obtain ⟨c, hcn⟩ : ∃ c : List UInt8, c = [] := ⟨_, rfl⟩
                rw [← hcn] at hh
                obtain ⟨l7, s7, d7, h7⟩ : ∃ a b c, (a, b, c) = (l6, s6, d6) := ⟨_, _, _, rfl⟩
                injection h7 with h7 h8
                injection h8 with h8 h9
                subst h7 h8 h9
                unfold tail3 at hh
                have hT8 := fun W h1 h2 => take_any g closeL l7 s7 d7 w0 W h1 h2
                generalize takeL closeL (l7, s7, d7) = t8 at *
                obtain ⟨cl, l8, s8, d8⟩ := t8
                dsimp only at hT8 hh
                replace hT8 := Lib.hid hT8
                have hM9 := fun W h1 h2 => must_any g crlfL l8 s8 d8 w0 W h1 h2
                generalize mustL crlfL (l8, s8, d8) = m9 at *
                obtain ⟨l9, s9, d9⟩ := m9
                dsimp only at hM9 hh
                replace hM9 := Lib.hid hM9
                replace hh := Lib.hid hh
                go_enter Tryd.func26, Tryd.ntmps26
                go_wp2_with (first  | (go_at_call 31; go_must (refine hS.out.mono ?_; rintro e w1 ⟨rfl, hI1, hB1, hK1⟩; have hF0 := HF.start hgl hI1 hB1 hK1; replace hF0 := Lib.hid hF0; clear hI1 hB1 hK1 hS))  | (go_at_call 32; have _t := hT; go_must (refine (hT.out _ (hF0.out _).hI (hF0.out _).hB).mono ?_; rintro e w2 ⟨rfl, hI2, hB2, hK2⟩; clear hT; have hF := (hF0.out _).call hgl hI2 hB2 hK2; clear hF0 hI2 hB2 hK2; have q0 := (blk_cell hF.k4 0).trans rfl; have q2 := (blk_cell hF.k4 2).trans rfl; have q3 := (blk_cell hF.k4 3).trans rfl; have y2 := blk_frozen hF.k4 2; have y3 := blk_frozen hF.k4 3; have c1 := cellS47_1 hF.hI.1; have c2 := cellS47_2 hF.hI.1; have f2 := blk_frozen hF.hI.1 2; replace hF := Lib.hid hF))  | (go_at_call 33; have _t := hM3; go_must (refine (hM3.out _ hF.out.hI hF.out.hB).mono ?_; rintro e1 wn ⟨rfl, hIn, hBn, hKn⟩; clear hM3; replace hF := hF.out.call hgl hIn hBn hKn; clear hIn hBn hKn; have q0 := (blk_cell hF.k4 0).trans rfl; have q2 := (blk_cell hF.k4 2).trans rfl; have q3 := (blk_cell hF.k4 3).trans rfl; have y2 := blk_frozen hF.k4 2; have y3 := blk_frozen hF.k4 3; have c1 := cellS47_1 hF.hI.1; have c2 := cellS47_2 hF.hI.1; have f2 := blk_frozen hF.hI.1 2; replace hF := Lib.hid hF))  | (go_at_call 34; have _t := hN; go_must (refine (hN.out _ hF.out.hI hF.out.hB).mono ?_; rintro e1 wn ⟨rfl, hIn, hBn, hKn⟩; clear hN; replace hF := hF.out.call hgl hIn hBn hKn; clear hIn hBn hKn; have q0 := (blk_cell hF.k4 0).trans rfl; have q2 := (blk_cell hF.k4 2).trans rfl; have q3 := (blk_cell hF.k4 3).trans rfl; have y2 := blk_frozen hF.k4 2; have y3 := blk_frozen hF.k4 3; have c1 := cellS47_1 hF.hI.1; have c2 := cellS47_2 hF.hI.1; have f2 := blk_frozen hF.hI.1 2; replace hF := Lib.hid hF))  | (go_at_call 32; have _t := hT6; replace hF := Lib.hid (hF.out.bad hgl hge); go_must (refine (hT6.out _ hF.out.hI hF.out.hB).mono ?_; rintro e1 wn ⟨rfl, hIn, hBn, hKn⟩; clear hT6; replace hF := hF.out.call hgl hIn hBn hKn; clear hIn hBn hKn; have q0 := (blk_cell hF.k4 0).trans rfl; have q2 := (blk_cell hF.k4 2).trans rfl; have q3 := (blk_cell hF.k4 3).trans rfl; have y2 := blk_frozen hF.k4 2; have y3 := blk_frozen hF.k4 3; have c1 := cellS47_1 hF.hI.1; have c2 := cellS47_2 hF.hI.1; have f2 := blk_frozen hF.hI.1 2; replace hF := Lib.hid hF))  | (go_at_call 32; have _t := hT8; go_must (refine (hT8.out _ hF.out.hI hF.out.hB).mono ?_; rintro e1 wn ⟨rfl, hIn, hBn, hKn⟩; clear hT8; replace hF := hF.out.call hgl hIn hBn hKn; clear hIn hBn hKn; have q0 := (blk_cell hF.k4 0).trans rfl; have q2 := (blk_cell hF.k4 2).trans rfl; have q3 := (blk_cell hF.k4 3).trans rfl; have y2 := blk_frozen hF.k4 2; have y3 := blk_frozen hF.k4 3; have c1 := cellS47_1 hF.hI.1; have c2 := cellS47_2 hF.hI.1; have f2 := blk_frozen hF.hI.1 2; replace hF := Lib.hid hF))  | (go_at_call 33; have _t := hM9; replace hF := Lib.hid (hF.out.put hgl hw0 3 (.bool cl) rfl); go_must (refine (hM9.out _ hF.out.hI hF.out.hB).mono ?_; rintro e1 wn ⟨rfl, hIn, hBn, hKn⟩; clear hM9; replace hF := hF.out.call hgl hIn hBn hKn; clear hIn hBn hKn; have q0 := (blk_cell hF.k4 0).trans rfl; have q2 := (blk_cell hF.k4 2).trans rfl; have q3 := (blk_cell hF.k4 3).trans rfl; have y2 := blk_frozen hF.k4 2; have y3 := blk_frozen hF.k4 3; have c1 := cellS47_1 hF.hI.1; have c2 := cellS47_2 hF.hI.1; have f2 := blk_frozen hF.hI.1 2; have q1 := (blk_cell hF.k4 1).trans rfl; have z0 := (blk_cell hF.k2 0).trans rfl; have z1 := (blk_cell hF.k2 1).trans rfl; have z2 := (blk_cell hF.k2 2).trans rfl; have z3 := (blk_cell hF.k2 3).trans rfl; have x0 := blk_frozen hF.k2 0; have x1 := blk_frozen hF.k2 1; have x2 := blk_frozen hF.k2 2; have x3 := blk_frozen hF.k2 3; replace hF := Lib.hid hF)))
                subst hcn
                rw [hh.out]
                exact bodyPost_ret (results_ct rfl rfl (load_reply (put4_blk hF.out.k2 _ _ _ _))) rfl ⟨rfl, hF.out.fin hgl hw0 _ _ _ _⟩
end Go.Proofs.YthacomeiinejaaaDoor
