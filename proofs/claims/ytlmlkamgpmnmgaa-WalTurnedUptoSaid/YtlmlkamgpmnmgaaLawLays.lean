/-
  The law of laying, walked.
-/
import Derived.Test.YtlmlkamgpmnmgaaLayAny
set_option linter.unusedVariables false
set_option linter.unusedSimpArgs false
namespace Go.Proofs.Ytlmlkamgpmnmgaa
open Go.RowKit Go.Proofs.YtlmlkamgpmnmgaaW.PrintWords
theorem Row.past {w w1 : World} {B : Nat} {v : Value} {l : List UInt8} {S : Nat → Prop} (h : Row w B v l) (hk : Kept w w1 S) (hn : ∀ q, v.ownBlock = some q → ¬ S q) : Row w1 B v l :=
  h.frame (fun q hq => hk.2 q (h.lt q hq) (hn q hq))
theorem Row.rd_of {w : World} {B : Nat} {A : Option Addr} {n c : Nat} {l : List UInt8} (h : Row w B (.slice A n c) l) : Rd w A n l ∧ n ≤ c := by
  obtain ⟨A1, c1, he, hr, hc⟩ := h.rd
  injection he with h1 h2 h3
  subst h1 h2 h3
  exact ⟨hr, hc⟩
theorem WW.past {w w1 : World} {g size : Nat} {S : Nat → Prop} (h : WW w g size) (hk : Kept w w1 S) (hn : ¬ S g) : WW w1 g size := ⟨blk_kept h.blk hk hn⟩
theorem RW.past {w w1 : World} {g size : Nat} {S : Nat → Prop} (h : RW w g size) (hk : Kept w w1 S) (hn : ¬ S g) : RW w1 g size := ⟨blk_kept h.blk hk hn⟩
theorem Row.w_ne {w : World} {B g size : Nat} {v : Value} {l : List UInt8} (h : Row w B v l) (hW : WW w g size) : some g ≠ v.ownBlock := own_ne h hW.blk (by decide)
theorem Row.r_ne {w : World} {B g size : Nat} {v : Value} {l : List UInt8} (h : Row w B v l) (hW : RW w g size) : some g ≠ v.ownBlock := own_ne h hW.blk (by decide)
theorem WW.r_ne {w : World} {g x size size2 : Nat} (h : WW w g size) (hW : RW w x size2) : g ≠ x := blk_ne h.blk hW.blk (by decide)
theorem Row.put {w : World} {B : Nat} {A : Option Addr} {n c : Nat} {l : List UInt8} (h : Row w B (.slice A n c) l) (hn : l.length = n) (k : Nat) (hk : k < n) (b : UInt8) :
    ∃ ad, A = some ad ∧ w.cell? (ad.add k) = some (.int .u8 ((l.getD k 0).toNat : Int)) ∧ w.frozen? (ad.add k) = false ∧ Row (w.setCell (ad.add k) (.int .u8 (b.toNat : Int))) B (.slice A n c) (l.set k b) ∧
      (Value.slice A n c).ownBlock = some (ad.add k).block ∧ B ≤ (ad.add k).block := by
  subst hn
  have ho : w.ownsRow B 5 1 (.slice A l.length c) (bi l).length (nums .u8 (bi l)) := h.own
  obtain ⟨gb, cap, he, hB, _⟩ := ho.form (by rw [bi_len]; omega)
  injection he with he1 he2 he3
  subst he1 he3
  rw [bi_len] at ho
  obtain ⟨h1, h2⟩ := own_at (i := (k : Int)) ho (by omega) (by omega)
  obtain ⟨h3, _⟩ := own_store ho (k : Int) ((b.toNat : Nat) : Int)
  rw [Int.toNat_natCast] at h1 h2 h3
  refine ⟨⟨gb, 0, none⟩, rfl, ?_⟩
  rw [add_plain]
  refine ⟨?_, h2, ?_, rfl, hB⟩
  · rw [h1]
    have : (bi l).getD ((k : Int)).toNat 0 = ((l.getD k 0).toNat : Int) := by
      rw [Int.toNat_natCast]
      simp [bi, List.getD_eq_getElem?_getD, List.getElem?_eq_getElem hk]
    exact congrArg (fun x => some (Value.int .u8 x)) this
  · show World.ownsRow _ _ _ _ _ _ _
    rw [List.length_set]
    have : bi (l.set k b) = (bi l).set k ((b.toNat : Nat) : Int) := by simp [bi, List.map_set]
    rw [this]
    exact h3
set_option maxHeartbeats 2000000 in
set_option maxRecDepth 100000 in
theorem lays_bad (W : World) (a0 : Int) (h0 : a0 < 0 ∨ 1048576 < a0) (A : Option Addr) (n c : Nat) (recs : List ByteArray) (hr : SRd W A n recs) (a2 a3 : Int) :
    Calls Try.prog 3 #[.int .i64 a0, .slice A n c, .int .i64 a2, .int .i64 a3] W fun e w' => e = .returned (.bool true) ∧ Below W.heap.size W w' := by
  have hl := Lib.hid (lives_any W)
  obtain ⟨r, er, hq1, hq2⟩ := length_same a2 a3
  replace hq1 := Lib.hid hq1
  replace hq2 := Lib.hid hq2
  have hn1 := Lib.hid (wnew_bad a0 h0)
  have hn2 := Lib.hid (rnew_bad a0 h0)
  have hm : n ≤ 9223372036854775807 := hr.2.1
  clear h0
  go_enter Try.func3, Try.ntmps3
  go_wp2_with (first  | (go_at_call 7; go_must (refine hl.out.mono ?_; rintro e w1 ⟨rfl, hb1⟩; replace hb1 := Lib.hid hb1))  | (go_at_call 8; go_must (refine (hq1.out _).mono ?_; rintro e w2 ⟨rfl, rfl⟩))  | (go_at_call 9; go_must (refine (hq2.out _).mono ?_; rintro e w2 ⟨rfl, hb2⟩; have hb3 := Lib.hid (hb1.out.trans (hb2.mono hb1.out.size)); replace hb2 := Lib.hid hb2))  | (go_at_call 10; go_must (refine (hn1.out _).mono ?_; rintro e w4 ⟨rfl, rfl⟩))  | (go_at_call 11; go_must (refine (hn2.out _).mono ?_; rintro e w5 ⟨rfl, rfl⟩)))
  go_loopw [15] (fun i wr => i = .int .i64 0 ∧ wr = w2) (fun _ _ => 0)
  case atStart => exact ⟨rfl, rfl⟩
  case round =>
    obtain ⟨rfl, rfl⟩ := hrel
    by_cases hn0 : 0 < n
    · have hni : (0 : Int) < (n : Int) := by omega
      go_wp2
      go_ret
      exact ⟨rfl, hb3.out⟩
    · have hni : ¬ (0 : Int) < (n : Int) := by omega
      go_wp2
      go_ret
      exact ⟨rfl, hb3.out⟩
set_option maxHeartbeats 4000000 in
set_option maxRecDepth 100000 in
theorem lays_ok (W : World) (a0 : Nat) (h0 : a0 ≤ 1048576) (A : Option Addr) (n c : Nat) (recs : List ByteArray) (hr : SRd W A n recs) (hss : ∀ s ∈ recs, s.size ≤ 140737488351232) (a2 a3 : Int) :
    Calls Try.prog 3 #[.int .i64 (a0 : Int), .slice A n c, .int .i64 a2, .int .i64 a3] W fun e w' => e = .returned (.bool true) ∧ Below W.heap.size W w' := by
  have hl := Lib.hid (lives_any W)
  obtain ⟨r, er, hq1, hq2⟩ := length_same a2 a3
  replace hq1 := Lib.hid hq1
  replace hq2 := Lib.hid hq2
  have hn1 := Lib.hid (wnew_ok a0 h0)
  have hn2 := Lib.hid (rnew_ok a0 h0)
  have hm : n ≤ 9223372036854775807 := hr.2.1
  have hrl := Lib.hid hr.len
  replace hr := Lib.hid hr
  replace hss := Lib.hid hss
  go_enter Try.func3, Try.ntmps3
  go_wp2_with (first  | (go_at_call 7; go_must (refine hl.out.mono ?_; rintro e w1 ⟨rfl, hb1⟩; replace hb1 := Lib.hid hb1))  | (go_at_call 8; go_must (refine (hq1.out _).mono ?_; rintro e w2 ⟨rfl, rfl⟩))  | (go_at_call 9; go_must (refine (hq2.out _).mono ?_; rintro e w2 ⟨rfl, hb2⟩; have hb3 := Lib.hid (hb1.out.trans (hb2.mono hb1.out.size)); replace hb2 := Lib.hid hb2))  | (go_at_call 10; go_must (refine (hn1.out _).mono ?_; rintro e w4 ⟨rfl, hW4, hb4⟩; have hb5 := Lib.hid (hb3.out.trans (hb4.mono hb3.out.size)); replace hb4 := Lib.hid hb4; replace hW4 := Lib.hid hW4))  | (go_at_call 11; go_must (refine (hn2.out _).mono ?_; rintro e w6 ⟨rfl, hX6, hb6⟩; have hb7 := Lib.hid (hb5.out.trans (hb6.mono hb5.out.size)); have hW6 := Lib.hid (hW4.out.below hb6); replace hb6 := Lib.hid hb6; replace hX6 := Lib.hid hX6)))
  go_loopw [15] (fun i wr => ∃ k size : Nat, i = .int .i64 (k : Int) ∧ k ≤ n ∧ WW wr w2.heap.size size ∧ RW wr w4.heap.size size ∧ size ≤ 1048576 ∧ Below W.heap.size W wr) (fun i _ => n - (intOf i).toNat)
  case atStart => exact ⟨0, a0, rfl, Nat.zero_le _, hW6.out, hX6.out, h0, hb7.out⟩
  case round =>
    obtain ⟨k, size, rfl, hk, hWr, hXr, hsz, hbr⟩ := hrel
    by_cases hkn : k < n
    · have hge : W.heap.size ≤ w2.heap.size := hb3.out.size
      have hgx : W.heap.size ≤ w4.heap.size := hb5.out.size
      obtain ⟨ad, hAe, hkc⟩ := (hr.out.below hbr).at_ k hkn
      subst hAe
      generalize hse : recs.getD k ByteArray.empty = s at hkc
      have hs : s.size ≤ 140737488351232 := by
        rw [← hse]
        have hkl : k < recs.length := by rw [hrl.out]; exact hkn
        rw [List.getD_eq_getElem?_getD, List.getElem?_eq_getElem hkl]
        exact hss.out _ (List.getElem_mem hkl)
      have hc1 := Lib.hid (wlay_any hWr hsz s hs)
      replace hse := Lib.hid hse
      replace hWr := Lib.hid hWr
      replace hXr := Lib.hid hXr
      replace hbr := Lib.hid hbr
      have hsH := Lib.hid hs
      clear hs
      go_wp2_with (first  | (go_at_call 12; go_must (refine hc1.out.mono ?_; rintro e w8 ⟨v8, rfl, ho8, hW8, hk8, hB8⟩; have hb8 := hB8 W hbr.out hge; have hX8 := hXr.out.past hk8 (fun e => hWr.out.r_ne hXr.out e.symm); obtain ⟨ad9, hAe9, hkc8⟩ := (hr.out.below hb8).at_ k hkn; injection hAe9 with hAe9; subst hAe9; rw [hse.out] at hkc8; obtain ⟨A8, c8, hve8, _, _⟩ := ho8.rd; subst hve8; replace ho8 := Lib.hid ho8; replace hW8 := Lib.hid hW8; replace hX8 := Lib.hid hX8; replace hb8 := Lib.hid hb8; replace hk8 := Lib.hid hk8; have hc2 := Lib.hid (rlay_any hX8.out hsz s hsH.out); clear hB8))  | (go_at_call 13; go_must (refine hc2.out.mono ?_; rintro e w9 ⟨v9, rfl, ho9, hX9, hk9, hB9⟩; have hb9 := Lib.hid (hB9 W hb8.out hgx); have hW9 := Lib.hid (hW8.out.past hk9 (fun e => hW8.out.r_ne hX8.out e)); have ho89 := ho8.out.past hk9 (fun q hq e => ho8.out.r_ne hX8.out (by rw [hq, e])); obtain ⟨A9, c9, hve9, _, _⟩ := ho9.rd; subst hve9; have hq14 := Lib.hid (fun m => same_any (ho89.drewN m).rd_of.1 ho89.rd_of.2 (ho9.drewN m).rd_of.1 ho9.rd_of.2); have kx := (blk_cell hX9.blk 0).trans rfl; replace ho89 := Lib.hid ho89; replace ho9 := Lib.hid ho9; replace hX9 := Lib.hid hX9; replace hk9 := Lib.hid hk9; clear hB9)))
      have hq14b : ∀ m, Calls Try.prog 14 #[.slice A8 (layO size s).length c8, .slice A9 (layO size s).length c9] (w9.drewN m) fun e w' => e = .returned (.bool true) ∧ ∃ m2, w' = (w9.drewN m).drewN m2 := fun m => by
        refine (hq14.out m).mono ?_
        rintro e w' ⟨rfl, hd⟩
        exact ⟨by simp, hd.out⟩
      have hq15 : ∀ m, Calls Try.prog 15 #[.pointer (some ⟨w2.heap.size, 0, none⟩)] (w9.drewN m) fun e w' => e = .returned (.int .i64 (layS size s : Int)) ∧ w' = w9.drewN m := fun m => by
        refine (wsize (w := w9.drewN m) ⟨hW9.out.blk⟩).mono ?_
        rintro e w' ⟨rfl, rfl⟩
        exact ⟨rfl, rfl⟩
      replace hq14b := Lib.hid hq14b
      replace hq15 := Lib.hid hq15
      clear hq14 hkc hkc8
      go_quiet (first | (go_at_call 14; exact Calls.quiet_of (hq14b.out _)) | (go_at_call 15; exact Calls.quiet_of_same (hq15.out _)))
      have hlm : (layO size s).length ≤ 1048576 := by
        have := layS_eq size s
        have := layS_le size s hsz
        omega
      go_wp2
      have hsz2 := Lib.hid (layS_le size s hsz)
      have hgl : W.heap.size ≤ wr.heap.size := hbr.out.size
      have hst : Row (w9.drewN nq) wr.heap.size (.slice A8 (layO size s).length c8) (layO size s) := ho89.out.drewN nq
      have hkt : Kept w9 (w9.drewN nq) (fun q => (Value.slice A8 (layO size s).length c8).ownBlock = some q) := (Kept.refl w9 _).drewN nq
      have hbt : Below W.heap.size W (w9.drewN nq) := pw_below_drewN hb9.out nq
      go_loopw [20] (fun i wi => ∃ (j : Nat) (l2 : List UInt8), i = .int .i64 (j : Int) ∧ j ≤ (layO size s).length ∧ l2.length = (layO size s).length ∧ Row wi wr.heap.size (.slice A8 (layO size s).length c8) l2 ∧ Kept w9 wi (fun q => (Value.slice A8 (layO size s).length c8).ownBlock = some q) ∧ Below W.heap.size W wi) (fun i _ => (layO size s).length - (intOf i).toNat)
      case atStart => exact ⟨0, _, rfl, Nat.zero_le _, rfl, hst, hkt, hbt⟩
      case round =>
        clear hst hkt hbt
        obtain ⟨j, l2, rfl, hj, hl2, hrow, hkw, hbw⟩ := hrel
        have hWn := Lib.hid (hW9.out.past hkw (fun e => ho89.out.w_ne hW9.out e.symm))
        have hXn := Lib.hid (hX9.out.past hkw (fun e => ho89.out.r_ne hX9.out e.symm))
        generalize (layO size s).length = m at *
        by_cases hjm : j < m
        · obtain ⟨ad8, hA8, hkj, hfj, hrow2, hob, hBb⟩ := hrow.put hl2 j hjm 9
          have hrow2 := Lib.hid hrow2
          have hkw2 := Lib.hid (hkw.setCell (p := ad8.add j) (.inl hob) (.int .u8 9))
          have hbw2 := Lib.hid (hbw.setCell (p := ad8.add j) (by omega) (.int .u8 9))
          subst hA8
          replace hob := Lib.hid hob
          replace hrow := Lib.hid hrow
          replace hkw := Lib.hid hkw
          replace hl2 := Lib.hid hl2
          go_wp2
          go_roundw
          case rel => exact ⟨j + 1, _, by go_num, by omega, by rw [List.length_set]; exact hl2.out, hrow2.out, hkw2.out, hbw2.out⟩
          case measure => simp [intOf]; omega
        · obtain rfl : j = m := by omega
          replace hrow := Lib.hid hrow
          replace hkw := Lib.hid hkw
          replace hbw := Lib.hid hbw
          go_wp2
          go_roundw
          case rel => exact ⟨k + 1, layS size s, by go_num, by omega, hWn.out, hXn.out, hsz2.out, hbw.out⟩
          case measure => simp [intOf]; omega
    · obtain rfl : k = n := by omega
      go_wp2
      go_ret
      exact ⟨rfl, hbr⟩
theorem lays_walk (W : World) (a0 : Int) (w0 : (Lit.int .i64 a0).wf = true) (A : Option Addr) (n c : Nat) (recs : List ByteArray) (hr : SRd W A n recs) (hnc : n ≤ c) (hn : n ≤ 1048576) (hss : ∀ s ∈ recs, s.size ≤ 1048576) (a2 : Int) (w2 : (Lit.int .i64 a2).wf = true) (a3 : Int) (w3 : (Lit.int .i64 a3).wf = true) :
    Calls Try.prog 3 #[.int .i64 a0, .slice A n c, .int .i64 a2, .int .i64 a3] W fun e w' => e = .returned (.bool true) ∧ Below W.heap.size W w' := by
  by_cases h : a0 < 0 ∨ 1048576 < a0
  · exact lays_bad W a0 h A n c recs hr a2 a3
  · obtain ⟨m, rfl⟩ := Int.eq_ofNat_of_zero_le (show 0 ≤ a0 by omega)
    exact lays_ok W m (by omega) A n c recs hr (fun s hs => by have := hss s hs; omega) a2 a3
end Go.Proofs.Ytlmlkamgpmnmgaa
