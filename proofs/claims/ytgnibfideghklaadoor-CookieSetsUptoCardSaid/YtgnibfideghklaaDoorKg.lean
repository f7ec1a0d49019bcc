/-
  Chapter 19: the pairs of a Cookie field's value, walked.
-/
import Derived.Test.YtgnibfideghklaaDoorKf
set_option linter.unusedVariables false
set_option linter.unusedSimpArgs false
namespace Go.Proofs.YtgnibfideghklaaDoor
open Go.RowKit Go.Proofs.YtgnibfideghklaaDoorW.PrintWords Go.Proofs.YtgnibfideghklaaDoor.PCookieReads
/-- The library's variable that strings.Index reads holds some number. -/
def MaxL (w : World) : Prop := ∃ m : Int, w.cell? ⟨0, 0, none⟩ = some (.int .i64 m)
theorem MaxL.below {w w1 : World} (h : MaxL w) (hb : Below w.heap.size w w1) : MaxL w1 := by
  obtain ⟨m, hm⟩ := h
  have hlt : 0 < w.heap.size := World.block_lt_of_cell? _ _ hm
  refine ⟨m, ?_⟩
  rw [← hm]
  unfold World.cell?
  rw [hb.block 0 hlt]
theorem splitB_R (l : List UInt8) : Lib.splitB (B [59, 32]) 0 (Lib.countB (B l) (B [59, 32])) (B l) = (splitR l).map B := by
  have h := Lib.splitB_data (B [59, 32]) 0 (Lib.countB (B l) (B [59, 32])) (B l)
  have h2 : Lib.countB (B l) (B [59, 32]) = Lib.count l [59, 32] := by
    unfold Lib.countB
    rw [B_data, B_data]
  rw [B_data, B_data, h2, split_R l.length l (Nat.le_refl _)] at h
  rw [h2, ← h, List.map_map]
  conv => lhs; rw [← List.map_id (Lib.splitB (B [59, 32]) 0 (Lib.count l [59, 32]) (B l))]
  refine List.map_congr_left fun x _ => ?_
  exact (of_data x).symm
theorem split_any (l : List UInt8) (hl : l.length < 4294967281) (w : World) (hm : MaxL w) :
    Calls Tryd.prog 22 #[.string (B l), .string ⟨#[59, 32]⟩] w fun e w' => e = .returned (.slice (some ⟨w.heap.size, 0, none⟩) (splitR l).length (splitR l).length) ∧ w' = w.alloc (.cells ((splitR l).map fun p => Value.string (B p)).toArray 9) := by
  obtain ⟨m, hm⟩ := hm
  have h1 : 1 ≤ (B [59, 32]).size := by decide
  have h := Tryd.strings_Split (B l) (B [59, 32]) m w (by rw [B_size]; exact hl) hm h1
  have hlen := Lib.splitB_all (B [59, 32]) h1 0 _ (B l) rfl
  rw [splitB_R] at h hlen
  rw [← hlen, List.length_map, List.map_map] at h
  exact h
theorem cut_any (l : List UInt8) (hl : l.length < 4294967281) (w : World) (hm : MaxL w) :
    Calls Tryd.prog 23 #[.string (B l), .string ⟨#[61]⟩] w fun e w' => e = .returned (.tuple #[.string (B (cutE l).1), .string (B (cutE l).2.1), .bool (cutE l).2.2]) ∧ ∃ n, w' = w.drewN n := by
  obtain ⟨m, hm⟩ := hm
  have h := Tryd.strings_Cut (B l) (B [61]) m w (by rw [B_size]; exact hl) hm
  rw [B_data, B_data, cut_E] at h
  exact h
/-- The pairs so far, and the parts. -/
structure PS (w wr : World) (v : Value) (X : Array Value) (ps : List (List UInt8 × List UInt8)) : Prop where
  row : Kd.R k43 43 wr w.heap.size (fun _ => True) v (ps.map SP)
  blk : wr.heap[w.heap.size]? = some (.cells X 9 (0, 0))
  bel : Below w.heap.size w wr
theorem PS.below {w wr w2 : World} {v : Value} {X : Array Value} {ps : List (List UInt8 × List UInt8)} (h : PS w wr v X ps) (hb : Below wr.heap.size wr w2) : PS w w2 v X ps :=
  ⟨Kd.R_below h.row hb, (hb.block _ (Array.getElem?_eq_some_iff.1 h.blk).1).trans h.blk, h.bel.trans (hb.mono h.bel.size)⟩
theorem PS.drewN {w wr : World} {v : Value} {X : Array Value} {ps : List (List UInt8 × List UInt8)} (h : PS w wr v X ps) (n : Nat) : PS w (wr.drewN n) v X ps :=
  h.below (pw_below_drewN (Below.refl _ _) n)
theorem pairsOf_app : ∀ (a b : List (List UInt8)), pairsOf (a ++ b) = (pairsOf a).bind fun x => (pairsOf b).map (x ++ ·)
  | [], b => by simp [pairsOf]
  | s :: a, b => by
    rw [List.cons_append, pairsOf, pairsOf, pairsOf_app a b]
    cases pairOf s with
    | none => rfl
    | some p =>
      cases pairsOf a with
      | none => rfl
      | some x => cases pairsOf b <;> rfl
theorem parse_bad {l : List UInt8} {PL RL : List (List UInt8)} {s : List UInt8} (h : splitR l = PL ++ s :: RL) (hp : pairOf s = none) : parseC l = none := by
  unfold parseC
  split
  · rw [h, pairsOf_app]
    cases pairsOf PL with
    | none => rfl
    | some x => simp [pairsOf, hp]
  · rfl
set_option maxHeartbeats 1000000 in
set_option maxRecDepth 100000 in
theorem parse_any (l : List UInt8) (hl : l.length < 4294967281) (w : World) (hm : MaxL w) :
    Calls Tryd.prog 11 #[.string (B l)] w fun e w' => ∃ v, e = .returned (.tuple #[v, .int .i64 (resP (parseC l)).2]) ∧ Kd.R k43 43 w' w.heap.size (fun _ => True) v (resP (parseC l)).1 ∧ Below w.heap.size w w' := by
  have hS := Lib.hid (split_any l hl w hm)
  have hC := Lib.hid (fun (s : List UInt8) (hs : s.length ≤ l.length) W h => cut_any s (by omega) W h)
  have hR := Lib.hid (fun (s : List UInt8) (hs : s.length ≤ l.length) (n v : List UInt8) (hn : n.length ≤ s.length) (hv : v.length ≤ s.length) W => right_any n v (by omega) (by omega) W)
  have hpl := Lib.hid (part_len l)
  have hm2 := Lib.hid hm
  have hb0 := Lib.hid hl
  clear hm hl
  go_enter Tryd.func11, Tryd.ntmps11
  go_wp2_with (first | (go_at_call 22; go_must (refine hS.out.mono ?_; rintro e w2 ⟨rfl, rfl⟩)))
  have hP0 : PS w (w.alloc (.cells ((splitR l).map fun p => Value.string (B p)).toArray 9)) (.slice none 0 0) ((splitR l).map fun p => Value.string (B p)).toArray [] :=
    ⟨Kd.R_nil _ _ _ _ _, heap_alloc_new w _, below_alloc (Below.refl _ _) _⟩
  clear hS
  replace hP0 := Lib.hid hP0
  have hlen : (splitR l).length ≤ 4294967296 := by have := parts_len l; have := hb0.out; omega
  obtain ⟨L, hLs⟩ : ∃ L, splitR l = L := ⟨_, rfl⟩
  rw [hLs] at hP0 hlen
  simp only [hLs]
  replace hLs := Lib.hid hLs
  go_loopw [4, 13] (fun v i wr => ∃ (PL RL : List (List UInt8)) (ps : List (List UInt8 × List UInt8)), L = PL ++ RL ∧ i = .int .i64 (PL.length : Nat) ∧ pairsOf PL = some ps ∧ PL.length ≤ 16 ∧ PS w wr v (L.map fun p => Value.string (B p)).toArray ps) (fun _ i _ => L.length - (intOf i).toNat)
  case atStart => exact ⟨[], L, [], rfl, rfl, rfl, by simp, hP0.out⟩
  case round =>
    clear hP0
    obtain ⟨PL, RL, ps, hL2, rfl, hps, h16, hP⟩ := hrel
    obtain ⟨A, c, hve⟩ := Kd.R_slice hP.row
    subst hve
    simp only [List.length_map] at hP ⊢
    have hpn := pairs_len hps
    replace hL2 := Lib.hid hL2
    replace hps := Lib.hid hps
    cases RL with
    | nil =>
      have hn : PL.length = L.length := by rw [hL2.out]; simp
      have hq : parseC l = some ps := by
        unfold parseC
        rw [hLs.out, if_pos (by omega), hL2.out, List.append_nil, hps.out]
      replace hq := Lib.hid hq
      replace hP := Lib.hid hP
      clear hpn
      go_wp2
      go_ret2
      exact ⟨_, by rw [hq.out]; rfl, by rw [hq.out]; exact hP.out.row, hP.out.bel⟩
    | cons s RL =>
      have hn : PL.length + 1 + RL.length = L.length := by rw [hL2.out]; simp; omega
      have hsl := hpl.out s (by rw [hLs.out, hL2.out]; simp)
      have hcell : wr.cell? ⟨w.heap.size, PL.length, none⟩ = some (.string (B s)) := (blk_cell hP.blk _).trans (by
        have := hL2.out
        subst this
        simp)
      have hmr := Lib.hid (hm2.out.below hP.bel)
      replace hP := Lib.hid hP
      have hC1 := Lib.hid (hC.out s hsl)
      cases hcut : (cutE s).2.2 with
      | false =>
        rw [hcut] at hC1
        have hq : parseC l = none := parse_bad (hLs.out.trans hL2.out) (by unfold pairOf; rw [hcut]; rfl)
        replace hq := Lib.hid hq
        clear hcut
        go_wp2_with (first | (go_at_call 23; go_must (refine (hC1.out _ hmr.out).mono ?_; rintro e w3 ⟨rfl, n3, rfl⟩; replace hP := Lib.hid (hP.out.drewN n3))))
        go_ret2
        exact ⟨_, by rw [hq.out]; rfl, by rw [hq.out]; exact Kd.R_nil _ _ _ _ _, hP.out.bel⟩
      | true =>
        rw [hcut] at hC1
        have hg := cut_glue s hcut
        have hgl : s.length = (cutE s).1.length + 1 + (cutE s).2.1.length := by
          have := congrArg List.length hg
          simp only [List.length_append, List.length_cons] at this
          omega
        have hR1 := Lib.hid (hR.out s hsl (cutE s).1 (cutE s).2.1 (by omega) (by omega))
        have hpo : pairOf s = if pairRt ((cutE s).1, (cutE s).2.1) = true then some ((cutE s).1, (cutE s).2.1) else none := by
          unfold pairOf
          rw [hcut, Bool.true_and]
        clear hg hgl hcut
        generalize (cutE s).1 = nm at *
        generalize (cutE s).2.1 = vl at *
        cases hrt : pairRt (nm, vl) with
        | false =>
          rw [hrt] at hR1 hpo
          have hq : parseC l = none := parse_bad (hLs.out.trans hL2.out) hpo
          replace hq := Lib.hid hq
          clear hpo hrt
          go_wp2_with (first  | (go_at_call 23; go_must (refine (hC1.out _ hmr.out).mono ?_; rintro e w3 ⟨rfl, n3, rfl⟩; replace hP := Lib.hid (hP.out.drewN n3)))  | (go_at_call 24; go_must (refine (hR1.out _).mono ?_; rintro e w4 ⟨rfl, hb4⟩; replace hP := Lib.hid (hP.out.below hb4); clear hb4)))
          go_ret2
          exact ⟨_, by rw [hq.out]; rfl, by rw [hq.out]; exact Kd.R_nil _ _ _ _ _, hP.out.bel⟩
        | true =>
          rw [hrt] at hR1 hpo
          replace hpo := Lib.hid (show pairOf s = some (nm, vl) from hpo)
          clear hrt
          by_cases hfull : PL.length = 16
          · have hq : parseC l = none := by
              unfold parseC
              rw [hLs.out, if_neg (by omega)]
            replace hq := Lib.hid hq
            have hps16 : ((ps.length : Int) == 16) = true := beq_iff_eq.2 (by omega)
            have hlt : PL.length < L.length := by omega
            replace hfull := Lib.hid hfull
            replace hn := Lib.hid hn
            replace hpn := Lib.hid hpn
            replace h16 := Lib.hid h16
            go_wp2_with (first  | (go_at_call 23; go_must (refine (hC1.out _ hmr.out).mono ?_; rintro e w3 ⟨rfl, n3, rfl⟩; replace hP := Lib.hid (hP.out.drewN n3)))  | (go_at_call 24; go_must (refine (hR1.out _).mono ?_; rintro e w4 ⟨rfl, hb4⟩; replace hP := Lib.hid (hP.out.below hb4); clear hb4)))
            go_ret2
            exact ⟨_, by rw [hq.out]; rfl, by rw [hq.out]; exact Kd.R_nil _ _ _ _ _, hP.out.bel⟩
          · have hp15 : ((ps.length : Int) == 16) = false := beq_eq_false_iff_ne.2 (by omega)
            have hsz : ps.length < 16 := by omega
            have hlt : PL.length < L.length := by omega
            replace hpn := Lib.hid hpn
            replace h16 := Lib.hid h16
            replace hfull := Lib.hid hfull
            replace hn := Lib.hid hn
            go_wp2_with (first  | (go_at_call 23; go_must (refine (hC1.out _ hmr.out).mono ?_; rintro e w3 ⟨rfl, n3, rfl⟩; replace hP := Lib.hid (hP.out.drewN n3)))  | (go_at_call 24; go_must (refine (hR1.out _).mono ?_; rintro e w4 ⟨rfl, hb4⟩; replace hP := Lib.hid (hP.out.below hb4); clear hb4))  | ((with_reducible refine gate_builtin (b := .append) (xs := #[.tmp 36, .tmp 40]) rfl ?_); at_builtin; refine Kd.R_append k43 (w0 := w) w.heap.size rfl (.tmp 36) (.tmp 40) 27 43 (.agg #[(.string ⟨#[]⟩), (.string ⟨#[]⟩)]) 32 rfl Tryd.underlying27 info43 rfl (by decide) (by omega) _ (ps.map SP) (⟨B nm, B vl⟩ : S43) [.string (B nm), .string (B vl)] (fun _ => True) (fun _ => False) rfl rfl (k43_mkM _ _ _ (⟨B nm, B vl⟩ : S43)) (fun _ hk => hk.elim) (fun _ _ => trivial) hP.out.row hP.out.bel hP.out.bel.size (by rw [List.length_map]; omega) ?_; intro v1 w12 ho hb hg hat; have hP2 : PS w w12 v1 (L.map fun p => Value.string (B p)).toArray (ps ++ [(nm, vl)]) := ⟨by rw [List.map_append]; exact ho, (hg.block _ (Array.getElem?_eq_some_iff.1 hP.out.blk).1 (Kd.R_ne hP.out.row hP.out.blk (by decide))).trans hP.out.blk, hb⟩; replace hP2 := Lib.hid hP2; clear ho hb hg hat))
            go_roundw
            case rel => exact ⟨PL ++ [s], RL, ps ++ [(nm, vl)], by rw [hL2.out]; simp, by rw [List.length_append, List.length_singleton]; go_num, by rw [pairsOf_app, hps.out]; simp [pairsOf, hpo.out], by have := h16.out; have := hfull.out; simp; omega, hP2.out⟩
            case measure => have := hn.out; simp [intOf]; omega
end Go.Proofs.YtgnibfideghklaaDoor
