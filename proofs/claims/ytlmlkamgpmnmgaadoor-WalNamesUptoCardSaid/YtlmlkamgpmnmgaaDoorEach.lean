/-
  The log's records, one after another: what is found, where it ends and why; walked.
-/
import Derived.Test.YtlmlkamgpmnmgaaDoorNext
import Derived.Test.YtlmlkamgpmnmgaaDoorYield
set_option linter.unusedVariables false
set_option linter.unusedSimpArgs false
namespace Go.Proofs.YtlmlkamgpmnmgaaDoor
open Go.RowKit Go.Proofs.YtlmlkamgpmnmgaaDoorW.PrintWords
/-- What is found from a place on. -/
def scanN : Nat → List UInt8 → Nat → List UInt8 → Bool → List ByteArray → Nat → List ByteArray × Nat × Nat
  | 0, _, _, _, _, recs, en => (recs, en, 0)
  | q + 1, L, pos, rec, inn, recs, en =>
    match nextR L pos inn with
    | .error why => (recs, en, why)
    | .ok p =>
      if isEnd (hdOf L p).kind then scanN q L (p + 7 + (hdOf L p).len) [] (isIn (hdOf L p).kind) (recs ++ [⟨(rec ++ partOf L p).toArray⟩]) (p + 7 + (hdOf L p).len)
      else scanN q L (p + 7 + (hdOf L p).len) (rec ++ partOf L p) (isIn (hdOf L p).kind) recs en
def scanR (L : List UInt8) : List ByteArray × Nat × Nat := scanN (L.length + 1) L 0 [] false [] 0
theorem RS.kept {wS w w1 : World} {g : Nat} {A : Option Addr} {n c : Nat} {L : List UInt8} {v : Value} {pos : Nat} {rec : List UInt8} {inn : Bool} {S : Nat → Prop} (h : RS wS w g A n c L v pos rec inn) (hk : Kept w w1 S) (hb : Below wS.heap.size wS w1)
    (h1 : ¬ S g) (h3 : ∀ q, v.ownBlock = some q → ¬ S q) : RS wS w1 g A n c L v pos rec inn :=
  ⟨h.ge, blk_kept h.blk hk h1, h.row.frame (fun q hq => hk.2 q (h.row.lt q hq) (h3 q hq)), h.rd, h.nc, hb⟩
/-- The reader's memory and the scan's lie apart. -/
theorem apart_g {wS w : World} {g : Nat} {A : Option Addr} {n c : Nat} {L : List UInt8} {v : Value} {pos : Nat} {rec : List UInt8} {inn : Bool} {vr ve : Nat} {u : Value} {recs : List ByteArray} {en : Nat}
    (h : RS wS w g A n c L v pos rec inn) (k : SS wS w vr ve u recs en) : g ≠ vr ∧ g ≠ ve ∧ u.ownBlock ≠ some g ∧ v.ownBlock ≠ some vr ∧ v.ownBlock ≠ some ve ∧ ∀ q, v.ownBlock = some q → u.ownBlock ≠ some q := by
  refine ⟨blk_ne h.blk k.br (by decide), blk_ne h.blk k.be (by decide), fun e => own_ne k.row h.blk (by decide) e.symm, fun e => own_ne h.row k.br (by decide) e.symm, fun e => own_ne h.row k.be (by decide) e.symm, fun q h1 h2 => ?_⟩
  rcases own_type_ne h.row k.row (by decide) with h3 | h3
  · rw [h3] at h1; cases h1
  · exact h3 (h1.trans h2.symm)
theorem SS.past_reader {wS w w1 : World} {g : Nat} {A : Option Addr} {n c : Nat} {L : List UInt8} {v : Value} {pos : Nat} {rec : List UInt8} {inn : Bool} {vr ve : Nat} {u : Value} {recs : List ByteArray} {en : Nat}
    (k : SS wS w vr ve u recs en) (h : RS wS w g A n c L v pos rec inn) (hk : Kept w w1 (fun k => k = g ∨ v.ownBlock = some k)) (hb : Below wS.heap.size wS w1) : SS wS w1 vr ve u recs en := by
  obtain ⟨a1, a2, a3, a4, a5, a6⟩ := apart_g h k
  refine k.kept hk hb ?_ ?_ ?_
  · rintro (e | e)
    · exact a1 e.symm
    · exact a4 e
  · rintro (e | e)
    · exact a2 e.symm
    · exact a5 e
  · rintro q hq (e | e)
    · subst e; exact a3 hq
    · exact a6 q e hq
theorem RS.past_scan {wS w w1 : World} {g : Nat} {A : Option Addr} {n c : Nat} {L : List UInt8} {v : Value} {pos : Nat} {rec : List UInt8} {inn : Bool} {vr ve : Nat} {u : Value} {recs : List ByteArray} {en : Nat}
    (h : RS wS w g A n c L v pos rec inn) (k : SS wS w vr ve u recs en) (hk : Kept w w1 (fun k => k = vr ∨ k = ve ∨ u.ownBlock = some k)) (hb : Below wS.heap.size wS w1) : RS wS w1 g A n c L v pos rec inn := by
  obtain ⟨a1, a2, a3, a4, a5, a6⟩ := apart_g h k
  refine h.kept hk hb ?_ ?_
  · rintro (e | e | e)
    · exact a1 e
    · exact a2 e
    · exact a3 e
  · rintro q hq (e | e | e)
    · subst e; exact a4 hq
    · subst e; exact a5 hq
    · exact a6 q hq e
theorem RS.clear2 {wS w : World} {g : Nat} {A : Option Addr} {n c : Nat} {L : List UInt8} {v : Value} {pos : Nat} {rec : List UInt8} {inn : Bool} (h : RS wS w g A n c L v pos rec inn) : RS wS (w.setCell ⟨g, 2, none⟩ (.slice none 0 0)) g A n c L (.slice none 0 0) pos [] inn :=
  ⟨h.ge, blk_set h.blk 2 _, Row.nil _ _, h.rd, h.nc, h.bel.setCell (p := ⟨g, 2, none⟩) h.ge _⟩
theorem rs_new {wS w : World} {A : Option Addr} {n c : Nat} {L : List UInt8} (hb : Below wS.heap.size wS w) (hr : Rd wS A n L) (hnc : n ≤ c) :
    RS wS (w.alloc (.cells #[.slice A n c, .int .i64 0, .slice none 0 0, .bool false] 92)) w.heap.size A n c L (.slice none 0 0) 0 [] false :=
  ⟨hb.size, heap_alloc_new w _, Row.nil _ _, hr, hnc, hb.alloc hb.size _⟩
theorem SS.drew {wS w : World} {vr ve : Nat} {v : Value} {recs : List ByteArray} {en : Nat} (h : SS wS w vr ve v recs en) : SS wS w.drew vr ve v recs en :=
  ⟨h.ger, h.gee, h.br, h.be, h.row, h.bel.drew⟩
theorem SS.alloc {wS w : World} {vr ve : Nat} {v : Value} {recs : List ByteArray} {en : Nat} (h : SS wS w vr ve v recs en) (o : Obj) : SS wS (w.alloc o) vr ve v recs en :=
  h.kept (Kept.alloc (Kept.refl w (fun _ => False)) o) (h.bel.alloc h.bel.size o) id id (fun _ _ => id)
theorem scanN_err {q : Nat} {L : List UInt8} {pos why : Nat} {rec : List UInt8} {inn : Bool} {recs : List ByteArray} {en : Nat} (h : nextR L pos inn = .error why) : scanN (q + 1) L pos rec inn recs en = (recs, en, why) := by
  simp only [scanN, h]
theorem scanN_end {q : Nat} {L : List UInt8} {pos p : Nat} {rec : List UInt8} {inn : Bool} {recs : List ByteArray} {en : Nat} (h : nextR L pos inn = .ok p) (he : isEnd (hdOf L p).kind = true) :
    scanN (q + 1) L pos rec inn recs en = scanN q L (p + 7 + (hdOf L p).len) [] (isIn (hdOf L p).kind) (recs ++ [⟨(rec ++ partOf L p).toArray⟩]) (p + 7 + (hdOf L p).len) := by
  simp only [scanN, h, he, if_true]
theorem scanN_in {q : Nat} {L : List UInt8} {pos p : Nat} {rec : List UInt8} {inn : Bool} {recs : List ByteArray} {en : Nat} (h : nextR L pos inn = .ok p) (he : isEnd (hdOf L p).kind = false) :
    scanN (q + 1) L pos rec inn recs en = scanN q L (p + 7 + (hdOf L p).len) (rec ++ partOf L p) (isIn (hdOf L p).kind) recs en := by
  simp only [scanN, h, he, Bool.false_eq_true, if_false]
theorem NextAny.of_err {wS w : World} {g : Nat} {A : Option Addr} {n c : Nat} {L : List UInt8} {v : Value} {pos : Nat} {rec : List UInt8} {inn : Bool} {e : Ending} {w' : World} {why : Nat} (h : nextR L pos inn = .error why) (hx : NextAny wS w g A n c L v pos rec inn e w') :
    e = .returned (.tuple #[.int .u8 0, .int .i64 (why : Int)]) ∧ Kept w w' (fun k => k = g ∨ v.ownBlock = some k) ∧ Below wS.heap.size wS w' := by
  simpa only [NextAny, h] using hx
theorem NextAny.of_ok {wS w : World} {g : Nat} {A : Option Addr} {n c : Nat} {L : List UInt8} {v : Value} {pos p : Nat} {rec : List UInt8} {inn : Bool} {e : Ending} {w' : World} (h : nextR L pos inn = .ok p) (hx : NextAny wS w g A n c L v pos rec inn e w') :
    ∃ v', e = .returned (.tuple #[.int .u8 ((hdOf L p).kind.toNat : Int), .int .i64 0]) ∧ RS wS w' g A n c L v' (p + 7 + (hdOf L p).len) (rec ++ partOf L p) (isIn (hdOf L p).kind) ∧ Kept w w' (fun k => k = g ∨ v.ownBlock = some k) := by
  simpa only [NextAny, h] using hx
theorem nextR_err {L : List UInt8} {pos why : Nat} {inn : Bool} (h : nextR L pos inn = .error why) : why ≠ 0 := by
  unfold nextR at h
  split at h
  · rename_i h0
    injection h with h
    omega
  · cases hh : headR L (skipR L pos inn).2 inn with
    | ok k => rw [hh] at h; cases h
    | error w =>
      rw [hh] at h
      injection h with h
      subst h
      unfold headR at hh
      split at hh
      · injection hh with hh; omega
      · split at hh
        · injection hh with hh; omega
        · split at hh
          · injection hh with hh; omega
          · split at hh
            · injection hh with hh; omega
            · split at hh
              · cases hh
              · injection hh with hh; omega
set_option maxHeartbeats 1000000 in
set_option maxRecDepth 100000 in
theorem each_any {wS w : World} {vr ve : Nat} {v0 : Value} {recs0 : List ByteArray} {en0 : Nat} (h : SS wS w vr ve v0 recs0 en0) {A : Option Addr} {n c : Nat} {L : List UInt8} (hr : Rd wS A n L) (hnc : n ≤ c) (hn : n ≤ 1073741824) (hrn : recs0.length ≤ 1073741824) :
    Calls Tryd.prog 33 #[.slice A n c, .func (.func 34) #[] #[.pointer (some ⟨vr, 0, none⟩), .pointer (some ⟨ve, 0, none⟩)]] w fun e w' =>
      e = .returned (.int .i64 (((scanN (n + 1) L 0 [] false recs0 en0).2.2 : Nat) : Int)) ∧ ∃ v', SS wS w' vr ve v' (scanN (n + 1) L 0 [] false recs0 en0).1 (scanN (n + 1) L 0 [] false recs0 en0).2.1 := by
  have H := Lib.hid h
  have hLn := Lib.hid hr.len
  have hR := Lib.hid (rs_new h.bel hr hnc)
  have hSa := Lib.hid (h.alloc (.cells #[.slice A n c, .int .i64 0, .slice none 0 0, .bool false] 92))
  clear h hr
  obtain ⟨fin, hfin⟩ : ∃ x, scanN (n + 1) L 0 [] false recs0 en0 = x := ⟨_, rfl⟩
  rw [hfin]
  replace hfin := Lib.hid hfin
  go_enter Tryd.func33, Tryd.ntmps33
  go_wp2
  go_loopg [6, 7] (n + 1) (fun q k y wr => ∃ (v u : Value) (pos : Nat) (rec : List UInt8) (inn : Bool) (recs : List ByteArray) (en : Nat), RS wS wr w.heap.size A n c L v pos rec inn ∧ SS wS wr vr ve u recs en ∧ pos ≤ n ∧ n < pos + q ∧ rec.length ≤ pos ∧ recs.length ≤ 1073741824 + pos ∧ scanN q L pos rec inn recs en = fin)
  case atStart => exact ⟨_, _, 0, [], false, recs0, en0, hR.out, hSa.out, by omega, by omega, by simp, by omega, hfin.out⟩
  case round =>
    obtain ⟨v, u, pos, rec, inn, recs, en, hRS, hSS, hpos, hq, hrec, hrecs, hscan⟩ := hrel
    obtain ⟨q, rfl⟩ : ∃ q, gk = q + 1 := ⟨gk - 1, by omega⟩
    have hcall := next_any hRS hpos (by omega) (by omega)
    have hge := Lib.hid hRS.ge
    replace hRS := Lib.hid hRS
    replace hSS := Lib.hid hSS
    cases hnx : nextR L pos inn with
    | error why =>
      have hw := nextR_err hnx
      rw [scanN_err hnx] at hscan
      replace hcall := Lib.hid (hcall.mono fun e w' hx => NextAny.of_err hnx hx)
      have hne : ((why : Int) != 0) = true := by rw [bne_iff_ne]; omega
      subst hscan
      clear hnx hw hq
      go_wp2_with (first | (go_at_call 53; go_must (refine hcall.out.mono ?_; rintro e w2 ⟨rfl, hk2, hb2⟩; replace hk2 := Lib.hid hk2; replace hb2 := Lib.hid hb2)))
      go_ret
      exact ⟨rfl, u, hSS.out.past_reader hRS.out hk2.out hb2.out⟩
    | ok p =>
      obtain ⟨hp1, hp2, hpl, _⟩ := nextR_ok (by rw [hLn.out]; exact hpos) hnx
      rw [hLn.out] at hp2
      replace hcall := Lib.hid (hcall.mono fun e w' hx => NextAny.of_ok hnx hx)
      replace hpl := Lib.hid hpl
      cases he : isEnd (hdOf L p).kind with
      | false =>
        rw [scanN_in hnx he] at hscan
        replace hscan := Lib.hid hscan
        replace he := Lib.hid he
        clear hnx
        have e1 : (((hdOf L p).kind.toNat : Int) == 1) = false := by
          have := he.out
          unfold isEnd at this
          rw [Bool.or_eq_false_iff] at this
          exact (u8_lit _ 1).trans this.1
        have e4 : (((hdOf L p).kind.toNat : Int) == 4) = false := by
          have := he.out
          unfold isEnd at this
          rw [Bool.or_eq_false_iff] at this
          exact (u8_lit _ 4).trans this.2
        go_wp2_with (first | (go_at_call 53; go_must (refine hcall.out.mono ?_; rintro e w2 ⟨v2, rfl, hr2, hk2⟩; replace hk2 := Lib.hid hk2; replace hr2 := Lib.hid hr2)))
        go_roundg q
        case measure => omega
        case rel =>
          exact ⟨v2, u, _, _, _, recs, en, hr2.out, hSS.out.past_reader hRS.out hk2.out hr2.out.bel, by omega, by omega, by rw [List.length_append, hpl.out]; omega, by omega, hscan.out⟩
      | true =>
        rw [scanN_end hnx he] at hscan
        replace hscan := Lib.hid hscan
        replace he := Lib.hid he
        clear hnx
        obtain ⟨b1, h1⟩ : ∃ b, ((hdOf L p).kind == 1) = b := ⟨_, rfl⟩
        have e1 : (((hdOf L p).kind.toNat : Int) == 1) = b1 := (u8_lit _ 1).trans h1
        have e4 : b1 = false → (((hdOf L p).kind.toNat : Int) == 4) = true := by
          intro hb
          have := he.out
          unfold isEnd at this
          rw [h1, hb, Bool.false_or] at this
          exact (u8_lit _ 4).trans this
        clear h1
        have hrl2 : (rec ++ partOf L p).length ≤ p + 7 + (hdOf L p).len := by rw [List.length_append, hpl.out]; omega
        have hlt2 : pos + 7 ≤ p + 7 + (hdOf L p).len := by omega
        generalize p + 7 + (hdOf L p).len = p2 at *
        generalize rec ++ partOf L p = rec2 at *
        cases b1
        · replace e4 := e4 rfl
          go_wp2_with (first | (go_at_call 53; go_must (refine hcall.out.mono ?_; rintro e w2 ⟨v2, rfl, hr2, hk2⟩; replace hk2 := Lib.hid hk2; replace hr2 := Lib.hid hr2)))
          have hs2 := (hSS.out.past_reader hRS.out hk2.out hr2.out.bel).drew
          replace hr2 := hr2.out.drew
          obtain ⟨A2, c2, hve, hrd2, _⟩ := hr2.row.rd
          subst hve
          have hcv : (convert 23 9 (.slice A2 rec2.length c2)).run Tryd.prog w2.drew = .ok (.string ⟨rec2.toArray⟩) w2.drew := conv_rd c2 hrd2
          have k1 : w2.drew.cell? ⟨w.heap.size, 1, none⟩ = some (.int .i64 (p2 : Int)) := (blk_cell hr2.blk 1).trans rfl
          have k2 : w2.drew.cell? ⟨w.heap.size, 2, none⟩ = some (.slice A2 rec2.length c2) := (blk_cell hr2.blk 2).trans rfl
          have k1b : w2.cell? ⟨w.heap.size, 1, none⟩ = some (.int .i64 (p2 : Int)) := k1
          have k2b : w2.cell? ⟨w.heap.size, 2, none⟩ = some (.slice A2 rec2.length c2) := k2
          have hy := Lib.hid (yield_any hs2 p2 ⟨rec2.toArray⟩ (by omega))
          replace hr2 := Lib.hid hr2
          replace hs2 := Lib.hid hs2
          replace hrd2 := Lib.hid hrd2
          clear hk2
          go_still_tail 10, (by kernel_rfl)
          change wpList _ _ _ _ _ w2.drew
          clear k1 k2 k1b k2b hcv
          go_wp2_with (first | (go_at_call 34; go_must (refine hy.out.mono ?_; rintro e w3 ⟨rfl, u3, hs3, hk3⟩; have hr3 := hr2.out.past_scan hs2.out hk3 hs3.bel; have k3 : w3.cell? ⟨w.heap.size, 2, none⟩ = some (.slice A2 rec2.length c2) := (blk_cell hr3.blk 2).trans rfl; have f3 := blk_frozen hr3.blk 2; have hr4 := Lib.hid hr3.clear2; have hs4 := Lib.hid (hs3.past_reader hr3 (Kept.setCell (Kept.refl w3 _) (p := ⟨w.heap.size, 2, none⟩) (.inl (.inl rfl)) (.slice none 0 0)) hr3.clear2.bel); replace hr3 := Lib.hid hr3; replace hs3 := Lib.hid hs3; replace hk3 := Lib.hid hk3)))
          go_roundg q
          case measure => omega
          case rel =>
            exact ⟨_, u3, _, _, _, _, _, hr4.out, hs4.out, by omega, by omega, by simp, by rw [List.length_append, List.length_singleton]; omega, hscan.out⟩
        · clear e4
          go_wp2_with (first | (go_at_call 53; go_must (refine hcall.out.mono ?_; rintro e w2 ⟨v2, rfl, hr2, hk2⟩; replace hk2 := Lib.hid hk2; replace hr2 := Lib.hid hr2)))
          have hs2 := (hSS.out.past_reader hRS.out hk2.out hr2.out.bel).drew
          replace hr2 := hr2.out.drew
          obtain ⟨A2, c2, hve, hrd2, _⟩ := hr2.row.rd
          subst hve
          have hcv : (convert 23 9 (.slice A2 rec2.length c2)).run Tryd.prog w2.drew = .ok (.string ⟨rec2.toArray⟩) w2.drew := conv_rd c2 hrd2
          have k1 : w2.drew.cell? ⟨w.heap.size, 1, none⟩ = some (.int .i64 (p2 : Int)) := (blk_cell hr2.blk 1).trans rfl
          have k2 : w2.drew.cell? ⟨w.heap.size, 2, none⟩ = some (.slice A2 rec2.length c2) := (blk_cell hr2.blk 2).trans rfl
          have k1b : w2.cell? ⟨w.heap.size, 1, none⟩ = some (.int .i64 (p2 : Int)) := k1
          have k2b : w2.cell? ⟨w.heap.size, 2, none⟩ = some (.slice A2 rec2.length c2) := k2
          have hy := Lib.hid (yield_any hs2 p2 ⟨rec2.toArray⟩ (by omega))
          replace hr2 := Lib.hid hr2
          replace hs2 := Lib.hid hs2
          replace hrd2 := Lib.hid hrd2
          clear hk2
          go_still_tail 10, (by kernel_rfl)
          change wpList _ _ _ _ _ w2.drew
          clear k1 k2 k1b k2b hcv
          go_wp2_with (first | (go_at_call 34; go_must (refine hy.out.mono ?_; rintro e w3 ⟨rfl, u3, hs3, hk3⟩; have hr3 := hr2.out.past_scan hs2.out hk3 hs3.bel; have k3 : w3.cell? ⟨w.heap.size, 2, none⟩ = some (.slice A2 rec2.length c2) := (blk_cell hr3.blk 2).trans rfl; have f3 := blk_frozen hr3.blk 2; have hr4 := Lib.hid hr3.clear2; have hs4 := Lib.hid (hs3.past_reader hr3 (Kept.setCell (Kept.refl w3 _) (p := ⟨w.heap.size, 2, none⟩) (.inl (.inl rfl)) (.slice none 0 0)) hr3.clear2.bel); replace hr3 := Lib.hid hr3; replace hs3 := Lib.hid hs3; replace hk3 := Lib.hid hk3)))
          go_roundg q
          case measure => omega
          case rel =>
            exact ⟨_, u3, _, _, _, _, _, hr4.out, hs4.out, by omega, by omega, by simp, by rw [List.length_append, List.length_singleton]; omega, hscan.out⟩
end Go.Proofs.YtlmlkamgpmnmgaaDoor
