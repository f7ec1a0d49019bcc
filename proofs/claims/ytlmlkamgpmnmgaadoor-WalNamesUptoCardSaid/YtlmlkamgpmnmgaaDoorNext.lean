/-
  The log's reader: the next fragment, as a plain function, and walked up to its head.
-/
import Derived.Test.YtlmlkamgpmnmgaaDoorSkip
import Derived.Test.YtlmlkamgpmnmgaaDoorCr
import Derived.Test.YtlmlkamgpmnmgaaDoorRdu8
import Derived.Test.YtlmlkamgpmnmgaaDoorRdu16
import Derived.Test.YtlmlkamgpmnmgaaDoorRdu32
import Derived.StillTailTactics
import Derived.Deep.DeepCutAuto
set_option linter.unusedVariables false
set_option linter.unusedSimpArgs false
namespace Go.Proofs.YtlmlkamgpmnmgaaDoor
open Go.RowKit Go.Proofs.YtlmlkamgpmnmgaaDoorW.PrintWords
def fol (k : UInt8) (inn : Bool) : Bool := if inn then k == 3 || k == 4 else k == 1 || k == 2
structure Hd where
  kind : UInt8
  sum : Nat
  len : Nat
def hdOf (L : List UInt8) (p : Nat) : Hd := ⟨L.getD (p + 6) 0, beN ((L.drop p).take 4), beN ((L.drop (p + 4)).take 2)⟩
def partOf (L : List UInt8) (p : Nat) : List UInt8 := (L.drop (p + 7)).take (hdOf L p).len
/-- Behind what is passed over: why the log ends, or the fragment's kind. -/
def headR (L : List UInt8) (p : Nat) (inn : Bool) : Except Nat UInt8 :=
  if L.length = p ∧ inn = false then .error 1
  else if L.length - p < 7 then .error 2
  else if fol (hdOf L p).kind inn = false ∨ 1024 - p % 1024 < 7 + (hdOf L p).len then .error 3
  else if L.length - p < 7 + (hdOf L p).len then .error 2
  else if crc ((hdOf L p).kind :: partOf L p) = (hdOf L p).sum then .ok (hdOf L p).kind else .error 3
theorem Kept.comp {w w1 w2 : World} {S S2 : Nat → Prop} (h : Kept w w1 S) (k : Kept w1 w2 S2) (hs : ∀ b, S2 b → S b ∨ w.heap.size ≤ b) : Kept w w2 S := h.then_ k hs
set_option maxHeartbeats 400000 in
theorem next_stop {wS w : World} {g : Nat} {A : Option Addr} {n c : Nat} {L : List UInt8} {v : Value} {pos : Nat} {rec : List UInt8} {inn : Bool} (h : RS wS w g A n c L v pos rec inn) (hp : pos ≤ n) (hn : n ≤ 281474976710656) (h0 : (skipR L pos inn).1 ≠ 0) :
    Calls Tryd.prog 53 #[.pointer (some ⟨g, 0, none⟩)] w fun e w' => e = .returned (.tuple #[.int .u8 0, .int .i64 (((skipR L pos inn).1 : Nat) : Int)]) ∧ Kept w w' (fun k => k = g) ∧ Below wS.heap.size wS w' := by
  have hS := Lib.hid (skips_any h hp hn)
  have hne : (((((skipR L pos inn).1 : Nat)) : Int) != 0) = true := by rw [bne_iff_ne]; omega
  clear h h0
  go_enter Tryd.func53, Tryd.ntmps53
  go_wp2_with (first | (go_at_call 62; go_must (refine hS.out.mono ?_; rintro e w2 ⟨rfl, hr2, hk2⟩)))
  go_ret2
  exact ⟨rfl, hk2, hr2.bel⟩
set_option maxHeartbeats 800000 in
set_option maxRecDepth 100000 in
theorem next_short {wS w : World} {g : Nat} {A : Option Addr} {n c : Nat} {L : List UInt8} {v : Value} {pos : Nat} {rec : List UInt8} {inn : Bool} (h : RS wS w g A n c L v pos rec inn) (hp : pos ≤ n) (hn : n ≤ 281474976710656) (h0 : (skipR L pos inn).1 = 0)
    (p : Nat) (hpe : (skipR L pos inn).2 = p) (hpn : p ≤ n) (hsh : n - p < 7) :
    Calls Tryd.prog 53 #[.pointer (some ⟨g, 0, none⟩)] w fun e w' => e = .returned (.tuple #[.int .u8 0, .int .i64 (if n = p ∧ inn = false then 1 else 2)]) ∧ Kept w w' (fun k => k = g) ∧ Below wS.heap.size wS w' := by
  have hS := skips_any h hp hn
  rw [h0, hpe] at hS
  replace hS := Lib.hid hS
  replace hpe := Lib.hid hpe
  clear h h0
  have hlt : (n : Int) - (p : Int) < 7 := by omega
  by_cases hnp : n = p
  · have hz : (((n : Int) - (p : Int)) == 0) = true := by rw [beq_iff_eq]; omega
    cases inn with
    | false =>
      rw [if_pos ⟨hnp, rfl⟩]
      clear hnp
      go_enter Tryd.func53, Tryd.ntmps53
      go_wp2_with (first | (go_at_call 62; go_must (refine hS.out.mono ?_; rintro e w2 ⟨rfl, hr2, hk2⟩; have k0 : w2.cell? ⟨g, 0, none⟩ = some (.slice A n c) := (blk_cell hr2.blk 0).trans rfl; have k1 : w2.cell? ⟨g, 1, none⟩ = some (.int .i64 (p : Int)) := (blk_cell hr2.blk 1).trans rfl; have k3 : w2.cell? ⟨g, 3, none⟩ = some (.bool false) := (blk_cell hr2.blk 3).trans rfl; replace hr2 := Lib.hid hr2; replace hk2 := Lib.hid hk2)))
      go_quiet (fail)
      go_wp2
      go_ret2
      exact ⟨rfl, hk2.out.drewN _, (hr2.out.drewN _).bel⟩
    | true =>
      rw [if_neg (by simp)]
      clear hnp
      go_enter Tryd.func53, Tryd.ntmps53
      go_wp2_with (first | (go_at_call 62; go_must (refine hS.out.mono ?_; rintro e w2 ⟨rfl, hr2, hk2⟩; have k0 : w2.cell? ⟨g, 0, none⟩ = some (.slice A n c) := (blk_cell hr2.blk 0).trans rfl; have k1 : w2.cell? ⟨g, 1, none⟩ = some (.int .i64 (p : Int)) := (blk_cell hr2.blk 1).trans rfl; have k3 : w2.cell? ⟨g, 3, none⟩ = some (.bool true) := (blk_cell hr2.blk 3).trans rfl; replace hr2 := Lib.hid hr2; replace hk2 := Lib.hid hk2)))
      go_quiet (fail)
      go_wp2
      go_ret2
      exact ⟨rfl, hk2.out.drewN _, (hr2.out.drewN _).bel⟩
  · have hz : (((n : Int) - (p : Int)) == 0) = false := by rw [beq_eq_false_iff_ne]; omega
    rw [if_neg (fun e => hnp e.1)]
    go_enter Tryd.func53, Tryd.ntmps53
    go_wp2_with (first | (go_at_call 62; go_must (refine hS.out.mono ?_; rintro e w2 ⟨rfl, hr2, hk2⟩; have k0 : w2.cell? ⟨g, 0, none⟩ = some (.slice A n c) := (blk_cell hr2.blk 0).trans rfl; have k1 : w2.cell? ⟨g, 1, none⟩ = some (.int .i64 (p : Int)) := (blk_cell hr2.blk 1).trans rfl; replace hr2 := Lib.hid hr2; replace hk2 := Lib.hid hk2)))
    go_quiet (fail)
    go_wp2
    go_ret2
    exact ⟨rfl, hk2.out.drewN _, (hr2.out.drewN _).bel⟩
theorem u8_lit (k m : UInt8) : ((k.toNat : Int) == (m.toNat : Int)) = (k == m) := by
  by_cases h : k = m
  · subst h; simp
  · have h1 : (k == m) = false := by simpa using h
    rw [h1, beq_eq_false_iff_ne]
    intro e
    exact h (UInt8.toNat_inj.mp (by omega))
theorem hd_len (L : List UInt8) (p : Nat) : (hdOf L p).len ≤ 65535 := by
  have h := beN_lt ((L.drop (p + 4)).take 2)
  have h2 : ((L.drop (p + 4)).take 2).length ≤ 2 := by rw [List.length_take]; omega
  have h3 : 256 ^ ((L.drop (p + 4)).take 2).length ≤ 256 ^ 2 := Nat.pow_le_pow_right (by omega) h2
  show beN _ ≤ 65535
  omega
/-- What a fragment's reading comes to. -/
def NextPost (wS w : World) (g : Nat) (A : Option Addr) (n c : Nat) (L : List UInt8) (v : Value) (p : Nat) (rec : List UInt8) (inn : Bool) (e : Ending) (w' : World) : Prop :=
  match headR L p inn with
  | .error why => e = .returned (.tuple #[.int .u8 0, .int .i64 (why : Int)]) ∧ Kept w w' (fun k => k = g ∨ v.ownBlock = some k) ∧ Below wS.heap.size wS w'
  | .ok kd => ∃ v', e = .returned (.tuple #[.int .u8 (kd.toNat : Int), .int .i64 0]) ∧ RS wS w' g A n c L v' (p + 7 + (hdOf L p).len) (rec ++ partOf L p) (kd == 2 || kd == 3) ∧ Kept w w' (fun k => k = g ∨ v.ownBlock = some k)
theorem NextPost.err {wS w : World} {g : Nat} {A : Option Addr} {n c : Nat} {L : List UInt8} {v : Value} {p : Nat} {rec : List UInt8} {inn : Bool} {w' : World} (why : Nat) (h : headR L p inn = .error why) (hk : Kept w w' (fun k => k = g)) (hb : Below wS.heap.size wS w') :
    NextPost wS w g A n c L v p rec inn (.returned (.tuple #[.int .u8 0, .int .i64 (why : Int)])) w' := by
  unfold NextPost
  rw [h]
  exact ⟨rfl, hk.mono (fun k e => .inl e), hb⟩
theorem RS.grow {wS W w1 : World} {g : Nat} {A : Option Addr} {n c : Nat} {L : List UInt8} {v v1 : Value} {q : Nat} {rec part : List UInt8} {inn : Bool} (h : RS wS W g A n c L v q rec inn)
    (hr : Row w1 wS.heap.size v1 (rec ++ part)) (hb : Below wS.heap.size wS w1) (hg : W.grownBy w1 v.ownBlock) (b : Bool) :
    RS wS ((w1.setCell ⟨g, 2, none⟩ v1).setCell ⟨g, 3, none⟩ (.bool b)) g A n c L v1 q (rec ++ part) b ∧ Kept W ((w1.setCell ⟨g, 2, none⟩ v1).setCell ⟨g, 3, none⟩ (.bool b)) (fun k => k = g ∨ v.ownBlock = some k) := by
  have hb1 := blk_grown h.blk hg (own_ne h.row h.blk (by decide))
  have hne := own_ne hr hb1 (by decide)
  refine ⟨⟨h.ge, blk_set (blk_set hb1 2 v1) 3 _, ?_, h.rd, h.nc, (hb.setCell (p := ⟨g, 2, none⟩) h.ge _).setCell (p := ⟨g, 3, none⟩) h.ge _⟩, ?_⟩
  · refine hr.frame fun q hq => ?_
    have hqg : q ≠ g := fun e => hne (by rw [hq, e])
    exact (Below.heap_setCell _ _ _ _ hqg).trans (Below.heap_setCell _ _ _ _ hqg)
  · exact ((Kept.of_grown hg (Kept.refl W _) (fun k hk => .inl (.inr hk))).setCell (p := ⟨g, 2, none⟩) (.inl (.inl rfl)) _).setCell (p := ⟨g, 3, none⟩) (.inl (.inl rfl)) _
theorem NextPost.ok {wS w W w2 : World} {g : Nat} {A : Option Addr} {n c : Nat} {L : List UInt8} {v v1 : Value} {p : Nat} {rec : List UInt8} {inn b : Bool} (h : headR L p inn = .ok (hdOf L p).kind)
    (he : RS wS w2 g A n c L v1 (p + (7 + (hdOf L p).len)) (rec ++ partOf L p) b ∧ Kept W w2 (fun k => k = g ∨ v.ownBlock = some k)) (hk : Kept w W (fun k => k = g)) (ki : Int) (hki : ki = ((hdOf L p).kind.toNat : Int)) (hb : b = ((hdOf L p).kind == 2 || (hdOf L p).kind == 3)) :
    NextPost wS w g A n c L v p rec inn (.returned (.tuple #[.int .u8 ki, .int .i64 0])) w2 := by
  subst hki
  unfold NextPost
  rw [h]
  subst hb
  rw [← Nat.add_assoc] at he
  exact ⟨v1, rfl, he.1, (hk.mono (fun _ h2 => .inl h2)).then_ he.2 (fun _ h2 => .inl h2)⟩
set_option maxHeartbeats 1000000 in
set_option maxRecDepth 100000 in
theorem next_long {wS w : World} {g : Nat} {A : Option Addr} {n c : Nat} {L : List UInt8} {v : Value} {pos : Nat} {rec : List UInt8} {inn : Bool} (h : RS wS w g A n c L v pos rec inn) (hp : pos ≤ n) (hn : n ≤ 281474976710656) (h0 : (skipR L pos inn).1 = 0)
    (p : Nat) (hpe : (skipR L pos inn).2 = p) (hpn : 7 + p ≤ n) (hrl : rec.length + 65535 ≤ 140737488355328) :
    Calls Tryd.prog 53 #[.pointer (some ⟨g, 0, none⟩)] w (NextPost wS w g A n c L v p rec inn) := by
  have hS := skips_any h hp hn
  rw [h0, hpe] at hS
  replace hS := Lib.hid hS
  replace hpe := Lib.hid hpe
  have hnc := h.nc
  have hLn := Lib.hid h.rd.len
  clear h h0
  have hlt : ¬ (n : Int) - (p : Int) < 7 := by omega
  have hz : (((n : Int) - (p : Int)) == 0) = false := by rw [beq_eq_false_iff_ne]; omega
  obtain ⟨A7, hcut, hA7⟩ := cut2_at A n c p (p + 7) (p : Int) ((p : Int) + 7) rfl (by omega) (by omega) (by omega) hnc
  rw [show p + 7 - p = 7 from by omega] at hcut hA7
  replace hA7 := Lib.hid hA7
  go_enter Tryd.func53, Tryd.ntmps53
  go_wp2_with (first | (go_at_call 62; go_must (refine hS.out.mono ?_; rintro e w2 ⟨rfl, hr2, hk2⟩; have k0 : w2.cell? ⟨g, 0, none⟩ = some (.slice A n c) := (blk_cell hr2.blk 0).trans rfl; have k1 : w2.cell? ⟨g, 1, none⟩ = some (.int .i64 (p : Int)) := (blk_cell hr2.blk 1).trans rfl; replace hr2 := Lib.hid hr2; replace hk2 := Lib.hid hk2)))
  go_quiet (fail)
  go_wp2
  have hr3 := hr2.out.drewN nq
  have hk3 := hk2.out.drewN nq
  clear k0 k1 hr2 hk2
  generalize w2.drewN nq = w3 at *
  have k0 : w3.cell? ⟨g, 0, none⟩ = some (.slice A n c) := (blk_cell hr3.blk 0).trans rfl
  have k1 : w3.cell? ⟨g, 1, none⟩ = some (.int .i64 (p : Int)) := (blk_cell hr3.blk 1).trans rfl
  have hR7 := hA7.out w3 L hr3.rdw
  have hlen7 := Lib.hid hR7.len
  have hcv : (convert 23 9 (.slice A7 7 (c - p))).run Tryd.prog w3.drew = .ok (.string ⟨((L.drop p).take 7).toArray⟩) w3.drew := conv_rd (c - p) hR7
  replace hR7 := Lib.hid hR7
  replace hr3 := Lib.hid hr3
  replace hk3 := Lib.hid hk3
  have hw7 : IntKind.i64.wrap ((p : Int) + 7) = (p : Int) + 7 := IntWalk.i64_in _ (by omega)
  go_still_tail 15, (by kernel_rfl)
  clear hw7 hcv hcut k0 k1
  change wpList _ _ _ _ _ w3.drew
  have hr4 := Lib.hid hr3.out.drew
  have hk4 : Hid (Kept w w3.drew (fun k => k = g)) := hk3.out
  clear hr3 hk3 hR7
  generalize w3.drew = w4 at *
  have hT : Hid ((⟨((L.drop p).take 7).toArray⟩ : ByteArray).size = 7) := by
    show _ = _
    rw [size_mk]
    exact hlen7.out
  have hT1 : Hid (((⟨((L.drop p).take 7).toArray⟩ : ByteArray).extract 4 (⟨((L.drop p).take 7).toArray⟩ : ByteArray).size).size = 3) := by
    show _ = _
    rw [ext_size _ _ _ (Nat.le_refl _), hT.out]
  have hT2 : Hid ((((⟨((L.drop p).take 7).toArray⟩ : ByteArray).extract 4 (⟨((L.drop p).take 7).toArray⟩ : ByteArray).size).extract 2 ((⟨((L.drop p).take 7).toArray⟩ : ByteArray).extract 4 (⟨((L.drop p).take 7).toArray⟩ : ByteArray).size).size).size = 1) := by
    show _ = _
    rw [ext_size _ _ _ (Nat.le_refl _), hT1.out]
  have hv4 : Hid (beN ((⟨((L.drop p).take 7).toArray⟩ : ByteArray).data.toList.take 4) = (hdOf L p).sum) := by
    show _ = _
    simp [hdOf, List.take_take]
  have hv2 : Hid (beN (((⟨((L.drop p).take 7).toArray⟩ : ByteArray).extract 4 (⟨((L.drop p).take 7).toArray⟩ : ByteArray).size).data.toList.take 2) = (hdOf L p).len) := by
    show _ = _
    rw [ext_drop]
    simp [hdOf, List.drop_take, List.take_take, List.drop_drop]
  have hv1 : Hid (beN ((((⟨((L.drop p).take 7).toArray⟩ : ByteArray).extract 4 (⟨((L.drop p).take 7).toArray⟩ : ByteArray).size).extract 2 ((⟨((L.drop p).take 7).toArray⟩ : ByteArray).extract 4 (⟨((L.drop p).take 7).toArray⟩ : ByteArray).size).size).data.toList.take 1) = (hdOf L p).kind.toNat) := by
    show _ = _
    rw [ext_drop, ext_drop]
    have hi : p + 6 < L.length := by rw [hLn.out]; omega
    have h6 : ((L.drop p).take 7).drop 4 = ((L.drop p).drop 4).take 3 := by rw [List.drop_take]
    show beN (((((L.drop p).take 7).drop 4).drop 2).take 1) = (L.getD (p + 6) 0).toNat
    rw [h6, List.drop_take, List.drop_drop, List.drop_drop, List.take_take, show p + 4 + 2 = p + 6 from by omega]
    rw [List.drop_eq_getElem_cons hi]
    simp only [Nat.reduceSub, Nat.min_eq_left, Nat.reduceLeDiff, List.take_succ_cons, List.take_zero, beN, List.foldl_cons, List.foldl_nil, Nat.zero_mul, Nat.zero_add, List.getD_eq_getElem?_getD, List.getElem?_eq_getElem hi, Option.getD_some]
  generalize hTe : (⟨((L.drop p).take 7).toArray⟩ : ByteArray) = T at *
  generalize hT1e : T.extract 4 T.size = T1 at *
  generalize hT2e : T1.extract 2 T1.size = T2 at *
  clear hTe
  replace hT1e := Lib.hid hT1e
  replace hT2e := Lib.hid hT2e
  have hl16 := hd_len L p
  go_upto_region 12 with (first  | (go_at_call 63; go_must (refine (newReader_any _ _).mono ?_; rintro e w5 ⟨rfl, hc5, hb5⟩; replace hc5 := Lib.hid hc5; replace hb5 := Lib.hid hb5))  | (go_at_call 64; go_must (refine (U32_at (by rw [hT.out]; decide) hc5.out (by rw [hT.out]; omega) _ hv4.out).mono ?_; rintro e w6 ⟨rfl, hc6, hb6⟩; rw [hT1e.out] at hc6; replace hc6 := Lib.hid hc6; replace hb6 := Lib.hid hb6))  | (go_at_call 65; go_must (refine (U16_at (by rw [hT1.out]; decide) hc6.out (by rw [hT1.out]; omega) _ hv2.out).mono ?_; rintro e w7 ⟨rfl, hc7, hb7⟩; rw [hT2e.out] at hc7; replace hc7 := Lib.hid hc7; replace hb7 := Lib.hid hb7))  | (go_at_call 66; go_must (refine (U8_at (by rw [hT2.out]; decide) hc7.out (by rw [hT2.out]; omega) _ hv1.out).mono ?_; rintro e w8 ⟨rfl, hc8, hb8⟩; replace hb8 := Lib.hid hb8)))
  have hb8' := ((hb5.out.trans hb6.out).trans hb7.out).trans hb8.out
  have hr8 := hr4.out.below hb8'
  have hk8 := hk4.out.below hb8'
  clear hb8' hb5 hb6 hb7 hb8 hc5 hc6 hc7 hr4 hk4 hv4 hv2 hv1
  have k0 : w8.cell? ⟨g, 0, none⟩ = some (.slice A n c) := (blk_cell hr8.blk 0).trans rfl
  have k1 : w8.cell? ⟨g, 1, none⟩ = some (.int .i64 (p : Int)) := (blk_cell hr8.blk 1).trans rfl
  have k3 : w8.cell? ⟨g, 3, none⟩ = some (.bool inn) := (blk_cell hr8.blk 3).trans rfl
  replace hr8 := Lib.hid hr8
  replace hk8 := Lib.hid hk8
  go_cut [9] (fun f wx => f = .bool (fol (hdOf L p).kind inn) ∧ wx = w8)
  case first =>
    have e1 : (((hdOf L p).kind.toNat : Int) == 1) = ((hdOf L p).kind == 1) := u8_lit _ 1
    have e2 : (((hdOf L p).kind.toNat : Int) == 2) = ((hdOf L p).kind == 2) := u8_lit _ 2
    have e3 : (((hdOf L p).kind.toNat : Int) == 3) = ((hdOf L p).kind == 3) := u8_lit _ 3
    have e4 : (((hdOf L p).kind.toNat : Int) == 4) = ((hdOf L p).kind == 4) := u8_lit _ 4
    obtain ⟨b1, h1⟩ : ∃ b, ((hdOf L p).kind == 1) = b := ⟨_, rfl⟩
    obtain ⟨b2, h2⟩ : ∃ b, ((hdOf L p).kind == 2) = b := ⟨_, rfl⟩
    obtain ⟨b3, h3⟩ : ∃ b, ((hdOf L p).kind == 3) = b := ⟨_, rfl⟩
    obtain ⟨b4, h4⟩ : ∃ b, ((hdOf L p).kind == 4) = b := ⟨_, rfl⟩
    have hf := Lib.hid (show fol (hdOf L p).kind inn = if inn then (b3 || b4) else (b1 || b2) by unfold fol; rw [h1, h2, h3, h4])
    rw [h1] at e1
    rw [h2] at e2
    rw [h3] at e3
    rw [h4] at e4
    clear h1 h2 h3 h4
    cases inn
    · cases b1 <;> cases b2 <;> (go_wp2; go_meet; exact ⟨congrArg Value.bool (by rw [hf.out]; rfl), rfl⟩)
    · cases b3 <;> cases b4 <;> (go_wp2; go_meet; exact ⟨congrArg Value.bool (by rw [hf.out]; rfl), rfl⟩)
  case rest =>
    obtain ⟨rfl, rfl⟩ := hcut
    have hA1 := Lib.hid (show ¬ (L.length = p ∧ inn = false) by rw [hLn.out]; omega)
    have hA2 := Lib.hid (show ¬ L.length - p < 7 by rw [hLn.out]; omega)
    cases hfol : fol (hdOf L p).kind inn with
    | false =>
      have hh := Lib.hid (show headR L p inn = .error 3 by unfold headR; rw [if_neg hA1.out, if_neg hA2.out, if_pos (.inl hfol)])
      go_wp2
      go_ret2
      exact NextPost.err 3 hh.out hk8.out hr8.out.bel
    | true =>
      by_cases hroom : 1024 - p % 1024 < 7 + (hdOf L p).len
      · have hh := Lib.hid (show headR L p inn = .error 3 by unfold headR; rw [if_neg hA1.out, if_neg hA2.out, if_pos (.inr hroom)])
        have hri : (1024 : Int) - (p : Int) % 1024 < 7 + ((hdOf L p).len : Int) := by omega
        go_wp2
        go_ret2
        exact NextPost.err 3 hh.out hk8.out hr8.out.bel
      · have hri : ¬ (1024 : Int) - (p : Int) % 1024 < 7 + ((hdOf L p).len : Int) := by omega
        have hno := Lib.hid (show ¬ (fol (hdOf L p).kind inn = false ∨ 1024 - p % 1024 < 7 + (hdOf L p).len) by rw [hfol]; simp; omega)
        by_cases hleft : n - p < 7 + (hdOf L p).len
        · have hh := Lib.hid (show headR L p inn = .error 2 by unfold headR; rw [if_neg hA1.out, if_neg hA2.out, if_neg hno.out, if_pos (by rw [hLn.out]; exact hleft)])
          have hli : (n : Int) - (p : Int) < 7 + ((hdOf L p).len : Int) := by omega
          go_wp2
          go_ret2
          exact NextPost.err 2 hh.out hk8.out hr8.out.bel
        · have hli : ¬ (n : Int) - (p : Int) < 7 + ((hdOf L p).len : Int) := by omega
          obtain ⟨A9, hcut9, hA9⟩ := cut2_at A n c (p + 7) (p + 7 + (hdOf L p).len) ((p : Int) + 7) ((p : Int) + 7 + ((hdOf L p).len : Int)) (by omega) (by omega) (by omega) (by omega) hnc
          rw [show p + 7 + (hdOf L p).len - (p + 7) = (hdOf L p).len from by omega] at hcut9 hA9
          replace hA9 := Lib.hid hA9
          have hw7 : IntKind.i64.wrap ((p : Int) + 7) = (p : Int) + 7 := IntWalk.i64_in _ (by omega)
          have hw8 : IntKind.i64.wrap ((p : Int) + 7 + ((hdOf L p).len : Int)) = (p : Int) + 7 + ((hdOf L p).len : Int) := IntWalk.i64_in _ (by omega)
          go_wp2
          go_quiet (fail)
          have hr9 := hr8.out.drewN nq
          have hk9 := hk8.out.drewN nq
          clear hw7 hw8 k0 k1 k3 hr8 hk8 hc8
          generalize wc.drewN nq = w9 at *
          have hcone := conv_one (hdOf L p).kind w9
          have hbw : Below w9.heap.size w9 (w9.alloc (.cells #[.int .u8 ((hdOf L p).kind.toNat : Int)] 5)) := (Below.refl _ _).alloc (Nat.le_refl _) _
          have hr10 := hr9.below hbw
          have hk10 := hk9.below hbw
          have hpart := hA9.out _ L hr10.rdw
          have hplen := Lib.hid hpart.len
          have hcpart := conv_rd (c - (p + 7)) hpart
          have hcat : (⟨#[(hdOf L p).kind]⟩ ++ ⟨(partOf L p).toArray⟩ : ByteArray).data.toList = (hdOf L p).kind :: partOf L p := by simp
          have hcs : (⟨#[(hdOf L p).kind]⟩ ++ ⟨(partOf L p).toArray⟩ : ByteArray).size ≤ maxLen := by
            rw [← len_data, hcat]
            show ((hdOf L p).kind :: partOf L p).length ≤ maxLen
            have : (partOf L p).length = (hdOf L p).len := hplen.out
            simp only [List.length_cons, this, maxLen]
            omega
          have hcall := Lib.hid (crc_any (⟨#[(hdOf L p).kind]⟩ ++ ⟨(partOf L p).toArray⟩) (w9.alloc (.cells #[.int .u8 ((hdOf L p).kind.toNat : Int)] 5)) hcs)
          rw [hcat] at hcall
          replace hcs := Lib.hid hcs
          clear hcat hcut9
          have hpe2 : Hid ((L.drop (p + 7)).take (hdOf L p).len = partOf L p) := by
            show _ = _
            rfl
          rw [hpe2.out] at hcpart hpart
          replace hpart := Lib.hid hpart
          replace hr10 := Lib.hid hr10
          replace hk10 := Lib.hid hk10
          replace hbw := Lib.hid hbw
          clear hr9 hk9 hpe2
          have hpl : (partOf L p).length ≤ 65535 := by
            have : (partOf L p).length = (hdOf L p).len := hplen.out
            omega
          by_cases hc : crc ((hdOf L p).kind :: partOf L p) = (hdOf L p).sum
          · have hh := Lib.hid (show headR L p inn = .ok (hdOf L p).kind by unfold headR; rw [if_neg hA1.out, if_neg hA2.out, if_neg hno.out, if_neg (by rw [hLn.out]; exact hleft), if_pos hc])
            have hne : (((crc ((hdOf L p).kind :: partOf L p) : Nat) : Int) != ((hdOf L p).sum : Int)) = false := by rw [bne_eq_false_iff_eq]; omega
            clear hc
            have k1 : (w9.alloc (.cells #[.int .u8 ((hdOf L p).kind.toNat : Int)] 5)).cell? ⟨g, 1, none⟩ = some (.int .i64 (p : Int)) := (blk_cell hr10.out.blk 1).trans rfl
            have f1 := blk_frozen hr10.out.blk 1
            have hr11 := hr10.out.set1 (p + (7 + (hdOf L p).len))
            rw [show ((p + (7 + (hdOf L p).len) : Nat) : Int) = (p : Int) + (7 + ((hdOf L p).len : Int)) from by omega] at hr11
            have hk11 := Kept.setCell (S := fun k => k = g) hk10.out (p := ⟨g, 1, none⟩) (.inl rfl) (.int .i64 ((p : Int) + (7 + ((hdOf L p).len : Int))))
            replace hr11 := Lib.hid hr11
            replace hk11 := Lib.hid hk11
            have hbel11 := Lib.hid hr11.out.bel
            have hpart11 := hA9.out _ L hr11.out.rdw
            have hpe2 : Hid ((L.drop (p + 7)).take (hdOf L p).len = partOf L p) := by
              show _ = _
              rfl
            rw [hpe2.out] at hpart11
            replace hpart11 := Lib.hid hpart11
            clear hpe2
            obtain ⟨A1, c1, hve, _, _⟩ := hr11.out.row.rd
            subst hve
            have k2 := (blk_cell hr11.out.blk 2).trans rfl
            have f2 := blk_frozen hr11.out.blk 2
            have hsz : wS.heap.size ≤ ((w9.alloc (.cells #[.int .u8 ((hdOf L p).kind.toNat : Int)] 5)).setCell ⟨g, 1, none⟩ (.int .i64 ((p : Int) + (7 + ((hdOf L p).len : Int))))).heap.size := hbel11.out.size
            go_wp2_with (first  | (go_at_call 23; go_must (refine hcall.out.mono ?_; rintro e w11 ⟨rfl, rfl⟩))  | (at_builtin; refine w_append_row wS.heap.size rfl (.tmp 147) (.tmp 148) rfl rfl rfl hr11.out.row hpart11.out hbel11.out hsz (by omega) ?_; intro v1 w1 ho1 hb1 hg1; obtain ⟨A2, c2, hve1, _, _⟩ := ho1.out.rd; subst hve1; have hend := Lib.hid (fun b => hr11.out.grow ho1.out hb1.out hg1.out b); have hblk1 := blk_grown hr11.out.blk hg1.out (own_ne hr11.out.row hr11.out.blk (by decide)); have f3 := blk_frozen hblk1 2; have f4 := blk_frozen hblk1 3; have k3 : w1.cell? ⟨g, 2, none⟩ = some (.slice A1 rec.length c1) := (blk_cell hblk1 2).trans rfl; have k4 : w1.cell? ⟨g, 3, none⟩ = some (.bool inn) := (blk_cell hblk1 3).trans rfl; replace hblk1 := Lib.hid hblk1))
            all_goals
              have he := hend.out
              simp only [List.length_append] at he
              go_ret2
            · rename_i hk2
              have h2 : (hdOf L p).kind = 2 := UInt8.toNat_inj.mp (by simpa using Int.ofNat.inj hk2)
              refine NextPost.ok hh.out (he _) hk11.out 2 hk2.symm ?_
              rw [h2]
              rfl
            · refine NextPost.ok hh.out (he _) hk11.out _ rfl ?_
              rw [← u8_lit, ← u8_lit]
              rfl
          · have hh := Lib.hid (show headR L p inn = .error 3 by unfold headR; rw [if_neg hA1.out, if_neg hA2.out, if_neg hno.out, if_neg (by rw [hLn.out]; exact hleft), if_neg hc])
            have hne : (((crc ((hdOf L p).kind :: partOf L p) : Nat) : Int) != ((hdOf L p).sum : Int)) = true := by rw [bne_iff_ne]; omega
            clear hc
            go_wp2_with (first | (go_at_call 23; go_must (refine hcall.out.mono ?_; rintro e w11 ⟨rfl, rfl⟩)))
            go_ret2
            exact NextPost.err 3 hh.out hk10.out hr10.out.bel
/-- The next fragment: why the log ends, or where its head lies. -/
def nextR (L : List UInt8) (pos : Nat) (inn : Bool) : Except Nat Nat :=
  if (skipR L pos inn).1 ≠ 0 then .error (skipR L pos inn).1 else
    match headR L (skipR L pos inn).2 inn with
    | .error why => .error why
    | .ok _ => .ok (skipR L pos inn).2
def isEnd (k : UInt8) : Bool := k == 1 || k == 4
def isIn (k : UInt8) : Bool := k == 2 || k == 3
theorem skipR_bound (L : List UInt8) (pos : Nat) (inn : Bool) (h : pos ≤ L.length) : pos ≤ (skipR L pos inn).2 ∧ (skipR L pos inn).2 ≤ L.length := by
  unfold skipR
  split
  · exact ⟨Nat.le_refl _, h⟩
  · split
    · split
      · split <;> exact ⟨Nat.le_refl _, h⟩
      · exact ⟨by simp, by simpa using by omega⟩
    · exact ⟨Nat.le_refl _, h⟩
theorem headR_ok {L : List UInt8} {p : Nat} {inn : Bool} {k : UInt8} (h : headR L p inn = .ok k) : k = (hdOf L p).kind ∧ p + 7 + (hdOf L p).len ≤ L.length ∧ (partOf L p).length = (hdOf L p).len ∧ (0 < L.length) := by
  unfold headR at h
  split at h
  · cases h
  · split at h
    · cases h
    · split at h
      · cases h
      · split at h
        · cases h
        · split at h
          · injection h with h
            refine ⟨h.symm, by omega, ?_, by omega⟩
            unfold partOf
            rw [List.length_take, List.length_drop]
            omega
          · cases h
theorem nextR_ok {L : List UInt8} {pos p : Nat} {inn : Bool} (hp : pos ≤ L.length) (h : nextR L pos inn = .ok p) : pos ≤ p ∧ p + 7 + (hdOf L p).len ≤ L.length ∧ (partOf L p).length = (hdOf L p).len ∧ headR L p inn = .ok (hdOf L p).kind := by
  unfold nextR at h
  split at h
  · cases h
  · cases hh : headR L (skipR L pos inn).2 inn with
    | error why => rw [hh] at h; cases h
    | ok k =>
      rw [hh] at h
      injection h with h
      obtain ⟨h1, h2, h3, _⟩ := headR_ok hh
      have := (skipR_bound L pos inn hp).1
      rw [h] at h2 h3 hh h1 this
      exact ⟨this, h2, h3, by rw [hh, h1]⟩
def NextAny (wS w : World) (g : Nat) (A : Option Addr) (n c : Nat) (L : List UInt8) (v : Value) (pos : Nat) (rec : List UInt8) (inn : Bool) (e : Ending) (w' : World) : Prop :=
  match nextR L pos inn with
  | .error why => e = .returned (.tuple #[.int .u8 0, .int .i64 (why : Int)]) ∧ Kept w w' (fun k => k = g ∨ v.ownBlock = some k) ∧ Below wS.heap.size wS w'
  | .ok p => ∃ v', e = .returned (.tuple #[.int .u8 ((hdOf L p).kind.toNat : Int), .int .i64 0]) ∧ RS wS w' g A n c L v' (p + 7 + (hdOf L p).len) (rec ++ partOf L p) (isIn (hdOf L p).kind) ∧ Kept w w' (fun k => k = g ∨ v.ownBlock = some k)
theorem next_any {wS w : World} {g : Nat} {A : Option Addr} {n c : Nat} {L : List UInt8} {v : Value} {pos : Nat} {rec : List UInt8} {inn : Bool} (h : RS wS w g A n c L v pos rec inn) (hp : pos ≤ n) (hn : n ≤ 1099511627776) (hrl : rec.length ≤ n) :
    Calls Tryd.prog 53 #[.pointer (some ⟨g, 0, none⟩)] w (NextAny wS w g A n c L v pos rec inn) := by
  have hLn := h.rd.len
  have hsb := skipR_bound L pos inn (by omega)
  unfold NextAny nextR
  by_cases h0 : (skipR L pos inn).1 ≠ 0
  · rw [if_pos h0]
    exact (next_stop h hp (by omega) h0).mono fun e w' ⟨h1, h2, h3⟩ => ⟨h1, h2.mono (fun _ hk => .inl hk), h3⟩
  · rw [if_neg h0]
    have h0 : (skipR L pos inn).1 = 0 := by omega
    by_cases hsh : n - (skipR L pos inn).2 < 7
    · refine (next_short h hp (by omega) h0 _ rfl (by omega) hsh).mono fun e w' ⟨h1, h2, h3⟩ => ?_
      have hh : headR L (skipR L pos inn).2 inn = .error (if n = (skipR L pos inn).2 ∧ inn = false then 1 else 2) := by
        unfold headR
        rw [hLn]
        by_cases hc : n = (skipR L pos inn).2 ∧ inn = false
        · rw [if_pos hc, if_pos hc]
        · rw [if_neg hc, if_neg hc, if_pos hsh]
      rw [hh]
      refine ⟨?_, h2.mono (fun _ hk => .inl hk), h3⟩
      rw [h1]
      split <;> rfl
    · refine (next_long h hp (by omega) h0 _ rfl (by omega) (by omega)).mono fun e w' hpost => ?_
      unfold NextPost at hpost
      cases hh : headR L (skipR L pos inn).2 inn with
      | error why => rw [hh] at hpost; exact hpost
      | ok k =>
        rw [hh] at hpost
        obtain ⟨hk, _⟩ := headR_ok hh
        subst hk
        exact hpost
end Go.Proofs.YtlmlkamgpmnmgaaDoor
