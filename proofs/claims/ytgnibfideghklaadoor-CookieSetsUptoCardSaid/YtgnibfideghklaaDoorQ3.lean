-- cut by cutp.py out of a text that print.sh wrote
import Derived.Test.YtgnibfideghklaaDoorQ0
import Derived.Test.YtgnibfideghklaaDoorQ2
namespace Go.Proofs.YtgnibfideghklaaDoor.PCookieReads
open Go.RowKit Go.Proofs.YtgnibfideghklaaDoorW.PrintWords Go.Proofs.YtgnibfideghklaaDoorW.PrintLast Go.Proofs.YtgnibfideghklaaDoorW.PrintMore
attribute [local go_sem] max2_int min2_int max_two min_two max_three min_three max_four min_four   -- for this text's walks alone
set_option linter.unusedVariables false
set_option linter.unusedSimpArgs false

/-! ### atriumref19_may: function 32 -/
mutual
def atriumref19_may.l0 : Nat → Int → ByteArray → ByteArray → ByteArray → Int → Bool → Bool → Bool → ByteArray → Option (Bool)
  | 0, _, _, _, _, _, _, _, _, _ => none
  | k + 1, x3, x132000, x132001, x132002, x132003, x132004, x132005, x132006, x132007 => if x3 < (x132002.size : Int) then (if 0 ≤ x3 then (if (bt x132002 x3) < 33 then (some false) else (if (bt x132002 x3) > 126 then (some false) else (if (bt x132002 x3) = 59 then (some false) else (atriumref19_may.l0 k (wrap64 (x3 + 1)) x132000 x132001 x132002 x132003 x132004 x132005 x132006 x132007)))) else (none)) else (if x132002.toList = ([] : List UInt8) then (if x132003 < 0 then (atriumref19_may.j1 k true x132000 x132001 x132002 x132003 x132004 x132005 x132006 x132007) else (if x132003 > 2147483647 then (atriumref19_may.j1 k true x132000 x132001 x132002 x132003 x132004 x132005 x132006 x132007) else (if x132004 = true then (atriumref19_may.j1 k false x132000 x132001 x132002 x132003 x132004 x132005 x132006 x132007) else (atriumref19_may.j1 k (x132003 != 0) x132000 x132001 x132002 x132003 x132004 x132005 x132006 x132007)))) else (if 0 < (x132002.size : Int) then (if (bt x132002 0) = 47 then (if x132003 < 0 then (atriumref19_may.j1 k true x132000 x132001 x132002 x132003 x132004 x132005 x132006 x132007) else (if x132003 > 2147483647 then (atriumref19_may.j1 k true x132000 x132001 x132002 x132003 x132004 x132005 x132006 x132007) else (if x132004 = true then (atriumref19_may.j1 k false x132000 x132001 x132002 x132003 x132004 x132005 x132006 x132007) else (atriumref19_may.j1 k (x132003 != 0) x132000 x132001 x132002 x132003 x132004 x132005 x132006 x132007)))) else (atriumref19_may.j1 k true x132000 x132001 x132002 x132003 x132004 x132005 x132006 x132007)) else (none)))
def atriumref19_may.j1 : Nat → Bool → ByteArray → ByteArray → ByteArray → Int → Bool → Bool → Bool → ByteArray → Option (Bool)
  | 0, _, _, _, _, _, _, _, _, _ => none
  | k + 1, x58, x132000, x132001, x132002, x132003, x132004, x132005, x132006, x132007 => if x58 = true then (some false) else ((atriumref15_Token.f k x132000).bind fun t132 => (if t132 = true then ((atriumref19_octets.f k x132001).bind fun t133 => (if t133 = true then (if x132007.toList = ([] : List UInt8) then (some true) else (if x132007.toList = ([83, 116, 114, 105, 99, 116] : List UInt8) then (some true) else (if x132007.toList = ([76, 97, 120] : List UInt8) then (some true) else (some (x132007.toList == ([78, 111, 110, 101] : List UInt8)))))) else (some false))) else (some false)))
end
def atriumref19_may.f (k : Nat) (a0_0 : ByteArray) (a0_1 : ByteArray) (a0_2 : ByteArray) (a0_3 : Int) (a0_4 : Bool) (a0_5 : Bool) (a0_6 : Bool) (a0_7 : ByteArray) : Option (Bool) := atriumref19_may.l0 k 0 a0_0 a0_1 a0_2 a0_3 a0_4 a0_5 a0_6 a0_7
theorem atriumref19_may.mono_l : ∀ k, (∀ y0 y1 y2 y3 y4 y5 y6 y7 y8, LeO (atriumref19_may.l0 k y0 y1 y2 y3 y4 y5 y6 y7 y8) (atriumref19_may.l0 (k + 1) y0 y1 y2 y3 y4 y5 y6 y7 y8)) ∧ (∀ y0 y1 y2 y3 y4 y5 y6 y7 y8, LeO (atriumref19_may.j1 k y0 y1 y2 y3 y4 y5 y6 y7 y8) (atriumref19_may.j1 (k + 1) y0 y1 y2 y3 y4 y5 y6 y7 y8))
  | 0 => ⟨fun _ _ _ _ _ _ _ _ _ r h => by simp [atriumref19_may.l0] at h, fun _ _ _ _ _ _ _ _ _ r h => by simp [atriumref19_may.j1] at h⟩
  | k + 1 => by
    obtain ⟨ih0, ih1⟩ := atriumref19_may.mono_l k
    refine ⟨?_, ?_⟩
    · intro y0 y1 y2 y3 y4 y5 y6 y7 y8
      unfold atriumref19_may.l0
      repeat' first
      | (with_reducible exact ih0 _ _ _ _ _ _ _ _ _)
      | (with_reducible exact ih1 _ _ _ _ _ _ _ _ _)
      | (with_reducible exact atriumref15_Token.mono _ _)
      | (with_reducible exact atriumref19_octets.mono _ _)
      | (with_reducible exact LeO.refl _)
      | (with_reducible exact LeO.none _)
      | (with_reducible refine LeO.ite ?_ ?_)
      | (with_reducible refine LeO.bind ?_ (fun _ => ?_))
      | exact ih0 _ _ _ _ _ _ _ _ _
      | exact ih1 _ _ _ _ _ _ _ _ _
      | exact atriumref15_Token.mono _ _
      | exact atriumref19_octets.mono _ _
      | exact LeO.none _
      | refine LeO.ite ?_ ?_
      | refine LeO.bind ?_ (fun _ => ?_)
    · intro y0 y1 y2 y3 y4 y5 y6 y7 y8
      unfold atriumref19_may.j1
      repeat' first
      | (with_reducible exact ih0 _ _ _ _ _ _ _ _ _)
      | (with_reducible exact ih1 _ _ _ _ _ _ _ _ _)
      | (with_reducible exact atriumref15_Token.mono _ _)
      | (with_reducible exact atriumref19_octets.mono _ _)
      | (with_reducible exact LeO.refl _)
      | (with_reducible exact LeO.none _)
      | (with_reducible refine LeO.ite ?_ ?_)
      | (with_reducible refine LeO.bind ?_ (fun _ => ?_))
      | exact ih0 _ _ _ _ _ _ _ _ _
      | exact ih1 _ _ _ _ _ _ _ _ _
      | exact atriumref15_Token.mono _ _
      | exact atriumref19_octets.mono _ _
      | exact LeO.none _
      | refine LeO.ite ?_ ?_
      | refine LeO.bind ?_ (fun _ => ?_)
theorem atriumref19_may.mono : ∀ a0 a1 a2 a3 a4 a5 a6 a7 k, LeO (atriumref19_may.f k a0 a1 a2 a3 a4 a5 a6 a7) (atriumref19_may.f (k + 1) a0 a1 a2 a3 a4 a5 a6 a7) := by
  intro a0 a1 a2 a3 a4 a5 a6 a7 k
  obtain ⟨ih0, ih1⟩ := atriumref19_may.mono_l k
  unfold atriumref19_may.f
  repeat' first
      | (with_reducible exact ih0 _ _ _ _ _ _ _ _ _)
      | (with_reducible exact ih1 _ _ _ _ _ _ _ _ _)
      | (with_reducible exact atriumref15_Token.mono _ _)
      | (with_reducible exact atriumref19_octets.mono _ _)
      | (with_reducible exact LeO.refl _)
      | (with_reducible exact LeO.none _)
      | (with_reducible refine LeO.ite ?_ ?_)
      | (with_reducible refine LeO.bind ?_ (fun _ => ?_))
      | exact ih0 _ _ _ _ _ _ _ _ _
      | exact ih1 _ _ _ _ _ _ _ _ _
      | exact atriumref15_Token.mono _ _
      | exact atriumref19_octets.mono _ _
      | exact LeO.none _
      | refine LeO.ite ?_ ?_
      | refine LeO.bind ?_ (fun _ => ?_)
set_option maxHeartbeats 8000000 in
set_option maxRecDepth 100000 in
theorem atriumref19_may.calls (k : Nat) (a0_0 : ByteArray) (a0_1 : ByteArray) (a0_2 : ByteArray) (a0_3 : Int) (a0_4 : Bool) (a0_5 : Bool) (a0_6 : Bool) (a0_7 : ByteArray) (r : Bool) (w : World) (h : atriumref19_may.f k a0_0 a0_1 a0_2 a0_3 a0_4 a0_5 a0_6 a0_7 = some r) :
    Calls Tryd.prog 32 #[.agg #[.string a0_0, .string a0_1, .string a0_2, .int .i64 a0_3, .bool a0_4, .bool a0_5, .bool a0_6, .string a0_7]] w fun e w' => e = .returned (.bool r) ∧ Below w.heap.size w w' := by
  have hu37 := Tryd.underlying37
  have HB := Aside0.mk (Below.refl w.heap.size w)
  have H : (atriumref19_may.l0 k 0 a0_0 a0_1 a0_2 a0_3 a0_4 a0_5 a0_6 a0_7) = some r := h
  clear h
  have H' := Aside0.mk H
  clear H
  go_enter Tryd.func32, Tryd.ntmps32
  go_wp2_with (first | ((with_reducible refine gate_dst (N := 1) rfl ?_); refine box_event ?hg (N := 1) ?hd (cs := #[.string a0_0, .string a0_1, .string a0_2, .int .i64 a0_3, .bool a0_4, .bool a0_5, .bool a0_6, .string a0_7]) (t := 37) ?hr ?_; (case hd => rfl); (case hg => rfl); (case hr => first | (go_simp; done) | (go_simp; rfl)); intro gb131 hg w2 hbox hb; have n0_ := Aside0.mk (below_step (by repeat (first | (with_reducible first | exact HB.out | apply below_alloc | apply pw_below_drewN | apply below_drew1) | exact HB.out)) hb); have n1_ := Aside0.mk (hbox); have n2_ := Aside0.mk ((by rw [hg]; exact (below_size (by repeat (first | (with_reducible first | exact HB.out | apply below_alloc | apply pw_below_drewN | apply below_drew1) | exact HB.out))) : w.heap.size ≤ gb131)); have n3_ := Aside0.mk ((by rw [hg]; exact (below_size (by repeat (first | (with_reducible first | exact HB.out | apply below_alloc | apply pw_below_drewN | apply below_drew1) | exact HB.out))) : w.heap.size ≤ gb131)); clear HB; have HB := n0_; have BK131 := n1_; have GW131 := n2_; have GE131 := n3_; clear n0_ n1_ n2_ n3_; clear hb hbox hg))
  go_loopg [3] k (fun kq v3 w' => ∃ (x3_1 : Int), v3 = .int .i64 x3_1 ∧ Aside0 (atriumref19_may.l0 kq x3_1 a0_0 a0_1 a0_2 a0_3 a0_4 a0_5 a0_6 a0_7 = some r) ∧ Aside0 (kq ≤ k) ∧ Aside0 (w'.heap[gb131]? = some (.cells #[.string a0_0, .string a0_1, .string a0_2, .int .i64 a0_3, .bool a0_4, .bool a0_5, .bool a0_6, .string a0_7] 37 (0, 0))) ∧ Aside0 (Below w.heap.size w w'))
  case atStart => exact ⟨(0), (by first | rfl | (simp; done) | (simp [*]; done)), H', ⟨Nat.le_refl _⟩, ⟨by (with_reducible repeat (first | refine blk_drewN ?_ _ | refine blk_drew ?_ | refine blk_alloc ?_ _)); exact BK131.out⟩, ⟨by repeat (first | (with_reducible first | exact HB.out | apply below_alloc | apply pw_below_drewN | apply below_drew1 | refine below_set ?_ GE131.out) | exact HB.out)⟩⟩
  case round =>
    clear H'
    try clear p2
    obtain ⟨x3_1, rfl, HA, HK1, BK131, HB⟩ := hrel
    cases gk with
    | zero => exact absurd HA.out (by simp [atriumref19_may.l0])
    | succ k1 =>
      have H := HA.out
      clear HA
      simp only [atriumref19_may.l0] at H
      by_cases c3 : x3_1 < (a0_2.size : Int)
      · rw [if_pos c3] at H
        have c3b0 : decide (x3_1 < (a0_2.size : Int)) = true := decide_eq_true c3
        clear c3
        by_cases c4 : 0 ≤ x3_1
        · rw [if_pos c4] at H
          have c4b0 : decide (0 ≤ x3_1) = true := decide_eq_true c4
          clear c4
          by_cases c6 : (bt a0_2 x3_1) < 33
          · rw [if_pos c6] at H
            have c6b0 : decide ((bt a0_2 x3_1) < 33) = true := decide_eq_true c6
            clear c6
            obtain rfl := Option.some.inj H
            have hcz7_0 : wr.cell? ⟨gb131, 0, none⟩ = some (.string a0_0) := (blk_cell BK131.out 0).trans rfl
            have hcz7_1 : wr.cell? ⟨gb131, 1, none⟩ = some (.string a0_1) := (blk_cell BK131.out 1).trans rfl
            have hcz7_2 : wr.cell? ⟨gb131, 2, none⟩ = some (.string a0_2) := (blk_cell BK131.out 2).trans rfl
            have hcz7_3 : wr.cell? ⟨gb131, 3, none⟩ = some (.int .i64 a0_3) := (blk_cell BK131.out 3).trans rfl
            have hcz7_4 : wr.cell? ⟨gb131, 4, none⟩ = some (.bool a0_4) := (blk_cell BK131.out 4).trans rfl
            have hcz7_5 : wr.cell? ⟨gb131, 5, none⟩ = some (.bool a0_5) := (blk_cell BK131.out 5).trans rfl
            have hcz7_6 : wr.cell? ⟨gb131, 6, none⟩ = some (.bool a0_6) := (blk_cell BK131.out 6).trans rfl
            have hcz7_7 : wr.cell? ⟨gb131, 7, none⟩ = some (.string a0_7) := (blk_cell BK131.out 7).trans rfl
            have hfz7_0 := blk_frozen BK131.out 0
            have hfz7_1 := blk_frozen BK131.out 1
            have hfz7_2 := blk_frozen BK131.out 2
            have hfz7_3 := blk_frozen BK131.out 3
            have hfz7_4 := blk_frozen BK131.out 4
            have hfz7_5 := blk_frozen BK131.out 5
            have hfz7_6 := blk_frozen BK131.out 6
            have hfz7_7 := blk_frozen BK131.out 7
            have p5 : 0 ≤ (x3_1 : Int) := of_decide_eq_true (by first | (with_reducible assumption) | assumption)
            have q5 : x3_1 < (a0_2.size : Int) := of_decide_eq_true (by first | (with_reducible assumption) | assumption)
            have hx5 := bt_at a0_2 x3_1
            replace p5 := eq_true p5
            replace q5 := eq_true q5
            go_wp2
            go_ret
            exact ⟨by first | rfl | (simp [errW_none, errW_some] <;> rfl) | (simp [*, errW_none, errW_some] <;> rfl), by repeat (first | (with_reducible first | exact HB.out | apply below_alloc | apply pw_below_drewN | apply below_drew1 | refine below_set ?_ GE131.out) | exact HB.out)⟩
          · rw [if_neg c6] at H
            have c6b0 : decide ((bt a0_2 x3_1) < 33) = false := decide_eq_false c6
            clear c6
            by_cases c9 : (bt a0_2 x3_1) > 126
            · rw [if_pos c9] at H
              have c9b0 : decide (126 < (bt a0_2 x3_1)) = true := decide_eq_true c9
              clear c9
              obtain rfl := Option.some.inj H
              have hcz10_0 : wr.cell? ⟨gb131, 0, none⟩ = some (.string a0_0) := (blk_cell BK131.out 0).trans rfl
              have hcz10_1 : wr.cell? ⟨gb131, 1, none⟩ = some (.string a0_1) := (blk_cell BK131.out 1).trans rfl
              have hcz10_2 : wr.cell? ⟨gb131, 2, none⟩ = some (.string a0_2) := (blk_cell BK131.out 2).trans rfl
              have hcz10_3 : wr.cell? ⟨gb131, 3, none⟩ = some (.int .i64 a0_3) := (blk_cell BK131.out 3).trans rfl
              have hcz10_4 : wr.cell? ⟨gb131, 4, none⟩ = some (.bool a0_4) := (blk_cell BK131.out 4).trans rfl
              have hcz10_5 : wr.cell? ⟨gb131, 5, none⟩ = some (.bool a0_5) := (blk_cell BK131.out 5).trans rfl
              have hcz10_6 : wr.cell? ⟨gb131, 6, none⟩ = some (.bool a0_6) := (blk_cell BK131.out 6).trans rfl
              have hcz10_7 : wr.cell? ⟨gb131, 7, none⟩ = some (.string a0_7) := (blk_cell BK131.out 7).trans rfl
              have hfz10_0 := blk_frozen BK131.out 0
              have hfz10_1 := blk_frozen BK131.out 1
              have hfz10_2 := blk_frozen BK131.out 2
              have hfz10_3 := blk_frozen BK131.out 3
              have hfz10_4 := blk_frozen BK131.out 4
              have hfz10_5 := blk_frozen BK131.out 5
              have hfz10_6 := blk_frozen BK131.out 6
              have hfz10_7 := blk_frozen BK131.out 7
              have p5 : 0 ≤ (x3_1 : Int) := of_decide_eq_true (by first | (with_reducible assumption) | assumption)
              have q5 : x3_1 < (a0_2.size : Int) := of_decide_eq_true (by first | (with_reducible assumption) | assumption)
              have hx5 := bt_at a0_2 x3_1
              replace p5 := eq_true p5
              replace q5 := eq_true q5
              have p8 : 0 ≤ (x3_1 : Int) := of_decide_eq_true (by first | (with_reducible assumption) | assumption)
              have q8 : x3_1 < (a0_2.size : Int) := of_decide_eq_true (by first | (with_reducible assumption) | assumption)
              have hx8 := bt_at a0_2 x3_1
              replace p8 := eq_true p8
              replace q8 := eq_true q8
              go_wp2
              go_ret
              exact ⟨by first | rfl | (simp [errW_none, errW_some] <;> rfl) | (simp [*, errW_none, errW_some] <;> rfl), by repeat (first | (with_reducible first | exact HB.out | apply below_alloc | apply pw_below_drewN | apply below_drew1 | refine below_set ?_ GE131.out) | exact HB.out)⟩
            · rw [if_neg c9] at H
              have c9b0 : decide (126 < (bt a0_2 x3_1)) = false := decide_eq_false c9
              clear c9
              by_cases c12 : (bt a0_2 x3_1) = 59
              · rw [if_pos c12] at H
                have c12b0 : ((bt a0_2 x3_1) == 59) = true := beq_iff_eq.mpr c12
                have c12b1 : ((bt a0_2 x3_1) != 59) = false := bne_eq_false_iff_eq.mpr c12
                clear c12
                obtain rfl := Option.some.inj H
                have hcz13_0 : wr.cell? ⟨gb131, 0, none⟩ = some (.string a0_0) := (blk_cell BK131.out 0).trans rfl
                have hcz13_1 : wr.cell? ⟨gb131, 1, none⟩ = some (.string a0_1) := (blk_cell BK131.out 1).trans rfl
                have hcz13_2 : wr.cell? ⟨gb131, 2, none⟩ = some (.string a0_2) := (blk_cell BK131.out 2).trans rfl
                have hcz13_3 : wr.cell? ⟨gb131, 3, none⟩ = some (.int .i64 a0_3) := (blk_cell BK131.out 3).trans rfl
                have hcz13_4 : wr.cell? ⟨gb131, 4, none⟩ = some (.bool a0_4) := (blk_cell BK131.out 4).trans rfl
                have hcz13_5 : wr.cell? ⟨gb131, 5, none⟩ = some (.bool a0_5) := (blk_cell BK131.out 5).trans rfl
                have hcz13_6 : wr.cell? ⟨gb131, 6, none⟩ = some (.bool a0_6) := (blk_cell BK131.out 6).trans rfl
                have hcz13_7 : wr.cell? ⟨gb131, 7, none⟩ = some (.string a0_7) := (blk_cell BK131.out 7).trans rfl
                have hfz13_0 := blk_frozen BK131.out 0
                have hfz13_1 := blk_frozen BK131.out 1
                have hfz13_2 := blk_frozen BK131.out 2
                have hfz13_3 := blk_frozen BK131.out 3
                have hfz13_4 := blk_frozen BK131.out 4
                have hfz13_5 := blk_frozen BK131.out 5
                have hfz13_6 := blk_frozen BK131.out 6
                have hfz13_7 := blk_frozen BK131.out 7
                have p5 : 0 ≤ (x3_1 : Int) := of_decide_eq_true (by first | (with_reducible assumption) | assumption)
                have q5 : x3_1 < (a0_2.size : Int) := of_decide_eq_true (by first | (with_reducible assumption) | assumption)
                have hx5 := bt_at a0_2 x3_1
                replace p5 := eq_true p5
                replace q5 := eq_true q5
                have p8 : 0 ≤ (x3_1 : Int) := of_decide_eq_true (by first | (with_reducible assumption) | assumption)
                have q8 : x3_1 < (a0_2.size : Int) := of_decide_eq_true (by first | (with_reducible assumption) | assumption)
                have hx8 := bt_at a0_2 x3_1
                replace p8 := eq_true p8
                replace q8 := eq_true q8
                have p11 : 0 ≤ (x3_1 : Int) := of_decide_eq_true (by first | (with_reducible assumption) | assumption)
                have q11 : x3_1 < (a0_2.size : Int) := of_decide_eq_true (by first | (with_reducible assumption) | assumption)
                have hx11 := bt_at a0_2 x3_1
                replace p11 := eq_true p11
                replace q11 := eq_true q11
                go_wp2
                go_ret
                exact ⟨by first | rfl | (simp [errW_none, errW_some] <;> rfl) | (simp [*, errW_none, errW_some] <;> rfl), by repeat (first | (with_reducible first | exact HB.out | apply below_alloc | apply pw_below_drewN | apply below_drew1 | refine below_set ?_ GE131.out) | exact HB.out)⟩
              · rw [if_neg c12] at H
                have c12b0 : ((bt a0_2 x3_1) == 59) = false := beq_eq_false_iff_ne.mpr c12
                have c12b1 : ((bt a0_2 x3_1) != 59) = true := bne_iff_ne.mpr c12
                have H' := Aside0.mk H
                clear H
                have hcz14_0 : wr.cell? ⟨gb131, 0, none⟩ = some (.string a0_0) := (blk_cell BK131.out 0).trans rfl
                have hcz14_1 : wr.cell? ⟨gb131, 1, none⟩ = some (.string a0_1) := (blk_cell BK131.out 1).trans rfl
                have hcz14_2 : wr.cell? ⟨gb131, 2, none⟩ = some (.string a0_2) := (blk_cell BK131.out 2).trans rfl
                have hcz14_3 : wr.cell? ⟨gb131, 3, none⟩ = some (.int .i64 a0_3) := (blk_cell BK131.out 3).trans rfl
                have hcz14_4 : wr.cell? ⟨gb131, 4, none⟩ = some (.bool a0_4) := (blk_cell BK131.out 4).trans rfl
                have hcz14_5 : wr.cell? ⟨gb131, 5, none⟩ = some (.bool a0_5) := (blk_cell BK131.out 5).trans rfl
                have hcz14_6 : wr.cell? ⟨gb131, 6, none⟩ = some (.bool a0_6) := (blk_cell BK131.out 6).trans rfl
                have hcz14_7 : wr.cell? ⟨gb131, 7, none⟩ = some (.string a0_7) := (blk_cell BK131.out 7).trans rfl
                have hfz14_0 := blk_frozen BK131.out 0
                have hfz14_1 := blk_frozen BK131.out 1
                have hfz14_2 := blk_frozen BK131.out 2
                have hfz14_3 := blk_frozen BK131.out 3
                have hfz14_4 := blk_frozen BK131.out 4
                have hfz14_5 := blk_frozen BK131.out 5
                have hfz14_6 := blk_frozen BK131.out 6
                have hfz14_7 := blk_frozen BK131.out 7
                have p5 : 0 ≤ (x3_1 : Int) := of_decide_eq_true (by first | (with_reducible assumption) | assumption)
                have q5 : x3_1 < (a0_2.size : Int) := of_decide_eq_true (by first | (with_reducible assumption) | assumption)
                have hx5 := bt_at a0_2 x3_1
                replace p5 := eq_true p5
                replace q5 := eq_true q5
                have p8 : 0 ≤ (x3_1 : Int) := of_decide_eq_true (by first | (with_reducible assumption) | assumption)
                have q8 : x3_1 < (a0_2.size : Int) := of_decide_eq_true (by first | (with_reducible assumption) | assumption)
                have hx8 := bt_at a0_2 x3_1
                replace p8 := eq_true p8
                replace q8 := eq_true q8
                have p11 : 0 ≤ (x3_1 : Int) := of_decide_eq_true (by first | (with_reducible assumption) | assumption)
                have q11 : x3_1 < (a0_2.size : Int) := of_decide_eq_true (by first | (with_reducible assumption) | assumption)
                have hx11 := bt_at a0_2 x3_1
                replace p11 := eq_true p11
                replace q11 := eq_true q11
                go_wp2
                go_roundg k1
                case measure => have := HK1.out; omega
                case rel => exact ⟨(wrap64 (x3_1 + 1)), (by first | rfl | (simp; done) | (simp [*]; done)), H', ⟨by have := HK1.out; omega⟩, ⟨by (with_reducible repeat (first | refine blk_drewN ?_ _ | refine blk_drew ?_ | refine blk_alloc ?_ _)); exact BK131.out⟩, ⟨by repeat (first | (with_reducible first | exact HB.out | apply below_alloc | apply pw_below_drewN | apply below_drew1 | refine below_set ?_ GE131.out) | exact HB.out)⟩⟩
        · rw [if_neg c4] at H
          exact absurd H (by simp)
      · rw [if_neg c3] at H
        have c3b0 : decide (x3_1 < (a0_2.size : Int)) = false := decide_eq_false c3
        clear c3
        have HC15 := Aside0.mk H
        clear H
        have hcz16_0 : wr.cell? ⟨gb131, 0, none⟩ = some (.string a0_0) := (blk_cell BK131.out 0).trans rfl
        have hcz16_1 : wr.cell? ⟨gb131, 1, none⟩ = some (.string a0_1) := (blk_cell BK131.out 1).trans rfl
        have hcz16_2 : wr.cell? ⟨gb131, 2, none⟩ = some (.string a0_2) := (blk_cell BK131.out 2).trans rfl
        have hcz16_3 : wr.cell? ⟨gb131, 3, none⟩ = some (.int .i64 a0_3) := (blk_cell BK131.out 3).trans rfl
        have hcz16_4 : wr.cell? ⟨gb131, 4, none⟩ = some (.bool a0_4) := (blk_cell BK131.out 4).trans rfl
        have hcz16_5 : wr.cell? ⟨gb131, 5, none⟩ = some (.bool a0_5) := (blk_cell BK131.out 5).trans rfl
        have hcz16_6 : wr.cell? ⟨gb131, 6, none⟩ = some (.bool a0_6) := (blk_cell BK131.out 6).trans rfl
        have hcz16_7 : wr.cell? ⟨gb131, 7, none⟩ = some (.string a0_7) := (blk_cell BK131.out 7).trans rfl
        have hfz16_0 := blk_frozen BK131.out 0
        have hfz16_1 := blk_frozen BK131.out 1
        have hfz16_2 := blk_frozen BK131.out 2
        have hfz16_3 := blk_frozen BK131.out 3
        have hfz16_4 := blk_frozen BK131.out 4
        have hfz16_5 := blk_frozen BK131.out 5
        have hfz16_6 := blk_frozen BK131.out 6
        have hfz16_7 := blk_frozen BK131.out 7
        go_upto_region 6 with (fail)
        go_cut [58] (fun v58 wc => ∃ (kq : Nat) (x58_14 : Bool), v58 = .bool x58_14 ∧ Aside0 (atriumref19_may.j1 kq x58_14 a0_0 a0_1 a0_2 a0_3 a0_4 a0_5 a0_6 a0_7 = some r) ∧ Aside0 (kq ≤ k1) ∧ Aside0 (wc.heap[gb131]? = some (.cells #[.string a0_0, .string a0_1, .string a0_2, .int .i64 a0_3, .bool a0_4, .bool a0_5, .bool a0_6, .string a0_7] 37 (0, 0))) ∧ Aside0 (Below w.heap.size w wc))
        case first =>
          have H := HC15.out
          clear HC15
          by_cases c17 : a0_2.toList = ([] : List UInt8)
          · rw [if_pos c17] at H
            have c17b0 : (a0_2.toList == ([] : List UInt8)) = true := beq_iff_eq.mpr c17
            have c17b1 : (a0_2.toList != ([] : List UInt8)) = false := bne_eq_false_iff_eq.mpr c17
            clear c17
            (first | rw [c17b0] | (simp only [i64_w, i32_w]; rw [c17b0]) | skip)
            by_cases c18 : a0_3 < 0
            · rw [if_pos c18] at H
              have c18b0 : decide (a0_3 < 0) = true := decide_eq_true c18
              clear c18
              have H' := Aside0.mk H
              clear H
              have hcz19_0 : wr.cell? ⟨gb131, 0, none⟩ = some (.string a0_0) := (blk_cell BK131.out 0).trans rfl
              have hcz19_1 : wr.cell? ⟨gb131, 1, none⟩ = some (.string a0_1) := (blk_cell BK131.out 1).trans rfl
              have hcz19_2 : wr.cell? ⟨gb131, 2, none⟩ = some (.string a0_2) := (blk_cell BK131.out 2).trans rfl
              have hcz19_3 : wr.cell? ⟨gb131, 3, none⟩ = some (.int .i64 a0_3) := (blk_cell BK131.out 3).trans rfl
              have hcz19_4 : wr.cell? ⟨gb131, 4, none⟩ = some (.bool a0_4) := (blk_cell BK131.out 4).trans rfl
              have hcz19_5 : wr.cell? ⟨gb131, 5, none⟩ = some (.bool a0_5) := (blk_cell BK131.out 5).trans rfl
              have hcz19_6 : wr.cell? ⟨gb131, 6, none⟩ = some (.bool a0_6) := (blk_cell BK131.out 6).trans rfl
              have hcz19_7 : wr.cell? ⟨gb131, 7, none⟩ = some (.string a0_7) := (blk_cell BK131.out 7).trans rfl
              have hfz19_0 := blk_frozen BK131.out 0
              have hfz19_1 := blk_frozen BK131.out 1
              have hfz19_2 := blk_frozen BK131.out 2
              have hfz19_3 := blk_frozen BK131.out 3
              have hfz19_4 := blk_frozen BK131.out 4
              have hfz19_5 := blk_frozen BK131.out 5
              have hfz19_6 := blk_frozen BK131.out 6
              have hfz19_7 := blk_frozen BK131.out 7
              go_wp2
              go_meet
              case rel => exact ⟨_, (true), (by first | rfl | (simp; done) | (simp [*]; done)), H', ⟨by have := HK1.out; first | omega | exact Nat.le_refl _⟩, ⟨by (with_reducible repeat (first | refine blk_drewN ?_ _ | refine blk_drew ?_ | refine blk_alloc ?_ _)); exact BK131.out⟩, ⟨by repeat (first | (with_reducible first | exact HB.out | apply below_alloc | apply pw_below_drewN | apply below_drew1 | refine below_set ?_ GE131.out) | exact HB.out)⟩⟩
            · rw [if_neg c18] at H
              have c18b0 : decide (a0_3 < 0) = false := decide_eq_false c18
              clear c18
              by_cases c20 : a0_3 > 2147483647
              · rw [if_pos c20] at H
                have c20b0 : decide (2147483647 < a0_3) = true := decide_eq_true c20
                clear c20
                have H' := Aside0.mk H
                clear H
                have hcz21_0 : wr.cell? ⟨gb131, 0, none⟩ = some (.string a0_0) := (blk_cell BK131.out 0).trans rfl
                have hcz21_1 : wr.cell? ⟨gb131, 1, none⟩ = some (.string a0_1) := (blk_cell BK131.out 1).trans rfl
                have hcz21_2 : wr.cell? ⟨gb131, 2, none⟩ = some (.string a0_2) := (blk_cell BK131.out 2).trans rfl
                have hcz21_3 : wr.cell? ⟨gb131, 3, none⟩ = some (.int .i64 a0_3) := (blk_cell BK131.out 3).trans rfl
                have hcz21_4 : wr.cell? ⟨gb131, 4, none⟩ = some (.bool a0_4) := (blk_cell BK131.out 4).trans rfl
                have hcz21_5 : wr.cell? ⟨gb131, 5, none⟩ = some (.bool a0_5) := (blk_cell BK131.out 5).trans rfl
                have hcz21_6 : wr.cell? ⟨gb131, 6, none⟩ = some (.bool a0_6) := (blk_cell BK131.out 6).trans rfl
                have hcz21_7 : wr.cell? ⟨gb131, 7, none⟩ = some (.string a0_7) := (blk_cell BK131.out 7).trans rfl
                have hfz21_0 := blk_frozen BK131.out 0
                have hfz21_1 := blk_frozen BK131.out 1
                have hfz21_2 := blk_frozen BK131.out 2
                have hfz21_3 := blk_frozen BK131.out 3
                have hfz21_4 := blk_frozen BK131.out 4
                have hfz21_5 := blk_frozen BK131.out 5
                have hfz21_6 := blk_frozen BK131.out 6
                have hfz21_7 := blk_frozen BK131.out 7
                go_wp2
                go_meet
                case rel => exact ⟨_, (true), (by first | rfl | (simp; done) | (simp [*]; done)), H', ⟨by have := HK1.out; first | omega | exact Nat.le_refl _⟩, ⟨by (with_reducible repeat (first | refine blk_drewN ?_ _ | refine blk_drew ?_ | refine blk_alloc ?_ _)); exact BK131.out⟩, ⟨by repeat (first | (with_reducible first | exact HB.out | apply below_alloc | apply pw_below_drewN | apply below_drew1 | refine below_set ?_ GE131.out) | exact HB.out)⟩⟩
              · rw [if_neg c20] at H
                have c20b0 : decide (2147483647 < a0_3) = false := decide_eq_false c20
                clear c20
                by_cases c22 : a0_4 = true
                · subst c22
                  have H1 : (atriumref19_may.j1 k1 false a0_0 a0_1 a0_2 a0_3 true a0_5 a0_6 a0_7) = some r := by rw [if_pos rfl] at H; exact H
                  clear H
                  have H := H1
                  clear H1
                  have H' := Aside0.mk H
                  clear H
                  have hcz23_0 : wr.cell? ⟨gb131, 0, none⟩ = some (.string a0_0) := (blk_cell BK131.out 0).trans rfl
                  have hcz23_1 : wr.cell? ⟨gb131, 1, none⟩ = some (.string a0_1) := (blk_cell BK131.out 1).trans rfl
                  have hcz23_2 : wr.cell? ⟨gb131, 2, none⟩ = some (.string a0_2) := (blk_cell BK131.out 2).trans rfl
                  have hcz23_3 : wr.cell? ⟨gb131, 3, none⟩ = some (.int .i64 a0_3) := (blk_cell BK131.out 3).trans rfl
                  have hcz23_4 : wr.cell? ⟨gb131, 4, none⟩ = some (.bool true) := (blk_cell BK131.out 4).trans rfl
                  have hcz23_5 : wr.cell? ⟨gb131, 5, none⟩ = some (.bool a0_5) := (blk_cell BK131.out 5).trans rfl
                  have hcz23_6 : wr.cell? ⟨gb131, 6, none⟩ = some (.bool a0_6) := (blk_cell BK131.out 6).trans rfl
                  have hcz23_7 : wr.cell? ⟨gb131, 7, none⟩ = some (.string a0_7) := (blk_cell BK131.out 7).trans rfl
                  have hfz23_0 := blk_frozen BK131.out 0
                  have hfz23_1 := blk_frozen BK131.out 1
                  have hfz23_2 := blk_frozen BK131.out 2
                  have hfz23_3 := blk_frozen BK131.out 3
                  have hfz23_4 := blk_frozen BK131.out 4
                  have hfz23_5 := blk_frozen BK131.out 5
                  have hfz23_6 := blk_frozen BK131.out 6
                  have hfz23_7 := blk_frozen BK131.out 7
                  go_wp2
                  go_meet
                  case rel => exact ⟨_, (false), (by first | rfl | (simp; done) | (simp [*]; done)), H', ⟨by have := HK1.out; first | omega | exact Nat.le_refl _⟩, ⟨by (with_reducible repeat (first | refine blk_drewN ?_ _ | refine blk_drew ?_ | refine blk_alloc ?_ _)); exact BK131.out⟩, ⟨by repeat (first | (with_reducible first | exact HB.out | apply below_alloc | apply pw_below_drewN | apply below_drew1 | refine below_set ?_ GE131.out) | exact HB.out)⟩⟩
                · replace c22 := Bool.eq_false_iff.mpr c22
                  subst c22
                  have H1 : (atriumref19_may.j1 k1 (a0_3 != 0) a0_0 a0_1 a0_2 a0_3 false a0_5 a0_6 a0_7) = some r := by rw [if_neg (show ¬ (false = true) by decide)] at H; exact H
                  clear H
                  have H := H1
                  clear H1
                  have H' := Aside0.mk H
                  clear H
                  have hcz24_0 : wr.cell? ⟨gb131, 0, none⟩ = some (.string a0_0) := (blk_cell BK131.out 0).trans rfl
                  have hcz24_1 : wr.cell? ⟨gb131, 1, none⟩ = some (.string a0_1) := (blk_cell BK131.out 1).trans rfl
                  have hcz24_2 : wr.cell? ⟨gb131, 2, none⟩ = some (.string a0_2) := (blk_cell BK131.out 2).trans rfl
                  have hcz24_3 : wr.cell? ⟨gb131, 3, none⟩ = some (.int .i64 a0_3) := (blk_cell BK131.out 3).trans rfl
                  have hcz24_4 : wr.cell? ⟨gb131, 4, none⟩ = some (.bool false) := (blk_cell BK131.out 4).trans rfl
                  have hcz24_5 : wr.cell? ⟨gb131, 5, none⟩ = some (.bool a0_5) := (blk_cell BK131.out 5).trans rfl
                  have hcz24_6 : wr.cell? ⟨gb131, 6, none⟩ = some (.bool a0_6) := (blk_cell BK131.out 6).trans rfl
                  have hcz24_7 : wr.cell? ⟨gb131, 7, none⟩ = some (.string a0_7) := (blk_cell BK131.out 7).trans rfl
                  have hfz24_0 := blk_frozen BK131.out 0
                  have hfz24_1 := blk_frozen BK131.out 1
                  have hfz24_2 := blk_frozen BK131.out 2
                  have hfz24_3 := blk_frozen BK131.out 3
                  have hfz24_4 := blk_frozen BK131.out 4
                  have hfz24_5 := blk_frozen BK131.out 5
                  have hfz24_6 := blk_frozen BK131.out 6
                  have hfz24_7 := blk_frozen BK131.out 7
                  go_wp2
                  go_meet
                  case rel => exact ⟨_, ((a0_3 != 0)), (by first | rfl | (simp; done) | (simp [*]; done)), H', ⟨by have := HK1.out; first | omega | exact Nat.le_refl _⟩, ⟨by (with_reducible repeat (first | refine blk_drewN ?_ _ | refine blk_drew ?_ | refine blk_alloc ?_ _)); exact BK131.out⟩, ⟨by repeat (first | (with_reducible first | exact HB.out | apply below_alloc | apply pw_below_drewN | apply below_drew1 | refine below_set ?_ GE131.out) | exact HB.out)⟩⟩
          · rw [if_neg c17] at H
            have c17b0 : (a0_2.toList == ([] : List UInt8)) = false := beq_eq_false_iff_ne.mpr c17
            have c17b1 : (a0_2.toList != ([] : List UInt8)) = true := bne_iff_ne.mpr c17
            (first | rw [c17b0] | (simp only [i64_w, i32_w]; rw [c17b0]) | skip)
            by_cases c25 : 0 < (a0_2.size : Int)
            · rw [if_pos c25] at H
              have c25b0 : decide (0 < (a0_2.size : Int)) = true := decide_eq_true c25
              have c25b1 : decide (0 < a0_2.size) = true := decide_eq_true (by omega)
              clear c25
              by_cases c27 : (bt a0_2 0) = 47
              · rw [if_pos c27] at H
                have c27b0 : ((bt a0_2 0) == 47) = true := beq_iff_eq.mpr c27
                have c27b1 : ((bt a0_2 0) != 47) = false := bne_eq_false_iff_eq.mpr c27
                clear c27
                by_cases c28 : a0_3 < 0
                · rw [if_pos c28] at H
                  have c28b0 : decide (a0_3 < 0) = true := decide_eq_true c28
                  clear c28
                  have H' := Aside0.mk H
                  clear H
                  have hcz29_0 : wr.cell? ⟨gb131, 0, none⟩ = some (.string a0_0) := (blk_cell BK131.out 0).trans rfl
                  have hcz29_1 : wr.cell? ⟨gb131, 1, none⟩ = some (.string a0_1) := (blk_cell BK131.out 1).trans rfl
                  have hcz29_2 : wr.cell? ⟨gb131, 2, none⟩ = some (.string a0_2) := (blk_cell BK131.out 2).trans rfl
                  have hcz29_3 : wr.cell? ⟨gb131, 3, none⟩ = some (.int .i64 a0_3) := (blk_cell BK131.out 3).trans rfl
                  have hcz29_4 : wr.cell? ⟨gb131, 4, none⟩ = some (.bool a0_4) := (blk_cell BK131.out 4).trans rfl
                  have hcz29_5 : wr.cell? ⟨gb131, 5, none⟩ = some (.bool a0_5) := (blk_cell BK131.out 5).trans rfl
                  have hcz29_6 : wr.cell? ⟨gb131, 6, none⟩ = some (.bool a0_6) := (blk_cell BK131.out 6).trans rfl
                  have hcz29_7 : wr.cell? ⟨gb131, 7, none⟩ = some (.string a0_7) := (blk_cell BK131.out 7).trans rfl
                  have hfz29_0 := blk_frozen BK131.out 0
                  have hfz29_1 := blk_frozen BK131.out 1
                  have hfz29_2 := blk_frozen BK131.out 2
                  have hfz29_3 := blk_frozen BK131.out 3
                  have hfz29_4 := blk_frozen BK131.out 4
                  have hfz29_5 := blk_frozen BK131.out 5
                  have hfz29_6 := blk_frozen BK131.out 6
                  have hfz29_7 := blk_frozen BK131.out 7
                  have p26 : 0 ≤ (0 : Int) := (by omega)
                  have q26 : 0 < a0_2.size := (by have : (0 : Int) < (a0_2.size : Int) := of_decide_eq_true (by first | (with_reducible assumption) | assumption); omega)
                  have hx26 : ∀ h : 0 < a0_2.size, ((a0_2[0]'h).toNat : Int) = bt a0_2 0 := bt_at a0_2 0
                  clear p26
                  have qi26 : (0 < (a0_2.size : Int)) = True := eq_true (of_decide_eq_true (by first | (with_reducible assumption) | assumption))
                  replace q26 := eq_true q26
                  go_wp2
                  go_meet
                  case rel => exact ⟨_, (true), (by first | rfl | (simp; done) | (simp [*]; done)), H', ⟨by have := HK1.out; first | omega | exact Nat.le_refl _⟩, ⟨by (with_reducible repeat (first | refine blk_drewN ?_ _ | refine blk_drew ?_ | refine blk_alloc ?_ _)); exact BK131.out⟩, ⟨by repeat (first | (with_reducible first | exact HB.out | apply below_alloc | apply pw_below_drewN | apply below_drew1 | refine below_set ?_ GE131.out) | exact HB.out)⟩⟩
                · rw [if_neg c28] at H
                  have c28b0 : decide (a0_3 < 0) = false := decide_eq_false c28
                  clear c28
                  by_cases c30 : a0_3 > 2147483647
                  · rw [if_pos c30] at H
                    have c30b0 : decide (2147483647 < a0_3) = true := decide_eq_true c30
                    clear c30
                    have H' := Aside0.mk H
                    clear H
                    have hcz31_0 : wr.cell? ⟨gb131, 0, none⟩ = some (.string a0_0) := (blk_cell BK131.out 0).trans rfl
                    have hcz31_1 : wr.cell? ⟨gb131, 1, none⟩ = some (.string a0_1) := (blk_cell BK131.out 1).trans rfl
                    have hcz31_2 : wr.cell? ⟨gb131, 2, none⟩ = some (.string a0_2) := (blk_cell BK131.out 2).trans rfl
                    have hcz31_3 : wr.cell? ⟨gb131, 3, none⟩ = some (.int .i64 a0_3) := (blk_cell BK131.out 3).trans rfl
                    have hcz31_4 : wr.cell? ⟨gb131, 4, none⟩ = some (.bool a0_4) := (blk_cell BK131.out 4).trans rfl
                    have hcz31_5 : wr.cell? ⟨gb131, 5, none⟩ = some (.bool a0_5) := (blk_cell BK131.out 5).trans rfl
                    have hcz31_6 : wr.cell? ⟨gb131, 6, none⟩ = some (.bool a0_6) := (blk_cell BK131.out 6).trans rfl
                    have hcz31_7 : wr.cell? ⟨gb131, 7, none⟩ = some (.string a0_7) := (blk_cell BK131.out 7).trans rfl
                    have hfz31_0 := blk_frozen BK131.out 0
                    have hfz31_1 := blk_frozen BK131.out 1
                    have hfz31_2 := blk_frozen BK131.out 2
                    have hfz31_3 := blk_frozen BK131.out 3
                    have hfz31_4 := blk_frozen BK131.out 4
                    have hfz31_5 := blk_frozen BK131.out 5
                    have hfz31_6 := blk_frozen BK131.out 6
                    have hfz31_7 := blk_frozen BK131.out 7
                    have p26 : 0 ≤ (0 : Int) := (by omega)
                    have q26 : 0 < a0_2.size := (by have : (0 : Int) < (a0_2.size : Int) := of_decide_eq_true (by first | (with_reducible assumption) | assumption); omega)
                    have hx26 : ∀ h : 0 < a0_2.size, ((a0_2[0]'h).toNat : Int) = bt a0_2 0 := bt_at a0_2 0
                    clear p26
                    have qi26 : (0 < (a0_2.size : Int)) = True := eq_true (of_decide_eq_true (by first | (with_reducible assumption) | assumption))
                    replace q26 := eq_true q26
                    go_wp2
                    go_meet
                    case rel => exact ⟨_, (true), (by first | rfl | (simp; done) | (simp [*]; done)), H', ⟨by have := HK1.out; first | omega | exact Nat.le_refl _⟩, ⟨by (with_reducible repeat (first | refine blk_drewN ?_ _ | refine blk_drew ?_ | refine blk_alloc ?_ _)); exact BK131.out⟩, ⟨by repeat (first | (with_reducible first | exact HB.out | apply below_alloc | apply pw_below_drewN | apply below_drew1 | refine below_set ?_ GE131.out) | exact HB.out)⟩⟩
                  · rw [if_neg c30] at H
                    have c30b0 : decide (2147483647 < a0_3) = false := decide_eq_false c30
                    clear c30
                    by_cases c32 : a0_4 = true
                    · subst c32
                      have H1 : (atriumref19_may.j1 k1 false a0_0 a0_1 a0_2 a0_3 true a0_5 a0_6 a0_7) = some r := by rw [if_pos rfl] at H; exact H
                      clear H
                      have H := H1
                      clear H1
                      have H' := Aside0.mk H
                      clear H
                      have hcz33_0 : wr.cell? ⟨gb131, 0, none⟩ = some (.string a0_0) := (blk_cell BK131.out 0).trans rfl
                      have hcz33_1 : wr.cell? ⟨gb131, 1, none⟩ = some (.string a0_1) := (blk_cell BK131.out 1).trans rfl
                      have hcz33_2 : wr.cell? ⟨gb131, 2, none⟩ = some (.string a0_2) := (blk_cell BK131.out 2).trans rfl
                      have hcz33_3 : wr.cell? ⟨gb131, 3, none⟩ = some (.int .i64 a0_3) := (blk_cell BK131.out 3).trans rfl
                      have hcz33_4 : wr.cell? ⟨gb131, 4, none⟩ = some (.bool true) := (blk_cell BK131.out 4).trans rfl
                      have hcz33_5 : wr.cell? ⟨gb131, 5, none⟩ = some (.bool a0_5) := (blk_cell BK131.out 5).trans rfl
                      have hcz33_6 : wr.cell? ⟨gb131, 6, none⟩ = some (.bool a0_6) := (blk_cell BK131.out 6).trans rfl
                      have hcz33_7 : wr.cell? ⟨gb131, 7, none⟩ = some (.string a0_7) := (blk_cell BK131.out 7).trans rfl
                      have hfz33_0 := blk_frozen BK131.out 0
                      have hfz33_1 := blk_frozen BK131.out 1
                      have hfz33_2 := blk_frozen BK131.out 2
                      have hfz33_3 := blk_frozen BK131.out 3
                      have hfz33_4 := blk_frozen BK131.out 4
                      have hfz33_5 := blk_frozen BK131.out 5
                      have hfz33_6 := blk_frozen BK131.out 6
                      have hfz33_7 := blk_frozen BK131.out 7
                      have p26 : 0 ≤ (0 : Int) := (by omega)
                      have q26 : 0 < a0_2.size := (by have : (0 : Int) < (a0_2.size : Int) := of_decide_eq_true (by first | (with_reducible assumption) | assumption); omega)
                      have hx26 : ∀ h : 0 < a0_2.size, ((a0_2[0]'h).toNat : Int) = bt a0_2 0 := bt_at a0_2 0
                      clear p26
                      have qi26 : (0 < (a0_2.size : Int)) = True := eq_true (of_decide_eq_true (by first | (with_reducible assumption) | assumption))
                      replace q26 := eq_true q26
                      go_wp2
                      go_meet
                      case rel => exact ⟨_, (false), (by first | rfl | (simp; done) | (simp [*]; done)), H', ⟨by have := HK1.out; first | omega | exact Nat.le_refl _⟩, ⟨by (with_reducible repeat (first | refine blk_drewN ?_ _ | refine blk_drew ?_ | refine blk_alloc ?_ _)); exact BK131.out⟩, ⟨by repeat (first | (with_reducible first | exact HB.out | apply below_alloc | apply pw_below_drewN | apply below_drew1 | refine below_set ?_ GE131.out) | exact HB.out)⟩⟩
                    · replace c32 := Bool.eq_false_iff.mpr c32
                      subst c32
                      have H1 : (atriumref19_may.j1 k1 (a0_3 != 0) a0_0 a0_1 a0_2 a0_3 false a0_5 a0_6 a0_7) = some r := by rw [if_neg (show ¬ (false = true) by decide)] at H; exact H
                      clear H
                      have H := H1
                      clear H1
                      have H' := Aside0.mk H
                      clear H
                      have hcz34_0 : wr.cell? ⟨gb131, 0, none⟩ = some (.string a0_0) := (blk_cell BK131.out 0).trans rfl
                      have hcz34_1 : wr.cell? ⟨gb131, 1, none⟩ = some (.string a0_1) := (blk_cell BK131.out 1).trans rfl
                      have hcz34_2 : wr.cell? ⟨gb131, 2, none⟩ = some (.string a0_2) := (blk_cell BK131.out 2).trans rfl
                      have hcz34_3 : wr.cell? ⟨gb131, 3, none⟩ = some (.int .i64 a0_3) := (blk_cell BK131.out 3).trans rfl
                      have hcz34_4 : wr.cell? ⟨gb131, 4, none⟩ = some (.bool false) := (blk_cell BK131.out 4).trans rfl
                      have hcz34_5 : wr.cell? ⟨gb131, 5, none⟩ = some (.bool a0_5) := (blk_cell BK131.out 5).trans rfl
                      have hcz34_6 : wr.cell? ⟨gb131, 6, none⟩ = some (.bool a0_6) := (blk_cell BK131.out 6).trans rfl
                      have hcz34_7 : wr.cell? ⟨gb131, 7, none⟩ = some (.string a0_7) := (blk_cell BK131.out 7).trans rfl
                      have hfz34_0 := blk_frozen BK131.out 0
                      have hfz34_1 := blk_frozen BK131.out 1
                      have hfz34_2 := blk_frozen BK131.out 2
                      have hfz34_3 := blk_frozen BK131.out 3
                      have hfz34_4 := blk_frozen BK131.out 4
                      have hfz34_5 := blk_frozen BK131.out 5
                      have hfz34_6 := blk_frozen BK131.out 6
                      have hfz34_7 := blk_frozen BK131.out 7
                      have p26 : 0 ≤ (0 : Int) := (by omega)
                      have q26 : 0 < a0_2.size := (by have : (0 : Int) < (a0_2.size : Int) := of_decide_eq_true (by first | (with_reducible assumption) | assumption); omega)
                      have hx26 : ∀ h : 0 < a0_2.size, ((a0_2[0]'h).toNat : Int) = bt a0_2 0 := bt_at a0_2 0
                      clear p26
                      have qi26 : (0 < (a0_2.size : Int)) = True := eq_true (of_decide_eq_true (by first | (with_reducible assumption) | assumption))
                      replace q26 := eq_true q26
                      go_wp2
                      go_meet
                      case rel => exact ⟨_, ((a0_3 != 0)), (by first | rfl | (simp; done) | (simp [*]; done)), H', ⟨by have := HK1.out; first | omega | exact Nat.le_refl _⟩, ⟨by (with_reducible repeat (first | refine blk_drewN ?_ _ | refine blk_drew ?_ | refine blk_alloc ?_ _)); exact BK131.out⟩, ⟨by repeat (first | (with_reducible first | exact HB.out | apply below_alloc | apply pw_below_drewN | apply below_drew1 | refine below_set ?_ GE131.out) | exact HB.out)⟩⟩
              · rw [if_neg c27] at H
                have c27b0 : ((bt a0_2 0) == 47) = false := beq_eq_false_iff_ne.mpr c27
                have c27b1 : ((bt a0_2 0) != 47) = true := bne_iff_ne.mpr c27
                have H' := Aside0.mk H
                clear H
                have hcz35_0 : wr.cell? ⟨gb131, 0, none⟩ = some (.string a0_0) := (blk_cell BK131.out 0).trans rfl
                have hcz35_1 : wr.cell? ⟨gb131, 1, none⟩ = some (.string a0_1) := (blk_cell BK131.out 1).trans rfl
                have hcz35_2 : wr.cell? ⟨gb131, 2, none⟩ = some (.string a0_2) := (blk_cell BK131.out 2).trans rfl
                have hcz35_3 : wr.cell? ⟨gb131, 3, none⟩ = some (.int .i64 a0_3) := (blk_cell BK131.out 3).trans rfl
                have hcz35_4 : wr.cell? ⟨gb131, 4, none⟩ = some (.bool a0_4) := (blk_cell BK131.out 4).trans rfl
                have hcz35_5 : wr.cell? ⟨gb131, 5, none⟩ = some (.bool a0_5) := (blk_cell BK131.out 5).trans rfl
                have hcz35_6 : wr.cell? ⟨gb131, 6, none⟩ = some (.bool a0_6) := (blk_cell BK131.out 6).trans rfl
                have hcz35_7 : wr.cell? ⟨gb131, 7, none⟩ = some (.string a0_7) := (blk_cell BK131.out 7).trans rfl
                have hfz35_0 := blk_frozen BK131.out 0
                have hfz35_1 := blk_frozen BK131.out 1
                have hfz35_2 := blk_frozen BK131.out 2
                have hfz35_3 := blk_frozen BK131.out 3
                have hfz35_4 := blk_frozen BK131.out 4
                have hfz35_5 := blk_frozen BK131.out 5
                have hfz35_6 := blk_frozen BK131.out 6
                have hfz35_7 := blk_frozen BK131.out 7
                have p26 : 0 ≤ (0 : Int) := (by omega)
                have q26 : 0 < a0_2.size := (by have : (0 : Int) < (a0_2.size : Int) := of_decide_eq_true (by first | (with_reducible assumption) | assumption); omega)
                have hx26 : ∀ h : 0 < a0_2.size, ((a0_2[0]'h).toNat : Int) = bt a0_2 0 := bt_at a0_2 0
                clear p26
                have qi26 : (0 < (a0_2.size : Int)) = True := eq_true (of_decide_eq_true (by first | (with_reducible assumption) | assumption))
                replace q26 := eq_true q26
                go_wp2
                go_meet
                case rel => exact ⟨_, (true), (by first | rfl | (simp; done) | (simp [*]; done)), H', ⟨by have := HK1.out; first | omega | exact Nat.le_refl _⟩, ⟨by (with_reducible repeat (first | refine blk_drewN ?_ _ | refine blk_drew ?_ | refine blk_alloc ?_ _)); exact BK131.out⟩, ⟨by repeat (first | (with_reducible first | exact HB.out | apply below_alloc | apply pw_below_drewN | apply below_drew1 | refine below_set ?_ GE131.out) | exact HB.out)⟩⟩
            · rw [if_neg c25] at H
              exact absurd H (by simp)
        case rest =>
          clear HC15
          try clear c1
          try clear p1
          try clear q1
          try clear hx1
          try clear c2
          try clear p2
          try clear q2
          try clear hx2
          try clear qi2
          try clear c3
          try clear c3b0
          try clear c4
          try clear c4b0
          try clear p5
          try clear q5
          try clear hx5
          try clear c6
          try clear c6b0
          try clear p6
          try clear p8
          try clear q8
          try clear hx8
          try clear c9
          try clear c9b0
          try clear p11
          try clear q11
          try clear hx11
          try clear c12
          try clear c12b0
          try clear c12b1
          try clear c17
          try clear c17b0
          try clear c17b1
          try clear c18
          try clear c18b0
          try clear c20
          try clear c20b0
          try clear c22
          try clear c25
          try clear c25b0
          try clear c25b1
          try clear p26
          try clear q26
          try clear hx26
          try clear qi26
          try clear c27
          try clear c27b0
          try clear c27b1
          try clear c28
          try clear c28b0
          try clear c30
          try clear c30b0
          try clear c32
          try clear hcz10_0
          try clear hcz10_1
          try clear hcz10_2
          try clear hcz10_3
          try clear hcz10_4
          try clear hcz10_5
          try clear hcz10_6
          try clear hcz10_7
          try clear hcz13_0
          try clear hcz13_1
          try clear hcz13_2
          try clear hcz13_3
          try clear hcz13_4
          try clear hcz13_5
          try clear hcz13_6
          try clear hcz13_7
          try clear hcz14_0
          try clear hcz14_1
          try clear hcz14_2
          try clear hcz14_3
          try clear hcz14_4
          try clear hcz14_5
          try clear hcz14_6
          try clear hcz14_7
          try clear hcz16_0
          try clear hcz16_1
          try clear hcz16_2
          try clear hcz16_3
          try clear hcz16_4
          try clear hcz16_5
          try clear hcz16_6
          try clear hcz16_7
          try clear hcz19_0
          try clear hcz19_1
          try clear hcz19_2
          try clear hcz19_3
          try clear hcz19_4
          try clear hcz19_5
          try clear hcz19_6
          try clear hcz19_7
          try clear hcz21_0
          try clear hcz21_1
          try clear hcz21_2
          try clear hcz21_3
          try clear hcz21_4
          try clear hcz21_5
          try clear hcz21_6
          try clear hcz21_7
          try clear hcz23_0
          try clear hcz23_1
          try clear hcz23_2
          try clear hcz23_3
          try clear hcz23_4
          try clear hcz23_5
          try clear hcz23_6
          try clear hcz23_7
          try clear hcz24_0
          try clear hcz24_1
          try clear hcz24_2
          try clear hcz24_3
          try clear hcz24_4
          try clear hcz24_5
          try clear hcz24_6
          try clear hcz24_7
          try clear hcz29_0
          try clear hcz29_1
          try clear hcz29_2
          try clear hcz29_3
          try clear hcz29_4
          try clear hcz29_5
          try clear hcz29_6
          try clear hcz29_7
          try clear hcz31_0
          try clear hcz31_1
          try clear hcz31_2
          try clear hcz31_3
          try clear hcz31_4
          try clear hcz31_5
          try clear hcz31_6
          try clear hcz31_7
          try clear hcz33_0
          try clear hcz33_1
          try clear hcz33_2
          try clear hcz33_3
          try clear hcz33_4
          try clear hcz33_5
          try clear hcz33_6
          try clear hcz33_7
          try clear hcz34_0
          try clear hcz34_1
          try clear hcz34_2
          try clear hcz34_3
          try clear hcz34_4
          try clear hcz34_5
          try clear hcz34_6
          try clear hcz34_7
          try clear hcz35_0
          try clear hcz35_1
          try clear hcz35_2
          try clear hcz35_3
          try clear hcz35_4
          try clear hcz35_5
          try clear hcz35_6
          try clear hcz35_7
          try clear hcz7_0
          try clear hcz7_1
          try clear hcz7_2
          try clear hcz7_3
          try clear hcz7_4
          try clear hcz7_5
          try clear hcz7_6
          try clear hcz7_7
          try clear hfz10_0
          try clear hfz10_1
          try clear hfz10_2
          try clear hfz10_3
          try clear hfz10_4
          try clear hfz10_5
          try clear hfz10_6
          try clear hfz10_7
          try clear hfz13_0
          try clear hfz13_1
          try clear hfz13_2
          try clear hfz13_3
          try clear hfz13_4
          try clear hfz13_5
          try clear hfz13_6
          try clear hfz13_7
          try clear hfz14_0
          try clear hfz14_1
          try clear hfz14_2
          try clear hfz14_3
          try clear hfz14_4
          try clear hfz14_5
          try clear hfz14_6
          try clear hfz14_7
          try clear hfz16_0
          try clear hfz16_1
          try clear hfz16_2
          try clear hfz16_3
          try clear hfz16_4
          try clear hfz16_5
          try clear hfz16_6
          try clear hfz16_7
          try clear hfz19_0
          try clear hfz19_1
          try clear hfz19_2
          try clear hfz19_3
          try clear hfz19_4
          try clear hfz19_5
          try clear hfz19_6
          try clear hfz19_7
          try clear hfz21_0
          try clear hfz21_1
          try clear hfz21_2
          try clear hfz21_3
          try clear hfz21_4
          try clear hfz21_5
          try clear hfz21_6
          try clear hfz21_7
          try clear hfz23_0
          try clear hfz23_1
          try clear hfz23_2
          try clear hfz23_3
          try clear hfz23_4
          try clear hfz23_5
          try clear hfz23_6
          try clear hfz23_7
          try clear hfz24_0
          try clear hfz24_1
          try clear hfz24_2
          try clear hfz24_3
          try clear hfz24_4
          try clear hfz24_5
          try clear hfz24_6
          try clear hfz24_7
          try clear hfz29_0
          try clear hfz29_1
          try clear hfz29_2
          try clear hfz29_3
          try clear hfz29_4
          try clear hfz29_5
          try clear hfz29_6
          try clear hfz29_7
          try clear hfz31_0
          try clear hfz31_1
          try clear hfz31_2
          try clear hfz31_3
          try clear hfz31_4
          try clear hfz31_5
          try clear hfz31_6
          try clear hfz31_7
          try clear hfz33_0
          try clear hfz33_1
          try clear hfz33_2
          try clear hfz33_3
          try clear hfz33_4
          try clear hfz33_5
          try clear hfz33_6
          try clear hfz33_7
          try clear hfz34_0
          try clear hfz34_1
          try clear hfz34_2
          try clear hfz34_3
          try clear hfz34_4
          try clear hfz34_5
          try clear hfz34_6
          try clear hfz34_7
          try clear hfz35_0
          try clear hfz35_1
          try clear hfz35_2
          try clear hfz35_3
          try clear hfz35_4
          try clear hfz35_5
          try clear hfz35_6
          try clear hfz35_7
          try clear hfz7_0
          try clear hfz7_1
          try clear hfz7_2
          try clear hfz7_3
          try clear hfz7_4
          try clear hfz7_5
          try clear hfz7_6
          try clear hfz7_7
          try clear p11
          try clear p2
          try clear p26
          try clear p5
          try clear p8
          try clear q11
          try clear q26
          try clear q5
          try clear q8
          obtain ⟨kq, x58_14, rfl, HA, HJ14, BK131, HB⟩ := hcut
          cases kq with
          | zero => exact absurd HA.out (by simp [atriumref19_may.j1])
          | succ kj14 =>
            have H := HA.out
            clear HA
            simp only [atriumref19_may.j1] at H
            by_cases c36 : x58_14 = true
            · subst c36
              have H1 : (some false) = some r := by rw [if_pos rfl] at H; exact H
              clear H
              have H := H1
              clear H1
              obtain rfl := Option.some.inj H
              go_wp2
              go_ret
              exact ⟨by first | rfl | (simp [errW_none, errW_some] <;> rfl) | (simp [*, errW_none, errW_some] <;> rfl), by repeat (first | (with_reducible first | exact HB.out | apply below_alloc | apply pw_below_drewN | apply below_drew1 | refine below_set ?_ GE131.out) | exact HB.out)⟩
            · replace c36 := Bool.eq_false_iff.mpr c36
              subst c36
              have H1 : ((atriumref15_Token.f kj14 a0_0).bind fun t132 => (if t132 = true then ((atriumref19_octets.f kj14 a0_1).bind fun t133 => (if t133 = true then (if a0_7.toList = ([] : List UInt8) then (some true) else (if a0_7.toList = ([83, 116, 114, 105, 99, 116] : List UInt8) then (some true) else (if a0_7.toList = ([76, 97, 120] : List UInt8) then (some true) else (some (a0_7.toList == ([78, 111, 110, 101] : List UInt8)))))) else (some false))) else (some false))) = some r := by rw [if_neg (show ¬ (false = true) by decide)] at H; exact H
              clear H
              have H := H1
              clear H1
              replace H := Option.bind_eq_some_iff.mp H
              obtain ⟨t132, A370, H⟩ := H
              replace H : (if t132 = true then ((atriumref19_octets.f kj14 a0_1).bind fun t133 => (if t133 = true then (if a0_7.toList = ([] : List UInt8) then (some true) else (if a0_7.toList = ([83, 116, 114, 105, 99, 116] : List UInt8) then (some true) else (if a0_7.toList = ([76, 97, 120] : List UInt8) then (some true) else (some (a0_7.toList == ([78, 111, 110, 101] : List UInt8)))))) else (some false))) else (some false)) = some r := H
              have A37 := Aside0.mk A370
              clear A370
              by_cases c38 : t132 = true
              · subst c38
                have H1 : ((atriumref19_octets.f kj14 a0_1).bind fun t133 => (if t133 = true then (if a0_7.toList = ([] : List UInt8) then (some true) else (if a0_7.toList = ([83, 116, 114, 105, 99, 116] : List UInt8) then (some true) else (if a0_7.toList = ([76, 97, 120] : List UInt8) then (some true) else (some (a0_7.toList == ([78, 111, 110, 101] : List UInt8)))))) else (some false))) = some r := by rw [if_pos rfl] at H; exact H
                clear H
                have H := H1
                clear H1
                replace H := Option.bind_eq_some_iff.mp H
                obtain ⟨t133, A390, H⟩ := H
                replace H : (if t133 = true then (if a0_7.toList = ([] : List UInt8) then (some true) else (if a0_7.toList = ([83, 116, 114, 105, 99, 116] : List UInt8) then (some true) else (if a0_7.toList = ([76, 97, 120] : List UInt8) then (some true) else (some (a0_7.toList == ([78, 111, 110, 101] : List UInt8)))))) else (some false)) = some r := H
                have A39 := Aside0.mk A390
                clear A390
                by_cases c40 : t133 = true
                · subst c40
                  have H1 : (if a0_7.toList = ([] : List UInt8) then (some true) else (if a0_7.toList = ([83, 116, 114, 105, 99, 116] : List UInt8) then (some true) else (if a0_7.toList = ([76, 97, 120] : List UInt8) then (some true) else (some (a0_7.toList == ([78, 111, 110, 101] : List UInt8)))))) = some r := by rw [if_pos rfl] at H; exact H
                  clear H
                  have H := H1
                  clear H1
                  by_cases c41 : a0_7.toList = ([] : List UInt8)
                  · rw [if_pos c41] at H
                    have c41b0 : (a0_7.toList == ([] : List UInt8)) = true := beq_iff_eq.mpr c41
                    have c41b1 : (a0_7.toList != ([] : List UInt8)) = false := bne_eq_false_iff_eq.mpr c41
                    clear c41
                    obtain rfl := Option.some.inj H
                    have hcz42_0 : wc.cell? ⟨gb131, 0, none⟩ = some (.string a0_0) := (blk_cell BK131.out 0).trans rfl
                    have hcz42_1 : wc.cell? ⟨gb131, 1, none⟩ = some (.string a0_1) := (blk_cell BK131.out 1).trans rfl
                    have hcz42_2 : wc.cell? ⟨gb131, 2, none⟩ = some (.string a0_2) := (blk_cell BK131.out 2).trans rfl
                    have hcz42_3 : wc.cell? ⟨gb131, 3, none⟩ = some (.int .i64 a0_3) := (blk_cell BK131.out 3).trans rfl
                    have hcz42_4 : wc.cell? ⟨gb131, 4, none⟩ = some (.bool a0_4) := (blk_cell BK131.out 4).trans rfl
                    have hcz42_5 : wc.cell? ⟨gb131, 5, none⟩ = some (.bool a0_5) := (blk_cell BK131.out 5).trans rfl
                    have hcz42_6 : wc.cell? ⟨gb131, 6, none⟩ = some (.bool a0_6) := (blk_cell BK131.out 6).trans rfl
                    have hcz42_7 : wc.cell? ⟨gb131, 7, none⟩ = some (.string a0_7) := (blk_cell BK131.out 7).trans rfl
                    have hfz42_0 := blk_frozen BK131.out 0
                    have hfz42_1 := blk_frozen BK131.out 1
                    have hfz42_2 := blk_frozen BK131.out 2
                    have hfz42_3 := blk_frozen BK131.out 3
                    have hfz42_4 := blk_frozen BK131.out 4
                    have hfz42_5 := blk_frozen BK131.out 5
                    have hfz42_6 := blk_frozen BK131.out 6
                    have hfz42_7 := blk_frozen BK131.out 7
                    go_wp2_with (first | ((with_reducible refine gate_callee (f := 28) rfl ?_); refine goesL_ (some 61) rfl rfl Tryd.func28 (by kernel_rfl) rfl #[.string a0_0] rfl (by (try simp only [List.map_toArray, List.map_cons, List.map_nil]); first | done | rfl | (simp only [List.length_drop, List.length_take]; rfl)) ?_; (with_reducible refine (atriumref15_Token.calls kj14 a0_0 true _ A37.out).mono ?_); rintro e w' ⟨rfl, ⟨nd, rfl⟩⟩; refine ⟨_, rfl, ?_⟩) | (go_at_call 29; (with_reducible refine (atriumref19_octets.calls kj14 a0_1 true _ A39.out).mono ?_); rintro e w' ⟨rfl, ⟨nd, rfl⟩⟩))
                    go_ret
                    exact ⟨by first | rfl | (simp [errW_none, errW_some] <;> rfl) | (simp [*, errW_none, errW_some] <;> rfl), by repeat (first | (with_reducible first | exact HB.out | apply below_alloc | apply pw_below_drewN | apply below_drew1 | refine below_set ?_ GE131.out) | exact HB.out)⟩
                  · rw [if_neg c41] at H
                    have c41b0 : (a0_7.toList == ([] : List UInt8)) = false := beq_eq_false_iff_ne.mpr c41
                    have c41b1 : (a0_7.toList != ([] : List UInt8)) = true := bne_iff_ne.mpr c41
                    by_cases c43 : a0_7.toList = ([83, 116, 114, 105, 99, 116] : List UInt8)
                    · rw [if_pos c43] at H
                      have c43b0 : (a0_7.toList == ([83, 116, 114, 105, 99, 116] : List UInt8)) = true := beq_iff_eq.mpr c43
                      have c43b1 : (a0_7.toList != ([83, 116, 114, 105, 99, 116] : List UInt8)) = false := bne_eq_false_iff_eq.mpr c43
                      clear c43
                      obtain rfl := Option.some.inj H
                      have hcz44_0 : wc.cell? ⟨gb131, 0, none⟩ = some (.string a0_0) := (blk_cell BK131.out 0).trans rfl
                      have hcz44_1 : wc.cell? ⟨gb131, 1, none⟩ = some (.string a0_1) := (blk_cell BK131.out 1).trans rfl
                      have hcz44_2 : wc.cell? ⟨gb131, 2, none⟩ = some (.string a0_2) := (blk_cell BK131.out 2).trans rfl
                      have hcz44_3 : wc.cell? ⟨gb131, 3, none⟩ = some (.int .i64 a0_3) := (blk_cell BK131.out 3).trans rfl
                      have hcz44_4 : wc.cell? ⟨gb131, 4, none⟩ = some (.bool a0_4) := (blk_cell BK131.out 4).trans rfl
                      have hcz44_5 : wc.cell? ⟨gb131, 5, none⟩ = some (.bool a0_5) := (blk_cell BK131.out 5).trans rfl
                      have hcz44_6 : wc.cell? ⟨gb131, 6, none⟩ = some (.bool a0_6) := (blk_cell BK131.out 6).trans rfl
                      have hcz44_7 : wc.cell? ⟨gb131, 7, none⟩ = some (.string a0_7) := (blk_cell BK131.out 7).trans rfl
                      have hfz44_0 := blk_frozen BK131.out 0
                      have hfz44_1 := blk_frozen BK131.out 1
                      have hfz44_2 := blk_frozen BK131.out 2
                      have hfz44_3 := blk_frozen BK131.out 3
                      have hfz44_4 := blk_frozen BK131.out 4
                      have hfz44_5 := blk_frozen BK131.out 5
                      have hfz44_6 := blk_frozen BK131.out 6
                      have hfz44_7 := blk_frozen BK131.out 7
                      go_wp2_with (first | ((with_reducible refine gate_callee (f := 28) rfl ?_); refine goesL_ (some 61) rfl rfl Tryd.func28 (by kernel_rfl) rfl #[.string a0_0] rfl (by (try simp only [List.map_toArray, List.map_cons, List.map_nil]); first | done | rfl | (simp only [List.length_drop, List.length_take]; rfl)) ?_; (with_reducible refine (atriumref15_Token.calls kj14 a0_0 true _ A37.out).mono ?_); rintro e w' ⟨rfl, ⟨nd, rfl⟩⟩; refine ⟨_, rfl, ?_⟩) | (go_at_call 29; (with_reducible refine (atriumref19_octets.calls kj14 a0_1 true _ A39.out).mono ?_); rintro e w' ⟨rfl, ⟨nd, rfl⟩⟩))
                      go_ret
                      exact ⟨by first | rfl | (simp [errW_none, errW_some] <;> rfl) | (simp [*, errW_none, errW_some] <;> rfl), by repeat (first | (with_reducible first | exact HB.out | apply below_alloc | apply pw_below_drewN | apply below_drew1 | refine below_set ?_ GE131.out) | exact HB.out)⟩
                    · rw [if_neg c43] at H
                      have c43b0 : (a0_7.toList == ([83, 116, 114, 105, 99, 116] : List UInt8)) = false := beq_eq_false_iff_ne.mpr c43
                      have c43b1 : (a0_7.toList != ([83, 116, 114, 105, 99, 116] : List UInt8)) = true := bne_iff_ne.mpr c43
                      by_cases c45 : a0_7.toList = ([76, 97, 120] : List UInt8)
                      · rw [if_pos c45] at H
                        have c45b0 : (a0_7.toList == ([76, 97, 120] : List UInt8)) = true := beq_iff_eq.mpr c45
                        have c45b1 : (a0_7.toList != ([76, 97, 120] : List UInt8)) = false := bne_eq_false_iff_eq.mpr c45
                        clear c45
                        obtain rfl := Option.some.inj H
                        have hcz46_0 : wc.cell? ⟨gb131, 0, none⟩ = some (.string a0_0) := (blk_cell BK131.out 0).trans rfl
                        have hcz46_1 : wc.cell? ⟨gb131, 1, none⟩ = some (.string a0_1) := (blk_cell BK131.out 1).trans rfl
                        have hcz46_2 : wc.cell? ⟨gb131, 2, none⟩ = some (.string a0_2) := (blk_cell BK131.out 2).trans rfl
                        have hcz46_3 : wc.cell? ⟨gb131, 3, none⟩ = some (.int .i64 a0_3) := (blk_cell BK131.out 3).trans rfl
                        have hcz46_4 : wc.cell? ⟨gb131, 4, none⟩ = some (.bool a0_4) := (blk_cell BK131.out 4).trans rfl
                        have hcz46_5 : wc.cell? ⟨gb131, 5, none⟩ = some (.bool a0_5) := (blk_cell BK131.out 5).trans rfl
                        have hcz46_6 : wc.cell? ⟨gb131, 6, none⟩ = some (.bool a0_6) := (blk_cell BK131.out 6).trans rfl
                        have hcz46_7 : wc.cell? ⟨gb131, 7, none⟩ = some (.string a0_7) := (blk_cell BK131.out 7).trans rfl
                        have hfz46_0 := blk_frozen BK131.out 0
                        have hfz46_1 := blk_frozen BK131.out 1
                        have hfz46_2 := blk_frozen BK131.out 2
                        have hfz46_3 := blk_frozen BK131.out 3
                        have hfz46_4 := blk_frozen BK131.out 4
                        have hfz46_5 := blk_frozen BK131.out 5
                        have hfz46_6 := blk_frozen BK131.out 6
                        have hfz46_7 := blk_frozen BK131.out 7
                        go_wp2_with (first | ((with_reducible refine gate_callee (f := 28) rfl ?_); refine goesL_ (some 61) rfl rfl Tryd.func28 (by kernel_rfl) rfl #[.string a0_0] rfl (by (try simp only [List.map_toArray, List.map_cons, List.map_nil]); first | done | rfl | (simp only [List.length_drop, List.length_take]; rfl)) ?_; (with_reducible refine (atriumref15_Token.calls kj14 a0_0 true _ A37.out).mono ?_); rintro e w' ⟨rfl, ⟨nd, rfl⟩⟩; refine ⟨_, rfl, ?_⟩) | (go_at_call 29; (with_reducible refine (atriumref19_octets.calls kj14 a0_1 true _ A39.out).mono ?_); rintro e w' ⟨rfl, ⟨nd, rfl⟩⟩))
                        go_ret
                        exact ⟨by first | rfl | (simp [errW_none, errW_some] <;> rfl) | (simp [*, errW_none, errW_some] <;> rfl), by repeat (first | (with_reducible first | exact HB.out | apply below_alloc | apply pw_below_drewN | apply below_drew1 | refine below_set ?_ GE131.out) | exact HB.out)⟩
                      · rw [if_neg c45] at H
                        have c45b0 : (a0_7.toList == ([76, 97, 120] : List UInt8)) = false := beq_eq_false_iff_ne.mpr c45
                        have c45b1 : (a0_7.toList != ([76, 97, 120] : List UInt8)) = true := bne_iff_ne.mpr c45
                        obtain rfl := Option.some.inj H
                        have hcz47_0 : wc.cell? ⟨gb131, 0, none⟩ = some (.string a0_0) := (blk_cell BK131.out 0).trans rfl
                        have hcz47_1 : wc.cell? ⟨gb131, 1, none⟩ = some (.string a0_1) := (blk_cell BK131.out 1).trans rfl
                        have hcz47_2 : wc.cell? ⟨gb131, 2, none⟩ = some (.string a0_2) := (blk_cell BK131.out 2).trans rfl
                        have hcz47_3 : wc.cell? ⟨gb131, 3, none⟩ = some (.int .i64 a0_3) := (blk_cell BK131.out 3).trans rfl
                        have hcz47_4 : wc.cell? ⟨gb131, 4, none⟩ = some (.bool a0_4) := (blk_cell BK131.out 4).trans rfl
                        have hcz47_5 : wc.cell? ⟨gb131, 5, none⟩ = some (.bool a0_5) := (blk_cell BK131.out 5).trans rfl
                        have hcz47_6 : wc.cell? ⟨gb131, 6, none⟩ = some (.bool a0_6) := (blk_cell BK131.out 6).trans rfl
                        have hcz47_7 : wc.cell? ⟨gb131, 7, none⟩ = some (.string a0_7) := (blk_cell BK131.out 7).trans rfl
                        have hfz47_0 := blk_frozen BK131.out 0
                        have hfz47_1 := blk_frozen BK131.out 1
                        have hfz47_2 := blk_frozen BK131.out 2
                        have hfz47_3 := blk_frozen BK131.out 3
                        have hfz47_4 := blk_frozen BK131.out 4
                        have hfz47_5 := blk_frozen BK131.out 5
                        have hfz47_6 := blk_frozen BK131.out 6
                        have hfz47_7 := blk_frozen BK131.out 7
                        go_wp2_with (first | ((with_reducible refine gate_callee (f := 28) rfl ?_); refine goesL_ (some 61) rfl rfl Tryd.func28 (by kernel_rfl) rfl #[.string a0_0] rfl (by (try simp only [List.map_toArray, List.map_cons, List.map_nil]); first | done | rfl | (simp only [List.length_drop, List.length_take]; rfl)) ?_; (with_reducible refine (atriumref15_Token.calls kj14 a0_0 true _ A37.out).mono ?_); rintro e w' ⟨rfl, ⟨nd, rfl⟩⟩; refine ⟨_, rfl, ?_⟩) | (go_at_call 29; (with_reducible refine (atriumref19_octets.calls kj14 a0_1 true _ A39.out).mono ?_); rintro e w' ⟨rfl, ⟨nd, rfl⟩⟩))
                        go_ret
                        exact ⟨by first | rfl | (simp [errW_none, errW_some] <;> rfl) | (simp [*, errW_none, errW_some] <;> rfl), by repeat (first | (with_reducible first | exact HB.out | apply below_alloc | apply pw_below_drewN | apply below_drew1 | refine below_set ?_ GE131.out) | exact HB.out)⟩
                · replace c40 := Bool.eq_false_iff.mpr c40
                  subst c40
                  have H1 : (some false) = some r := by rw [if_neg (show ¬ (false = true) by decide)] at H; exact H
                  clear H
                  have H := H1
                  clear H1
                  obtain rfl := Option.some.inj H
                  have hcz48_0 : wc.cell? ⟨gb131, 0, none⟩ = some (.string a0_0) := (blk_cell BK131.out 0).trans rfl
                  have hcz48_1 : wc.cell? ⟨gb131, 1, none⟩ = some (.string a0_1) := (blk_cell BK131.out 1).trans rfl
                  have hcz48_2 : wc.cell? ⟨gb131, 2, none⟩ = some (.string a0_2) := (blk_cell BK131.out 2).trans rfl
                  have hcz48_3 : wc.cell? ⟨gb131, 3, none⟩ = some (.int .i64 a0_3) := (blk_cell BK131.out 3).trans rfl
                  have hcz48_4 : wc.cell? ⟨gb131, 4, none⟩ = some (.bool a0_4) := (blk_cell BK131.out 4).trans rfl
                  have hcz48_5 : wc.cell? ⟨gb131, 5, none⟩ = some (.bool a0_5) := (blk_cell BK131.out 5).trans rfl
                  have hcz48_6 : wc.cell? ⟨gb131, 6, none⟩ = some (.bool a0_6) := (blk_cell BK131.out 6).trans rfl
                  have hcz48_7 : wc.cell? ⟨gb131, 7, none⟩ = some (.string a0_7) := (blk_cell BK131.out 7).trans rfl
                  have hfz48_0 := blk_frozen BK131.out 0
                  have hfz48_1 := blk_frozen BK131.out 1
                  have hfz48_2 := blk_frozen BK131.out 2
                  have hfz48_3 := blk_frozen BK131.out 3
                  have hfz48_4 := blk_frozen BK131.out 4
                  have hfz48_5 := blk_frozen BK131.out 5
                  have hfz48_6 := blk_frozen BK131.out 6
                  have hfz48_7 := blk_frozen BK131.out 7
                  go_wp2_with (first | ((with_reducible refine gate_callee (f := 28) rfl ?_); refine goesL_ (some 61) rfl rfl Tryd.func28 (by kernel_rfl) rfl #[.string a0_0] rfl (by (try simp only [List.map_toArray, List.map_cons, List.map_nil]); first | done | rfl | (simp only [List.length_drop, List.length_take]; rfl)) ?_; (with_reducible refine (atriumref15_Token.calls kj14 a0_0 true _ A37.out).mono ?_); rintro e w' ⟨rfl, ⟨nd, rfl⟩⟩; refine ⟨_, rfl, ?_⟩) | (go_at_call 29; (with_reducible refine (atriumref19_octets.calls kj14 a0_1 false _ A39.out).mono ?_); rintro e w' ⟨rfl, ⟨nd, rfl⟩⟩))
                  go_ret
                  exact ⟨by first | rfl | (simp [errW_none, errW_some] <;> rfl) | (simp [*, errW_none, errW_some] <;> rfl), by repeat (first | (with_reducible first | exact HB.out | apply below_alloc | apply pw_below_drewN | apply below_drew1 | refine below_set ?_ GE131.out) | exact HB.out)⟩
              · replace c38 := Bool.eq_false_iff.mpr c38
                subst c38
                have H1 : (some false) = some r := by rw [if_neg (show ¬ (false = true) by decide)] at H; exact H
                clear H
                have H := H1
                clear H1
                obtain rfl := Option.some.inj H
                have hcz49_0 : wc.cell? ⟨gb131, 0, none⟩ = some (.string a0_0) := (blk_cell BK131.out 0).trans rfl
                have hcz49_1 : wc.cell? ⟨gb131, 1, none⟩ = some (.string a0_1) := (blk_cell BK131.out 1).trans rfl
                have hcz49_2 : wc.cell? ⟨gb131, 2, none⟩ = some (.string a0_2) := (blk_cell BK131.out 2).trans rfl
                have hcz49_3 : wc.cell? ⟨gb131, 3, none⟩ = some (.int .i64 a0_3) := (blk_cell BK131.out 3).trans rfl
                have hcz49_4 : wc.cell? ⟨gb131, 4, none⟩ = some (.bool a0_4) := (blk_cell BK131.out 4).trans rfl
                have hcz49_5 : wc.cell? ⟨gb131, 5, none⟩ = some (.bool a0_5) := (blk_cell BK131.out 5).trans rfl
                have hcz49_6 : wc.cell? ⟨gb131, 6, none⟩ = some (.bool a0_6) := (blk_cell BK131.out 6).trans rfl
                have hcz49_7 : wc.cell? ⟨gb131, 7, none⟩ = some (.string a0_7) := (blk_cell BK131.out 7).trans rfl
                have hfz49_0 := blk_frozen BK131.out 0
                have hfz49_1 := blk_frozen BK131.out 1
                have hfz49_2 := blk_frozen BK131.out 2
                have hfz49_3 := blk_frozen BK131.out 3
                have hfz49_4 := blk_frozen BK131.out 4
                have hfz49_5 := blk_frozen BK131.out 5
                have hfz49_6 := blk_frozen BK131.out 6
                have hfz49_7 := blk_frozen BK131.out 7
                go_wp2_with (first | ((with_reducible refine gate_callee (f := 28) rfl ?_); refine goesL_ (some 61) rfl rfl Tryd.func28 (by kernel_rfl) rfl #[.string a0_0] rfl (by (try simp only [List.map_toArray, List.map_cons, List.map_nil]); first | done | rfl | (simp only [List.length_drop, List.length_take]; rfl)) ?_; (with_reducible refine (atriumref15_Token.calls kj14 a0_0 false _ A37.out).mono ?_); rintro e w' ⟨rfl, ⟨nd, rfl⟩⟩; refine ⟨_, rfl, ?_⟩))
                go_ret
                exact ⟨by first | rfl | (simp [errW_none, errW_some] <;> rfl) | (simp [*, errW_none, errW_some] <;> rfl), by repeat (first | (with_reducible first | exact HB.out | apply below_alloc | apply pw_below_drewN | apply below_drew1 | refine below_set ?_ GE131.out) | exact HB.out)⟩

end Go.Proofs.YtgnibfideghklaaDoor.PCookieReads
