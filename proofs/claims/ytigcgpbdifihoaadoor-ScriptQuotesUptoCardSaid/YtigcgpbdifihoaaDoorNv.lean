/-
  Chapter 28: a quoted text taken, walked.
-/
import Derived.Test.YtigcgpbdifihoaaDoorNu
import Derived.Test.YtigcgpbdifihoaaDoorHd
import Derived.Deep.RegionHeld3
import Derived.WalkMore
set_option linter.unusedVariables false
set_option linter.unusedSimpArgs false
namespace Go.Proofs.YtigcgpbdifihoaaDoor
open Go.RowKit Go.Proofs.YtigcgpbdifihoaaDoorW.PrintWords Go.Proofs.YtigcgpbdifihoaaDoor.PScriptQuotes Go.Proofs.YtigcgpbdifihoaaDoor.Hd
def hexL : List UInt8 := [48, 49, 50, 51, 52, 53, 54, 55, 56, 57, 97, 98, 99, 100, 101, 102]
theorem ix_dig (c : UInt8) : Lib.indexByte hexL c = digI c := by
  have h : ∀ n, n < 256 → Lib.indexByte hexL (UInt8.ofNat n) = digI (UInt8.ofNat n) := by decide +kernel
  have := h c.toNat (UInt8.toNat_lt c)
  simpa using this
theorem ixb_any (c : UInt8) (w : World) : Calls Tryd.prog 46 #[.string ⟨#[48, 49, 50, 51, 52, 53, 54, 55, 56, 57, 97, 98, 99, 100, 101, 102]⟩, .int .u8 (c.toNat : Int)] w fun e w' => e = .returned (.int .i64 (digI c)) ∧ w' = w := by
  refine (Tryd.strings_IndexByte _ _ w).mono fun e w' h => ⟨?_, h.2⟩
  rw [h.1]
  have e1 : (Int.toNat (c.toNat : Int)).toUInt8 = c := by simp
  rw [e1]
  have e2 : Lib.indexByte hexL c = digI c := ix_dig c
  rw [← e2]
  rfl
theorem conv_row {w : World} {C : Nat} {v : Value} {l : List UInt8} (h : Row w C v l) : (convert 59 9 v).run Tryd.prog w = .ok (.string (B l)) w := by
  obtain ⟨A, c, rfl, hr, _⟩ := h.rd
  exact conv_rd c hr
/-- What a text begins with. -/
def TK (s : List UInt8) : Option (List UInt8 × List UInt8) → Prop
  | some (b, r) => s = quoteL b ++ r
  | none => ¬ Qd s
def takeV (s : List UInt8) : Option (List UInt8 × List UInt8) → Value
  | some (b, r) => .tuple #[.string (B b), .string (B r), .bool true]
  | none => .tuple #[.string ⟨#[]⟩, .string (B s), .bool false]
def TakeP (s : List UInt8) (w : World) (e : Ending) (w' : World) : Prop := ∃ o, TK s o ∧ e = .returned (takeV s o) ∧ Below w.heap.size w w'
theorem take_none {s : List UInt8} {w w' : World} {e : Ending} (h : ¬ Qd s) (he : e = .returned (.tuple #[.string ⟨#[]⟩, .string (B s), .bool false])) (hb : Below w.heap.size w w') : TakeP s w e w' := ⟨none, h, he, hb⟩
theorem run_off {l P D R : List UInt8} {c : UInt8} (h : l = P ++ (D ++ c :: R)) (n : Int) (hn : n = D.length) (w : World) : (Instr.index 9 (.string (B l)) (.int .i64 ((P.length : Nat) + n))).run Tryd.prog w = .ok (.int .u8 (c.toNat : Int)) w := by
  have := run_at (l := l) (P := P ++ D) (R := R) (c := c) (by rw [h]; simp) w
  rw [List.length_append] at this
  rw [hn, ← this]
  rfl
/-- The bytes of one's own that were read, in a world further on. -/
def TW (w : World) (v : Value) (q : List UInt8) (V : World) : Prop := Row V w.heap.size v q ∧ Below w.heap.size w V
theorem TW.conv {w V : World} {v : Value} {q : List UInt8} (h : TW w v q V) : (convert 59 9 v).run Tryd.prog V = .ok (.string (B q)) V := conv_row h.1
theorem TW.next {w V V2 : World} {v : Value} {q : List UInt8} (h : TW w v q V) (hb : Below V.heap.size V V2) : TW w v q V2 := ⟨h.1.below hb, h.2.trans (hb.mono h.2.size)⟩
theorem row_app {w : World} {C : Nat} {v : Value} {q : List UInt8} {c : UInt8} (h : Row w C v (q ++ [c])) : Row w C v (q ++ [c]) := h
section
variable {ops : Array Oper} {rest : List Oper} {o : Oper} {a : Act} {Q : Exit → Act → World → Prop}
theorem w_append_lit {w0 W : World} (C : Nat) (hgd : o.guard = none) (s x : Operand)
    (ho : o.op = .call { callee := .builtin .append, args := #[s, x], argTypes := #[59, 59] })
    {v : Value} {l : List UInt8} (b : UInt8) (bi : Int) (hbi : bi = (b.toNat : Int)) (hs : a.eval s = v) (hx : a.eval x = .slice (some ⟨W.heap.size, 0, none⟩) 1 1)
    (HO : Row W C v l) (HB : Below C w0 W) (hB : C ≤ W.heap.size) (hl : l.length + 1 ≤ 140737488355328)
    (h : ∀ v1 w1, Hid (Row w1 C v1 (l ++ [b])) → Hid (Below C w0 w1) → Hid (W.grownBy w1 v.ownBlock) → wpList Tryd.prog ops Q rest (a.put o.dst v1) w1) :
    wpList Tryd.prog ops Q (o :: rest) a (W.alloc (.cells #[.int .u8 bi] 5)) := by
  subst hbi
  exact w_append_one C hgd s x ho b hs hx HO HB hB hl h
end
theorem or_hex (a b : Nat) (ha : a < 16) (hb : b < 16) : bits BinOp.or IntKind.i64 ((a : Int) * 16) (b : Int) % 256 = ((UInt8.ofNat (16 * a + b)).toNat : Int) := by
  have h : ∀ a : Nat, a < 16 → ∀ b : Nat, b < 16 → bits BinOp.or IntKind.i64 ((a : Int) * 16) (b : Int) % 256 = ((UInt8.ofNat (16 * a + b)).toNat : Int) := by decide +kernel
  exact h a ha b hb
set_option maxHeartbeats 2000000 in
set_option maxRecDepth 100000 in
theorem take_any (s : List UInt8) (hs : s.length < 100000000) (w : World) :
    Calls Tryd.prog 28 #[.string (B s)] w (TakeP s w) := by
  have rs := B_size s
  have hm : (B s).size ≤ maxLen := by unfold maxLen; omega
  cases hp : Lib.hasPrefix s [34] with
  | false =>
    have hn : ¬ Qd s := by
      rintro ⟨b, r, e⟩
      rw [e, quoteL] at hp
      simp [Lib.hasPrefix] at hp
    replace hn := Lib.hid hn
    have hP : Calls Tryd.prog 45 #[.string (B s), .string ⟨#[34]⟩] w fun e w' => e = .returned (.bool false) ∧ w = w' := by
      refine (Tryd.strings_HasPrefix _ _ w).mono fun e w' h => ⟨?_, h.2.symm⟩
      rw [h.1, B_data]
      exact congrArg (fun b => Ending.returned (.bool b)) hp
    replace hP := Lib.hid hP
    clear hp
    go_enter Tryd.func28, Tryd.ntmps28
    go_wp2
    go_step3
    go_wp2_with (first | (go_at_call 45; go_must (refine hP.out.mono ?_; rintro e w' ⟨rfl, rfl⟩)))
    (try rw [Exit.noGoto_ret])
    go_ret3
    exact take_none hn.out rfl (Below.refl _ _)
  | true =>
    obtain ⟨R0, hR0⟩ : ∃ R0, s = 34 :: R0 := by
      cases s with
      | nil => simp [Lib.hasPrefix] at hp
      | cons c R =>
        refine ⟨R, ?_⟩
        simp [Lib.hasPrefix] at hp
        rw [hp]
    have hP : Calls Tryd.prog 45 #[.string (B s), .string ⟨#[34]⟩] w fun e w' => e = .returned (.bool true) ∧ w = w' := by
      refine (Tryd.strings_HasPrefix _ _ w).mono fun e w' h => ⟨?_, h.2.symm⟩
      rw [h.1, B_data]
      exact congrArg (fun b => Ending.returned (.bool b)) hp
    replace hP := Lib.hid hP
    replace hR0 := Lib.hid hR0
    clear hp
    go_enter Tryd.func28, Tryd.ntmps28
    go_wp2
    go_step3
    go_wp2_with (first | (go_at_call 45; go_must (refine hP.out.mono ?_; rintro e w' ⟨rfl, rfl⟩)))
    go_step3
    go_wp2
    have hrow0 := Lib.hid (Row.nil w w.heap.size)
    have hI0 : Inv s R0 [] := by rw [hR0.out]; exact inv_start
    replace hI0 := Lib.hid hI0
    go_loopw [5, 6] (fun v i wr => ∃ P R q, s = P ++ R ∧ i = .int .i64 (P.length : Nat) ∧ 1 ≤ P.length ∧ q.length ≤ P.length ∧ Hid (Row wr w.heap.size v q) ∧ Hid (Below w.heap.size w wr) ∧ Hid (Inv s R q)) (fun _ i _ => s.length - (intOf i).toNat)
    case atStart => exact ⟨[34], R0, [], hR0.out, rfl, by simp, by simp, hrow0, Lib.hid (Below.refl _ _), hI0⟩
    case round =>
      clear hrow0 hI0 hR0 hP
      rename World => wr
      obtain ⟨P, R, q, hl, rfl, h1, hq, hv, hb, hI⟩ := hrel
      cases R with
      | nil =>
        have hn := Lib.hid (inv_nil hI.out)
        have e : s.length = P.length := by rw [hl]; simp
        clear hl hI
        go_upto_region 21 with (fail)
        go_quiet (fail)
        go_wp2
        (try rw [Exit.noGoto_ret])
        go_ret3
        exact take_none hn.out rfl (pw_below_drewN hb.out _)
      | cons c R =>
        have hn : P.length + 1 + R.length = s.length := by rw [hl]; simp; omega
        have hx := fun W => run_at hl W
        by_cases h34 : c = 34
        · subst h34
          have hxx : (P ++ [34]).length = P.length + 1 := by simp
          have hs1 : (B s).extract 0 (P.length + 1) = B (P ++ [34]) := by rw [B_take, hl, show P ++ 34 :: R = (P ++ [34]) ++ R by simp]; exact congrArg B (List.take_left' hxx)
          have hql := quote_len q
          have hQ : ∀ W, TW w u5 q W → Calls Tryd.prog 12 #[.string (B q)] W fun e w' => e = .returned (.string (B (quoteL q))) ∧ TW w u5 q w' := fun W hb => (quote_any q (by omega) W).mono fun e w' h => ⟨h.1, hb.next h.2⟩
          replace hQ := Lib.hid hQ
          replace hl := Lib.hid hl
          have hs2 : (B s).extract (P.length + 1) (B s).size = B R := by rw [B_drop, hl.out, show P ++ 34 :: R = (P ++ [34]) ++ R by simp]; exact congrArg B (List.drop_left' hxx)
          replace hs2 := Lib.hid hs2
          have hle : P.length + 1 ≤ (B s).size := by rw [rs]; omega
          go_upto_region 21 with (fail)
          by_cases hqe : quoteL q = P ++ [34]
          · have k1 : ((B (quoteL q)).toList == (B (P ++ [34])).toList) = true := by rw [hqe]; exact beq_self_eq_true _
            have k2 : ((B (quoteL q)).toList != (B (P ++ [34])).toList) = false := by rw [bne, k1]; rfl
            go_cut [116] (fun x V => x = .bool false ∧ TW w u5 q V)
            case first =>
              have hd : decide (s.length ≤ P.length) = false := decide_eq_false (by omega)
              have hH0 : Hid (TW w u5 q wr.drew) := Lib.hid ⟨Row.drewN hv.out 1, Below.drew hb.out⟩
              have i1 : IntKind.i64.wrap ((P.length : Int) + 1) = (P.length : Int) + 1 := IntWalk.i64_in _ (by omega)
              have i2 : (0 : Int) ≤ (P.length : Int) + 1 := by omega
              have i3 : (P.length : Int) + 1 ≤ (s.length : Int) := by omega
              have i4 : ((P.length : Int) + 1).toNat = P.length + 1 := by omega
              go_region_held3 (fun V => (convert 59 9 u5).run Tryd.prog V = .ok (.string (B q)) V ∧ TW w u5 q V) (first | exact ⟨hH0.out.conv, hH0.out⟩ | exact ⟨TW.conv (by assumption), by assumption⟩ | assumption) (first | (go_at_call 12; refine (hQ.out _ (And.right (by assumption))).mono ?_; rintro e4 w4 ⟨rfl, hb4⟩))
              all_goals (try go_wp2)
              all_goals go_meet
              all_goals exact ⟨rfl, And.right (by assumption)⟩
            case rest =>
              obtain ⟨rfl, hT⟩ := hcut
              rename World => V
              have hcv : ∀ k, (convert 59 9 u5).run Tryd.prog (V.drewN k) = .ok (.string (B q)) (V.drewN k) := fun k => (TW.next hT (pw_below_drewN (Below.refl _ _) k)).conv
              replace hT := Lib.hid hT
              clear hI hv hb hQ k1 k2
              have i1 : IntKind.i64.wrap ((P.length : Int) + 1) = (P.length : Int) + 1 := IntWalk.i64_in _ (by omega)
              have i2 : (0 : Int) ≤ (P.length : Int) + 1 := by omega
              have i3 : (P.length : Int) + 1 ≤ (s.length : Int) := by omega
              have i4 : ((P.length : Int) + 1).toNat = P.length + 1 := by omega
              go_wp2
              go_quiet (fail)
              go_wp2
              (try rw [Exit.noGoto_ret])
              go_ret3
              exact ⟨some (q, R), by rw [hl.out, TK, hqe]; simp, by show Ending.returned (.tuple #[.string (B q), .string ((B s).extract (P.length + 1) s.length), .bool true]) = _; rw [← rs, hs2.out]; rfl, pw_below_drewN hT.out.2 _⟩
          · have hn : ¬ Qd s := by
              rintro ⟨b0, r0, e⟩
              have := inv_end hI.out b0 r0 e
              rw [e, this.1, this.2] at hl
              have h2 := hl.out
              have h3 : quoteL q ++ R = (P ++ [34]) ++ R := by rw [h2]; simp
              exact hqe (List.append_cancel_right h3)
            have k1 : ((B (quoteL q)).toList == (B (P ++ [34])).toList) = false := by
              rw [B_toList, B_toList]
              exact beq_eq_false_iff_ne.2 hqe
            have k2 : ((B (quoteL q)).toList != (B (P ++ [34])).toList) = true := by rw [bne, k1]; rfl
            replace hn := Lib.hid hn
            go_cut [116] (fun x V => x = .bool true ∧ TW w u5 q V)
            case first =>
              have hd : decide (s.length ≤ P.length) = false := decide_eq_false (by omega)
              have hH0 : Hid (TW w u5 q wr.drew) := Lib.hid ⟨Row.drewN hv.out 1, Below.drew hb.out⟩
              have i1 : IntKind.i64.wrap ((P.length : Int) + 1) = (P.length : Int) + 1 := IntWalk.i64_in _ (by omega)
              have i2 : (0 : Int) ≤ (P.length : Int) + 1 := by omega
              have i3 : (P.length : Int) + 1 ≤ (s.length : Int) := by omega
              have i4 : ((P.length : Int) + 1).toNat = P.length + 1 := by omega
              go_region_held3 (fun V => (convert 59 9 u5).run Tryd.prog V = .ok (.string (B q)) V ∧ TW w u5 q V) (first | exact ⟨hH0.out.conv, hH0.out⟩ | exact ⟨TW.conv (by assumption), by assumption⟩ | assumption) (first | (go_at_call 12; refine (hQ.out _ (And.right (by assumption))).mono ?_; rintro e4 w4 ⟨rfl, hb4⟩))
              all_goals (try go_wp2)
              all_goals go_meet
              all_goals exact ⟨rfl, And.right (by assumption)⟩
            case rest =>
              obtain ⟨rfl, hT⟩ := hcut
              replace hT := Lib.hid hT
              clear hI hv hb hQ k1 k2
              go_wp2
              (try rw [Exit.noGoto_ret])
              go_ret3
              exact take_none hn.out rfl hT.out.2
        · have g1 : ((c.toNat : Int) == 34) = false := beq_eq_false_iff_ne.2 fun e => h34 (u8_nat (Int.ofNat.inj e))
          by_cases h92 : c = 92
          · subst h92
            cases R with
            | nil =>
              have hn0 : ¬ Qd s := by
                rintro ⟨b0, r0, e⟩
                obtain ⟨b2, e1, h2⟩ := hI.out b0 r0 e
                cases b2 with
                | nil => simp at h2
                | cons x b3 =>
                  have h3 := congrArg List.length h2
                  have h4 : 1 ≤ (quB x).length := by unfold quB; split; simp; split <;> simp
                  simp at h3
                  omega
              replace hn0 := Lib.hid hn0
              clear hl hI
              rw [List.length_nil] at hn
              go_wp2
              (try rw [Exit.noGoto_ret])
              go_ret3
              exact take_none hn0.out rfl hb.out
            | cons d R =>
              have hd1 : ∀ W, (Instr.index 9 (.string (B s)) (.int .i64 ((P.length : Nat) + 1))).run Tryd.prog W = .ok (.int .u8 (d.toNat : Int)) W := fun W => run_off (D := [92]) (R := R) (by rw [hl]; simp) 1 rfl W
              rw [List.length_cons] at hn
              by_cases hd : d = 34 ∨ d = 92
              · have hI2 := Lib.hid (inv_esc hI.out (by rcases hd with rfl | rfl <;> decide))
                have hl2 : Hid (s = (P ++ [92, d]) ++ R) := Lib.hid (by rw [hl]; simp)
                clear hl hI
                have hend : ∀ v W, Hid (Row W w.heap.size v (q ++ [d])) → Hid (Below w.heap.size w W) → ∃ P' R' q', s = P' ++ R' ∧ Value.int .i64 ((P.length : Int) + 1 + 1) = .int .i64 (P'.length : Nat) ∧ 1 ≤ P'.length ∧ q'.length ≤ P'.length ∧ Hid (Row W w.heap.size v q') ∧ Hid (Below w.heap.size w W) ∧ Hid (Inv s R' q') :=
                  fun v W a b => ⟨P ++ [92, d], R, q ++ [d], hl2.out, by simp; omega, by simp, by simp; omega, a, b, hI2⟩
                replace hend := Lib.hid hend
                clear hI2 hl2
                by_cases hd3 : d = 34
                · subst hd3
                  go_wp2_with (first | (at_builtin; go_must (refine w_append_lit (w0 := w) (l := q) w.heap.size rfl (.tmp 53) (.tmp 58) rfl 34 34 rfl rfl rfl hv.out hb.out hb.out.size (by omega) ?_; intro v1 w1 hv1 hb1 hg1)))
                  go_roundw
                  case rel => exact hend.out _ _ hv1 hb1
                  case measure => simp [intOf]; omega
                · have g3 : ((d.toNat : Int) == 34) = false := beq_eq_false_iff_ne.2 fun e => hd3 (u8_nat (Int.ofNat.inj e))
                  have g4 : ((d.toNat : Int) == 92) = true := by rw [hd.resolve_left hd3]; rfl
                  go_wp2_with (first | (at_builtin; go_must (refine w_append_one (w0 := w) (l := q) w.heap.size rfl (.tmp 53) (.tmp 58) rfl d rfl rfl hv.out hb.out hb.out.size (by omega) ?_; intro v1 w1 hv1 hb1 hg1)))
                  go_roundw
                  case rel => exact hend.out _ _ hv1 hb1
                  case measure => simp [intOf]; omega
              · have g3 : ((d.toNat : Int) == 34) = false := beq_eq_false_iff_ne.2 fun e => hd (Or.inl (u8_nat (Int.ofNat.inj e)))
                have g4 : ((d.toNat : Int) == 92) = false := beq_eq_false_iff_ne.2 fun e => hd (Or.inr (u8_nat (Int.ofNat.inj e)))
                have hbad : (∀ x y R3, R = x :: y :: R3 → d = 120 → digI x < 0 ∨ digI y < 0) → ¬ Qd s := fun hh => inv_bad hI.out (fun d2 R2 e => by
                    injection e with e1 e2
                    subst e1
                    exact ⟨fun e => hd (Or.inl e), fun e => hd (Or.inr e)⟩) fun m R2 hm e => by
                  injection e with e1 e2
                  have := hh _ _ _ e2 e1
                  rw [dig_hex _ (by omega), dig_hex _ (by omega)] at this
                  omega
                by_cases hd2 : d = 120 ∧ 2 ≤ R.length
                · obtain ⟨rfl, hR⟩ := hd2
                  obtain ⟨x, y, R3, rfl⟩ : ∃ x y R3, R = x :: y :: R3 := by
                    cases R with
                    | nil => simp at hR
                    | cons x R =>
                      cases R with
                      | nil => simp at hR
                      | cons y R => exact ⟨x, y, R, rfl⟩
                  simp only [List.length_cons] at hn
                  have hx2 : ∀ W, (Instr.index 9 (.string (B s)) (.int .i64 ((P.length : Nat) + 2))).run Tryd.prog W = .ok (.int .u8 (x.toNat : Int)) W := fun W => run_off (D := [92, 120]) (R := y :: R3) (by rw [hl]; simp) 2 rfl W
                  have hx3 : ∀ W, (Instr.index 9 (.string (B s)) (.int .i64 ((P.length : Nat) + 3))).run Tryd.prog W = .ok (.int .u8 (y.toNat : Int)) W := fun W => run_off (D := [92, 120, x]) (R := R3) (by rw [hl]; simp) 3 rfl W
                  have i1 : IntKind.i64.wrap ((P.length : Int) + 2) = (P.length : Int) + 2 := IntWalk.i64_in _ (by omega)
                  have i2 : IntKind.i64.wrap ((P.length : Int) + 3) = (P.length : Int) + 3 := IntWalk.i64_in _ (by omega)
                  replace hl := Lib.hid hl
                  replace hbad := Lib.hid hbad
                  have hX : ∀ (z : UInt8) (p : Int), digI z = p → ∀ W, Calls Tryd.prog 46 #[.string ⟨#[48, 49, 50, 51, 52, 53, 54, 55, 56, 57, 97, 98, 99, 100, 101, 102]⟩, .int .u8 (z.toNat : Int)] W fun e w' => e = .returned (.int .i64 p) ∧ w' = W := fun z p h W => by rw [← h]; exact ixb_any z W
                  obtain ⟨p1, hp1⟩ : ∃ p, digI x = p := ⟨_, rfl⟩
                  obtain ⟨p2, hp2⟩ : ∃ p, digI y = p := ⟨_, rfl⟩
                  have hX1 := Lib.hid (hX x p1 hp1)
                  have hX2 := Lib.hid (hX y p2 hp2)
                  clear hX
                  by_cases hneg : p1 < 0 ∨ p2 < 0
                  · replace hbad := Lib.hid (hbad.out (fun x1 y1 R4 e _ => by
                      injection e with e1 e2
                      injection e2 with e2 e3
                      subst e1 e2
                      rw [hp1, hp2]
                      exact hneg))
                    clear hI hp1 hp2
                    by_cases hn1 : p1 < 0
                    all_goals
                      go_wp2
                      go_quiet ((go_at_call 46; exact Calls.quiet_of_same (by first | exact hX1.out _ | exact hX2.out _)))
                      go_wp2
                      (try rw [Exit.noGoto_ret])
                      go_ret3
                      exact take_none hbad.out rfl (pw_below_drewN hb.out _)
                  · obtain ⟨m1, hm1, rfl, e1⟩ := hex_dig x (by rw [hp1]; omega)
                    obtain ⟨m2, hm2, rfl, e2⟩ := hex_dig y (by rw [hp2]; omega)
                    obtain rfl : p1 = (m1 : Int) := by rw [← hp1, e1]
                    obtain rfl : p2 = (m2 : Int) := by rw [← hp2, e2]
                    clear hp1 hp2 e1 e2 hbad hneg
                    go_wp2
                    go_quiet ((go_at_call 46; exact Calls.quiet_of_same (by first | exact hX1.out _ | exact hX2.out _)))
                    have hv2 := Lib.hid (Row.drewN hv.out nq)
                    have hb2 := Lib.hid (pw_below_drewN hb.out nq)
                    generalize wr.drewN nq = w2 at *
                    have hor := Lib.hid (or_hex m1 m2 hm1 hm2)
                    have hI2 : Inv s R3 (q ++ [UInt8.ofNat (16 * m1 + m2)]) := inv_hex (n := 16 * m1 + m2) (by omega) (by
                      rw [show (16 * m1 + m2) / 16 = m1 by omega, show (16 * m1 + m2) % 16 = m2 by omega]
                      exact hI.out)
                    replace hI2 := Lib.hid hI2
                    have hl2 : Hid (s = (P ++ [92, 120, hexB m1, hexB m2]) ++ R3) := Lib.hid (by rw [hl.out]; simp)
                    clear hl hI
                    go_wp2_with (first | (at_builtin; go_must (refine w_append_lit (w0 := w) (l := q) w.heap.size rfl (.tmp 92) (.tmp 98) rfl (UInt8.ofNat (16 * m1 + m2)) (bits BinOp.or IntKind.i64 ((m1 : Int) * 16) (m2 : Int) % 256) hor.out rfl rfl hv2.out hb2.out hb2.out.size (by omega) ?_; intro v1 w1 hv1 hb1 hg1)))
                    go_roundw
                    case rel => exact ⟨P ++ [92, 120, hexB m1, hexB m2], R3, q ++ [UInt8.ofNat (16 * m1 + m2)], hl2.out, by simp; omega, by simp, by simp; omega, hv1, hb1, hI2⟩
                    case measure => simp [intOf]; omega
                · have hbad2 := Lib.hid (hbad fun x y R3 e e2 => absurd ⟨e2, by rw [e]; simp⟩ hd2)
                  clear hbad
                  clear hl hI
                  by_cases hR : R.length < 2
                  · go_wp2
                    (try rw [Exit.noGoto_ret])
                    go_ret3
                    exact take_none hbad2.out rfl hb.out
                  · have g5 : ((d.toNat : Int) == 120) = false := beq_eq_false_iff_ne.2 fun e => hd2 ⟨u8_nat (Int.ofNat.inj e), by omega⟩
                    go_wp2
                    (try rw [Exit.noGoto_ret])
                    go_ret3
                    exact take_none hbad2.out rfl hb.out
          · have g2 : ((c.toNat : Int) == 92) = false := beq_eq_false_iff_ne.2 fun e => h92 (u8_nat (Int.ofNat.inj e))
            have g3 : ((c.toNat : Int) != 92) = true := by rw [bne, g2]; rfl
            have hI2 := Lib.hid (inv_plain hI.out h34 h92)
            have hl2 : Hid (s = (P ++ [c]) ++ R) := Lib.hid (by rw [hl]; simp)
            clear hl hI
            go_wp2_with (first | (at_builtin; go_must (refine w_append_one (w0 := w) (l := q) w.heap.size rfl (.tmp 29) (.tmp 31) rfl c rfl rfl hv.out hb.out hb.out.size (by omega) ?_; intro v1 w1 hv1 hb1 hg1)))
            go_roundw
            case rel => exact ⟨P ++ [c], R, q ++ [c], hl2.out, by simp, by simp, by simp; omega, hv1, hb1, hI2⟩
            case measure => simp [intOf]; omega
end Go.Proofs.YtigcgpbdifihoaaDoor
