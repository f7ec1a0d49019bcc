/-
  A log of records, laid by the law's own function: walked.
-/
import Derived.Test.YtlmlkamgpmnmgaaPlog
import Derived.Test.YtlmlkamgpmnmgaaLawLays
set_option linter.unusedVariables false
set_option linter.unusedSimpArgs false
namespace Go.Proofs.Ytlmlkamgpmnmgaa
open Go.RowKit Go.Proofs.YtlmlkamgpmnmgaaW.PrintWords
/-- A row of whole numbers of one's own. -/
def IRow (w : World) (B : Nat) (v : Value) (l : List Nat) : Prop := w.ownsRow B 3 1 v (l.map fun n : Nat => (n : Int)).length (nums .i64 (l.map fun n : Nat => (n : Int)))
theorem IRow.nil (w : World) (B : Nat) : IRow w B (.slice none 0 0) [] := World.ownsRow_nil w B _ 1
theorem info_int : (Try.prog.info? 3).map (fun i => (i.zero, i.size, i.bytes)) = some (some (.int .i64 0), 1, 8) := by kernel_rfl
theorem IRow.past {w w1 : World} {B : Nat} {v : Value} {l : List Nat} {S : Nat → Prop} (h : IRow w B v l) (hk : Kept w w1 S) (hn : ∀ q, v.ownBlock = some q → ¬ S q) : IRow w1 B v l := by
  obtain ⟨h1, h2⟩ := h
  refine ⟨h1, ?_⟩
  rcases h2 with h2 | ⟨b, cap, cur, rfl, hB, hh, r⟩
  · exact .inl h2
  · exact .inr ⟨b, cap, cur, rfl, hB, by rw [hk.2 b (blk_lt hh) (hn b rfl)]; exact hh, r⟩
theorem SRow.past {w w1 : World} {B : Nat} {v : Value} {l : List ByteArray} {S : Nat → Prop} (h : SRow w B v l) (hk : Kept w w1 S) (hn : ∀ q, v.ownBlock = some q → ¬ S q) : SRow w1 B v l :=
  h.frame (fun q hq => hk.2 q (h.lt q hq) (hn q hq))
section
variable {ops : Array Oper} {rest : List Oper} {o : Oper} {a : Act} {Q : Exit → Act → World → Prop}
/-- 'append(v, n)', v a row of whole numbers. -/
theorem w_append_i {w0 W : World} (B : Nat) (hgd : o.guard = none) (s x : Operand)
    (ho : o.op = .call { callee := .builtin .append, args := #[s, x], argTypes := #[41, 41] })
    {v : Value} {l : List Nat} (b : Nat) (hs : a.eval s = v) (hx : a.eval x = .slice (some ⟨W.heap.size, 0, none⟩) 1 1)
    (HO : IRow W B v l) (HB : Below B w0 W) (hB : B ≤ W.heap.size) (hl : (l.length + 1) * 8 ≤ 140737488355328)
    (h : ∀ v1 w1, Hid (IRow w1 B v1 (l ++ [b])) → Hid (Below B w0 w1) → Hid (W.grownBy w1 v.ownBlock) → wpList Try.prog ops Q rest (a.put o.dst v1) w1) :
    wpList Try.prog ops Q (o :: rest) a (W.alloc (.cells #[.int .i64 (b : Int)] 3)) :=
  print_append_num B hgd s x 41 3 .i64 8 ho Try.underlying41 info_int (by decide) v (l.map fun n : Nat => (n : Int)) (b : Int) hs hx HO HB hB (by rw [List.length_map]; exact hl)
    fun v1 w1 h1 h2 h3 _ => h v1 w1 (by show World.ownsRow _ _ _ _ _ _ _; rw [List.map_append]; exact h1) h2 h3
end
theorem logB_cons (sz : Nat) (s : ByteArray) (r : List ByteArray) : logB sz (s :: r) = layO sz s ++ logB (layS sz s) r := rfl
theorem logE_yes {sz : Nat} {s : ByteArray} {r : List ByteArray} (h : fitsB sz s) : logE sz (s :: r) = layS sz s :: logE (layS sz s) r := by
  conv => lhs; unfold logE
  rw [if_pos h]
theorem logW_yes {sz : Nat} {s : ByteArray} {r : List ByteArray} (h : fitsB sz s) : logW sz (s :: r) = s :: logW (layS sz s) r := by
  conv => lhs; unfold logW
  rw [if_pos h]
theorem logB_no {sz : Nat} {s : ByteArray} {r : List ByteArray} (h : ¬ fitsB sz s) : logB sz (s :: r) = logB sz r := by
  rw [logB_cons, (layO_no h).1, (layO_no h).2, List.nil_append]
theorem logE_no {sz : Nat} {s : ByteArray} {r : List ByteArray} (h : ¬ fitsB sz s) : logE sz (s :: r) = logE sz r := by
  conv => lhs; unfold logE
  rw [if_neg h]
theorem logW_no {sz : Nat} {s : ByteArray} {r : List ByteArray} (h : ¬ fitsB sz s) : logW sz (s :: r) = logW sz r := by
  conv => lhs; unfold logW
  rw [if_neg h]
theorem Row.far {w w1 : World} {B : Nat} {v u : Value} {l : List UInt8} {B' e' size' n' : Nat} {xs : List Value} (h : Row w B v l) (hu : w.ownsRow B' e' size' u n' xs) (hne : 5 ≠ e') (hg : w.grownBy w1 u.ownBlock) : Row w1 B v l :=
  own_other h hg (own_type_ne h hu hne)
theorem IRow.far {w w1 : World} {B : Nat} {v u : Value} {l : List Nat} {B' e' size' n' : Nat} {xs : List Value} (h : IRow w B v l) (hu : w.ownsRow B' e' size' u n' xs) (hne : 3 ≠ e') (hg : w.grownBy w1 u.ownBlock) : IRow w1 B v l :=
  own_other h hg (own_type_ne h hu hne)
theorem SRow.far {w w1 : World} {B : Nat} {v u : Value} {l : List ByteArray} {B' e' size' n' : Nat} {xs : List Value} (h : SRow w B v l) (hu : w.ownsRow B' e' size' u n' xs) (hne : 9 ≠ e') (hg : w.grownBy w1 u.ownBlock) : SRow w1 B v l :=
  own_other h hg (own_type_ne h hu hne)
theorem WW.grown {w w1 : World} {g size : Nat} {u : Value} {B' e' size' n' : Nat} {xs : List Value} (h : WW w g size) (hu : w.ownsRow B' e' size' u n' xs) (hne : e' ≠ 56) (hg : w.grownBy w1 u.ownBlock) : WW w1 g size :=
  ⟨blk_grown h.blk hg (own_ne hu h.blk hne)⟩
set_option maxHeartbeats 1000000 in
set_option maxRecDepth 100000 in
theorem laid_any (W : World) (A : Option Addr) (n c : Nat) (recs : List ByteArray) (hr : SRd W A n recs) (hss : ∀ s ∈ recs, s.size ≤ 140737488351232) (hn : n ≤ 1048576) :
    Calls Try.prog 16 #[.slice A n c] W fun e w' => ∃ v1 v2 v3, e = .returned (.tuple #[v1, v2, v3, .bool true]) ∧ Row w' W.heap.size v1 (logB 0 recs) ∧ IRow w' W.heap.size v2 (logE 0 recs) ∧ SRow w' W.heap.size v3 (logW 0 recs) ∧ Below W.heap.size W w' := by
  have hn1 := Lib.hid (wnew_ok 0 (by omega) W)
  have hrl := Lib.hid hr.len
  replace hr := Lib.hid hr
  replace hss := Lib.hid hss
  go_enter Try.func16, Try.ntmps16
  go_wp2_with (first | (go_at_call 10; go_must (refine hn1.out.mono ?_; rintro e w1 ⟨rfl, hW1, hb1⟩; replace hb1 := Lib.hid hb1; replace hW1 := Lib.hid hW1)))
  go_loopw [8, 9, 10, 11] (fun va ve vw i wr => ∃ (k : Nat) (all : List UInt8) (es : List Nat) (ws : List ByteArray), i = .int .i64 (k : Int) ∧ k ≤ n ∧ Row wr W.heap.size va all ∧ IRow wr W.heap.size ve es ∧ SRow wr W.heap.size vw ws ∧ WW wr W.heap.size all.length ∧ all.length ≤ 1048576 ∧ Below W.heap.size W wr ∧  es.length ≤ k ∧ ws.length ≤ k ∧ all ++ logB all.length (recs.drop k) = logB 0 recs ∧ es ++ logE all.length (recs.drop k) = logE 0 recs ∧ ws ++ logW all.length (recs.drop k) = logW 0 recs) (fun _ _ _ i _ => n - (intOf i).toNat)
  case atStart => exact ⟨0, [], [], [], rfl, Nat.zero_le _, Row.nil _ _, IRow.nil _ _, SRow.nil _ _, hW1.out, by simp, hb1.out, by simp, by simp, by simp, by simp, by simp⟩
  case round =>
    obtain ⟨k, all, es, ws, rfl, hk, hro, hio, hso, hWr, hsz, hbr, hel, hwl, hcB, hcE, hcW⟩ := hrel
    by_cases hkn : k < n
    · obtain ⟨ad, hAe, hkc⟩ := (hr.out.below hbr).at_ k hkn
      subst hAe
      have hkl : k < recs.length := by rw [hrl.out]; exact hkn
      obtain ⟨s, hse⟩ : ∃ s, recs.getD k ByteArray.empty = s := ⟨_, rfl⟩
      rw [hse] at hkc
      have hsg : recs[k] = s := by rw [← hse, List.getD_eq_getElem?_getD, List.getElem?_eq_getElem hkl]; rfl
      have hs : s.size ≤ 140737488351232 := by
        rw [← hsg]
        exact hss.out _ (List.getElem_mem hkl)
      rw [List.drop_eq_getElem_cons hkl, hsg] at hcB hcE hcW
      have hcell : ∀ w' : World, Below W.heap.size W w' → w'.cell? (ad.add k) = some (.string s) := fun w' hb' => by
        obtain ⟨ad9, hAe9, hkc9⟩ := (hr.out.below hb').at_ k hkn
        injection hAe9 with hAe9
        subst hAe9
        rw [hse] at hkc9
        exact hkc9
      replace hcell := Lib.hid hcell
      replace hse := Lib.hid hse
      clear hsg hkl
      have hc1 := Lib.hid (wlay_any hWr hsz s hs)
      obtain ⟨A8, c8, hve8, _, _⟩ := hro.rd
      subst hve8
      have hnf := layS_eq all.length s
      have hsz2 := layS_le all.length s hsz
      replace hro := Lib.hid hro
      replace hio := Lib.hid hio
      replace hso := Lib.hid hso
      replace hWr := Lib.hid hWr
      replace hbr := Lib.hid hbr
      by_cases hfit : fitsB all.length s
      · have hE : layE all.length s = 0 := by unfold layE; rw [if_pos hfit]
        rw [hE] at hc1
        rw [logB_cons, hnf, ← List.append_assoc] at hcB
        rw [logE_yes hfit, hnf] at hcE
        rw [logW_yes hfit, hnf] at hcW
        replace hcB := Lib.hid hcB
        replace hcE := Lib.hid hcE
        replace hcW := Lib.hid hcW
        replace hfit := Lib.hid hfit
        clear hE
        have hlo : (layO all.length s).length ≤ 1048576 := by omega
        replace hnf := Lib.hid hnf
        go_wp2_with (first  | (go_at_call 12; go_must (refine hc1.out.mono ?_; rintro e w2 ⟨vb, rfl, ho2, hW2, hk2, hB2⟩; have hb2 := hB2 W hbr.out (Nat.le_refl _); have hro2 := hro.out.past hk2 (fun q hq e => hro.out.w_ne hWr.out (by rw [hq, e])); have hio2 := hio.out.past hk2 (fun q hq e => own_ne hio.out hWr.out.blk (by decide) (by rw [hq, e])); have hso2 := hso.out.past hk2 (fun q hq e => own_ne hso.out hWr.out.blk (by decide) (by rw [hq, e])); have hkc2 := hcell.out w2 hb2; obtain ⟨Ab, cb, hveb, hrb, _⟩ := ho2.rd; subst hveb; replace ho2 := Lib.hid ho2; replace hW2 := Lib.hid hW2; replace hro2 := Lib.hid hro2; replace hio2 := Lib.hid hio2; replace hso2 := Lib.hid hso2; replace hb2 := Lib.hid hb2; replace hk2 := Lib.hid hk2; replace hrb := Lib.hid hrb; clear hB2))  | (at_builtin; refine w_append_row W.heap.size rfl (.tmp 56) (.tmp 57) rfl rfl rfl hro2.out hrb.out hb2.out hb2.out.size (by omega) ?_; intro v3 w3 ho3 hb3 hg3; have hio3 := Lib.hid (hio2.out.far hro2.out (by decide) hg3.out); have hso3 := Lib.hid (hso2.out.far hro2.out (by decide) hg3.out); have hW3 := Lib.hid (hW2.out.grown hro2.out (by decide) hg3.out); obtain ⟨A3, c3, hve3, _, _⟩ := ho3.out.rd; rw [List.length_append] at hve3; subst hve3)  | (at_builtin; refine w_append_i W.heap.size rfl (.tmp 59) (.tmp 62) rfl (all.length + (layO all.length s).length) rfl rfl hio3.out hb3.out hb3.out.size (by omega) ?_; intro v4 w4 ho4 hb4 hg4; have ho34 := Lib.hid (ho3.out.far hio3.out (by decide) hg4.out); have hso4 := Lib.hid (hso3.out.far hio3.out (by decide) hg4.out); have hW4 := Lib.hid (hW3.out.grown hio3.out (by decide) hg4.out); have hkc4 := hcell.out w4 hb4.out)  | (at_builtin; refine w_append_s W.heap.size rfl (.tmp 64) (.tmp 69) rfl s rfl rfl hso4.out hb4.out hb4.out.size (by omega) ?_; intro v5 w5 ho5 hb5 hg5; have ho35 := Lib.hid (ho34.out.far hso4.out (by decide) hg5.out); have hio5 := Lib.hid (ho4.out.far hso4.out (by decide) hg5.out); have hW5 := Lib.hid (hW4.out.grown hso4.out (by decide) hg5.out)))
        have hln : (all ++ layO all.length s).length = all.length + (layO all.length s).length := List.length_append
        replace hln := Lib.hid hln
        go_roundw
        case rel =>
          refine ⟨k + 1, all ++ layO all.length s, es ++ [all.length + (layO all.length s).length], ws ++ [s], by go_num, by omega, ho35.out, hio5.out, ho5.out, ?_, ?_, hb5.out, ?_, ?_, ?_, ?_, ?_⟩
          · rw [hln.out, ← hnf.out]; exact hW5.out
          · rw [hln.out, ← hnf.out]; exact hsz2
          · rw [List.length_append, List.length_singleton]; omega
          · rw [List.length_append, List.length_singleton]; omega
          · rw [hln.out]; exact hcB.out
          · rw [hln.out, List.append_assoc]; exact hcE.out
          · rw [hln.out, List.append_assoc]; exact hcW.out
        case measure => simp [intOf]; omega
      · have hE : layE all.length s = 3 := by unfold layE; rw [if_neg hfit]
        obtain ⟨hO, hS⟩ := layO_no hfit
        rw [hE, hO, hS] at hc1
        rw [logB_no hfit] at hcB
        rw [logE_no hfit] at hcE
        rw [logW_no hfit] at hcW
        replace hcB := Lib.hid hcB
        replace hcE := Lib.hid hcE
        replace hcW := Lib.hid hcW
        clear hE hO hS hnf hsz2
        rcases not_fits hfit with hbig | hbig
        · have hbi : (262144 : Int) < (s.size : Int) := by omega
          replace hfit := Lib.hid hfit
          go_wp2_with (first  | (go_at_call 12; go_must (refine hc1.out.mono ?_; rintro e w2 ⟨vb, rfl, ho2, hW2, hk2, hB2⟩; have hb2 := hB2 W hbr.out (Nat.le_refl _); have hro2 := hro.out.past hk2 (fun q hq e => hro.out.w_ne hWr.out (by rw [hq, e])); have hio2 := hio.out.past hk2 (fun q hq e => own_ne hio.out hWr.out.blk (by decide) (by rw [hq, e])); have hso2 := hso.out.past hk2 (fun q hq e => own_ne hso.out hWr.out.blk (by decide) (by rw [hq, e])); have hkc2 := hcell.out w2 hb2; replace ho2 := Lib.hid ho2; replace hW2 := Lib.hid hW2; replace hro2 := Lib.hid hro2; replace hio2 := Lib.hid hio2; replace hso2 := Lib.hid hso2; replace hb2 := Lib.hid hb2; replace hk2 := Lib.hid hk2; clear hB2)))
          go_roundw
          case rel => exact ⟨k + 1, all, es, ws, by go_num, by omega, hro2.out, hio2.out, hso2.out, hW2.out, hsz, hb2.out, by omega, by omega, hcB.out, hcE.out, hcW.out⟩
          case measure => simp [intOf]; omega
        · by_cases hbig2 : 262144 < s.size
          · have hbi : (262144 : Int) < (s.size : Int) := by omega
            replace hfit := Lib.hid hfit
            go_wp2_with (first  | (go_at_call 12; go_must (refine hc1.out.mono ?_; rintro e w2 ⟨vb, rfl, ho2, hW2, hk2, hB2⟩; have hb2 := hB2 W hbr.out (Nat.le_refl _); have hro2 := hro.out.past hk2 (fun q hq e => hro.out.w_ne hWr.out (by rw [hq, e])); have hio2 := hio.out.past hk2 (fun q hq e => own_ne hio.out hWr.out.blk (by decide) (by rw [hq, e])); have hso2 := hso.out.past hk2 (fun q hq e => own_ne hso.out hWr.out.blk (by decide) (by rw [hq, e])); have hkc2 := hcell.out w2 hb2; replace ho2 := Lib.hid ho2; replace hW2 := Lib.hid hW2; replace hro2 := Lib.hid hro2; replace hio2 := Lib.hid hio2; replace hso2 := Lib.hid hso2; replace hb2 := Lib.hid hb2; replace hk2 := Lib.hid hk2; clear hB2)))
            go_roundw
            case rel => exact ⟨k + 1, all, es, ws, by go_num, by omega, hro2.out, hio2.out, hso2.out, hW2.out, hsz, hb2.out, by omega, by omega, hcB.out, hcE.out, hcW.out⟩
            case measure => simp [intOf]; omega
          · have hbi : ¬ (262144 : Int) < (s.size : Int) := by omega
            have hbj : (524288 : Int) < (all.length : Int) := by omega
            replace hfit := Lib.hid hfit
            go_wp2_with (first  | (go_at_call 12; go_must (refine hc1.out.mono ?_; rintro e w2 ⟨vb, rfl, ho2, hW2, hk2, hB2⟩; have hb2 := hB2 W hbr.out (Nat.le_refl _); have hro2 := hro.out.past hk2 (fun q hq e => hro.out.w_ne hWr.out (by rw [hq, e])); have hio2 := hio.out.past hk2 (fun q hq e => own_ne hio.out hWr.out.blk (by decide) (by rw [hq, e])); have hso2 := hso.out.past hk2 (fun q hq e => own_ne hso.out hWr.out.blk (by decide) (by rw [hq, e])); have hkc2 := hcell.out w2 hb2; replace ho2 := Lib.hid ho2; replace hW2 := Lib.hid hW2; replace hro2 := Lib.hid hro2; replace hio2 := Lib.hid hio2; replace hso2 := Lib.hid hso2; replace hb2 := Lib.hid hb2; replace hk2 := Lib.hid hk2; clear hB2)))
            go_roundw
            case rel => exact ⟨k + 1, all, es, ws, by go_num, by omega, hro2.out, hio2.out, hso2.out, hW2.out, hsz, hb2.out, by omega, by omega, hcB.out, hcE.out, hcW.out⟩
            case measure => simp [intOf]; omega
    · obtain rfl : k = n := by omega
      rw [List.drop_of_length_le (by rw [hrl.out]; exact Nat.le_refl _)] at hcB hcE hcW
      simp only [logB, logE, logW, List.append_nil] at hcB hcE hcW
      replace hcB := Lib.hid hcB
      replace hcE := Lib.hid hcE
      replace hcW := Lib.hid hcW
      replace hro := Lib.hid hro
      replace hio := Lib.hid hio
      replace hso := Lib.hid hso
      replace hbr := Lib.hid hbr
      go_wp2
      refine bodyPost_ret (results_list (rs := [.tmp 2, .tmp 3, .tmp 4, .tmp 5]) rfl (by simp) (.tmp (.tmp (.tmp (.tmp .nil))))) rfl ?_
      exact ⟨_, _, _, rfl, by rw [← hcB.out]; exact hro.out, by rw [← hcE.out]; exact hio.out, by rw [← hcW.out]; exact hso.out, hbr.out⟩
end Go.Proofs.Ytlmlkamgpmnmgaa
