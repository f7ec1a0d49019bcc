/-
  Chapter 18: the law that no reply is the beginning of another one, walked.
-/
import Derived.Test.YthacomeiinejaaaDoorSr
set_option linter.unusedVariables false
set_option linter.unusedSimpArgs false
namespace Go.Proofs.YthacomeiinejaaaDoor
open Go.RowKit Go.Proofs.YthacomeiinejaaaDoorW.PrintWords Go.Proofs.YthacomeiinejaaaDoor.PReplyWrites
theorem same_of_pre {sa sb : Int} {ba bb ka kb : List UInt8} {la lb : Bool} (ha : OkR sa ba ka) (hb : OkR sb bb kb) (h : writeL sa ba ka la <+: writeL sb bb kb lb) : sa = sb ∧ ba = bb ∧ ka = kb ∧ la = lb := by
  obtain ⟨R, hR⟩ := h
  have h1 := parse_full la ha R
  have h2 := parse_full lb hb []
  rw [List.append_nil, ← hR, h1] at h2
  injection h2 with h3 h4 h5 h6
  exact ⟨h3, h4, h5, h6⟩
/-- Two replies in their blocks. -/
structure Two (w0 : World) (p q : Nat) (a b c d e f g h : Value) (W : World) : Prop where
  one : W.heap[p]? = some (.cells #[a, b, c, d] 23 (0, 0))
  two : W.heap[q]? = some (.cells #[e, f, g, h] 23 (0, 0))
  bel : Below w0.heap.size w0 W
theorem Two.next {w0 W W2 : World} {p q : Nat} {a b c d e f g h : Value} (H : Two w0 p q a b c d e f g h W) (hb : Below W.heap.size W W2) : (W2.cell? ⟨p, 0, none⟩ = some a ∧ W2.cell? ⟨p, 1, none⟩ = some b ∧ W2.cell? ⟨p, 2, none⟩ = some c ∧ W2.cell? ⟨p, 3, none⟩ = some d) ∧ (W2.cell? ⟨q, 0, none⟩ = some e ∧ W2.cell? ⟨q, 1, none⟩ = some f ∧ W2.cell? ⟨q, 2, none⟩ = some g ∧ W2.cell? ⟨q, 3, none⟩ = some h) ∧ Two w0 p q a b c d e f g h W2 := by
  have h1 := (hb.block _ (Array.getElem?_eq_some_iff.1 H.one).1).trans H.one
  have h2 := (hb.block _ (Array.getElem?_eq_some_iff.1 H.two).1).trans H.two
  exact ⟨⟨(blk_cell h1 0).trans rfl, (blk_cell h1 1).trans rfl, (blk_cell h1 2).trans rfl, (blk_cell h1 3).trans rfl⟩, ⟨(blk_cell h2 0).trans rfl, (blk_cell h2 1).trans rfl, (blk_cell h2 2).trans rfl, (blk_cell h2 3).trans rfl⟩, h1, h2, H.bel.trans (hb.mono H.bel.size)⟩
theorem Two.start (W : World) (a b c d e f g h : Value) : Two W W.heap.size (W.heap.size + 1) a b c d e f g h ((W.alloc (.cells #[a, b, c, d] 23)).alloc (.cells #[e, f, g, h] 23)) := by
  refine ⟨(heap_alloc_old _ _ (by simp)).trans (heap_alloc_new W _), ?_, (below_alloc (Below.refl _ _) _).alloc (by simp) _⟩
  have := heap_alloc_new (W.alloc (.cells #[a, b, c, d] 23)) (.cells #[e, f, g, h] 23)
  simpa using this
set_option maxHeartbeats 8000000 in
set_option maxRecDepth 100000 in
theorem apart_core (W : World) (htab : Tab W) (sa : Int) (wa : (Lit.int .i64 sa).wf = true) (ba ka : List UInt8) (la : Bool) (sb : Int) (wb : (Lit.int .i64 sb).wf = true) (bb kb : List UInt8) (lb : Bool) :
    Calls Tryd.prog 7 #[repV sa ba ka la, repV sb bb kb lb] W fun e w' => e = .returned (.bool true) ∧ Below W.heap.size W w' := by
  have hA := Lib.hid (fun V h => awake_any V h)
  have hW := fun V h => write_any sa wa ba ka la V h
  have hV := fun V h => write_any sb wb bb kb lb V h
  have hCa := fun V => rcheck_any sa ba ka la V
  have hCb := fun V => rcheck_any sb bb kb lb V
  have hT := Lib.hid (Two.start W (.int .i64 sa) (.string (B ba)) (.string (B ka)) (.bool la) (.int .i64 sb) (.string (B bb)) (.string (B kb)) (.bool lb))
  have ht := Lib.hid htab
  obtain ⟨ca, hca⟩ : ∃ c, chkB sa ba ka = c := ⟨_, rfl⟩
  obtain ⟨cb, hcb⟩ : ∃ c, chkB sb bb kb = c := ⟨_, rfl⟩
  simp only [hca] at hW hCa
  simp only [hcb] at hV hCb
  unfold repV at hW hV hCa hCb ⊢
  clear htab
  cases ca with
  | false =>
    simp only [Bool.false_eq_true, if_false] at hW hCa
    replace hW := Lib.hid hW
    replace hCa := Lib.hid hCa
    replace hV := Lib.hid hV
    replace hCb := Lib.hid hCb
    generalize (if cb = true then (0 : Int) else 180) = x at *
    generalize (if cb = true then writeL sb bb kb lb else []) = y at *
    go_enter Tryd.func7, Tryd.ntmps7
    go_wp2_with (first  | (go_at_call 9; go_must (refine (hA.out _ (ht.out.below hT.out.bel)).mono ?_; rintro e w2 ⟨rfl, hb2⟩; obtain ⟨⟨q0, q1, q2, q3⟩, ⟨q4, q5, q6, q7⟩, hT2⟩ := hT.out.next hb2; replace hT := Lib.hid hT2; clear hT2 hb2))  | (go_at_call 12; have _t := hW; go_must (refine (hW.out _ (ht.out.below hT.out.bel)).mono ?_; rintro e w2 ⟨rfl, hb2⟩; obtain ⟨⟨q0, q1, q2, q3⟩, ⟨q4, q5, q6, q7⟩, hT2⟩ := hT.out.next hb2; replace hT := Lib.hid hT2; clear hT2 hb2; clear hW))  | (go_at_call 12; have _t := hV; go_must (refine (hV.out _ (ht.out.below hT.out.bel)).mono ?_; rintro e w2 ⟨rfl, hb2⟩; obtain ⟨⟨q0, q1, q2, q3⟩, ⟨q4, q5, q6, q7⟩, hT2⟩ := hT.out.next hb2; replace hT := Lib.hid hT2; clear hT2 hb2; clear hV))  | (go_at_call 11; have _t := hCa; go_must (refine (hCa.out _).mono ?_; rintro e w2 ⟨rfl, hb2⟩; obtain ⟨⟨q0, q1, q2, q3⟩, ⟨q4, q5, q6, q7⟩, hT2⟩ := hT.out.next hb2; replace hT := Lib.hid hT2; clear hT2 hb2; clear hCa))  | (go_at_call 11; have _t := hCb; go_must (refine (hCb.out _).mono ?_; rintro e w2 ⟨rfl, hb2⟩; obtain ⟨⟨q0, q1, q2, q3⟩, ⟨q4, q5, q6, q7⟩, hT2⟩ := hT.out.next hb2; replace hT := Lib.hid hT2; clear hT2 hb2; clear hCb)))
    go_ret
    exact ⟨rfl, hT.out.bel⟩
  | true =>
    simp only [if_true] at hW hCa
    cases cb with
    | false =>
      simp only [Bool.false_eq_true, if_false] at hV hCb
      replace hW := Lib.hid hW
      replace hCa := Lib.hid hCa
      replace hV := Lib.hid hV
      replace hCb := Lib.hid hCb
      go_enter Tryd.func7, Tryd.ntmps7
      go_wp2_with (first  | (go_at_call 9; go_must (refine (hA.out _ (ht.out.below hT.out.bel)).mono ?_; rintro e w2 ⟨rfl, hb2⟩; obtain ⟨⟨q0, q1, q2, q3⟩, ⟨q4, q5, q6, q7⟩, hT2⟩ := hT.out.next hb2; replace hT := Lib.hid hT2; clear hT2 hb2))  | (go_at_call 12; have _t := hW; go_must (refine (hW.out _ (ht.out.below hT.out.bel)).mono ?_; rintro e w2 ⟨rfl, hb2⟩; obtain ⟨⟨q0, q1, q2, q3⟩, ⟨q4, q5, q6, q7⟩, hT2⟩ := hT.out.next hb2; replace hT := Lib.hid hT2; clear hT2 hb2; clear hW))  | (go_at_call 12; have _t := hV; go_must (refine (hV.out _ (ht.out.below hT.out.bel)).mono ?_; rintro e w2 ⟨rfl, hb2⟩; obtain ⟨⟨q0, q1, q2, q3⟩, ⟨q4, q5, q6, q7⟩, hT2⟩ := hT.out.next hb2; replace hT := Lib.hid hT2; clear hT2 hb2; clear hV))  | (go_at_call 11; have _t := hCa; go_must (refine (hCa.out _).mono ?_; rintro e w2 ⟨rfl, hb2⟩; obtain ⟨⟨q0, q1, q2, q3⟩, ⟨q4, q5, q6, q7⟩, hT2⟩ := hT.out.next hb2; replace hT := Lib.hid hT2; clear hT2 hb2; clear hCa))  | (go_at_call 11; have _t := hCb; go_must (refine (hCb.out _).mono ?_; rintro e w2 ⟨rfl, hb2⟩; obtain ⟨⟨q0, q1, q2, q3⟩, ⟨q4, q5, q6, q7⟩, hT2⟩ := hT.out.next hb2; replace hT := Lib.hid hT2; clear hT2 hb2; clear hCb)))
      go_ret
      exact ⟨rfl, hT.out.bel⟩
    | true =>
      simp only [if_true] at hV hCb
      have hoa := chk_ok hca
      have hob := chk_ok hcb
      have hpre := @same_of_pre sa sb ba bb ka kb la lb hoa hob
      replace hW := Lib.hid hW
      replace hCa := Lib.hid hCa
      replace hV := Lib.hid hV
      replace hCb := Lib.hid hCb
      have heq := fun V => rep_eql V sa sb (B ba) (B bb) (B ka) (B kb) la lb
      by_cases hsame : sa = sb ∧ ba = bb ∧ ka = kb ∧ la = lb
      · obtain ⟨rfl, rfl, rfl, rfl⟩ := hsame
        have e0 : (sa == sa && ((B ba).toList == (B ba).toList && ((B ka).toList == (B ka).toList && (la == la)))) = true := by simp
        simp only [e0] at heq
        clear hpre hoa hob e0
        generalize writeL sa ba ka la = L at *
        have rs := B_size L
        have rt := B_toList L
        have rx : (B L).extract 0 L.length = B L := by rw [B_take, List.take_length]
        go_enter Tryd.func7, Tryd.ntmps7
        go_wp2_with (first  | (go_at_call 9; go_must (refine (hA.out _ (ht.out.below hT.out.bel)).mono ?_; rintro e w2 ⟨rfl, hb2⟩; obtain ⟨⟨q0, q1, q2, q3⟩, ⟨q4, q5, q6, q7⟩, hT2⟩ := hT.out.next hb2; replace hT := Lib.hid hT2; clear hT2 hb2))  | (go_at_call 12; have _t := hW; go_must (refine (hW.out _ (ht.out.below hT.out.bel)).mono ?_; rintro e w2 ⟨rfl, hb2⟩; obtain ⟨⟨q0, q1, q2, q3⟩, ⟨q4, q5, q6, q7⟩, hT2⟩ := hT.out.next hb2; replace hT := Lib.hid hT2; clear hT2 hb2; clear hW))  | (go_at_call 12; have _t := hV; go_must (refine (hV.out _ (ht.out.below hT.out.bel)).mono ?_; rintro e w2 ⟨rfl, hb2⟩; obtain ⟨⟨q0, q1, q2, q3⟩, ⟨q4, q5, q6, q7⟩, hT2⟩ := hT.out.next hb2; replace hT := Lib.hid hT2; clear hT2 hb2; clear hV))  | (go_at_call 11; have _t := hCa; go_must (refine (hCa.out _).mono ?_; rintro e w2 ⟨rfl, hb2⟩; obtain ⟨⟨q0, q1, q2, q3⟩, ⟨q4, q5, q6, q7⟩, hT2⟩ := hT.out.next hb2; replace hT := Lib.hid hT2; clear hT2 hb2; clear hCa))  | (go_at_call 11; have _t := hCb; go_must (refine (hCb.out _).mono ?_; rintro e w2 ⟨rfl, hb2⟩; obtain ⟨⟨q0, q1, q2, q3⟩, ⟨q4, q5, q6, q7⟩, hT2⟩ := hT.out.next hb2; replace hT := Lib.hid hT2; clear hT2 hb2; clear hCb)))
        go_ret
        exact ⟨rfl, hT.out.bel⟩
      · have e0 : (sa == sb && ((B ba).toList == (B bb).toList && ((B ka).toList == (B kb).toList && (la == lb)))) = false := by
          rw [Bool.eq_false_iff]
          intro h
          apply hsame
          simpa [B_toList] using h
        simp only [e0] at heq
        have hne := fun h => hsame (hpre h)
        clear hpre hoa hob e0 hsame
        generalize writeL sa ba ka la = L at *
        generalize writeL sb bb kb lb = M at *
        have rs := B_size L
        have rs2 := B_size M
        by_cases hle : L.length ≤ M.length
        · have rx : (B M).extract 0 L.length = B (M.take L.length) := B_take M _
          have rn : ((B (M.take L.length)).toList == (B L).toList) = false := by
            rw [B_toList, B_toList, pre_eq M L hle, Bool.eq_false_iff]
            intro h
            exact hne (List.isPrefixOf_iff_prefix.1 h)
          clear hne
          go_enter Tryd.func7, Tryd.ntmps7
          go_wp2_with (first  | (go_at_call 9; go_must (refine (hA.out _ (ht.out.below hT.out.bel)).mono ?_; rintro e w2 ⟨rfl, hb2⟩; obtain ⟨⟨q0, q1, q2, q3⟩, ⟨q4, q5, q6, q7⟩, hT2⟩ := hT.out.next hb2; replace hT := Lib.hid hT2; clear hT2 hb2))  | (go_at_call 12; have _t := hW; go_must (refine (hW.out _ (ht.out.below hT.out.bel)).mono ?_; rintro e w2 ⟨rfl, hb2⟩; obtain ⟨⟨q0, q1, q2, q3⟩, ⟨q4, q5, q6, q7⟩, hT2⟩ := hT.out.next hb2; replace hT := Lib.hid hT2; clear hT2 hb2; clear hW))  | (go_at_call 12; have _t := hV; go_must (refine (hV.out _ (ht.out.below hT.out.bel)).mono ?_; rintro e w2 ⟨rfl, hb2⟩; obtain ⟨⟨q0, q1, q2, q3⟩, ⟨q4, q5, q6, q7⟩, hT2⟩ := hT.out.next hb2; replace hT := Lib.hid hT2; clear hT2 hb2; clear hV))  | (go_at_call 11; have _t := hCa; go_must (refine (hCa.out _).mono ?_; rintro e w2 ⟨rfl, hb2⟩; obtain ⟨⟨q0, q1, q2, q3⟩, ⟨q4, q5, q6, q7⟩, hT2⟩ := hT.out.next hb2; replace hT := Lib.hid hT2; clear hT2 hb2; clear hCa))  | (go_at_call 11; have _t := hCb; go_must (refine (hCb.out _).mono ?_; rintro e w2 ⟨rfl, hb2⟩; obtain ⟨⟨q0, q1, q2, q3⟩, ⟨q4, q5, q6, q7⟩, hT2⟩ := hT.out.next hb2; replace hT := Lib.hid hT2; clear hT2 hb2; clear hCb)))
          go_ret
          exact ⟨rfl, hT.out.bel⟩
        · clear hne
          go_enter Tryd.func7, Tryd.ntmps7
          go_wp2_with (first  | (go_at_call 9; go_must (refine (hA.out _ (ht.out.below hT.out.bel)).mono ?_; rintro e w2 ⟨rfl, hb2⟩; obtain ⟨⟨q0, q1, q2, q3⟩, ⟨q4, q5, q6, q7⟩, hT2⟩ := hT.out.next hb2; replace hT := Lib.hid hT2; clear hT2 hb2))  | (go_at_call 12; have _t := hW; go_must (refine (hW.out _ (ht.out.below hT.out.bel)).mono ?_; rintro e w2 ⟨rfl, hb2⟩; obtain ⟨⟨q0, q1, q2, q3⟩, ⟨q4, q5, q6, q7⟩, hT2⟩ := hT.out.next hb2; replace hT := Lib.hid hT2; clear hT2 hb2; clear hW))  | (go_at_call 12; have _t := hV; go_must (refine (hV.out _ (ht.out.below hT.out.bel)).mono ?_; rintro e w2 ⟨rfl, hb2⟩; obtain ⟨⟨q0, q1, q2, q3⟩, ⟨q4, q5, q6, q7⟩, hT2⟩ := hT.out.next hb2; replace hT := Lib.hid hT2; clear hT2 hb2; clear hV))  | (go_at_call 11; have _t := hCa; go_must (refine (hCa.out _).mono ?_; rintro e w2 ⟨rfl, hb2⟩; obtain ⟨⟨q0, q1, q2, q3⟩, ⟨q4, q5, q6, q7⟩, hT2⟩ := hT.out.next hb2; replace hT := Lib.hid hT2; clear hT2 hb2; clear hCa))  | (go_at_call 11; have _t := hCb; go_must (refine (hCb.out _).mono ?_; rintro e w2 ⟨rfl, hb2⟩; obtain ⟨⟨q0, q1, q2, q3⟩, ⟨q4, q5, q6, q7⟩, hT2⟩ := hT.out.next hb2; replace hT := Lib.hid hT2; clear hT2 hb2; clear hCb)))
          go_ret
          exact ⟨rfl, hT.out.bel⟩
theorem apart_walk (W : World) (htab : Tab W) (a0 : Int) (w0 : (Lit.int .i64 a0).wf = true) (b0 c0 : ByteArray) (e0 : Bool) (zb0 : b0.size ≤ 1048576) (zc0 : c0.size ≤ 1048576) (a1 : Int) (w1 : (Lit.int .i64 a1).wf = true) (b1 c1 : ByteArray) (e1 : Bool) (zb1 : b1.size ≤ 1048576) (zc1 : c1.size ≤ 1048576) :
    Calls Tryd.prog 7 #[.agg #[.int .i64 a0, .string b0, .string c0, .bool e0], .agg #[.int .i64 a1, .string b1, .string c1, .bool e1]] W fun e w' => e = .returned (.bool true) ∧ Below W.heap.size W w' := by
  have h := apart_core W htab a0 w0 b0.data.toList c0.data.toList e0 a1 w1 b1.data.toList c1.data.toList e1
  unfold repV at h
  rw [of_data, of_data, of_data, of_data] at h
  exact h
end Go.Proofs.YthacomeiinejaaaDoor
