/-
  Chapter 18: the law of replies as bytes come, walked.
-/
import Derived.Test.YthacomeiinejaaaDoorSr
set_option linter.unusedVariables false
set_option linter.unusedSimpArgs false
namespace Go.Proofs.YthacomeiinejaaaDoor
open Go.RowKit Go.Proofs.YthacomeiinejaaaDoorW.PrintWords Go.Proofs.YthacomeiinejaaaDoor.PReplyWrites
set_option maxHeartbeats 4000000 in
set_option maxRecDepth 100000 in
theorem goes_core (W : World) (htab : Tab W) (st : Int) (w1 : (Lit.int .i64 st).wf = true) (body ck : List UInt8) (cl : Bool) :
    Calls Tryd.prog 5 #[repV st body ck cl] W fun e w' => e = .returned (.bool true) ∧ Below W.heap.size W w' := by
  have hA := Lib.hid (fun V h => awake_any V h)
  have hW := fun V h => write_any st w1 body ck cl V h
  obtain ⟨c, hc⟩ : ∃ c, chkB st body ck = c := ⟨_, rfl⟩
  simp only [hc] at hW
  cases c with
  | false =>
    simp only [Bool.false_eq_true, if_false] at hW
    replace hW := Lib.hid hW
    have ht := Lib.hid htab
    have he : (B []).toList.isEmpty = true := by rw [B_toList]; rfl
    unfold repV at hW ⊢
    have hb0 : Below W.heap.size W (W.alloc (.cells #[.int .i64 st, .string (B body), .string (B ck), .bool cl] 23)) := below_alloc (Below.refl _ _) _
    have hk0 := heap_alloc_new W (.cells #[.int .i64 st, .string (B body), .string (B ck), .bool cl] 23)
    have hR0 : Rep W W.heap.size (.int .i64 st) (.string (B body)) (.string (B ck)) (.bool cl) (W.alloc (.cells #[.int .i64 st, .string (B body), .string (B ck), .bool cl] 23)) := ⟨hk0, hb0⟩
    replace hR0 := Lib.hid hR0
    clear hk0 hb0 htab
    go_enter Tryd.func5, Tryd.ntmps5
    go_wp2_with (first  | (go_at_call 9; go_must (refine (hA.out _ (ht.out.below hR0.out.bel)).mono ?_; rintro e w2 ⟨rfl, hb2⟩; obtain ⟨q0, q1, q2, q3, hR⟩ := hR0.out.next hb2; replace hR := Lib.hid hR; clear hb2 hR0))  | (go_at_call 12; go_must (refine (hW.out _ (ht.out.below hR.out.bel)).mono ?_; rintro e w3 ⟨rfl, hb3⟩; replace hb3 := Lib.hid (hR.out.bel.trans (hb3.mono hR.out.bel.size)))))
    go_ret
    exact ⟨rfl, hb3.out⟩
  | true =>
    simp only [if_true] at hW
    have hok := chk_ok hc
    have hll := len_write cl hok
    have hP := fun (k : Nat) (hk : k < (writeL st body ck cl).length) V h => parse_any ((writeL st body ck cl).take k) (by rw [List.length_take]; omega) V h
    have hcut := fun k hk => parse_cut cl hok k hk
    replace hW := Lib.hid hW
    have ht := Lib.hid htab
    unfold repV at hW ⊢
    have hb0 : Below W.heap.size W (W.alloc (.cells #[.int .i64 st, .string (B body), .string (B ck), .bool cl] 23)) := below_alloc (Below.refl _ _) _
    have hk0 := heap_alloc_new W (.cells #[.int .i64 st, .string (B body), .string (B ck), .bool cl] 23)
    have hR0 : Rep W W.heap.size (.int .i64 st) (.string (B body)) (.string (B ck)) (.bool cl) (W.alloc (.cells #[.int .i64 st, .string (B body), .string (B ck), .bool cl] 23)) := ⟨hk0, hb0⟩
    replace hR0 := Lib.hid hR0
    generalize writeL st body ck cl = L at *
    have rs := B_size L
    have hPk : ∀ (k : Nat), k < L.length → ∀ V, Tab V → Calls Tryd.prog 14 #[.string (B (L.take k))] V fun e w' => e = .returned (.tuple #[.agg #[.int .i64 0, .string ⟨#[]⟩, .string ⟨#[]⟩, .bool false], .int .i64 0, .int .i64 20]) ∧ Below V.heap.size V w' := fun k hk V h => by
      have := hP k hk V h
      rw [hcut k hk] at this
      exact this
    replace hPk := Lib.hid hPk
    clear hk0 hb0 htab hP hcut hok hc
    go_enter Tryd.func5, Tryd.ntmps5
    go_wp2_with (first  | (go_at_call 9; go_must (refine (hA.out _ (ht.out.below hR0.out.bel)).mono ?_; rintro e w2 ⟨rfl, hb2⟩; obtain ⟨q0, q1, q2, q3, hR⟩ := hR0.out.next hb2; replace hR := Lib.hid hR; clear hb2 hR0))  | (go_at_call 12; go_must (refine (hW.out _ (ht.out.below hR.out.bel)).mono ?_; rintro e w3 ⟨rfl, hb3⟩; replace hb3 := Lib.hid (hR.out.bel.trans (hb3.mono hR.out.bel.size)))))
    have hdv : ((L.length : Int) / 200) = ((L.length / 200 : Nat) : Int) := by omega
    rw [hdv]
    clear hdv
    have hdl : L.length / 200 ≤ 400 := by omega
    generalize L.length / 200 = D at *
    go_loopw [6] (fun i wr => ∃ k : Nat, i = .int .i64 k ∧ k ≤ L.length + 1 + D ∧ Below W.heap.size W wr) (fun i _ => L.length + 1 - (intOf i).toNat)
    case atStart => exact ⟨0, rfl, by omega, hb3.out⟩
    case round =>
      obtain ⟨k, rfl, hkl, hbr⟩ := hrel
      replace hbr := Lib.hid hbr
      by_cases hk : k < L.length
      · have rx : (B L).extract 0 k = B (L.take k) := B_take L k
        have hPc := Lib.hid (hPk.out k hk wr (ht.out.below hbr.out))
        go_wp2_with (first | (go_at_call 14; go_must (refine hPc.out.mono ?_; rintro e w5 ⟨rfl, hb5⟩; replace hbr := Lib.hid (hbr.out.trans (hb5.mono hbr.out.size)); clear hb5)))
        go_roundw
        case rel => exact ⟨k + 1 + D, by go_num, by omega, hbr.out.alloc hbr.out.size _⟩
        case measure => simp [intOf]; omega
      · go_wp2
        go_ret
        exact ⟨rfl, hbr.out⟩
theorem goes_walk (W : World) (htab : Tab W) (a0 : Int) (w0 : (Lit.int .i64 a0).wf = true) (b0 c0 : ByteArray) (e0 : Bool) (zb0 : b0.size ≤ 1048576) (zc0 : c0.size ≤ 1048576) :
    Calls Tryd.prog 5 #[.agg #[.int .i64 a0, .string b0, .string c0, .bool e0]] W fun e w' => e = .returned (.bool true) ∧ Below W.heap.size W w' := by
  have h := goes_core W htab a0 w0 b0.data.toList c0.data.toList e0
  unfold repV at h
  rw [of_data, of_data] at h
  exact h
end Go.Proofs.YthacomeiinejaaaDoor
