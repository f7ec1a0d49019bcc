/-
  Chapter 11: the law ManifestApart, walked.
-/
import Derived.Test.YtbhfcjgejnnpcaaMq
set_option linter.unusedVariables false
set_option linter.unusedSimpArgs false
namespace Go.Proofs.Ytbhfcjgejnnpcaa
open Go.RowKit Go.Proofs.YtbhfcjgejnnpcaaW.PrintWords Go.Proofs.Ytbhfcjgejnnpcaa.PManifest
theorem rcheck2 {L : List (List S44)} {log next seq : Int} (h : StOk L log next seq) (A : Option Addr) (c : Nat) (w : World) (hr : Kd.C (Kd.slice 44 k44) w A L.length L) (hc : L.length ≤ c) :
    Calls Try.prog 15 #[.agg #[.slice A L.length c, .int .i64 log, .int .i64 next, .int .u64 seq]] w fun e w' => e = .returned (.int .i64 (c110 (chkB L log next seq))) ∧ Below w.heap.size w w' :=
  rcheck_any L log next seq h.n h.each (by have := h.all; omega) A c w hr hc
theorem gt_false {x y : ByteArray} (h : lessB y x = false) : (!Op.bytesLess x.toList y.toList && !x.toList == y.toList) = false := by
  cases h2 : Op.bytesLess x.toList y.toList with
  | true => rfl
  | false =>
    have h3 : ¬ x.toList < y.toList := fun e => by
      have := (lessB_iff x y).2 e
      unfold lessB at this
      rw [h2] at this
      cases this
    have h4 : ¬ y.toList < x.toList := fun e => by
      have := (lessB_iff y x).2 e
      rw [h] at this
      cases this
    rw [List.le_antisymm (List.not_lt.1 h4) (List.not_lt.1 h3)]
    simp
/-- A state's box. -/
structure SBx (w : World) (sc : List Value) (W : World) : Prop where
  s : W.heap[w.heap.size]? = some (.cells sc.toArray 27 (0, 0))
  bel : Below w.heap.size w W
theorem SBx.next {w : World} {sc : List Value} {W W2 : World} (h : SBx w sc W) (hb : Below W.heap.size W W2) : SBx w sc W2 :=
  ⟨(hb.block _ (Array.getElem?_eq_some_iff.1 h.s).1).trans h.s, h.bel.trans (hb.mono h.bel.size)⟩
set_option maxHeartbeats 2000000 in
set_option maxRecDepth 100000 in
theorem apart_walk (L : List (List S44)) (log next seq : Int) (hst : StOk L log next seq) (key : ByteArray) (hkey : key.size ≤ 1048576) (A : Option Addr) (c : Nat) (w : World) (hr : Kd.C (Kd.slice 44 k44) w A L.length L) (hc : L.length ≤ c) :
    Calls Try.prog 4 #[.agg #[.slice A L.length c, .int .i64 log, .int .i64 next, .int .u64 seq], .string key] w fun e w' => e = .returned (.bool true) ∧ Below w.heap.size w w' := by
  have hS0 : Hid (SBx w [.slice A L.length c, .int .i64 log, .int .i64 next, .int .u64 seq] (w.alloc (.cells #[.slice A L.length c, .int .i64 log, .int .i64 next, .int .u64 seq] 27))) := Lib.hid ⟨heap_alloc_new w _, below_alloc (Below.refl _ _) _⟩
  have hcell : ∀ W, SBx w [.slice A L.length c, .int .i64 log, .int .i64 next, .int .u64 seq] W → W.cell? ⟨w.heap.size, 0, none⟩ = some (.slice A L.length c) ∧ W.cell? ⟨w.heap.size, 1, none⟩ = some (.int .i64 log) ∧ W.cell? ⟨w.heap.size, 2, none⟩ = some (.int .i64 next) ∧ W.cell? ⟨w.heap.size, 3, none⟩ = some (.int .u64 seq) := fun W h => ⟨(blk_cell h.s 0).trans rfl, (blk_cell h.s 1).trans rfl, (blk_cell h.s 2).trans rfl, (blk_cell h.s 3).trans rfl⟩
  replace hcell := Lib.hid hcell
  have hck := Lib.hid (fun W (h : Below w.heap.size w W) => stcheck_any hst A c W (Kd.C_below hr h) hc)
  have hrk := Lib.hid (fun W (h : Below w.heap.size w W) => rcheck2 hst A c W (Kd.C_below hr h) hc)
  have hov := Lib.hid (fun W (h : Below w.heap.size w W) level a b => ov_any L log next seq level a b hst.each A c W (Kd.C_below hr h) hc)
  have hll : L.length < 1000000000 := hst.n
  replace hst := Lib.hid hst
  clear hr
  go_enter Try.func4, Try.ntmps4
  go_wp2_with (fail)
  refine (lives_any _).mono ?_
  rintro e w1 ⟨rfl, hb1⟩
  have hS1 := Lib.hid (hS0.out.next hb1)
  obtain ⟨k0, k1, k2, k3⟩ := hcell.out _ hS1.out
  clear hS0 hb1
  go_wp2_with (fail)
  refine (hck.out _ hS1.out.bel).mono ?_
  rintro e w2 ⟨rfl, hb2⟩
  have hS2 := Lib.hid (hS1.out.next hb2)
  clear k0 k1 k2 k3
  obtain ⟨k0, k1, k2, k3⟩ := hcell.out _ hS2.out
  clear hS1 hb2
  cases hcc : chkB L log next seq with
  | false =>
    have e1 : c110 false = 110 := rfl
    rw [e1]
    have hrk2 := hrk.out _ hS2.out.bel
    rw [hcc, e1] at hrk2
    replace hcc := Lib.hid hcc
    replace hrk2 := Lib.hid hrk2
    go_wp2_with (fail)
    refine hrk2.out.mono ?_
    rintro e w3 ⟨rfl, hb3⟩
    go_wp2
    go_ret
    exact ⟨rfl, (hS2.out.next hb3).bel⟩
  | true =>
    have e1 : c110 true = 0 := rfl
    rw [e1]
    have h7 := chk_seven hcc
    have hlev := Lib.hid (fun n hn h0 => chk_lev hcc n hn h0 key)
    replace hcc := Lib.hid hcc
    have e2 : ovF L (-1) key key = [] := by unfold ovF; rw [if_pos (by omega)]
    have e3 : ovF L 7 ⟨#[]⟩ ⟨#[126]⟩ = [] := by unfold ovF; rw [if_pos (by omega)]
    replace e2 := Lib.hid e2
    replace e3 := Lib.hid e3
    go_wp2
    clear k0 k1 k2 k3
    go_loopw [5] (fun i wr => ∃ n : Nat, 1 ≤ n ∧ n ≤ L.length + 1 ∧ i = .int .i64 (n : Nat) ∧ Hid (SBx w [.slice A L.length c, .int .i64 log, .int .i64 next, .int .u64 seq] wr)) (fun i _ => L.length + 1 - (intOf i).toNat)
    case atStart => exact ⟨1, by omega, by omega, rfl, hS2⟩
    case round =>
      clear hS2
      rename World => wr
      obtain ⟨n, hn1, hn2, rfl, hS⟩ := hrel
      obtain ⟨k0, k1, k2, k3⟩ := hcell.out _ hS.out
      by_cases hlt : n < L.length
      · rcases hlev.out n hlt (by omega) with ho | ⟨t, ho, l1, l2⟩
        · go_wp2_with (fail)
          refine (hov.out _ hS.out.bel (n : Int) key key).mono ?_
          rintro e w4 ⟨A2, c2, rfl, hc2, hC2, hb4⟩
          rw [ho] at hc2 hC2 ⊢
          have hS4 := Lib.hid (hS.out.next hb4)
          clear k0 k1 k2 k3 hC2 hb4 hS
          replace ho := Lib.hid ho
          go_wp2
          go_roundw
          case rel => exact ⟨n + 1, by omega, by omega, by simp, hS4⟩
          case measure => simp [intOf]; omega
        · go_wp2_with (fail)
          refine (hov.out _ hS.out.bel (n : Int) key key).mono ?_
          rintro e w4 ⟨A2, c2, rfl, hc2, hC2, hb4⟩
          rw [ho] at hc2 hC2 ⊢
          have hS4 := Lib.hid (hS.out.next hb4)
          obtain ⟨ad, rfl, _, _, _, d3, d4⟩ := at_T44 hC2 0 (by omega) (by simp)
          have e5 : rd_T44 [t] 0 = t := rfl
          rw [e5, show (0 : Int).toNat * 5 = 0 from rfl, show ad.add 0 = ad by simp [Addr.add]] at d3 d4
          have m1 := gt_false l1
          unfold lessB at l2
          clear l1
          clear k0 k1 k2 k3 hC2 hb4 hS e5
          replace ho := Lib.hid ho
          go_wp2
          go_roundw
          case rel => exact ⟨n + 1, by omega, by omega, by simp, hS4⟩
          case measure => simp [intOf]; omega
      · clear hlev
        go_wp2_with (fail)
        refine (hov.out _ hS.out.bel (-1) key key).mono ?_
        rintro e w4 ⟨A2, c2, rfl, hc2, hC2, hb4⟩
        rw [e2.out]
        have hS4 := Lib.hid (hS.out.next hb4)
        clear k0 k1 k2 k3 hC2 hb4 hS hc2
        obtain ⟨k0, k1, k2, k3⟩ := hcell.out _ hS4.out
        go_wp2_with (fail)
        refine (hov.out _ hS4.out.bel 7 ⟨#[]⟩ ⟨#[126]⟩).mono ?_
        rintro e w5 ⟨A3, c3, rfl, hc3, hC3, hb5⟩
        rw [e3.out]
        have hS5 := Lib.hid (hS4.out.next hb5)
        clear hC3 hb5 hS4 hc3 k0 k1 k2 k3
        go_wp2
        go_ret
        exact ⟨rfl, hS5.out.bel⟩
end Go.Proofs.Ytbhfcjgejnnpcaa
