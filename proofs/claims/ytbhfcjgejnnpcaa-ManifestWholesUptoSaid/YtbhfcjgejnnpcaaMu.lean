/-
  Chapter 11: the law ManifestWholes, walked.
-/
import Derived.Test.YtbhfcjgejnnpcaaMt
import Derived.Test.YtbhfcjgejnnpcaaMv
import Derived.Deep.RegionHeld3
set_option linter.unusedVariables false
set_option linter.unusedSimpArgs false
namespace Go.Proofs.Ytbhfcjgejnnpcaa
open Go.RowKit Go.Proofs.YtbhfcjgejnnpcaaW.PrintWords Go.Proofs.Ytbhfcjgejnnpcaa.PManifest
/-- A state's box, an edit's box (the first block behind w1). -/
structure SEx (w w1 : World) (sc ec : List Value) (W : World) : Prop where
  s : W.heap[w.heap.size]? = some (.cells sc.toArray 27 (0, 0))
  e : W.heap[w1.heap.size]? = some (.cells ec.toArray 31 (0, 0))
  bel : Below w.heap.size w W
  rel : Below w1.heap.size w1 W
theorem SEx.nx {w w1 : World} {sc ec : List Value} {W W2 : World} (hb : Below W.heap.size W W2) (h : SEx w w1 sc ec W) : SEx w w1 sc ec W2 :=
  ⟨(hb.block _ (Array.getElem?_eq_some_iff.1 h.s).1).trans h.s, (hb.block _ (Array.getElem?_eq_some_iff.1 h.e).1).trans h.e, h.bel.trans (hb.mono h.bel.size), h.rel.trans (hb.mono h.rel.size)⟩
theorem SEx.of {P0 P1 P2 P3 P4 P5 P6 P7 P8 Q : Prop} (h : P0 ∧ P1 ∧ P2 ∧ P3 ∧ P4 ∧ P5 ∧ P6 ∧ P7 ∧ P8 ∧ Q) : Q := h.2.2.2.2.2.2.2.2.2
set_option maxHeartbeats 2000000 in
set_option maxRecDepth 100000 in
theorem wholes_walk (L : List (List S44)) (log next seq : Int) (hst : StOk L log next seq) (hfl : L.flatten.length < 1048577) (A : Option Addr) (c : Nat) (w : World) (hr : Kd.C (Kd.slice 44 k44) w A L.length L) (hc : L.length ≤ c) :
    Calls Try.prog 3 #[.agg #[.slice A L.length c, .int .i64 log, .int .i64 next, .int .u64 seq]] w fun e w' => e = .returned (.bool true) ∧ Below w.heap.size w w' := by
  have hS0 : Hid (SBx w [.slice A L.length c, .int .i64 log, .int .i64 next, .int .u64 seq] (w.alloc (.cells #[.slice A L.length c, .int .i64 log, .int .i64 next, .int .u64 seq] 27))) := Lib.hid ⟨heap_alloc_new w _, below_alloc (Below.refl _ _) _⟩
  have hcell : ∀ W, SBx w [.slice A L.length c, .int .i64 log, .int .i64 next, .int .u64 seq] W → W.cell? ⟨w.heap.size, 0, none⟩ = some (.slice A L.length c) ∧ W.cell? ⟨w.heap.size, 1, none⟩ = some (.int .i64 log) ∧ W.cell? ⟨w.heap.size, 2, none⟩ = some (.int .i64 next) ∧ W.cell? ⟨w.heap.size, 3, none⟩ = some (.int .u64 seq) := fun W h => ⟨(blk_cell h.s 0).trans rfl, (blk_cell h.s 1).trans rfl, (blk_cell h.s 2).trans rfl, (blk_cell h.s 3).trans rfl⟩
  obtain ⟨k0, k1, k2, k3⟩ := hcell _ hS0.out
  replace hcell := Lib.hid hcell
  have hwf := Lib.hid hst.wf
  have hlog := hst.log
  have hnext := hst.next
  have hseq := hst.seq
  have hn := hst.n
  have hsq : 0 ≤ seq := hseq.1
  have hwh := Lib.hid (fun W (h : Below w.heap.size w W) => whole_any L log next seq hst.n (by omega) A c W (Kd.C_below hr h) hc)
  have hrwh := Lib.hid (fun W (h : Below w.heap.size w W) => rwhole_any L log next seq hst.n (by omega) A c W (Kd.C_below hr h) hc)
  have hrk := Lib.hid (fun W (h : Below w.heap.size w W) => rcheck2 hst A c W (Kd.C_below hr h) hc)
  have hss := Lib.hid (fun W (h : Below w.heap.size w W) B d (hB : Kd.C (Kd.slice 44 k44) W B L.length L) (hd : L.length ≤ d) => sameState_any L log next seq hst.n hst.each B A d c W hB hd (Kd.C_below hr h) hc)
  have hwl : (whF 0 L).length < 1048577 := by rw [whF_len]; exact hfl
  have hwm : Hid (∀ a ∈ whF 0 L, (Lit.int .i64 a.f1.f0).wf = true) := Lib.hid (fun a ha => hwf.out a.f1 (whF_mem L 0 a ha))
  clear hst hr hwf
  go_enter Try.func3, Try.ntmps3
  go_wp2_with (fail)
  refine (hwh.out _ hS0.out.bel).mono ?_
  rintro e w1 ⟨A1, c1, A4, c4, rfl, hc1, hC1, hb1⟩
  have hS1 := hS0.out.next hb1
  have hs1 := hS1.s
  have hx1 := heap_alloc_new w1 (.cells #[.int .i64 log, .int .i64 next, .int .u64 seq, .slice A1 (whF 0 L).length c1, .slice A4 0 c4] 31)
  have hE0 : Hid (SEx w w1 [.slice A L.length c, .int .i64 log, .int .i64 next, .int .u64 seq] [.int .i64 log, .int .i64 next, .int .u64 seq, .slice A1 (whF 0 L).length c1, .slice A4 0 c4] (w1.alloc (.cells #[.int .i64 log, .int .i64 next, .int .u64 seq, .slice A1 (whF 0 L).length c1, .slice A4 0 c4] 31)).drew) := Lib.hid ⟨blk_alloc hs1 _, hx1, below_drew (below_alloc hS1.bel _), below_drew (below_alloc (Below.refl _ _) _)⟩
  have hecell : ∀ W, SEx w w1 [.slice A L.length c, .int .i64 log, .int .i64 next, .int .u64 seq] [.int .i64 log, .int .i64 next, .int .u64 seq, .slice A1 (whF 0 L).length c1, .slice A4 0 c4] W → W.cell? ⟨w.heap.size, 0, none⟩ = some (.slice A L.length c) ∧ W.cell? ⟨w.heap.size, 1, none⟩ = some (.int .i64 log) ∧ W.cell? ⟨w.heap.size, 2, none⟩ = some (.int .i64 next) ∧ W.cell? ⟨w.heap.size, 3, none⟩ = some (.int .u64 seq) ∧ W.cell? ⟨w1.heap.size, 0, none⟩ = some (.int .i64 log) ∧ W.cell? ⟨w1.heap.size, 1, none⟩ = some (.int .i64 next) ∧ W.cell? ⟨w1.heap.size, 2, none⟩ = some (.int .u64 seq) ∧ W.cell? ⟨w1.heap.size, 3, none⟩ = some (.slice A1 (whF 0 L).length c1) ∧ W.cell? ⟨w1.heap.size, 4, none⟩ = some (.slice A4 0 c4) ∧ SEx w w1 [.slice A L.length c, .int .i64 log, .int .i64 next, .int .u64 seq] [.int .i64 log, .int .i64 next, .int .u64 seq, .slice A1 (whF 0 L).length c1, .slice A4 0 c4] W := fun W h => ⟨(blk_cell h.s 0).trans rfl, (blk_cell h.s 1).trans rfl, (blk_cell h.s 2).trans rfl, (blk_cell h.s 3).trans rfl, (blk_cell h.e 0).trans rfl, (blk_cell h.e 1).trans rfl, (blk_cell h.e 2).trans rfl, (blk_cell h.e 3).trans rfl, (blk_cell h.e 4).trans rfl, h⟩
  have hse := Lib.hid (fun W (h : SEx w w1 [.slice A L.length c, .int .i64 log, .int .i64 next, .int .u64 seq] [.int .i64 log, .int .i64 next, .int .u64 seq, .slice A1 (whF 0 L).length c1, .slice A4 0 c4] W) A3 c3 A5 c5 (hC3 : Kd.C k71 W A3 (whF 0 L).length (whF 0 L)) (hc3 : (whF 0 L).length ≤ c3) => sameEdit_any log next seq (whF 0 L) (by omega) A1 A3 A4 A5 c1 c3 c4 c5 W (Kd.C_below hC1 h.rel) hc1 hC3 hc3)
  have hap := Lib.hid (fun W (h : SEx w w1 [.slice A L.length c, .int .i64 log, .int .i64 next, .int .u64 seq] [.int .i64 log, .int .i64 next, .int .u64 seq, .slice A1 (whF 0 L).length c1, .slice A4 0 c4] W) => apply_any [] 0 1 0 log next seq (whF 0 L) [] st0 none A1 A4 0 c1 c4 W (Kd.C_nil _ _) (Nat.le_refl _) (C_zero _ _ _) (Kd.C_below hC1 h.rel) (by decide) (by omega) hwm.out hlog hnext hseq)
  replace hecell := Lib.hid hecell
  clear hC1 hb1 hS1 hs1 hx1 hS0 k0 k1 k2 k3 hwm hwh
  go_upto_region 2 with (fail)
  go_region_held3 (fun V => V.cell? ⟨w.heap.size, 0, none⟩ = some (.slice A L.length c) ∧ V.cell? ⟨w.heap.size, 1, none⟩ = some (.int .i64 log) ∧ V.cell? ⟨w.heap.size, 2, none⟩ = some (.int .i64 next) ∧ V.cell? ⟨w.heap.size, 3, none⟩ = some (.int .u64 seq) ∧ V.cell? ⟨w1.heap.size, 0, none⟩ = some (.int .i64 log) ∧ V.cell? ⟨w1.heap.size, 1, none⟩ = some (.int .i64 next) ∧ V.cell? ⟨w1.heap.size, 2, none⟩ = some (.int .u64 seq) ∧ V.cell? ⟨w1.heap.size, 3, none⟩ = some (.slice A1 (whF 0 L).length c1) ∧ V.cell? ⟨w1.heap.size, 4, none⟩ = some (.slice A4 0 c4) ∧ SEx w w1 [.slice A L.length c, .int .i64 log, .int .i64 next, .int .u64 seq] [.int .i64 log, .int .i64 next, .int .u64 seq, .slice A1 (whF 0 L).length c1, .slice A4 0 c4] V) (first | exact hecell.out _ hE0.out | exact hecell.out _ (SEx.nx (by assumption) (SEx.of (by assumption)))) (first | (go_at_call 11; refine (lives_any _).mono ?_; rintro e w2 ⟨rfl, hb2⟩) | (go_at_call 13; refine (hrwh.out _ (SEx.bel (SEx.of (by assumption)))).mono ?_; rintro e w3 ⟨A3, c3, A5, c5, rfl, hc3, hC3, hb3⟩) | (go_at_call 12; refine (hse.out _ (SEx.of (by assumption)) A3 c3 A5 c5 hC3 hc3).mono ?_; rintro e w4 ⟨rfl, hb4⟩))
  have hE4 := Lib.hid (SEx.nx hb4 (SEx.nx hb3 (SEx.nx hb2 hE0.out)))
  have hap4 := Lib.hid (hap.out _ hE4.out)
  obtain ⟨k0, k1, k2, k3, m0, m1, m2, m3, m4, _⟩ := hecell.out _ hE4.out
  clear hE0 hb2 hb3 hb4 hap hse hrwh hC3
  repeat (rename _ ∧ _ => hh; clear hh)
  go_wp2_with (fail)
  refine hap4.out.mono ?_
  rintro e w5 ⟨o, hApp, hb5, ho⟩
  have hE5 := Lib.hid (SEx.nx hb5 hE4.out)
  clear hap4 k0 k1 k2 k3 m0 m1 m2 m3 m4 hb5 hE4
  replace hApp := Lib.hid hApp
  cases hcc : chkB L log next seq with
  | false =>
    have e1 : c110 false = 110 := rfl
    have hrk2 := fun W h => hrk.out W h
    rw [hcc, e1] at hrk2
    replace hrk2 := Lib.hid hrk2
    replace hcc := Lib.hid hcc
    cases o with
    | none =>
      obtain rfl := ho
      have hE6 := Lib.hid (SEx.nx (below_alloc (Below.refl _ _) (.cells #[.slice none 0 0, .int .i64 0, .int .i64 0, .int .u64 0] 27)) hE5.out)
      obtain ⟨k0, k1, k2, k3, m0, m1, m2, m3, m4, _⟩ := hecell.out _ hE6.out
      go_wp2_with (fail)
      refine (hrk2.out _ hE6.out.bel).mono ?_
      rintro e w6 ⟨rfl, hb6⟩
      go_wp2
      go_ret
      exact ⟨rfl, (SEx.nx hb6 hE6.out).bel⟩
    | some OL =>
      obtain ⟨A6, rfl, hC6⟩ := ho
      have hE6 := Lib.hid (SEx.nx (below_alloc (Below.refl _ _) (.cells #[.slice A6 OL.length OL.length, .int .i64 log, .int .i64 next, .int .u64 seq] 27)) hE5.out)
      obtain ⟨k0, k1, k2, k3, m0, m1, m2, m3, m4, _⟩ := hecell.out _ hE6.out
      clear hC6
      go_wp2_with (fail)
      refine (hrk2.out _ hE6.out.bel).mono ?_
      rintro e w6 ⟨rfl, hb6⟩
      go_wp2
      go_ret
      exact ⟨rfl, (SEx.nx hb6 hE6.out).bel⟩
  | true =>
    have e1 : c110 true = 0 := rfl
    obtain rfl := app_whole hcc hsq hApp.out
    obtain ⟨A6, rfl, hC6⟩ := ho
    have hrk2 := fun W h => hrk.out W h
    rw [hcc, e1] at hrk2
    replace hrk2 := Lib.hid hrk2
    replace hcc := Lib.hid hcc
    have hE6 := Lib.hid (SEx.nx (below_alloc (Below.refl _ _) (.cells #[.slice A6 L.length L.length, .int .i64 log, .int .i64 next, .int .u64 seq] 27)) hE5.out)
    have hx6 := heap_alloc_new w5 (.cells #[.slice A6 L.length L.length, .int .i64 log, .int .i64 next, .int .u64 seq] 27)
    have hC7 := Kd.C_below hC6 (below_alloc (Below.refl _ _) (.cells #[.slice A6 L.length L.length, .int .i64 log, .int .i64 next, .int .u64 seq] 27))
    obtain ⟨k0, k1, k2, k3, m0, m1, m2, m3, m4, _⟩ := hecell.out _ hE6.out
    replace hx6 := Lib.hid hx6
    replace hC7 := Lib.hid hC7
    clear hC6
    go_wp2_with (fail)
    refine (hrk2.out _ hE6.out.bel).mono ?_
    rintro e w6 ⟨rfl, hb6⟩
    have hE7 := Lib.hid (SEx.nx hb6 hE6.out)
    have hx7 := (hb6.block _ (Array.getElem?_eq_some_iff.1 hx6.out).1).trans hx6.out
    have n0 := (blk_cell hx7 0).trans rfl
    have n1 := (blk_cell hx7 1).trans rfl
    have n2 := (blk_cell hx7 2).trans rfl
    have n3 := (blk_cell hx7 3).trans rfl
    have hss2 := Lib.hid (hss.out _ hE7.out.bel A6 L.length (Kd.C_below hC7.out hb6) (Nat.le_refl _))
    clear k0 k1 k2 k3 m0 m1 m2 m3 m4 hb6 hx7 hE6 hE5
    obtain ⟨k0, k1, k2, k3, m0, m1, m2, m3, m4, _⟩ := hecell.out _ hE7.out
    go_wp2_with (fail)
    refine hss2.out.mono ?_
    rintro e w7 ⟨rfl, hb7⟩
    have hE8 := Lib.hid (SEx.nx hb7 hE7.out)
    clear k0 k1 k2 k3 m0 m1 m2 m3 m4 n0 n1 n2 n3 hb7 hE7
    go_wp2
    go_ret
    exact ⟨rfl, hE8.out.bel⟩
end Go.Proofs.Ytbhfcjgejnnpcaa
