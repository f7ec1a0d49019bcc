/-
  Chapter 11: the program's Apply, walked.
-/
import Derived.Test.YtbhfcjgejnnpcaaMo
import Derived.Deep.RegionLaw
import Derived.Deep.AppendLies
import Derived.Test.YtbhfcjgejnnpcaaWLast
set_option linter.unusedVariables false
set_option linter.unusedSimpArgs false
namespace Go.Proofs.Ytbhfcjgejnnpcaa
open Go.RowKit Go.Proofs.YtbhfcjgejnnpcaaW.PrintWords Go.Proofs.YtbhfcjgejnnpcaaW.PrintLast Go.Proofs.Ytbhfcjgejnnpcaa.PManifest
set_option maxHeartbeats 4000000 in
set_option maxRecDepth 100000 in
theorem apply_any (L : List (List S44)) (log next seq log2 next2 seq2 : Int) (added : List S71) (gone : List S73) (hst : StOk L log next seq) (A Aa Ag : Option Addr) (c ca cg : Nat) (w : World)
    (hr : Kd.C (Kd.slice 44 k44) w A L.length L) (hc : L.length ≤ c) (hrg : Kd.C k73 w Ag gone.length gone) (hra : Kd.C k71 w Aa added.length added) (hgn : gone.length < 1000000000) (han : added.length < 10000000) (haw : ∀ a ∈ added, (Lit.int .i64 a.f1.f0).wf = true) (hlog2 : -9223372036854775808 ≤ log2 ∧ log2 ≤ 9223372036854775807) (hnext2 : -9223372036854775808 ≤ next2 ∧ next2 ≤ 9223372036854775807) (hseq2 : 0 ≤ seq2 ∧ seq2 ≤ 18446744073709551615) :
    Calls Try.prog 14 #[.agg #[.slice A L.length c, .int .i64 log, .int .i64 next, .int .u64 seq], .agg #[.int .i64 log2, .int .i64 next2, .int .u64 seq2, .slice Aa added.length ca, .slice Ag gone.length cg]] w (ApplyP L log next seq log2 next2 seq2 added gone w) := by
  obtain ⟨sc, hsc⟩ : ∃ sc : List Value, sc = [.slice A L.length c, .int .i64 log, .int .i64 next, .int .u64 seq] := ⟨_, rfl⟩
  obtain ⟨ec, hec⟩ : ∃ ec : List Value, ec = [.int .i64 log2, .int .i64 next2, .int .u64 seq2, .slice Aa added.length ca, .slice Ag gone.length cg] := ⟨_, rfl⟩
  have hA0 := AW.new w sc ec
  rw [hsc, hec] at hA0
  have hA1 := hA0
  rw [← hsc, ← hec] at hA1
  replace hA0 := Lib.hid hA0.bel
  have hcell : ∀ W, AW w sc ec W → W.cell? ⟨w.heap.size, 0, none⟩ = some (.slice A L.length c) ∧ W.cell? ⟨w.heap.size, 1, none⟩ = some (.int .i64 log) ∧ W.cell? ⟨w.heap.size, 2, none⟩ = some (.int .i64 next) ∧ W.cell? ⟨w.heap.size, 3, none⟩ = some (.int .u64 seq) ∧ W.cell? ⟨w.heap.size + 1, 0, none⟩ = some (.int .i64 log2) ∧ W.cell? ⟨w.heap.size + 1, 1, none⟩ = some (.int .i64 next2) ∧ W.cell? ⟨w.heap.size + 1, 2, none⟩ = some (.int .u64 seq2) ∧ W.cell? ⟨w.heap.size + 1, 3, none⟩ = some (.slice Aa added.length ca) ∧ W.cell? ⟨w.heap.size + 1, 4, none⟩ = some (.slice Ag gone.length cg) := fun W h => by
    obtain ⟨h1, h2, _, _⟩ := h.cells
    rw [hsc] at h1
    rw [hec] at h2
    exact ⟨h1 0 _ rfl, h1 1 _ rfl, h1 2 _ rfl, h1 3 _ rfl, h2 0 _ rfl, h2 1 _ rfl, h2 2 _ rfl, h2 3 _ rfl, h2 4 _ rfl⟩
  have hA2 : Hid (AW w sc ec _) := Lib.hid (by rw [hsc, hec]; exact AW.new w _ _)
  replace hcell := Lib.hid hcell
  replace hst := Lib.hid hst
  replace hr := Lib.hid hr
  replace hrg := Lib.hid hrg
  replace hra := Lib.hid hra
  replace haw := Lib.hid haw
  have hbd2 := Lib.hid (And.intro hlog2 (And.intro hnext2 hseq2))
  clear hA1 hsc hec hlog2 hnext2 hseq2
  have hgd := Lib.hid (show gdB L log next seq log2 next2 seq2 = (!chkB L log next seq || (decide (log2 < log) || (decide (next2 < next) || decide (seq2 < seq)))) from rfl)
  go_enter Try.func14, Try.ntmps14
  go_upto_region 2 with (fail)
  go_cut [42] (fun v V => v = .bool (gdB L log next seq log2 next2 seq2) ∧ AW w sc ec V)
  case first =>
    have hcall := Lib.hid (fun W (h : Below w.heap.size w W) => stcheck_any hst.out A c W (Kd.C_below hr.out h) hc)
    go_wp2_with (fail)
    refine (hcall.out _ hA0.out).mono ?_
    rintro e w4 ⟨rfl, hb4⟩
    have hA4 := Lib.hid (hA2.out.next hb4)
    obtain ⟨k0, k1, k2, k3, k4, k5, k6, k7, k8⟩ := hcell.out _ hA4.out
    clear hb4 hA0 hA2 hcall
    cases hck : chkB L log next seq with
    | false =>
      have e1 : c110 false = 110 := rfl
      rw [hck] at hgd
      replace hck := Lib.hid hck
      rw [e1]
      go_wp2
      go_meet
      exact ⟨by rw [hgd.out]; rfl, hA4.out⟩
    | true =>
      have e1 : c110 true = 0 := rfl
      rw [hck] at hgd
      replace hck := Lib.hid hck
      rw [e1]
      go_wp2
      all_goals go_meet
      all_goals
        refine ⟨?_, hA4.out⟩
        rw [hgd.out]
        refine congrArg Value.bool ?_
        simp [*, Bool.or_assoc]
  case rest =>
    obtain ⟨rfl, hA⟩ := hcut
    rename World => V
    cases hgb : gdB L log next seq log2 next2 seq2 with
    | true =>
      have hN : App L log next seq log2 next2 seq2 added gone none := by unfold App; rw [if_pos hgb]
      obtain ⟨z0, z1, z2, z3, y0, y1, y2, y3, f0⟩ := hA.err
      replace hA := Lib.hid hA
      replace hN := Lib.hid hN
      replace hgb := Lib.hid hgb
      go_wp2
      exact bodyPost_ret (results_ct rfl _ _ (w.heap.size + 2) _ _ _ _ rfl (put4 hA.out.r _ _ _ _) Try.underlying27 rfl (by kernel_rfl)) rfl (apply_none hN.out rfl (put4_below hA.out.bel (by omega) _ _ _ _))
    | false =>
      have hck : chkB L log next seq = true := by
        have := hgd.out
        rw [hgb] at this
        cases hx : chkB L log next seq with
        | true => rfl
        | false => rw [hx] at this; simp at this
      have h7 := chk_seven hck
      have hApp : ∀ o, (match goneL (pad7 L) gone with | none => o = none | some L1 => match addL L1 added with | none => o = none | some L2 => ∃ OL, Srt L2 OL ∧ o = if chkB (trimL OL) log2 next2 seq2 = true then some (trimL OL) else none) → App L log next seq log2 next2 seq2 added gone o := fun o h => by
        unfold App
        rw [if_neg (by rw [hgb]; decide)]
        exact h
      replace hApp := Lib.hid hApp
      have hgl : w.heap.size + 4 ≤ V.heap.size := hA.lt
      have hV1 : Hid (LV V.heap.size (List.replicate 7 nilV) (pad7 []) (V.alloc (.cells #[.slice none 0 0, .slice none 0 0, .slice none 0 0, .slice none 0 0, .slice none 0 0, .slice none 0 0, .slice none 0 0] 74))) := Lib.hid (LV.new V)
      have hA1 := Lib.hid (hA.next (below_alloc (Below.refl V.heap.size V) (.cells #[.slice none 0 0, .slice none 0 0, .slice none 0 0, .slice none 0 0, .slice none 0 0, .slice none 0 0, .slice none 0 0] 74)))
      obtain ⟨g, hg⟩ : ∃ g, V.heap.size = g := ⟨_, rfl⟩
      obtain ⟨k0, k1, k2, k3, k4, k5, k6, k7, k8⟩ := hcell.out _ hA1.out
      clear hgb hgd hck hA2 hA0 hA
      rw [hg] at hV1 hgl
      go_wp2
      clear k0 k1 k2 k3 k4 k5 k6 k7 k8
      go_loopw [48] (fun i wr => ∃ P R vs, L = P ++ R ∧ i = .int .i64 (P.length : Nat) ∧ Hid (AW w sc ec wr) ∧ Hid (LV g vs (pad7 P) wr)) (fun i _ => L.length - (intOf i).toNat)
      case atStart => exact ⟨[], L, _, rfl, rfl, hA1, hV1⟩
      case round =>
        clear hA1 hV1 hg
        rename World => wr
        obtain ⟨P, R, vs, hLs, rfl, hA, hV⟩ := hrel
        cases R with
        | nil =>
          have hPL : P = L := by rw [hLs, List.append_nil]
          subst hPL
          clear hLs
          obtain ⟨k0, k1, k2, k3, k4, k5, k6, k7, k8⟩ := hcell.out _ hA.out
          have hall := hst.out.all
          have hLV0 : ∃ LL, LL = pad7 P ∧ LV g vs LL wr ∧ LL.flatten.length ≤ P.flatten.length := ⟨_, rfl, hV.out, by unfold pad7; simp⟩
          obtain ⟨LL0, hLL0, hV0, hfl0⟩ := hLV0
          have hM0 : Hid (∀ t ∈ LL0.flatten, t ∈ P.flatten) := Lib.hid (by rw [hLL0, pad_flat]; exact fun t h => h)
          rw [← hLL0] at hApp
          replace hV0 := Lib.hid hV0
          have hG0 : Hid (∀ x, x = goneL LL0 gone → x = goneL LL0 gone) := Lib.hid (fun _ h => h)
          clear hV hLL0
          go_wp2
          clear k0 k1 k2 k3 k4 k5 k6 k7 k8
          go_loopw [61] (fun i wr => ∃ P2 R2 vs LL, gone = P2 ++ R2 ∧ i = .int .i64 (P2.length : Nat) ∧ Hid (AW w sc ec wr) ∧ Hid (LV g vs LL wr) ∧ Hid (goneL LL0 gone = goneL LL R2) ∧ LL.flatten.length ≤ P.flatten.length) (fun i _ => gone.length - (intOf i).toNat)
          case atStart => exact ⟨[], gone, vs, LL0, rfl, rfl, hA, hV0, Lib.hid rfl, hfl0⟩
          case round =>
            clear hA hV0 hfl0 hG0
            rename World => wi
            obtain ⟨P2, R2, vs2, LL, hgs, rfl, hA, hV, hG, hfl⟩ := hrel
            cases R2 with
            | nil =>
              have hApp2 : Hid (∀ o, (match addL LL added with | none => o = none | some L2 => ∃ OL, Srt L2 OL ∧ o = if chkB (trimL OL) log2 next2 seq2 = true then some (trimL OL) else none) → App P log next seq log2 next2 seq2 added gone o) := Lib.hid (fun o h => hApp.out o (by rw [hG.out, goneL]; exact h))
              have hn : P2.length = gone.length := by rw [hgs]; simp
              replace hgs := Lib.hid hgs
              obtain ⟨k0, k1, k2, k3, k4, k5, k6, k7, k8⟩ := hcell.out _ hA.out
              have hM1 : Hid (∀ t ∈ LL.flatten, t ∈ P.flatten) := Lib.hid (fun t h => hM0.out t (gone_mem gone LL0 LL (by rw [hG.out, goneL]) t h))
              clear hApp hG hM0
              obtain ⟨LL1, hLL1⟩ : ∃ LL1, LL1 = LL := ⟨_, rfl⟩
              rw [← hLL1] at hM1
              rw [← hLL1] at hApp2
              have hG1 : Hid (addL LL1 added = addL LL added) := Lib.hid (by rw [hLL1])
              clear hLL1
              go_wp2
              clear hn k0 k1 k2 k3 k4 k5 k6 k7 k8
              go_loopw [98] (fun i wr => ∃ P3 R3 vs LL, added = P3 ++ R3 ∧ i = .int .i64 (P3.length : Nat) ∧ Hid (AW w sc ec wr) ∧ Hid (LV g vs LL wr) ∧ Hid (addL LL1 added = addL LL R3) ∧ LL.flatten.length ≤ P.flatten.length + P3.length) (fun i _ => added.length - (intOf i).toNat)
              case atStart => exact ⟨[], added, vs2, LL, rfl, rfl, hA, hV, hG1, by simpa using hfl⟩
              case round =>
                clear hA hV hfl hG1 hgs
                rename World => wj
                obtain ⟨P3, R3, vs3, LA, hds, rfl, hA, hV, hG, hfl⟩ := hrel
                cases R3 with
                | nil =>
                  have hn3 : P3.length = added.length := by rw [hds]; simp
                  have hwfA : Hid (∀ t ∈ LA.flatten, (Lit.int .i64 t.f0).wf = true) := Lib.hid (fun t h => by
                    rcases add_mem added LL1 LA (by rw [hG.out, addL]) t h with h | ⟨a, ha, e⟩
                    · exact hst.out.wf t (hM1.out t h)
                    · rw [e]
                      exact haw.out a ha)
                  have hApp3 : Hid (∀ OL, Srt LA OL → App P log next seq log2 next2 seq2 added gone (if chkB (trimL OL) log2 next2 seq2 = true then some (trimL OL) else none)) := Lib.hid (fun OL h => hApp2.out _ (by rw [hG.out, addL]; exact ⟨OL, h, rfl⟩))
                  have hLen : LA.length = 7 := hV.out.llen
                  have hfl3 : LA.flatten.length < 80000000 := by omega
                  have hfe : Hid (∀ l ∈ LA, l.length < 100000000) := Lib.hid (fun l hl => by have := len_flat LA l hl; omega)
                  obtain ⟨v0, v1, v2, v3, v4, v5, v6, hvs⟩ := list7 vs3 hV.out.vlen
                  obtain ⟨k0, k1, k2, k3, k4, k5, k6, k7, k8⟩ := hcell.out _ hA.out
                  clear hApp2 hG hM1 hds haw hfl
                  replace hvs := Lib.hid hvs
                  go_upto_region 28 with (fail)
                  clear hn3
                  have hO : Hid (LO log2 next2 seq2 g wj.heap.size vs3 LA 0 nilV [] (wj.alloc (.cells #[.slice none 0 0, .int .i64 log2, .int .i64 next2, .int .u64 seq2] 27))) := Lib.hid (LO.new hV.out log2 next2 seq2)
                  have hA2 := Lib.hid (hA.out.next (below_alloc (Below.refl _ _) (.cells #[.slice none 0 0, .int .i64 log2, .int .i64 next2, .int .u64 seq2] 27)))
                  have hV2 := hV.out.next (below_alloc (Below.refl _ _) (.cells #[.slice none 0 0, .int .i64 log2, .int .i64 next2, .int .u64 seq2] 27))
                  have d0 := hV2.cell 0 (by omega)
                  have d1 := hV2.cell 1 (by omega)
                  have d2 := hV2.cell 2 (by omega)
                  have d3 := hV2.cell 3 (by omega)
                  have d4 := hV2.cell 4 (by omega)
                  have d5 := hV2.cell 5 (by omega)
                  have d6 := hV2.cell 6 (by omega)
                  rw [hvs.out] at d0 d1 d2 d3 d4 d5 d6
                  simp only [List.getD_cons_zero, List.getD_cons_succ] at d0 d1 d2 d3 d4 d5 d6
                  clear k0 k1 k2 k3 k4 k5 k6 k7 k8 hV2 hV hA
                  replace hLen := Lib.hid hLen
                  go_wp2
                  clear d0 d1 d2 d3 d4 d5 d6
                  go_loopw [131] (fun i wr => ∃ (k : Nat) (u : Value) (OL : List (List S44)), k ≤ 7 ∧ i = .int .i64 (k : Nat) ∧ Hid (AW w sc ec wr) ∧ Hid (LO log2 next2 seq2 g wj.heap.size vs3 LA k u OL wr)) (fun i _ => 7 - (intOf i).toNat)
                  case atStart => exact ⟨0, nilV, [], by omega, rfl, hA2, hO⟩
                  case round =>
                    clear hA2 hO
                    rename World => wk
                    obtain ⟨k, u, OL, hk, rfl, hA, hO⟩ := hrel
                    by_cases hk7 : k < 7
                    · obtain ⟨vk, hvk⟩ : ∃ vk, vs3.getD k nilV = vk := ⟨_, rfl⟩
                      have hi := index7 vs3 v0 v1 v2 v3 v4 v5 v6 hvs.out k hk7
                      have hrk := hO.out.rows k (Nat.le_refl _) hk7
                      rw [hvk] at hi hrk
                      obtain ⟨Ak, ck, q1, _, _⟩ := hrk.reads
                      obtain ⟨nk, hnk⟩ : ∃ nk, (LA.getD k []).length = nk := ⟨_, rfl⟩
                      rw [hnk] at q1
                      subst q1
                      clear hnk
                      have hlk : (LA.getD k []).length < 1000000000 := by
                        have h1 : k < LA.length := by rw [hLen.out]; exact hk7
                        rw [List.getD_eq_getElem?_getD, List.getElem?_eq_getElem h1, Option.getD_some]
                        have := hfe.out _ (List.getElem_mem h1)
                        omega
                      have hcall := Lib.hid (sorted_any k (LA.getD k []) hlk _ (g + 1) wk hrk)
                      have hge := fun b hb => (hrk.ge b hb).1
                      have hst2 := Lib.hid (fun (l : List S44) (w4 : World) hp ho hr hg => (LO.step hO.out hk7 hvk (l := l) (W2 := w4) hp ho hr hg : _))
                      have hol := Lib.hid hO.out.ol
                      replace hge := Lib.hid hge
                      replace hvk := Lib.hid hvk
                      clear hrk hlk
                      go_wp2_with (fail)
                      refine hcall.out.mono ?_
                      rintro e w4 ⟨rfl, l', hp, ho, hr4, hg4⟩
                      obtain ⟨hb2, hR2, hM2, hok2, hfr2, hlt2, hend⟩ := hst2.out l' w4 hp ho hr4 hg4
                      have c0 := (blk_cell hb2 0).trans rfl
                      replace hb2 := Lib.hid hb2
                      replace hR2 := Lib.hid hR2
                      replace hM2 := Lib.hid hM2
                      replace hok2 := Lib.hid hok2
                      replace hfr2 := Lib.hid hfr2
                      replace hend := Lib.hid hend
                      have hA4 := Lib.hid (hA.out.turn hg4 (fun b hb => by have := hge.out b hb; omega))
                      clear hcall hst2 hp ho hr4 hg4 hi
                      go_wp2_with (first | (at_builtin; refine Kd.R_append (Kd.slice 44 k44) (g + 1) rfl (.tmp 140) (.tmp 142) 22 41 (.slice none 0 0) 24 rfl Try.underlying22 info41 rfl (by decide) (by omega) u OL l' [.slice Ak nk ck] _ _ (by rfl) (by rfl) hM2.out hok2.out hfr2.out hR2.out (Below.refl _ _) (by have := hO.out.gl; omega) (by rw [hol.out]; omega) ?_; intro v9 w9 hR9 _ hg9 hat9; obtain ⟨A9, c9, e9, _, _⟩ := Kd.R_reads hR9; rw [List.length_append, List.length_singleton] at e9; subst e9; obtain ⟨hb9, hO9⟩ := hend.out _ w9 hR9 hg9 hat9; have u0 := (blk_cell hb9 0).trans rfl; have f0 := blk_frozen hb9 0; have hA9 := Lib.hid ((hA4.out.turn hg9 (fun b hb => by have h1 := hO.out.ub b hb; have h2 := hO.out.gl; omega)).set wj.heap.size 0 (by have h2 := hO.out.gl; omega) (.slice A9 (OL.length + 1) c9)); replace hO9 := Lib.hid hO9; clear hb9 hR9 hg9 hat9 hend hR2 hM2 hok2 hfr2 hb2 c0))
                      go_roundw
                      case rel => exact ⟨k + 1, _, OL ++ [l'], by omega, by simp, hA9, hO9⟩
                      case measure => simp [intOf]; omega
                    · obtain rfl : k = 7 := by omega
                      have hS : Srt LA OL := ⟨by rw [hO.out.ol, hLen.out], fun i hi => hO.out.srt i (by rw [hLen.out] at hi; exact hi)⟩
                      obtain ⟨Au, cu, hu, hcu, hCu⟩ := Kd.R_reads hO.out.out
                      have hAu : ∀ ad, Au = some ad → ad.add 0 = ad := fun ad h => by
                        subst h
                        have h2 := hO.out.out
                        rw [hu] at h2
                        obtain ⟨g2, rfl⟩ := Kd.R_head h2
                        rfl
                      have hcall := Lib.hid (trimmed_any OL (by rw [hO.out.ol]; omega) Au hAu cu hcu wk hCu)
                      have hN := Lib.hid (hApp3.out OL hS)
                      have hF := Lib.hid (hO.out.fin hu (.slice Au (trimL OL).length (trimL OL).length))
                      have hck := Lib.hid (out_check hS hLen.out (by omega) hfe.out hwfA.out hbd2.out Au _ hF.out.1)
                      have hb1 := hO.out.blk
                      rw [hu] at hb1
                      have hb2 := blk_set hb1 0 (.slice Au (trimL OL).length (trimL OL).length)
                      have b0 := (blk_cell hb1 0).trans rfl
                      have f0 := blk_frozen hb1 0
                      have d0 := (blk_cell hb2 0).trans rfl
                      have d1 := (blk_cell hb2 1).trans rfl
                      have d2 := (blk_cell hb2 2).trans rfl
                      have d3 := (blk_cell hb2 3).trans rfl
                      have hA2 := Lib.hid (hA.out.set wj.heap.size 0 (by have h2 := hO.out.gl; omega) (.slice Au (trimL OL).length (trimL OL).length))
                      have hlg : w.heap.size + 2 ≤ g := by omega
                      have hF2 := Lib.hid (hF.out.2)
                      clear hb1 hF hApp3 hu hCu hS hA hwfA hfe hLen
                      generalize hm : (trimL OL).length = m at *
                      replace hm := Lib.hid hm
                      replace hb2 := Lib.hid hb2
                      go_wp2_with (fail)
                      refine hcall.out.mono ?_
                      rintro e w4 ⟨rfl, rfl⟩
                      clear hcall
                      go_wp2_with (fail)
                      refine hck.out.mono ?_
                      rintro e w5 ⟨rfl, hb5⟩
                      have hA5 := Lib.hid (hA2.out.next hb5)
                      have hb6 := (hb5.block _ (Array.getElem?_eq_some_iff.1 hb2.out).1).trans hb2.out
                      have e0 := (blk_cell hb6 0).trans rfl
                      have e1 := (blk_cell hb6 1).trans rfl
                      have e2 := (blk_cell hb6 2).trans rfl
                      have e3 := (blk_cell hb6 3).trans rfl
                      obtain ⟨z0, z1, z2, z3, y0, y1, y2, y3, f1⟩ := hA5.out.err
                      clear hck d0 d1 d2 d3 f0 b0 hb6
                      cases hcc : chkB (trimL OL) log2 next2 seq2 with
                      | false =>
                        have e4 : c110 false = 110 := rfl
                        have hN2 : Hid (App P log next seq log2 next2 seq2 added gone none) := Lib.hid (by have := hN.out; rw [hcc, if_neg (by decide)] at this; exact this)
                        replace hcc := Lib.hid hcc
                        rw [e4]
                        clear hN
                        go_wp2
                        exact bodyPost_ret (results_ct rfl _ _ (w.heap.size + 2) _ _ _ _ rfl (put4 hA5.out.r _ _ _ _) Try.underlying27 rfl (by kernel_rfl)) rfl (apply_none hN2.out rfl (put4_below hA5.out.bel (by omega) _ _ _ _))
                      | true =>
                        have e4 : c110 true = 0 := rfl
                        have hN2 : Hid (App P log next seq log2 next2 seq2 added gone (some (trimL OL))) := Lib.hid (by have := hN.out; rw [hcc, if_pos rfl] at this; exact this)
                        replace hcc := Lib.hid hcc
                        rw [e4]
                        clear hN
                        go_wp2
                        refine bodyPost_ret (results_ct rfl _ _ (w.heap.size + 2) _ _ _ _ rfl (put4 hA5.out.r _ _ _ _) Try.underlying27 rfl (by kernel_rfl)) rfl ⟨some (trimL OL), hN2.out, put4_below hA5.out.bel (by omega) _ _ _ _, Au, ?_, ?_⟩
                        · rw [hm.out]
                          rfl
                        · rw [hm.out]
                          exact hF2.out w5 hb5 _ _ _ _ _ hlg
                | cons x R3 =>
                  have hn3 : P3.length + 1 + R3.length = added.length := by rw [hds]; simp; omega
                  obtain ⟨ad, e1, c0, c1, c2, c3, c4, c5⟩ := at_T71 (Kd.C_below hra.out hA.out.bel) (P3.length : Int) (by omega) (by omega)
                  have e5 : rd_T71 added (P3.length : Int) = x := by rw [hds]; simp [rd_T71]
                  rw [e5, Int.toNat_natCast] at c0 c1 c2 c3 c4 c5
                  subst e1
                  have hds2 : Hid (added = (P3 ++ [x]) ++ R3) := Lib.hid (by rw [hds]; simp)
                  clear hds e5
                  obtain ⟨xl, xf⟩ := x
                  simp only at c0 c1 c2 c3 c4 c5
                  have hbx := below_alloc (Below.refl wj.heap.size wj) (.cells #[.int .i64 xl, .int .i64 xf.f0, .int .i64 xf.f1, .int .i64 xf.f2, .string xf.f3, .string xf.f4] 71)
                  have hA2 := Lib.hid (hA.out.next hbx)
                  have hV2 := Lib.hid (hV.out.next hbx)
                  have hx0 := heap_alloc_new wj (.cells #[.int .i64 xl, .int .i64 xf.f0, .int .i64 xf.f1, .int .i64 xf.f2, .string xf.f3, .string xf.f4] 71)
                  by_cases hlv : xl < 0 ∨ xl ≥ 7
                  · have hN := hApp2.out none (by rw [hG.out, addL, if_pos hlv])
                    obtain ⟨z0, z1, z2, z3, y0, y1, y2, y3, f0⟩ := hA2.out.err
                    replace hN := Lib.hid hN
                    clear hx0
                    go_wp2
                    all_goals
                      exact bodyPost_ret (results_ct rfl _ _ (w.heap.size + 2) _ _ _ _ rfl (put4 hA2.out.r _ _ _ _) Try.underlying27 rfl (by kernel_rfl)) rfl (apply_none hN.out rfl (put4_below hA2.out.bel (by omega) _ _ _ _))
                  · obtain ⟨n, rfl⟩ : ∃ n : Nat, xl = (n : Int) := ⟨xl.toNat, by omega⟩
                    have hn7 : n < 7 := by omega
                    obtain ⟨Ar, cr, q1, q2, q3⟩ := (hV2.out.rows n hn7).reads
                    have hll : (LA.getD n []).length < 1000000000 := by
                      have h1 : n < LA.length := by rw [hV2.out.llen]; exact hn7
                      have : (LA.getD n []).length ≤ LA.flatten.length := by
                        rw [List.getD_eq_getElem?_getD, List.getElem?_eq_getElem h1, Option.getD_some]
                        exact len_flat _ _ (List.getElem_mem h1)
                      omega
                    have hadd : addL LA (⟨(n : Int), xf⟩ :: R3) = addL (LA.set n (LA.getD n [] ++ [xf])) R3 := by
                      rw [addL, if_neg hlv]
                      rfl
                    rw [hadd] at hG
                    clear hadd q3
                    have hflat : (LA.set n (LA.getD n [] ++ [xf])).flatten.length ≤ LA.flatten.length + 1 := flat_add LA n xf
                    generalize hl0 : LA.getD n [] = l0 at *
                    have hE : Hid (LA.getD n [] = l0) := Lib.hid hl0
                    clear hl0
                    have hVd := hV2.out.next (below_drew (Below.refl _ _))
                    have hAd := hA2.out.next (below_drew (Below.refl _ _))
                    have hvd := hVd.rows n hn7
                    rw [hE.out, q1] at hvd
                    have d1 := hVd.cell n hn7
                    rw [q1] at d1
                    have hxd : ((wj.alloc (.cells #[.int .i64 (n : Int), .int .i64 xf.f0, .int .i64 xf.f1, .int .i64 xf.f2, .string xf.f3, .string xf.f4] 71)).drew).heap[wj.heap.size]? = _ := hx0
                    have b0 := (blk_cell hxd 0).trans rfl
                    have b1 := (blk_cell hxd 1).trans rfl
                    have b2 := (blk_cell hxd 2).trans rfl
                    have b3 := (blk_cell hxd 3).trans rfl
                    have b4 := (blk_cell hxd 4).trans rfl
                    have b5 := (blk_cell hxd 5).trans rfl
                    have hxr : (((wj.alloc (.cells #[.int .i64 (n : Int), .int .i64 xf.f0, .int .i64 xf.f1, .int .i64 xf.f2, .string xf.f3, .string xf.f4] 71)).alloc (.cells #[.int .i64 xf.f0, .int .i64 xf.f1, .int .i64 xf.f2, .string xf.f3, .string xf.f4] 44)).drew).heap[wj.heap.size]? = _ := blk_alloc hx0 (.cells #[.int .i64 xf.f0, .int .i64 xf.f1, .int .i64 xf.f2, .string xf.f3, .string xf.f4] 44)
                    have r0 := (blk_cell hxr 0).trans rfl
                    have r1 := (blk_cell hxr 1).trans rfl
                    have r2 := (blk_cell hxr 2).trans rfl
                    have r3 := (blk_cell hxr 3).trans rfl
                    have r4 := (blk_cell hxr 4).trans rfl
                    have r5 := (blk_cell hxr 5).trans rfl
                    have d2 : (((wj.alloc (.cells #[.int .i64 (n : Int), .int .i64 xf.f0, .int .i64 xf.f1, .int .i64 xf.f2, .string xf.f3, .string xf.f4] 71)).alloc (.cells #[.int .i64 xf.f0, .int .i64 xf.f1, .int .i64 xf.f2, .string xf.f3, .string xf.f4] 44)).drew).cell? ⟨g, n, none⟩ = some (.slice Ar l0.length cr) := by
                      have h := (hV2.out.next (below_drew (below_alloc (Below.refl _ _) (.cells #[.int .i64 xf.f0, .int .i64 xf.f1, .int .i64 xf.f2, .string xf.f3, .string xf.f4] 44)))).cell n hn7
                      rw [q1] at h
                      exact h
                    have hgw : g < wj.heap.size := hV.out.lt
                    have hendA : ∀ v1 w6, Rw w6 (g + 1) v1 (l0 ++ [xf]) → ((wj.alloc (.cells #[.int .i64 (n : Int), .int .i64 xf.f0, .int .i64 xf.f1, .int .i64 xf.f2, .string xf.f3, .string xf.f4] 71)).drew).grownBy w6 (Value.slice Ar l0.length cr).ownBlock → (v1.ownBlock = (Value.slice Ar l0.length cr).ownBlock ∨ ∃ b, v1.ownBlock = some b ∧ ((wj.alloc (.cells #[.int .i64 (n : Int), .int .i64 xf.f0, .int .i64 xf.f1, .int .i64 xf.f2, .string xf.f3, .string xf.f4] 71)).drew).heap.size ≤ b) → ∃ A6 c6, v1 = .slice A6 (l0.length + 1) c6 ∧ (w6.cell? ⟨wj.heap.size, 0, none⟩ = some (.int .i64 (n : Int)) ∧ w6.cell? ⟨wj.heap.size, 1, none⟩ = some (.int .i64 xf.f0) ∧ w6.cell? ⟨wj.heap.size, 2, none⟩ = some (.int .i64 xf.f1) ∧ w6.cell? ⟨wj.heap.size, 3, none⟩ = some (.int .i64 xf.f2) ∧ w6.cell? ⟨wj.heap.size, 4, none⟩ = some (.string xf.f3) ∧ w6.cell? ⟨wj.heap.size, 5, none⟩ = some (.string xf.f4)) ∧ w6.cell? ⟨g, n, none⟩ = some (.slice Ar l0.length cr) ∧ ((w6.setCell ⟨g, n, none⟩ v1).cell? ⟨wj.heap.size, 0, none⟩ = some (.int .i64 (n : Int)) ∧ (w6.setCell ⟨g, n, none⟩ v1).cell? ⟨wj.heap.size, 1, none⟩ = some (.int .i64 xf.f0) ∧ (w6.setCell ⟨g, n, none⟩ v1).cell? ⟨wj.heap.size, 2, none⟩ = some (.int .i64 xf.f1) ∧ (w6.setCell ⟨g, n, none⟩ v1).cell? ⟨wj.heap.size, 3, none⟩ = some (.int .i64 xf.f2) ∧ (w6.setCell ⟨g, n, none⟩ v1).cell? ⟨wj.heap.size, 4, none⟩ = some (.string xf.f3) ∧ (w6.setCell ⟨g, n, none⟩ v1).cell? ⟨wj.heap.size, 5, none⟩ = some (.string xf.f4)) ∧ (∃ u, w6.cell? ⟨g, n, none⟩ = some u) ∧ w6.frozen? ⟨g, n, none⟩ = false ∧ Hid (AW w sc ec (w6.setCell ⟨g, n, none⟩ v1)) ∧ Hid (LV g (vs3.set n v1) (LA.set n (l0 ++ [xf])) (w6.setCell ⟨g, n, none⟩ v1)) := fun v1 w6 hR hg hat => by
                      obtain ⟨A6, c6, hv1, _, _⟩ := hR.reads
                      rw [List.length_append, List.length_singleton] at hv1
                      have hbig : ∀ b, (Value.slice Ar l0.length cr).ownBlock = some b → g + 1 ≤ b := fun b hb => (hvd.ge b hb).1
                      have hne : some g ≠ (Value.slice Ar l0.length cr).ownBlock := fun e => by
                        have := hbig g e.symm
                        omega
                      have hbg := (hg.block g hVd.lt hne).trans hVd.blk
                      have hbt : w6.heap[wj.heap.size]? = _ := blk_grown hxd hg (own_ne hvd.own.choose_spec hxd (by decide))
                      have hcg : w6.cell? ⟨g, n, none⟩ = some (.slice Ar l0.length cr) := by
                        rw [blk_cell hbg, ← q1]
                        have : n < vs3.length := by { rw [hVd.vlen]; exact hn7 }
                        simp [List.getD_eq_getElem?_getD, this]
                      have hbt2 : (w6.setCell ⟨g, n, none⟩ v1).heap[wj.heap.size]? = _ := (Below.heap_setCell _ _ _ _ (by show wj.heap.size ≠ g; omega)).trans hbt
                      refine ⟨A6, c6, hv1, ⟨(blk_cell hbt 0).trans rfl, (blk_cell hbt 1).trans rfl, (blk_cell hbt 2).trans rfl, (blk_cell hbt 3).trans rfl, (blk_cell hbt 4).trans rfl, (blk_cell hbt 5).trans rfl⟩, hcg, ⟨(blk_cell hbt2 0).trans rfl, (blk_cell hbt2 1).trans rfl, (blk_cell hbt2 2).trans rfl, (blk_cell hbt2 3).trans rfl, (blk_cell hbt2 4).trans rfl, (blk_cell hbt2 5).trans rfl⟩, ⟨vs3.getD n nilV, by rw [blk_cell hbg]; have : n < vs3.length := by { rw [hVd.vlen]; exact hn7 }; simp [List.getD_eq_getElem?_getD, this]⟩, blk_frozen hbg n, Lib.hid ?_, Lib.hid ?_⟩
                      · exact (hAd.turn hg (fun j hj => by have := hbig j hj; omega)).set g n hgl _
                      · refine hVd.set n hn7 _ _ (by rw [q1]; exact hg) hR ?_
                        rcases hat with hat | ⟨b, hb1, hb2⟩
                        · exact Or.inl (by rw [q1]; exact hat)
                        · refine Or.inr fun k hk => ?_
                          rw [hb1] at hk
                          injection hk with hk
                          omega
                    replace hendA := Lib.hid hendA
                    have hR0 : Hid (Kd.R k44 44 ((wj.alloc (.cells #[.int .i64 (n : Int), .int .i64 xf.f0, .int .i64 xf.f1, .int .i64 xf.f2, .string xf.f3, .string xf.f4] 71)).drew) (g + 1) (fun _ => True) (.slice Ar l0.length cr) l0) := Lib.hid hvd
                    have hsz := hVd.lt
                    have q4 := hV2.out.cell n hn7
                    rw [q1] at q4
                    have hAp : Hid (∀ v1 w6, Rw w6 (g + 1) v1 (l0 ++ [xf]) → True) := Lib.hid (fun _ _ _ => trivial)
                    have i3 : (0 : Int) ≤ (n : Int) := by omega
                    have i4 : (n : Int) < 7 := by omega
                    have e0 : (wj.alloc (.cells #[.int .i64 (n : Int), .int .i64 xf.f0, .int .i64 xf.f1, .int .i64 xf.f2, .string xf.f3, .string xf.f4] 71)).drew.cell? ⟨wj.heap.size, 0, none⟩ = some (.int .i64 (n : Int)) ∧ (wj.alloc (.cells #[.int .i64 (n : Int), .int .i64 xf.f0, .int .i64 xf.f1, .int .i64 xf.f2, .string xf.f3, .string xf.f4] 71)).drew.cell? ⟨wj.heap.size, 1, none⟩ = some (.int .i64 xf.f0) ∧ (wj.alloc (.cells #[.int .i64 (n : Int), .int .i64 xf.f0, .int .i64 xf.f1, .int .i64 xf.f2, .string xf.f3, .string xf.f4] 71)).drew.cell? ⟨wj.heap.size, 2, none⟩ = some (.int .i64 xf.f1) ∧ (wj.alloc (.cells #[.int .i64 (n : Int), .int .i64 xf.f0, .int .i64 xf.f1, .int .i64 xf.f2, .string xf.f3, .string xf.f4] 71)).drew.cell? ⟨wj.heap.size, 3, none⟩ = some (.int .i64 xf.f2) ∧ (wj.alloc (.cells #[.int .i64 (n : Int), .int .i64 xf.f0, .int .i64 xf.f1, .int .i64 xf.f2, .string xf.f3, .string xf.f4] 71)).drew.cell? ⟨wj.heap.size, 4, none⟩ = some (.string xf.f3) ∧ (wj.alloc (.cells #[.int .i64 (n : Int), .int .i64 xf.f0, .int .i64 xf.f1, .int .i64 xf.f2, .string xf.f3, .string xf.f4] 71)).drew.cell? ⟨wj.heap.size, 5, none⟩ = some (.string xf.f4) := ⟨b0, b1, b2, b3, b4, b5⟩
                    have e1 : ((wj.alloc (.cells #[.int .i64 (n : Int), .int .i64 xf.f0, .int .i64 xf.f1, .int .i64 xf.f2, .string xf.f3, .string xf.f4] 71)).alloc (.cells #[.int .i64 xf.f0, .int .i64 xf.f1, .int .i64 xf.f2, .string xf.f3, .string xf.f4] 44)).drew.cell? ⟨wj.heap.size, 0, none⟩ = some (.int .i64 (n : Int)) ∧ ((wj.alloc (.cells #[.int .i64 (n : Int), .int .i64 xf.f0, .int .i64 xf.f1, .int .i64 xf.f2, .string xf.f3, .string xf.f4] 71)).alloc (.cells #[.int .i64 xf.f0, .int .i64 xf.f1, .int .i64 xf.f2, .string xf.f3, .string xf.f4] 44)).drew.cell? ⟨wj.heap.size, 1, none⟩ = some (.int .i64 xf.f0) ∧ ((wj.alloc (.cells #[.int .i64 (n : Int), .int .i64 xf.f0, .int .i64 xf.f1, .int .i64 xf.f2, .string xf.f3, .string xf.f4] 71)).alloc (.cells #[.int .i64 xf.f0, .int .i64 xf.f1, .int .i64 xf.f2, .string xf.f3, .string xf.f4] 44)).drew.cell? ⟨wj.heap.size, 2, none⟩ = some (.int .i64 xf.f1) ∧ ((wj.alloc (.cells #[.int .i64 (n : Int), .int .i64 xf.f0, .int .i64 xf.f1, .int .i64 xf.f2, .string xf.f3, .string xf.f4] 71)).alloc (.cells #[.int .i64 xf.f0, .int .i64 xf.f1, .int .i64 xf.f2, .string xf.f3, .string xf.f4] 44)).drew.cell? ⟨wj.heap.size, 3, none⟩ = some (.int .i64 xf.f2) ∧ ((wj.alloc (.cells #[.int .i64 (n : Int), .int .i64 xf.f0, .int .i64 xf.f1, .int .i64 xf.f2, .string xf.f3, .string xf.f4] 71)).alloc (.cells #[.int .i64 xf.f0, .int .i64 xf.f1, .int .i64 xf.f2, .string xf.f3, .string xf.f4] 44)).drew.cell? ⟨wj.heap.size, 4, none⟩ = some (.string xf.f3) ∧ ((wj.alloc (.cells #[.int .i64 (n : Int), .int .i64 xf.f0, .int .i64 xf.f1, .int .i64 xf.f2, .string xf.f3, .string xf.f4] 71)).alloc (.cells #[.int .i64 xf.f0, .int .i64 xf.f1, .int .i64 xf.f2, .string xf.f3, .string xf.f4] 44)).drew.cell? ⟨wj.heap.size, 5, none⟩ = some (.string xf.f4) := ⟨r0, r1, r2, r3, r4, r5⟩
                    clear hbx hVd hAd hvd hxd hxr hx0 hV hA hE hV2
                    replace q1 := Lib.hid q1
                    go_upto_region 25 with (fail)
                    clear c0 c1 c2 c3 c4 c5 b0 b1 b2 b3 b4 b5 r0 r1 r2 r3 r4 r5 q4 hAp
                    refine start_ (n := 12) (S := fun w' => w'.cell? ⟨wj.heap.size, 0, none⟩ = some (.int .i64 (n : Int)) ∧ w'.cell? ⟨wj.heap.size, 1, none⟩ = some (.int .i64 xf.f0) ∧ w'.cell? ⟨wj.heap.size, 2, none⟩ = some (.int .i64 xf.f1) ∧ w'.cell? ⟨wj.heap.size, 3, none⟩ = some (.int .i64 xf.f2) ∧ w'.cell? ⟨wj.heap.size, 4, none⟩ = some (.string xf.f3) ∧ w'.cell? ⟨wj.heap.size, 5, none⟩ = some (.string xf.f4) ∧ w'.cell? ⟨g, n, none⟩ = some (.slice Ar l0.length cr)) (ds := [11]) #[false, false, false, false, false, false, false, false, false, false, false, false] (by kernel_rfl) rfl rfl ⟨e0.1, e0.2.1, e0.2.2.1, e0.2.2.2.1, e0.2.2.2.2.1, e0.2.2.2.2.2, d1⟩ (fun hHeld => ?_)
                    refine pure_ (i := 0) (N := some 111) (v := ?_) (a' := ?_) #[true, false, false, false, false, false, false, false, false, false, false, false] rfl rfl (by kernel_rfl) (fun _ _ _ h => h) (Or.inl ⟨by rfl, ?_⟩) ?_ ?_
                    rotate_left
                    · intro w'
                      go_simp
                      with_reducible rfl
                    rotate_left
                    · simp only [Act.put, List.setIfInBounds_toArray, List.set_cons_zero, List.set_cons_succ, i64_w, i32_w]
                      rfl
                    refine pure_ (i := 2) (N := some 113) (v := ?_) (a' := ?_) #[true, false, true, false, false, false, false, false, false, false, false, false] rfl rfl (by kernel_rfl) (fun _ _ _ h => h) (Or.inl ⟨by rfl, ?_⟩) ?_ ?_
                    rotate_left
                    · intro w'
                      go_simp
                      with_reducible rfl
                    rotate_left
                    · simp only [Act.put, List.setIfInBounds_toArray, List.set_cons_zero, List.set_cons_succ, i64_w, i32_w]
                      rfl
                    refine pure_ (i := 6) (N := some 117) (v := ?_) (a' := ?_) #[true, false, true, false, false, false, true, false, false, false, false, false] rfl rfl (by kernel_rfl) (fun _ _ _ h => h) (Or.inl ⟨by rfl, ?_⟩) ?_ ?_
                    rotate_left
                    · intro w'
                      go_simp
                      with_reducible rfl
                    rotate_left
                    · simp only [Act.put, List.setIfInBounds_toArray, List.set_cons_zero, List.set_cons_succ, i64_w, i32_w]
                      rfl
                    refine take_ (i := 1) (N := some 112) (v := ?_) (a' := ?_) #[true, true, true, false, false, false, true, false, false, false, false, false] rfl rfl (by kernel_rfl) (fun _ _ _ h => h) (Or.inl ⟨by rfl, ?_⟩) hHeld ?_ ?_
                    rotate_left
                    · rintro w' ⟨s0, s1, s2, s3, s4, s5, s6⟩
                      go_simp
                      with_reducible rfl
                    rotate_left
                    · simp only [Act.put, List.setIfInBounds_toArray, List.set_cons_zero, List.set_cons_succ, i64_w, i32_w]
                      rfl
                    refine take_ (i := 3) (N := some 114) (v := ?_) (a' := ?_) #[true, true, true, true, false, false, true, false, false, false, false, false] rfl rfl (by kernel_rfl) (fun _ _ _ h => h) (Or.inl ⟨by rfl, ?_⟩) hHeld ?_ ?_
                    rotate_left
                    · rintro w' ⟨s0, s1, s2, s3, s4, s5, s6⟩
                      go_simp
                      with_reducible rfl
                    rotate_left
                    · simp only [Act.put, List.setIfInBounds_toArray, List.set_cons_zero, List.set_cons_succ, i64_w, i32_w]
                      rfl
                    refine pure_ (i := 4) (N := some 115) (v := ?_) (a' := ?_) #[true, true, true, true, true, false, true, false, false, false, false, false] rfl rfl (by kernel_rfl) (fun _ _ _ h => h) (Or.inl ⟨by rfl, ?_⟩) ?_ ?_
                    rotate_left
                    · intro w'
                      go_simp
                      with_reducible rfl
                    rotate_left
                    · simp only [Act.put, List.setIfInBounds_toArray, List.set_cons_zero, List.set_cons_succ, i64_w, i32_w]
                      rfl
                    refine take_ (i := 5) (N := some 116) (v := ?_) (a' := ?_) #[true, true, true, true, true, true, true, false, false, false, false, false] rfl rfl (by kernel_rfl) (fun _ _ _ h => h) (Or.inl ⟨by rfl, ?_⟩) hHeld ?_ ?_
                    rotate_left
                    · rintro w' ⟨s0, s1, s2, s3, s4, s5, s6⟩
                      go_simp
                      with_reducible rfl
                    rotate_left
                    · simp only [Act.put, List.setIfInBounds_toArray, List.set_cons_zero, List.set_cons_succ, i64_w, i32_w]
                      rfl
                    refine take_ (i := 7) (N := some 118) (v := ?_) (a' := ?_) #[true, true, true, true, true, true, true, true, false, false, false, false] rfl rfl (by kernel_rfl) (fun _ _ _ h => h) (Or.inl ⟨by rfl, ?_⟩) hHeld ?_ ?_
                    rotate_left
                    · rintro w' ⟨s0, s1, s2, s3, s4, s5, s6⟩
                      go_simp
                      with_reducible rfl
                    rotate_left
                    · simp only [Act.put, List.setIfInBounds_toArray, List.set_cons_zero, List.set_cons_succ, i64_w, i32_w]
                      rfl
                    refine one_ (i := 8) (N := some 119) #[true, true, true, true, true, true, true, true, true, false, false, false] rfl rfl (by kernel_rfl) (by decide) (fun K hK => ?_)
                    refine value_ (w1 := ?_) (v := ?_) (by rfl) rfl ?_ ?_
                    rotate_left 2
                    · go_simp
                      constructor
                      · rfl
                      · rfl
                    refine hK.out _ _ ⟨e1.1, e1.2.1, e1.2.2.1, e1.2.2.2.1, e1.2.2.2.2.1, e1.2.2.2.2.2, d2⟩ (fun hHeld => ?_)
                    clear hK K
                    refine norm_ (a' := ?_) ?_ ?_
                    rotate_left
                    · show Act.put _ (some 119) _ = _
                      simp only [Act.put, List.setIfInBounds_toArray, List.set_cons_zero, List.set_cons_succ, i64_w, i32_w]
                      rfl
                    refine one_ (i := 9) (N := some 120) #[true, true, true, true, true, true, true, true, true, true, false, false] rfl rfl (by kernel_rfl) (by decide) (fun K hK => ?_)
                    (try rw [← World.alloc_drew])
                    refine Kd.R_append_step k44 (w0 := (wj.alloc (.cells #[.int .i64 (n : Int), .int .i64 xf.f0, .int .i64 xf.f1, .int .i64 xf.f2, .string xf.f3, .string xf.f4] 71)).drew) (g + 1) (by rfl) (.tmp 116) (.tmp 119) 41 44 (.agg #[(.int .i64 0), (.int .i64 0), (.int .i64 0), (.string ⟨#[]⟩), (.string ⟨#[]⟩)]) 56 rfl Try.underlying41 info44 rfl (by decide) (by omega) (.slice Ar l0.length cr) l0 xf [.int .i64 xf.f0, .int .i64 xf.f1, .int .i64 xf.f2, .string xf.f3, .string xf.f4] (fun _ => True) (fun _ => False) (by go_simp) (by go_simp) (k44_mkM _ _ _ xf) (fun _ hk => hk.elim) (fun _ _ => trivial) hR0.out (Below.refl _ _) hsz (by omega) ?_
                    intro v1 w6 ho _ hg6 hat
                    obtain ⟨A6, c6, rfl, e2, e4, e3, ⟨u, hu⟩, hfr, hA6, hV6⟩ := hendA.out v1 w6 ho hg6 hat
                    clear ho hg6 hat
                    refine hK.out _ _ ⟨e2.1, e2.2.1, e2.2.2.1, e2.2.2.2.1, e2.2.2.2.2.1, e2.2.2.2.2.2, e4⟩ (fun hHeld => ?_)
                    clear hK K
                    refine norm_ (a' := ?_) ?_ ?_
                    rotate_left
                    · show Act.put _ (some 120) _ = _
                      simp only [Act.put, List.setIfInBounds_toArray, List.set_cons_zero, List.set_cons_succ, i64_w, i32_w]
                      rfl
                    refine pure_ (i := 10) (N := some 121) (v := ?_) (a' := ?_) #[true, true, true, true, true, true, true, true, true, true, true, false] rfl rfl (by kernel_rfl) (fun _ _ _ h => h) (Or.inl ⟨by rfl, ?_⟩) ?_ ?_
                    rotate_left
                    · intro w'
                      go_simp
                      with_reducible rfl
                    rotate_left
                    · simp only [Act.put, List.setIfInBounds_toArray, List.set_cons_zero, List.set_cons_succ, i64_w, i32_w]
                      rfl
                    refine last_ (i := 11) (N := none) #[true, true, true, true, true, true, true, true, true, true, true, true] rfl rfl (by kernel_rfl) (by decide) (fun K hK => ?_)
                    refine skip_ (w1 := ?_) (by rfl) rfl ?_ ?_
                    rotate_left
                    · go_simp
                      rfl
                    refine hK.out _ _ ?_
                    clear hK K
                    refine done_ (by kernel_rfl) ?_
                    clear e0 e1 e2 e3 e4 d1 d2 i3 i4 hHeld
                    try go_wp2
                    go_roundw
                    case rel => exact ⟨P3 ++ [⟨(n : Int), xf⟩], R3, _, _, hds2.out, by simp, hA6, hV6, hG, by rw [List.length_append, List.length_singleton]; omega⟩
                    case measure => simp [intOf]; omega
            | cons x R2 =>
              have hn : P2.length + 1 + R2.length = gone.length := by rw [hgs]; simp; omega
              obtain ⟨ad, e1, c0, c1⟩ := at_T73 (Kd.C_below hrg.out hA.out.bel) (P2.length : Int) (by omega) (by omega)
              have e5 : rd_T73 gone (P2.length : Int) = x := by rw [hgs]; simp [rd_T73]
              rw [e5, Int.toNat_natCast] at c0 c1
              subst e1
              have hgs2 : Hid (gone = (P2 ++ [x]) ++ R2) := Lib.hid (by rw [hgs]; simp)
              clear hgs e5
              have hbx := below_alloc (Below.refl wi.heap.size wi) (.cells #[.int .i64 x.f0, .int .i64 x.f1] 73)
              have hA2 := Lib.hid (hA.out.next hbx)
              have hV2 := Lib.hid (hV.out.next hbx)
              have hx0 := heap_alloc_new wi (.cells #[.int .i64 x.f0, .int .i64 x.f1] 73)
              by_cases hlv : x.f0 < 0 ∨ x.f0 ≥ 7
              · have hN := hApp.out none (by rw [hG.out, goneL, if_pos hlv])
                obtain ⟨z0, z1, z2, z3, y0, y1, y2, y3, f0⟩ := hA2.out.err
                replace hN := Lib.hid hN
                clear hx0
                go_wp2
                all_goals
                  exact bodyPost_ret (results_ct rfl _ _ (w.heap.size + 2) _ _ _ _ rfl (put4 hA2.out.r _ _ _ _) Try.underlying27 rfl (by kernel_rfl)) rfl (apply_none hN.out rfl (put4_below hA2.out.bel (by omega) _ _ _ _))
              · obtain ⟨xl, xn⟩ := x
                simp only at hlv c0 c1 hbx hA2 hV2 hx0
                obtain ⟨n, rfl⟩ : ∃ n : Nat, xl = (n : Int) := ⟨xl.toNat, by omega⟩
                have hn7 : n < 7 := by omega
                obtain ⟨Ar, cr, q1, q2, q3⟩ := (hV2.out.rows n hn7).reads
                have q4 := hV2.out.cell n hn7
                rw [q1] at q4
                have hll : (LL.getD n []).length < 1000000000 := by
                  have h1 : n < LL.length := by rw [hV2.out.llen]; exact hn7
                  have : (LL.getD n []).length ≤ LL.flatten.length := by
                    rw [List.getD_eq_getElem?_getD, List.getElem?_eq_getElem h1, Option.getD_some]
                    exact len_flat _ _ (List.getElem_mem h1)
                  omega
                have hgone : goneL LL (⟨(n : Int), xn⟩ :: R2) = if ixI xn (LL.getD n []) < 0 then none else goneL (LL.set n ((LL.getD n []).eraseIdx (ixI xn (LL.getD n [])).toNat)) R2 := by
                  rw [goneL, if_neg hlv]
                  rfl
                rw [hgone] at hG
                clear hgone
                have hcall := Lib.hid (index_any (LL.getD n []) hll xn wi.heap.size Ar cr _ q3 q2 ((blk_cell hx0 1).trans rfl))
                generalize hl0 : LL.getD n [] = l0 at *
                have hE : Hid (LL.getD n [] = l0) := Lib.hid hl0
                clear hl0 q3
                replace q1 := Lib.hid q1
                by_cases hix : ixI xn l0 < 0
                · rw [if_pos hix] at hG
                  have hN := hApp.out none (by rw [hG.out])
                  replace hN := Lib.hid hN
                  clear hx0
                  go_wp2_with (first | (go_at_call 35; go_must (refine hcall.out.mono ?_; rintro e w5 ⟨rfl, hb5⟩; have hA5 := Lib.hid (hA2.out.next hb5); clear hb5; obtain ⟨z0, z1, z2, z3, y0, y1, y2, y3, f0⟩ := hA5.out.err)))
                  exact bodyPost_ret (results_ct rfl _ _ (w.heap.size + 2) _ _ _ _ rfl (put4 hA5.out.r _ _ _ _) Try.underlying27 rfl (by kernel_rfl)) rfl (apply_none hN.out rfl (put4_below hA5.out.bel (by omega) _ _ _ _))
                · rw [if_neg hix] at hG
                  obtain ⟨k, hk, hkl⟩ := ix_some hix
                  obtain ⟨m, hm⟩ : ∃ m, l0.length = m + 1 := ⟨l0.length - 1, by omega⟩
                  obtain ⟨g2, rfl⟩ : ∃ g2, Ar = some ⟨g2, 0, none⟩ := by
                    have := hV2.out.rows n hn7
                    rw [hE.out, q1.out] at this
                    obtain ⟨cs, ho⟩ := this.own
                    rcases ho.2 with ⟨_, h0⟩ | ⟨g2, _, _, hv, _⟩
                    · omega
                    · injection hv with hv
                      exact ⟨g2, hv⟩
                  rw [hk] at hG hcall
                  rw [Int.toNat_natCast] at hG
                  clear hix hk
                  have hend : ∀ w5, Below (wi.alloc (.cells #[.int .i64 (n : Int), .int .i64 xn] 73)).heap.size (wi.alloc (.cells #[.int .i64 (n : Int), .int .i64 xn] 73)) w5 → w5.drew.cell? ⟨wi.heap.size, 0, none⟩ = some (.int .i64 (n : Int)) ∧ w5.drew.cell? ⟨g, n, none⟩ = some (.slice (some ⟨g2, 0, none⟩) l0.length cr) ∧ Hid (Calls Try.prog 37 #[.slice (some ⟨g2, 0, none⟩) l0.length cr, .int .i64 (k : Nat), .int .i64 ((k : Int) + 1)] w5.drew fun e w6 => e = .returned (.slice (some ⟨g2, 0, none⟩) m cr) ∧ w6.cell? ⟨wi.heap.size, 0, none⟩ = some (.int .i64 (n : Int)) ∧ (∃ u, w6.cell? ⟨g, n, none⟩ = some u) ∧ w6.frozen? ⟨g, n, none⟩ = false ∧ Hid (AW w sc ec (w6.setCell ⟨g, n, none⟩ (.slice (some ⟨g2, 0, none⟩) m cr))) ∧ Hid (LV g (vs2.set n (.slice (some ⟨g2, 0, none⟩) m cr)) (LL.set n (l0.eraseIdx k)) (w6.setCell ⟨g, n, none⟩ (.slice (some ⟨g2, 0, none⟩) m cr)))) := fun w5 hb5 => by
                    have hb6 : Below (wi.alloc (.cells #[.int .i64 (n : Int), .int .i64 xn] 73)).heap.size (wi.alloc (.cells #[.int .i64 (n : Int), .int .i64 xn] 73)) w5.drew := below_drew hb5
                    have hA5 := hA2.out.next hb6
                    have hV5 := hV2.out.next hb6
                    have hv5 := hV5.rows n hn7
                    rw [hE.out, q1.out] at hv5
                    have hq := hV5.cell n hn7
                    rw [q1.out] at hq
                    refine ⟨?_, hq, Lib.hid ?_⟩
                    · have h := (hb6.block _ (Array.getElem?_eq_some_iff.1 hx0).1).trans hx0
                      exact (blk_cell h 0).trans rfl
                    · rw [hm] at hv5 ⊢
                      refine (delete_any l0 m hm hll g2 cr k (by omega) (g + 1) w5.drew hv5).mono fun e w6 ⟨he, hR, hg⟩ => ⟨he, ?_⟩
                      have hg6 : w5.drew.heap[g]? = _ := hV5.blk
                      have hne : some g ≠ some g2 := by
                        have := (hv5.ge g2 rfl).1
                        intro e
                        injection e with e
                        omega
                      have hbg := (hg.block g hV5.lt hne).trans hg6
                      have hbt : w6.heap[wi.heap.size]? = some (.cells #[.int .i64 (n : Int), .int .i64 xn] 73 (0, 0)) := by
                        have h := (hb6.block _ (Array.getElem?_eq_some_iff.1 hx0).1).trans hx0
                        exact blk_grown h hg (own_ne hv5.own.choose_spec h (by decide))
                      refine ⟨(blk_cell hbt 0).trans rfl, ⟨vs2.getD n nilV, by rw [blk_cell hbg]; have : n < vs2.length := by { rw [hV5.vlen]; exact hn7 }; simp [List.getD_eq_getElem?_getD, this]⟩, blk_frozen hbg n, Lib.hid ?_, Lib.hid ?_⟩
                      · refine (hA5.turn hg (fun j hj => ?_)).set g n hgl _
                        have := (hv5.ge g2 rfl).1
                        injection hj with hj
                        omega
                      · refine hV5.set n hn7 _ _ (by rw [q1.out]; exact hg) hR (Or.inl (by rw [q1.out]; rfl))
                  replace hend := Lib.hid hend
                  replace hm := Lib.hid hm
                  clear hx0 q4
                  have q4 := hV2.out.cell n hn7
                  rw [q1.out] at q4
                  have hflat : (LL.set n (l0.eraseIdx k)).flatten.length ≤ P.flatten.length := by
                    have := flat_set LL n (l0.eraseIdx k) l0 hE.out (List.length_eraseIdx_le _ _)
                    omega
                  go_wp2_with (first | (go_at_call 35; go_must (refine hcall.out.mono ?_; rintro e w5 ⟨rfl, hb5⟩; obtain ⟨d0, d1, hdel⟩ := hend.out w5 hb5; clear hb5 q4)))
                  have i1 : IntKind.i64.wrap ((k : Int) + 1) = (k : Int) + 1 := IntWalk.i64_in _ (by omega)
                  have i2 : (0 : Int) ≤ (k : Int) + 1 := by omega
                  have i3 : (0 : Int) ≤ (n : Int) := by omega
                  have i4 : (n : Int) < 7 := by omega
                  go_region_law (first | (go_simp; go_at_call 37; with_reducible refine hdel.out.mono ?_; rintro e w6 ⟨rfl, hu6, ⟨u, hu⟩, hfr, hA6, hV6⟩))
                  all_goals
                    clear d0 d1 hdel i1 i2 i3 i4
                    go_wp2
                    go_roundw
                    case rel => exact ⟨P2 ++ [⟨(n : Int), xn⟩], R2, _, _, hgs2.out, by simp, hA6, hV6, hG, hflat⟩
                    case measure => simp [intOf]; omega
        | cons l R =>
          have hn : P.length + 1 + R.length = L.length := by rw [hLs]; simp; omega
          have hll : l.length < 1000000000 := by have := hst.out.each l (by rw [hLs]; simp); omega
          obtain ⟨ad, A3, c3, e1, e2, e3, e4⟩ := at_L3 (Kd.C_below hr.out hA.out.bel) (P.length : Int) (by omega) (by omega)
          have e5 : rd_L3 L (P.length : Int) = l := by rw [hLs]; exact rdL_mid _ _ _ _ rfl
          rw [e5] at e2 e3 e4
          rw [Int.toNat_natCast] at e2
          subst e1
          have hLs2 : Hid (L = (P ++ [l]) ++ R) := Lib.hid (by rw [hLs]; simp)
          have hcall := Lib.hid (clone_any l hll A3 c3 wr e4 e3)
          clear hLs e5 e3 e4
          go_upto_region 8 with (fail)
          clear e2
          go_wp2_with (fail)
          refine hcall.out.mono ?_
          rintro e w4 ⟨v, rfl, hv, hb4⟩
          obtain ⟨Av, cv, rfl, _, _⟩ := hv.reads
          have hV4 := hV.out.next hb4
          have hA4 := hA.out.next hb4
          have c0 := hV4.cell P.length (by omega)
          have f0 := blk_frozen hV4.blk P.length
          have hset : LV g (vs.set P.length (.slice Av l.length cv)) (pad7 (P ++ [l])) (w4.setCell ⟨g, P.length, none⟩ (.slice Av l.length cv)) := by
            rw [← pad_set P l (by omega)]
            exact hV.out.set P.length (by omega) _ l (grown_of_below hb4 _) (hv.lower hV.out.lt) (Or.inr fun k hk => (hv.ge k hk).1)
          have hA5 := Lib.hid (hA4.set g P.length hgl (.slice Av l.length cv))
          replace hset := Lib.hid hset
          clear hv hV4 hA4 hb4 hcall
          go_wp2
          go_roundw
          case rel => exact ⟨P ++ [l], R, _, hLs2.out, by simp, hA5, hset⟩
          case measure => simp [intOf]; omega
end Go.Proofs.Ytbhfcjgejnnpcaa
