/-
  Chapter 28: Print, walked.
-/
import Derived.Test.YtigcgpbdifihoaaDoorNi
import Derived.Test.YtigcgpbdifihoaaDoorNj
set_option linter.unusedVariables false
set_option linter.unusedSimpArgs false
namespace Go.Proofs.YtigcgpbdifihoaaDoor
open Go.RowKit Go.Proofs.YtigcgpbdifihoaaDoorW.PrintWords Go.Proofs.YtigcgpbdifihoaaDoor.PScriptRequests
def printR (c : Cfg) (ts : List Tm) : List UInt8 × Int :=
  if fewB c ts = false then ([], 3) else if badL (allLs c ts) = true then ([], 280) else if 1048576 < (txtL (allLs c ts)).length then ([], 3) else (txtL (allLs c ts), 0)
theorem fresh_ws {C : Nat} {w : World} (hC : C ≤ w.heap.size) : WS C w.heap.size [] (w.alloc (.cells #[.pointer none, .slice none 0 0, .bool false] 63)) :=
  Or.inl ⟨hC, .slice none 0 0, heap_alloc_new w _, World.ownsRow_nil _ _ _ _, by simp [Value.ownBlock]⟩
theorem line_ne (ws : List Wd) : lineL ws ≠ [] := by simp [lineL]
theorem all_ne (c : Cfg) (ts : List Tm) : txtL (allLs c ts) ≠ [] := by
  intro h
  have h2 := congrArg List.length h
  simp only [allLs, cfgLs, txt_app, txt_one, List.length_append, List.length_nil] at h2
  have := line_ne (dskW c)
  have h3 : (lineL (dskW c)).length ≠ 0 := fun h => this (List.length_eq_zero_iff.1 h)
  omega
theorem Rtm.slices {C : Nat} {w : World} {t : Tm} {va vp vt vd vf vk s0 s1 s2 : Value} (h : Rtm C w t [va, vp, vt, vd, vf, s0, s1, s2, vk]) :
    ∃ Aa ca Ap cp At ct Ad cd Af cf Ak ck, va = .slice Aa t.arr.length ca ∧ vp = .slice Ap t.picks.length cp ∧ vt = .slice At t.ticks.length ct ∧ vd = .slice Ad t.draws.length cd ∧ vf = .slice Af t.flts.length cf ∧ vk = .slice Ak t.keep.length ck := by
  obtain ⟨_, _, _, _, _, _, e, ⟨Aa, ca, rfl, _⟩, ⟨Ap, cp, rfl, _⟩, ⟨At, ct, rfl, _⟩, ⟨Ad, cd, rfl, _⟩, ⟨Af, cf, rfl, _⟩, ⟨Ak, ck, rfl, _⟩⟩ := h
  simp only [List.cons.injEq] at e
  obtain ⟨rfl, rfl, rfl, rfl, rfl, _, _, _, rfl, _⟩ := e
  exact ⟨Aa, ca, Ap, cp, At, ct, Ad, cd, Af, cf, Ak, ck, rfl, rfl, rfl, rfl, rfl, rfl⟩
theorem flat_app (P : List Tm) (t : Tm) : (P ++ [t]).flatMap termLs = P.flatMap termLs ++ termLs t := by simp
set_option maxHeartbeats 1000000 in
set_option maxRecDepth 100000 in
theorem print_any (c : Cfg) (hc : c.ok) (ts : List Tm) (hts : ∀ t ∈ ts, t.ok) (hn : ts.length < 100000000) (hlen : (txtL (allLs c ts)).length ≤ 140737488355328) {C : Nat} {w : World} (hC : C ≤ w.heap.size) (htab : TB C w) {v0 v : Value} (h0 : CfV C w c v0) (hr : TSl C w v ts) :
    Calls Tryd.prog 9 #[.agg #[v0, .int .i64 c.o0, .int .i64 c.o1, .int .i64 c.o2, .int .i64 c.o3, .int .i64 c.o4, .int .i64 c.o5, .int .i64 c.o6, .int .i64 c.cap], v] w fun e w' => e = .returned (.tuple #[.string (B (printR c ts).1), .int .i64 (printR c ts).2]) ∧ Below C w w' := by
  have hb := below_alloc (Below.refl w.heap.size w) (.cells (#[v0, .int .i64 c.o0, .int .i64 c.o1, .int .i64 c.o2, .int .i64 c.o3, .int .i64 c.o4, .int .i64 c.o5, .int .i64 c.o6, .int .i64 c.cap]) 29)
  have hF := Lib.hid (few_any c hc ts hts hn (Nat.le_trans hC hb.size) (h0.next (hb.mono hC)) (hr.next (hb.mono hC)))
  obtain ⟨A0, n0, rfl, hle, hten⟩ := h0
  obtain ⟨A, n, rfl, hle2, hter⟩ := hr
  have n1 := hc.lt
  have hbox := heap_alloc_new w (.cells #[.slice A0 c.tens.length n0, .int .i64 c.o0, .int .i64 c.o1, .int .i64 c.o2, .int .i64 c.o3, .int .i64 c.o4, .int .i64 c.o5, .int .i64 c.o6, .int .i64 c.cap] 29)
  replace hb := Lib.hid hb
  replace hbox := Lib.hid hbox
  cases hfw : fewB c ts with
  | false =>
    have hq : printR c ts = ([], 3) := by rw [printR, if_pos hfw]
    rw [hfw] at hF
    clear hfw
    replace hq := Lib.hid hq
    go_enter Tryd.func9, Tryd.ntmps9
    go_wp2_with (first | (go_at_call 19; go_must (refine hF.out.mono ?_; rintro e w2 ⟨rfl, hb2⟩)))
    go_ret2
    exact ⟨by rw [hq.out]; rfl, (hb.out.mono hC).trans (hb2.mono (Nat.le_trans hC hb.out.size))⟩
  | true =>
    have hq : printR c ts = if badL (allLs c ts) = true then ([], 280) else if 1048576 < (txtL (allLs c ts)).length then ([], 3) else (txtL (allLs c ts), 0) := by rw [printR, if_neg (by rw [hfw]; decide)]
    rw [hfw] at hF
    clear hfw
    obtain ⟨L0, hL0⟩ : ∃ L, ([] : List (List Wd)) = L := ⟨_, rfl⟩
    have hTw : ∀ W, Below (w.alloc (.cells #[.slice A0 c.tens.length n0, .int .i64 c.o0, .int .i64 c.o1, .int .i64 c.o2, .int .i64 c.o3, .int .i64 c.o4, .int .i64 c.o5, .int .i64 c.o6, .int .i64 c.cap] 29)).heap.size (w.alloc (.cells #[.slice A0 c.tens.length n0, .int .i64 c.o0, .int .i64 c.o1, .int .i64 c.o2, .int .i64 c.o3, .int .i64 c.o4, .int .i64 c.o5, .int .i64 c.o6, .int .i64 c.cap] 29)) W → TS C W.heap.size w w.heap.size #[.slice A0 c.tens.length n0, .int .i64 c.o0, .int .i64 c.o1, .int .i64 c.o2, .int .i64 c.o3, .int .i64 c.o4, .int .i64 c.o5, .int .i64 c.o6, .int .i64 c.cap] 29 L0 (W.alloc (.cells #[.pointer none, .slice none 0 0, .bool false] 63)) ∧ w.heap.size < W.heap.size := fun W hW => by
      subst hL0
      have hCW : C ≤ W.heap.size := Nat.le_trans hC (Nat.le_trans hb.out.size hW.size)
      have hB : Below w.heap.size w W := hb.out.trans (hW.mono hb.out.size)
      have hkW := (hW.block _ (Array.getElem?_eq_some_iff.1 hbox.out).1).trans hbox.out
      have hb3 := below_alloc (Below.refl W.heap.size W) (.cells #[.pointer none, .slice none 0 0, .bool false] 63)
      exact ⟨⟨fresh_ws hCW, Fr.of_below hC (hB.trans (hb3.mono (Nat.le_trans hb.out.size hW.size))), (hb3.block _ (Array.getElem?_eq_some_iff.1 hkW).1).trans hkW⟩, (Array.getElem?_eq_some_iff.1 hkW).1⟩
    replace hTw := Lib.hid hTw
    replace hq := Lib.hid hq
    replace htab := Lib.hid htab
    have eA : allLs c ts = L0 ++ c.tens.map tenW ++ [engW c] ++ [dskW c] ++ ts.flatMap termLs := by rw [← hL0]; simp [allLs, cfgLs]
    rw [eA] at hlen
    have l3 := Nat.le_trans (txt_pre _ _) hlen
    have l2 := Nat.le_trans (txt_pre _ _) l3
    have l1 := Nat.le_trans (txt_pre _ _) l2
    replace eA := Lib.hid eA
    replace hL0 := Lib.hid hL0
    go_enter Tryd.func9, Tryd.ntmps9
    go_wp2_with (first | (go_at_call 19; go_must (refine hF.out.mono ?_; rintro e w2 ⟨rfl, hb2⟩; obtain ⟨hT, hsz⟩ := hTw.out w2 hb2; obtain ⟨k0, k1, k2, k3, k4, k5, k6, k7, k8⟩ := hT.nine; replace hT := Lib.hid hT; clear hF hTw)))
    generalize w2.heap.size = b at *
    go_loopw [21] (fun i wr => ∃ P R, c.tens = P ++ R ∧ i = .int .i64 (P.length : Nat) ∧ Hid (TS C b w w.heap.size #[.slice A0 c.tens.length n0, .int .i64 c.o0, .int .i64 c.o1, .int .i64 c.o2, .int .i64 c.o3, .int .i64 c.o4, .int .i64 c.o5, .int .i64 c.o6, .int .i64 c.cap] 29 (L0 ++ P.map tenW) wr)) (fun i _ => c.tens.length - (intOf i).toNat)
    case atStart => exact ⟨[], c.tens, rfl, rfl, by simpa using hT⟩
    case round =>
      clear k0 k1 k2 k3 k4 k5 k6 k7 k8 hT
      rename World => wr
      obtain ⟨P1, R1, hl1, rfl, hT⟩ := hrel
      have hCC := Lib.hid (Nat.le_trans hC hT.out.fr.1.size)
      have hTT := Lib.hid (htab.out.next hT.out.fr.1)
      cases R1 with
      | cons x R1 =>
        have hx := hc.tens x (by rw [hl1]; simp)
        have hPn1 : P1.length < c.tens.length := by rw [hl1]; simp
        obtain ⟨ad, rfl, hc⟩ := SR.three (u0 := .string (B x.nm)) (u1 := .string (B x.key)) (u2 := .int .i64 x.quota) hten hl1 (fun cs h => h)
        obtain ⟨q0, q1, q2⟩ := hc wr hT.out.fr.1
        have hl9 : c.tens = (P1 ++ [x]) ++ R1 := by rw [hl1]; simp
        have hlx : (txtL (L0 ++ P1.map tenW ++ [tenW x])).length ≤ 140737488355328 := by
          refine Nat.le_trans (txt_pre _ (R1.map tenW)) ?_
          rw [show L0 ++ P1.map tenW ++ [tenW x] ++ R1.map tenW = L0 ++ c.tens.map tenW by rw [hl1]; simp]
          exact l1
        replace hl1 := Lib.hid hl9
        clear hl9 hc
        have hTA := Lib.hid (hT.out.below hCC.out (below_alloc (Below.refl wr.heap.size wr) (.cells #[.string (B x.nm), .string (B x.key), .int .i64 x.quota] 46)))
        have hCA := Lib.hid (Nat.le_trans hC hTA.out.fr.1.size)
        have hTB := Lib.hid (htab.out.next hTA.out.fr.1)
        have hwx : ∀ y ∈ tenW x, y.ok := fun y hy => by
          simp only [tenW, List.mem_cons, List.not_mem_nil, or_false] at hy
          rcases hy with rfl | rfl | rfl | rfl
          · show sTenant.length < 1000000000; decide
          · exact hx.1
          · exact hx.2.1
          · exact hx.2.2
        go_wp2_with (first | (go_at_call 20; go_must (refine (line_at (tenW x) hwx (w := wr.alloc (.cells #[.string (B x.nm), .string (B x.key), .int .i64 x.quota] 46)) (by simp) rfl rfl hlx hTA.out.ws hCA.out hTB.out (by simp [tenW])).mono ?_; rintro e w2 ⟨rfl, h2, hf2⟩; have hT2 := Lib.hid (hTA.out.next (by decide) (by decide) h2 hf2); clear h2 hf2)))
        go_roundw
        case rel => exact ⟨P1 ++ [x], R1, hl1.out, by simp, by simpa using hT2⟩
        case measure => simp [intOf]; omega
      | nil =>
        rw [List.append_nil] at hl1
        have hLe : c.tens.map tenW = P1.map tenW := by rw [hl1]
        replace hT : Hid (TS C b w w.heap.size #[.slice A0 c.tens.length n0, .int .i64 c.o0, .int .i64 c.o1, .int .i64 c.o2, .int .i64 c.o3, .int .i64 c.o4, .int .i64 c.o5, .int .i64 c.o6, .int .i64 c.cap] 29 (L0 ++ c.tens.map tenW) wr) := by rw [hLe]; exact hT
        have hPn1 : ¬ P1.length < c.tens.length := by rw [hl1]; exact Nat.lt_irrefl _
        replace hl1 := Lib.hid hl1
        clear hLe
        obtain ⟨k0, k1, k2, k3, k4, k5, k6, k7, k8⟩ := hT.out.nine
        have o0 := hc.o0
        have hOB := Lib.hid (below_alloc (Below.refl wr.heap.size wr) (.cells #[.int .i64 c.o0, .int .i64 c.o1, .int .i64 c.o2, .int .i64 c.o3, .int .i64 c.o4, .int .i64 c.o5, .int .i64 c.o6] 27))
        have hTA := Lib.hid (hT.out.below hCC.out hOB.out)
        have hCA := Lib.hid (Nat.le_trans hC hTA.out.fr.1.size)
        have hTB := Lib.hid (htab.out.next hTA.out.fr.1)
        have hwe : ∀ y ∈ engW c, y.ok := fun y hy => by
          simp only [engW, List.mem_cons, List.not_mem_nil, or_false] at hy
          rcases hy with rfl | rfl | rfl | rfl | rfl | rfl | rfl | rfl
          · show sEngine.length < 1000000000; decide
          · exact hc.o0
          · exact hc.o1
          · exact hc.o2
          · exact hc.o3
          · exact hc.o4
          · exact hc.o5
          · exact hc.o6
        have hwd : ∀ y ∈ dskW c, y.ok := fun y hy => by
          simp only [dskW, List.mem_cons, List.not_mem_nil, or_false] at hy
          rcases hy with rfl | rfl
          · show sDisk.length < 1000000000; decide
          · exact hc.cap
        go_upto_region 11 with (first | (go_at_call 20; go_must (refine (line_at (engW c) hwe (w := wr.alloc (.cells #[.int .i64 c.o0, .int .i64 c.o1, .int .i64 c.o2, .int .i64 c.o3, .int .i64 c.o4, .int .i64 c.o5, .int .i64 c.o6] 27)) (by simp) rfl rfl l2 hTA.out.ws hCA.out hTB.out (by simp [engW])).mono ?_; rintro e w3 ⟨rfl, h2, hf2⟩; replace hT := Lib.hid (hTA.out.next (by decide) (by decide) h2 hf2); clear h2 hf2 k0 k1 k2 k3 k4 k5 k6 k7 k8; obtain ⟨k0, k1, k2, k3, k4, k5, k6, k7, k8⟩ := hT.out.nine; replace hCC := Lib.hid (Nat.le_trans hC hT.out.fr.1.size); replace hTT := Lib.hid (htab.out.next hT.out.fr.1); clear hTA hCA hTB hOB)))
        go_wp2_with (first | (go_at_call 20; go_must (refine (line_at (dskW c) hwd (w := w3) rfl rfl rfl l3 hT.out.ws hCC.out hTT.out (by simp [dskW])).mono ?_; rintro e w4 ⟨rfl, h2, hf2⟩; replace hT := Lib.hid (hT.out.next (by decide) (by decide) h2 hf2); clear h2 hf2)))
        clear hPn1 k0 k1 k2 k3 k4 k5 k6 k7 k8 hCC hTT
        generalize e3 : L0 ++ c.tens.map tenW ++ [engW c] ++ [dskW c] = L3 at *
        replace e3 := Lib.hid e3
        replace hter := Lib.hid hter
        go_loopw [78] (fun i wr => ∃ P R, ts = P ++ R ∧ i = .int .i64 (P.length : Nat) ∧ Hid (TS C b w w.heap.size #[.slice A0 c.tens.length n0, .int .i64 c.o0, .int .i64 c.o1, .int .i64 c.o2, .int .i64 c.o3, .int .i64 c.o4, .int .i64 c.o5, .int .i64 c.o6, .int .i64 c.cap] 29 (L3 ++ P.flatMap termLs) wr)) (fun i _ => ts.length - (intOf i).toNat)
        case atStart => exact ⟨[], ts, rfl, rfl, by simpa using hT⟩
        case round =>
          clear hT
          rename World => wr
          obtain ⟨P2, R2, hl2, rfl, hT⟩ := hrel
          have hCC := Lib.hid (Nat.le_trans hC hT.out.fr.1.size)
          have hTT := Lib.hid (htab.out.next hT.out.fr.1)
          cases R2 with
          | cons t R2 =>
            have hx := hts t (by rw [hl2]; simp)
            have hPn2 : P2.length < ts.length := by rw [hl2]; simp
            obtain ⟨ad, va, vp, vt, vd, vf, vk, rfl, hr2, hcc⟩ := hter.out.nine hl2
            obtain ⟨Aa, ca, Ap, cp, At, ct, Ad, cd, Af, cf, Ak, ck, rfl, rfl, rfl, rfl, rfl, rfl⟩ := hr2.slices
            obtain ⟨q0, q1, q2, q3, q4, q5, q6, q7, q8⟩ := hcc wr hT.out.fr.1
            have hl9 : ts = (P2 ++ [t]) ++ R2 := by rw [hl2]; simp
            have hlx : (txtL (L3 ++ P2.flatMap termLs ++ termLs t)).length ≤ 140737488355328 := by
              refine Nat.le_trans (txt_pre _ (R2.flatMap termLs)) ?_
              rw [show L3 ++ P2.flatMap termLs ++ termLs t ++ R2.flatMap termLs = L3 ++ ts.flatMap termLs by rw [hl2]; simp]
              exact hlen
            replace hl2 := Lib.hid hl9
            clear hl9 hcc
            have hTA := Lib.hid (hT.out.below hCC.out (below_alloc (Below.refl wr.heap.size wr) (.cells #[.slice Aa t.arr.length ca, .slice Ap t.picks.length cp, .slice At t.ticks.length ct, .slice Ad t.draws.length cd, .slice Af t.flts.length cf, .int .i64 t.steps, .int .i64 t.stop, .int .i64 t.dir, .slice Ak t.keep.length ck] 56)))
            have hCA := Lib.hid (Nat.le_trans hC hTA.out.fr.1.size)
            have hTB := Lib.hid (htab.out.next hTA.out.fr.1)
            have hr3 := Lib.hid (hr2.next hTA.out.fr.1)
            go_wp2_with (first | (go_at_call 21; go_must (refine (term_any t hx hlx hTA.out.ws hCA.out hTB.out hr3.out).mono ?_; rintro e w5 ⟨rfl, h2, hf2⟩; have hT2 := Lib.hid (hTA.out.next (by decide) (by decide) h2 hf2); clear h2 hf2)))
            go_roundw
            case rel => exact ⟨P2 ++ [t], R2, hl2.out, by simp, by rw [flat_app, ← List.append_assoc]; exact hT2⟩
            case measure => simp [intOf]; omega
          | nil =>
            rw [List.append_nil] at hl2
            have e4 : P2.flatMap termLs = ts.flatMap termLs := by rw [hl2]
            have hWS : WS C b (allLs c ts) wr := by rw [eA.out, ← e4]; exact hT.out.ws
            clear e4
            have hFr := hT.out.fr
            have hPn2 : ¬ P2.length < ts.length := by rw [hl2]; exact Nat.lt_irrefl _
            replace hl2 := Lib.hid hl2
            clear hT
            have hne := Lib.hid (all_ne c ts)
            obtain ⟨c2, _⟩ := IB.cell2 hWS
            replace hFr := Lib.hid hFr
            replace hWS := Lib.hid hWS
            cases hb9 : badL (allLs c ts) with
            | true =>
              rw [hb9] at c2 hq
              clear hb9
              go_wp2
              go_ret2
              exact ⟨by rw [hq.out]; rfl, hFr.out.1⟩
            | false =>
              rw [hb9] at c2 hq
              clear hb9
              have hLn := Lib.hid (len_any hWS.out)
              have hSt := Lib.hid (str_some hWS.out hne.out)
              have hlb := hlen
              generalize txtL (allLs c ts) = X at *
              by_cases h9 : 1048576 < X.length
              · rw [if_neg (by decide), if_pos h9] at hq
                go_wp2_with (first | (go_at_call 22; go_must (refine hLn.out.mono ?_; rintro e w5 ⟨rfl, rfl⟩)))
                go_ret2
                exact ⟨by rw [hq.out]; rfl, hFr.out.1⟩
              · rw [if_neg (by decide), if_neg h9] at hq
                go_wp2_with (first | (go_at_call 22; go_must (refine hLn.out.mono ?_; rintro e w5 ⟨rfl, rfl⟩)) | (go_at_call 23; go_must (refine hSt.out.mono ?_; rintro e w6 ⟨rfl, hb6⟩)))
                go_ret2
                exact ⟨by rw [hq.out]; rfl, hFr.out.1.trans hb6⟩
end Go.Proofs.YtigcgpbdifihoaaDoor
