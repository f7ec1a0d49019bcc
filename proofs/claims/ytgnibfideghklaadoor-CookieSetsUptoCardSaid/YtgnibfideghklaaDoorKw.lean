/-
  Chapter 19: the program's ParseSet, walked.
-/
import Derived.Test.YtgnibfideghklaaDoorKv
set_option linter.unusedVariables false
set_option linter.unusedSimpArgs false
namespace Go.Proofs.YtgnibfideghklaaDoor
open Go.RowKit Go.Proofs.YtgnibfideghklaaDoorW.PrintWords Go.Proofs.YtgnibfideghklaaDoor.PCookieReads
theorem cutE_len : ∀ p : List UInt8, (cutE p).1.length ≤ p.length ∧ (cutE p).2.1.length ≤ p.length
  | [] => by simp [cutE]
  | c :: r => by
    have := cutE_len r
    unfold cutE
    split
    · simp
    · simp only [List.length_cons]; omega
theorem digR_range (l : List UInt8) : 0 ≤ (digR l).1 ∧ (digR l).1 ≤ 2147483647 := by
  unfold digR
  split
  · simp
  · split
    · split
      · simp
      · rename_i h
        simp only
        omega
    · simp
theorem PZ.drewN {w W : World} {g : Nat} {c : Ck} {q cap : Nat} {L : List (List UInt8)} (h : PZ w W g c q cap L) (n : Nat) : PZ w (W.drewN n) g c q cap L := ⟨h.res, h.cur, Kd.R_drewN h.row n, pw_below_drewN h.bel n, h.ne⟩
theorem walk_step {c0 c c2 : Ck} {rest RL : List (List UInt8)} {p : List UInt8} (h : walkP c0 rest = walkP c (p :: RL)) (hs : stepP c p = some c2) : walkP c0 rest = walkP c2 RL := by
  rw [h, walkP, hs]
theorem walk_stop {c0 c : Ck} {rest RL : List (List UInt8)} {p : List UInt8} (h : walkP c0 rest = walkP c (p :: RL)) (hs : stepP c p = none) : walkP c0 rest = none := by
  rw [h, walkP, hs]
theorem Ok_start {n v : List UInt8} (h1 : n.length < 4294967281) (h2 : v.length < 4294967281) : (startC n v).Ok := ⟨h1, h2, by simp [startC], by simp [startC], by simp [startC], by simp [startC]⟩
theorem end_chk {l : List UInt8} {p : List UInt8} {r : List (List UInt8)} (hs : splitR l = p :: r) : (∀ c, walkP (startC (cutE p).1 (cutE p).2.1) r = some c → readP l = chkC l c) ∧ (walkP (startC (cutE p).1 (cutE p).2.1) r = none → readP l = (zeroC, 190)) := by
  unfold readP
  rw [hs]
  refine ⟨fun c h => ?_, fun h => ?_⟩ <;> simp only [h]
/-- What Set and the comparison behind it come to. -/
theorem chk_cases (l : List UInt8) (c : Ck) : (setR c = ([], 190) ∧ chkC l c = (zeroC, 190)) ∨ (∃ s, setR c = (s, 0) ∧ s ≠ l ∧ chkC l c = (zeroC, 190)) ∨ (setR c = (l, 0) ∧ chkC l c = (c, 0)) := by
  unfold chkC
  cases hm : mayC c with
  | false =>
    have : setR c = ([], 190) := by unfold setR; rw [hm]; rfl
    exact .inl ⟨this, by rw [this, if_neg (by simp)]⟩
  | true =>
    have : setR c = (setL c, 0) := by unfold setR; rw [hm]; rfl
    by_cases h : setL c = l
    · exact .inr (.inr ⟨by rw [this, h], by rw [this, if_pos (by rw [h])]⟩)
    · exact .inr (.inl ⟨setL c, this, h, by rw [this, if_neg (by simp [h])]⟩)
set_option maxHeartbeats 4000000 in
set_option maxRecDepth 100000 in
theorem pset_any (l : List UInt8) (hl : l.length < 4294967281) (w : World) (hm : MaxL w) (ht : Tab w) :
    Calls Tryd.prog 18 #[.string (B l)] w fun e w' => e = .returned (.tuple #[(readP l).1.V, .int .i64 (readP l).2]) ∧ Below w.heap.size w w' := by
  obtain ⟨L, hL⟩ : ∃ L, splitR l = L := ⟨_, rfl⟩
  have hpl := part_len l
  have hLl := parts_len l
  cases L with
  | nil => exact absurd hL (splitR_ne l)
  | cons p0 rest =>
    have hend := end_chk hL
    have hSp := split_any l hl (w.alloc (.cells zcells 37)) (hm.below (below_alloc (Below.refl _ _) _))
    rw [hL] at hSp hpl hLl
    have hCu := Lib.hid (fun (p : List UInt8) (hp : p ∈ p0 :: rest) W h => cut_any p (by have := hpl p hp; omega) W h)
    have hp0 := hpl p0 (by simp)
    have hc0 := cutE_len p0
    have hPZ := Lib.hid (fun c n => PZ.start w (p0 :: rest) (by omega) c n)
    obtain ⟨c0, hc0e⟩ : ∃ c0, startC (cutE p0).1 (cutE p0).2.1 = c0 := ⟨_, rfl⟩
    have hOk0 : c0.Ok := by rw [← hc0e]; exact Ok_start (by omega) (by omega)
    rw [hc0e] at hend
    replace hSp := Lib.hid hSp
    replace hend := Lib.hid hend
    replace hpl := Lib.hid hpl
    have hm2 := Lib.hid hm
    have ht2 := Lib.hid ht
    clear hm ht
    have h0c : (((w.alloc (.cells zcells 37)).alloc (.cells ((p0 :: rest).map fun l => Value.string (B l)).toArray 9)).alloc (.cells zcells 37)).cell? ⟨w.heap.size + 1, 0, none⟩ = some (.string (B p0)) := (PZ.start w (p0 :: rest) (by omega) zeroC 0).at_ (P := [])
    have hmx : MaxL (((w.alloc (.cells zcells 37)).alloc (.cells ((p0 :: rest).map fun l => Value.string (B l)).toArray 9)).alloc (.cells zcells 37)) := hm2.out.below (((below_alloc (Below.refl w.heap.size w) _).alloc (by simp) _).alloc (by simp; omega) _)
    have hC0 := Lib.hid (hCu.out p0 (by simp) _ hmx)
    clear hmx
    unfold zcells at hSp h0c hC0
    replace hOk0 := Lib.hid hOk0
    replace hLl := Lib.hid hLl
    go_enter Tryd.func18, Tryd.ntmps18
    go_upto_region 3 with (first | (go_at_call 22; go_must (refine hSp.out.mono ?_; rintro e w1 ⟨rfl, rfl⟩)))
    go_cut [] (fun V => PZ w V (w.heap.size + 1 + 1) c0 (w.heap.size + 1) (p0 :: rest).length (p0 :: rest))
    case first =>
      go_wp2_with (first | (go_at_call 23; go_must (refine hC0.out.mono ?_; rintro e w2 ⟨rfl, n2, rfl⟩)))
      go_meet
      have h1 := (hPZ.out zeroC n2).set 0 (.string (B (cutE p0).1)) { zeroC with nm := (cutE p0).1 } (by simp [Ck.cells])
      have h2 := h1.set 1 (.string (B (cutE p0).2.1)) (startC (cutE p0).1 (cutE p0).2.1) (by simp [Ck.cells, startC, zeroC])
      rw [← hc0e]
      exact h2
    case rest =>
    have hP := Lib.hid hcut
    clear hcut h0c hC0 hPZ hSp hc0e
    obtain ⟨n, hn⟩ : ∃ n, rest.length = n := ⟨_, rfl⟩
    have hlen : (p0 :: rest).length = n + 1 := by rw [List.length_cons, hn]
    rw [hlen] at hP
    rw [hn]
    clear hlen
    have hnl : n ≤ 4294967281 := by have := hLl.out; simp only [List.length_cons] at this; omega
    replace hn := Lib.hid hn
    go_upto_region 4 with (fail)
    go_cut [28, 29, 30] (fun a b c V => ∃ off : Nat, a = .slice (some ⟨w.heap.size + 1, off, none⟩) n n ∧ Hid (n = 0 ∨ off = 1) ∧ b = .int .i64 (n : Nat) ∧ c = .int .i64 0 ∧ PZ w V (w.heap.size + 1 + 1) c0 (w.heap.size + 1) (n + 1) (p0 :: rest))
    case first =>
      cases n with
      | zero =>
        go_wp2
        go_meet
        exact ⟨0, rfl, (by refine Lib.hid ?_; simp), rfl, rfl, hP.out⟩
      | succ n =>
        go_wp2
        go_meet
        exact ⟨1, rfl, (by refine Lib.hid ?_; simp), rfl, rfl, hP.out⟩
    case rest =>
    clear hP
    obtain ⟨off, rfl, hoff, rfl, rfl, hP⟩ := hcut
    replace hP := Lib.hid hP
    go_wp2
    go_loopw [30] (fun i wr => ∃ (PL RL : List (List UInt8)) (c : Ck), rest = PL ++ RL ∧ i = .int .i64 (PL.length : Nat) ∧ Hid (walkP c0 rest = walkP c RL) ∧ Hid c.Ok ∧ PZ w wr (w.heap.size + 1 + 1) c (w.heap.size + 1) (n + 1) (p0 :: rest)) (fun i _ => n - (intOf i).toNat)
    case atStart => exact ⟨[], rest, c0, rfl, rfl, Lib.hid rfl, hOk0, hP.out⟩
    case round =>
      clear hP hOk0
      obtain ⟨PL, RL, c, hls, rfl, hwk, hOk, hP⟩ := hrel
      replace hls := Lib.hid hls
      rename World => wr
      cases RL with
      | nil =>
        have hnn : PL.length = n := by rw [← hn.out, hls.out]; simp
        have hq := hend.out.1 c (by rw [hwk.out]; rfl)
        have hS := set_any c hOk.out wr (ht2.out.below hP.bel)
        obtain ⟨⟨k0, k1, k2, k3, k4, k5, k6, k7⟩, kf⟩ := CB.facts hP.cur
        clear kf
        replace hP := Lib.hid hP
        clear hwk hls hoff
        rcases chk_cases l c with ⟨hsr, hck⟩ | ⟨s, hsr, hne, hck⟩ | ⟨hsr, hck⟩
        · rw [hsr] at hS
          have hq2 := Lib.hid (hq.trans hck)
          replace hS := Lib.hid hS
          unfold Ck.V at hS
          clear hsr hck hq
          go_wp2_with (first | (go_at_call 16; go_must (refine hS.out.mono ?_; rintro e w4 ⟨rfl, hb4⟩; replace hP := hP.out.next hb4; obtain ⟨⟨z0, z1, z2, z3, z4, z5, z6, z7⟩, zf⟩ := CB.facts hP.res; obtain ⟨⟨k0, k1, k2, k3, k4, k5, k6, k7⟩, kf⟩ := CB.facts hP.cur; clear kf; have x0 := zf 0; have x1 := zf 1; have x2 := zf 2; have x3 := zf 3; have x4 := zf 4; have x5 := zf 5; have x6 := zf 6; have x7 := zf 7; clear zf; replace hP := Lib.hid hP; clear hb4)))
          exact bodyPost_ret (results_ct rfl rfl (load_ck (hP.out.fin zeroC).1)) rfl ⟨by rw [hq2.out]; rfl, (hP.out.fin zeroC).2⟩
        · rw [hsr] at hS
          have hq2 := Lib.hid (hq.trans hck)
          have e1 : ((B s).toList == (B l).toList) = false := by rw [B_toList, B_toList]; exact beq_eq_false_iff_ne.2 hne
          replace hS := Lib.hid hS
          unfold Ck.V at hS
          clear hsr hck hq hne
          go_wp2_with (first | (go_at_call 16; go_must (refine hS.out.mono ?_; rintro e w4 ⟨rfl, hb4⟩; replace hP := hP.out.next hb4; obtain ⟨⟨z0, z1, z2, z3, z4, z5, z6, z7⟩, zf⟩ := CB.facts hP.res; obtain ⟨⟨k0, k1, k2, k3, k4, k5, k6, k7⟩, kf⟩ := CB.facts hP.cur; clear kf; have x0 := zf 0; have x1 := zf 1; have x2 := zf 2; have x3 := zf 3; have x4 := zf 4; have x5 := zf 5; have x6 := zf 6; have x7 := zf 7; clear zf; replace hP := Lib.hid hP; clear hb4)))
          exact bodyPost_ret (results_ct rfl rfl (load_ck (hP.out.fin zeroC).1)) rfl ⟨by rw [hq2.out]; rfl, (hP.out.fin zeroC).2⟩
        · rw [hsr] at hS
          have hq2 := Lib.hid (hq.trans hck)
          replace hS := Lib.hid hS
          unfold Ck.V at hS
          clear hsr hck hq
          go_wp2_with (first | (go_at_call 16; go_must (refine hS.out.mono ?_; rintro e w4 ⟨rfl, hb4⟩; replace hP := hP.out.next hb4; obtain ⟨⟨z0, z1, z2, z3, z4, z5, z6, z7⟩, zf⟩ := CB.facts hP.res; obtain ⟨⟨k0, k1, k2, k3, k4, k5, k6, k7⟩, kf⟩ := CB.facts hP.cur; clear kf; have x0 := zf 0; have x1 := zf 1; have x2 := zf 2; have x3 := zf 3; have x4 := zf 4; have x5 := zf 5; have x6 := zf 6; have x7 := zf 7; clear zf; replace hP := Lib.hid hP; clear hb4)))
          exact bodyPost_ret (results_ct rfl rfl (load_ck (hP.out.fin c).1)) rfl ⟨by rw [hq2.out]; rfl, (hP.out.fin c).2⟩
      | cons p RL =>
        have hnn : PL.length + 1 + RL.length = n := by rw [← hn.out, hls.out]; simp; omega
        obtain rfl : off = 1 := by rcases hoff.out with h | h <;> omega
        have hat := PZ.at_ (P := p0 :: PL) (p := p) (R := RL) (by have := hP; rw [hls.out] at this; exact this)
        have hpm : p ∈ p0 :: rest := by rw [hls.out]; simp
        have hpL := hpl.out p hpm
        have hcl := cutE_len p
        have hC1 := Lib.hid (hCu.out p hpm wr (hm2.out.below hP.bel))
        obtain ⟨⟨k0, k1, k2, k3, k4, k5, k6, k7⟩, kf⟩ := CB.facts hP.cur
        have f2 := kf 2
        have f5 := kf 5
        have f6 := kf 6
        have f7 := kf 7
        have hstep : ∀ c2, stepP c p = some c2 → Hid (walkP c0 rest = walkP c2 RL) := fun c2 h => Lib.hid (walk_step hwk.out h)
        have hstop : stepP c p = none → Hid (readP l = (zeroC, 190)) := fun h => Lib.hid (hend.out.2 (walk_stop hwk.out h))
        have hsp : stepP c p = if (cutE p).1 = pathN then some { c with pa := (cutE p).2.1 } else if (cutE p).1 = ageN then (if (digR (cutE p).2.1).2 = 0 then some { c with age := (digR (cutE p).2.1).1, ha := true } else none) else if (cutE p).1 = httpW then some { c with ho := true } else if (cutE p).1 = secW then some { c with se := true } else if (cutE p).1 = siteN then some { c with si := (cutE p).2.1 } else some c := rfl
        have hl2 : (cutE p).2.1.length < 4294967281 := by omega
        have hD := Lib.hid (fun W => digits_any (cutE p).2.1 (by omega) 2147483647 W)
        rw [digM_R] at hD
        have hDr := digR_range (cutE p).2.1
        have hPd := Lib.hid (fun n => hP.drewN n)
        replace hP := Lib.hid hP
        clear hwk kf hpl hend hcl
        rw [show (p0 :: PL).length = 1 + PL.length by simp; omega] at hat
        generalize (cutE p).1 = nm at *
        generalize (cutE p).2.1 = vv at *
        generalize (cutE p).2.2 = bb at *
        generalize digR vv = D at *
        obtain ⟨dn, de⟩ := D
        simp only at hD hDr hsp
        have rt := B_toList nm
        obtain ⟨hO1, hO2, hO3, hO4, hO5, hO6⟩ := hOk.out
        by_cases h0 : nm = pathN
        · -- pathN
          rw [if_pos h0] at hsp
          have hw2 := hstep _ hsp
          have e0 : (nm == [80, 97, 116, 104]) = true := beq_iff_eq.2 h0
          clear hsp hstep hstop h0
          go_wp2_with (first | (go_at_call 23; go_must (refine hC1.out.mono ?_; rintro e w3 ⟨rfl, n3, rfl⟩)))
          go_roundw
          case rel => exact ⟨PL ++ [p], RL, { c with pa := vv }, by rw [hls.out]; simp, by rw [List.length_append, List.length_singleton]; go_num, hw2, Lib.hid ⟨hO1, hO2, hl2, hO4, hO5, hO6⟩, (hPd.out n3).set 2 _ { c with pa := vv } rfl⟩
          case measure => simp [intOf]; omega
        by_cases h1 : nm = ageN
        · -- ageN
          rw [if_neg h0, if_pos h1] at hsp
          have e0 : (nm == [80, 97, 116, 104]) = false := beq_eq_false_iff_ne.2 h0
          have e1 : (nm == [77, 97, 120, 45, 65, 103, 101]) = true := beq_iff_eq.2 h1
          by_cases hde : de = 0
          · rw [if_pos hde] at hsp
            have hw2 := hstep _ hsp
            subst hde
            clear hsp hstep hstop h0 h1 k0 k1 k2 k3 k4 k5 k6 k7 f2 f5 f6 f7
            go_wp2_with (first | (go_at_call 23; go_must (refine hC1.out.mono ?_; rintro e w3 ⟨rfl, n3, rfl⟩)) | (go_at_call 34; go_must (refine (hD.out _).mono ?_; rintro e w4 ⟨rfl, hb4⟩; have hP4 := (hPd.out n3).next hb4; clear hb4; obtain ⟨⟨k0, k1, k2, k3, k4, k5, k6, k7⟩, kf⟩ := CB.facts hP4.cur; have f3 := kf 3; have f4 := kf 4; clear kf; replace hP4 := Lib.hid hP4)))
            go_roundw
            case rel => exact ⟨PL ++ [p], RL, { c with age := dn, ha := true }, by rw [hls.out]; simp, by rw [List.length_append, List.length_singleton]; go_num, hw2, Lib.hid ⟨hO1, hO2, hO3, hO4, by have := hDr.1; simp only; omega, by have := hDr.2; simp only; omega⟩, (hP4.out.set 3 (.int .i64 dn) { c with age := dn } rfl).set 4 _ { c with age := dn, ha := true } rfl⟩
            case measure => simp [intOf]; omega
          · rw [if_neg hde] at hsp
            have hw2 := hstop hsp
            have e9 : (de != 0) = true := bne_iff_ne.2 hde
            clear hsp hstep hstop h0 h1 k0 k1 k2 k3 k4 k5 k6 k7 f2 f5 f6 f7
            go_wp2_with (first | (go_at_call 23; go_must (refine hC1.out.mono ?_; rintro e w3 ⟨rfl, n3, rfl⟩)) | (go_at_call 34; go_must (refine (hD.out _).mono ?_; rintro e w4 ⟨rfl, hb4⟩; have hP4 := (hPd.out n3).next hb4; clear hb4; obtain ⟨⟨z0, z1, z2, z3, z4, z5, z6, z7⟩, zf⟩ := CB.facts hP4.res; have x0 := zf 0; have x1 := zf 1; have x2 := zf 2; have x3 := zf 3; have x4 := zf 4; have x5 := zf 5; have x6 := zf 6; have x7 := zf 7; clear zf; replace hP4 := Lib.hid hP4)))
            exact bodyPost_ret (results_ct rfl rfl (load_ck (hP4.out.fin zeroC).1)) rfl ⟨by rw [hw2.out]; rfl, (hP4.out.fin zeroC).2⟩
        by_cases h2 : nm = httpW
        · -- httpW
          rw [if_neg h0, if_neg h1, if_pos h2] at hsp
          have hw2 := hstep _ hsp
          have e0 : (nm == [80, 97, 116, 104]) = false := beq_eq_false_iff_ne.2 h0
          have e1 : (nm == [77, 97, 120, 45, 65, 103, 101]) = false := beq_eq_false_iff_ne.2 h1
          have e2 : (nm == [72, 116, 116, 112, 79, 110, 108, 121]) = true := beq_iff_eq.2 h2
          clear hsp hstep hstop h0 h1 h2
          go_wp2_with (first | (go_at_call 23; go_must (refine hC1.out.mono ?_; rintro e w3 ⟨rfl, n3, rfl⟩)))
          go_roundw
          case rel => exact ⟨PL ++ [p], RL, { c with ho := true }, by rw [hls.out]; simp, by rw [List.length_append, List.length_singleton]; go_num, hw2, Lib.hid ⟨hO1, hO2, hO3, hO4, hO5, hO6⟩, (hPd.out n3).set 5 _ { c with ho := true } rfl⟩
          case measure => simp [intOf]; omega
        by_cases h3 : nm = secW
        · -- secW
          rw [if_neg h0, if_neg h1, if_neg h2, if_pos h3] at hsp
          have hw2 := hstep _ hsp
          have e0 : (nm == [80, 97, 116, 104]) = false := beq_eq_false_iff_ne.2 h0
          have e1 : (nm == [77, 97, 120, 45, 65, 103, 101]) = false := beq_eq_false_iff_ne.2 h1
          have e2 : (nm == [72, 116, 116, 112, 79, 110, 108, 121]) = false := beq_eq_false_iff_ne.2 h2
          have e3 : (nm == [83, 101, 99, 117, 114, 101]) = true := beq_iff_eq.2 h3
          clear hsp hstep hstop h0 h1 h2 h3
          go_wp2_with (first | (go_at_call 23; go_must (refine hC1.out.mono ?_; rintro e w3 ⟨rfl, n3, rfl⟩)))
          go_roundw
          case rel => exact ⟨PL ++ [p], RL, { c with se := true }, by rw [hls.out]; simp, by rw [List.length_append, List.length_singleton]; go_num, hw2, Lib.hid ⟨hO1, hO2, hO3, hO4, hO5, hO6⟩, (hPd.out n3).set 6 _ { c with se := true } rfl⟩
          case measure => simp [intOf]; omega
        by_cases h4 : nm = siteN
        · -- siteN
          rw [if_neg h0, if_neg h1, if_neg h2, if_neg h3, if_pos h4] at hsp
          have hw2 := hstep _ hsp
          have e0 : (nm == [80, 97, 116, 104]) = false := beq_eq_false_iff_ne.2 h0
          have e1 : (nm == [77, 97, 120, 45, 65, 103, 101]) = false := beq_eq_false_iff_ne.2 h1
          have e2 : (nm == [72, 116, 116, 112, 79, 110, 108, 121]) = false := beq_eq_false_iff_ne.2 h2
          have e3 : (nm == [83, 101, 99, 117, 114, 101]) = false := beq_eq_false_iff_ne.2 h3
          have e4 : (nm == [83, 97, 109, 101, 83, 105, 116, 101]) = true := beq_iff_eq.2 h4
          clear hsp hstep hstop h0 h1 h2 h3 h4
          go_wp2_with (first | (go_at_call 23; go_must (refine hC1.out.mono ?_; rintro e w3 ⟨rfl, n3, rfl⟩)))
          go_roundw
          case rel => exact ⟨PL ++ [p], RL, { c with si := vv }, by rw [hls.out]; simp, by rw [List.length_append, List.length_singleton]; go_num, hw2, Lib.hid ⟨hO1, hO2, hO3, hl2, hO5, hO6⟩, (hPd.out n3).set 7 _ { c with si := vv } rfl⟩
          case measure => simp [intOf]; omega
        rw [if_neg h0, if_neg h1, if_neg h2, if_neg h3, if_neg h4] at hsp
        have hw2 := hstep _ hsp
        have e0 : (nm == [80, 97, 116, 104]) = false := beq_eq_false_iff_ne.2 h0
        have e1 : (nm == [77, 97, 120, 45, 65, 103, 101]) = false := beq_eq_false_iff_ne.2 h1
        have e2 : (nm == [72, 116, 116, 112, 79, 110, 108, 121]) = false := beq_eq_false_iff_ne.2 h2
        have e3 : (nm == [83, 101, 99, 117, 114, 101]) = false := beq_eq_false_iff_ne.2 h3
        have e4 : (nm == [83, 97, 109, 101, 83, 105, 116, 101]) = false := beq_eq_false_iff_ne.2 h4
        clear hsp hstep hstop h0 h1 h2 h3 h4
        go_wp2_with (first | (go_at_call 23; go_must (refine hC1.out.mono ?_; rintro e w3 ⟨rfl, n3, rfl⟩)))
        go_roundw
        case rel => exact ⟨PL ++ [p], RL, c, by rw [hls.out]; simp, by rw [List.length_append, List.length_singleton]; go_num, hw2, Lib.hid ⟨hO1, hO2, hO3, hO4, hO5, hO6⟩, hPd.out n3⟩
        case measure => simp [intOf]; omega
end Go.Proofs.YtgnibfideghklaaDoor
