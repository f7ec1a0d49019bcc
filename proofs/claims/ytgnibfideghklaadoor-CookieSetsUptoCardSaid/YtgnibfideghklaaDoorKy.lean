/-
  Chapter 19: the reference's ParseSet, walked.
-/
import Derived.Test.YtgnibfideghklaaDoorKx
set_option linter.unusedVariables false
set_option linter.unusedSimpArgs false
namespace Go.Proofs.YtgnibfideghklaaDoor
open Go.RowKit Go.Proofs.YtgnibfideghklaaDoorW.PrintWords Go.Proofs.YtgnibfideghklaaDoor.PCookieReads
theorem end_chkR {l : List UInt8} {p : List UInt8} {r : List (List UInt8)} (hs : splitR l = p :: r) : (∀ q, pairOf p = some q → readR l = chkC l (r.foldl stepR (startC q.1 q.2))) ∧ (pairOf p = none → readR l = (zeroC, 190)) := by
  unfold readR
  rw [hs]
  refine ⟨fun c h => ?_, fun h => ?_⟩ <;> simp only [h]
theorem PZ.put {w W : World} {g : Nat} {c : Ck} {q cap : Nat} {L : List (List UInt8)} (hres : CB W w.heap.size zeroC) (hrow : Kd.R Kd.string 9 W w.heap.size (fun _ => True) (.slice (some ⟨q, 0, none⟩) L.length cap) (L.map B)) (hb : Below w.heap.size w W) (c : Ck) : PZ w (W.alloc (.cells c.cells 37)) W.heap.size c q cap L := by
  have h := below_alloc (Below.refl W.heap.size W) (.cells c.cells 37)
  refine ⟨(h.block _ (Array.getElem?_eq_some_iff.1 hres).1).trans hres, heap_alloc_new W _, Kd.R_below hrow h, hb.trans (h.mono hb.size), (Array.getElem?_eq_some_iff.1 hres).1⟩
theorem behL_len {l b x : List UInt8} (h : behL l b = some x) : x.length ≤ l.length := by
  unfold behL at h
  split at h
  · injection h with h
    rw [← h, List.length_drop]
    omega
  · cases h
theorem bres_yes {o : Option (List UInt8)} {x : List UInt8} (h : bres o = (x, true)) : o = some x := by
  cases o with
  | none => simp [bres] at h
  | some y => simp only [bres, Prod.mk.injEq, and_true] at h; rw [h]
theorem bres_no {o : Option (List UInt8)} {x : List UInt8} (h : bres o = (x, false)) : o = none := by
  cases o with
  | none => rfl
  | some y => simp [bres] at h
/-- What the result's block, before the cookie is there, and the parts' row hold. -/
structure RZ (w W : World) (q cap : Nat) (L : List (List UInt8)) : Prop where
  res : CB W w.heap.size zeroC
  row : Kd.R Kd.string 9 W w.heap.size (fun _ => True) (.slice (some ⟨q, 0, none⟩) L.length cap) (L.map B)
  bel : Below w.heap.size w W
theorem RZ.drewN {w W : World} {q cap : Nat} {L : List (List UInt8)} (h : RZ w W q cap L) (n : Nat) : RZ w (W.drewN n) q cap L := ⟨h.res, Kd.R_drewN h.row n, pw_below_drewN h.bel n⟩
theorem rsplit_any (l : List UInt8) (hl : l.length < 4294967296) (w W : World) (hres : CB W w.heap.size zeroC) (hb : Below w.heap.size w W) :
    Calls Tryd.prog 25 #[.string (B l)] W fun e w' => ∃ q cap, e = .returned (.slice (some ⟨q, 0, none⟩) (splitR l).length cap) ∧ RZ w w' q cap (splitR l) := by
  refine (atriumref19_split.calls _ _ _ W (split_f hl (l.length + 2) (Nat.le_refl _))).mono ?_
  rintro e w' ⟨v, rfl, hr, hb2⟩
  obtain ⟨g, cap, hv, _, _, _⟩ := Kd.R_form hr (by rw [List.length_map]; exact List.length_pos_iff.2 (splitR_ne l))
  subst hv
  rw [List.length_map] at hr
  refine ⟨g, cap, by rw [List.length_map], (hb2.block _ (Array.getElem?_eq_some_iff.1 hres).1).trans hres, ?_, hb.trans (hb2.mono hb.size)⟩
  exact Kd.R_lower hr hb.size
theorem rpair_any (p : List UInt8) (hp : p.length < 4611686018427387904) (w : World) :
    Calls Tryd.prog 26 #[.string (B p)] w fun e w' => e = .returned (.tuple #[.string (pairV p).1, .string (pairV p).2.1, .bool (pairV p).2.2]) ∧ ∃ n, w' = w.drewN n :=
  (atriumref19_pair.calls _ _ _ _ _ w (pair_f hp (p.length + p.length + 19) (Nat.le_refl _))).mono fun e w' ⟨he, hd⟩ => ⟨he, hd.out⟩
set_option maxHeartbeats 4000000 in
set_option maxRecDepth 100000 in
theorem rpset_any (l : List UInt8) (hl : l.length < 4294967281) (w : World) :
    Calls Tryd.prog 19 #[.string (B l)] w fun e w' => e = .returned (.tuple #[(readR l).1.V, .int .i64 (readR l).2]) ∧ Below w.heap.size w w' := by
  have hSp := rsplit_any l (by omega) w (w.alloc (.cells zcells 37)) (heap_alloc_new w _) (below_alloc (Below.refl _ _) _)
  obtain ⟨L, hL⟩ : ∃ L, splitR l = L := ⟨_, rfl⟩
  have hpl := part_len l
  have hLl := parts_len l
  rw [hL] at hSp hpl hLl
  cases L with
  | nil => exact absurd hL (splitR_ne l)
  | cons p0 rest =>
    have hend := end_chkR hL
    have hp0 := hpl p0 (by simp)
    have hPr := Lib.hid (fun W => rpair_any p0 (by omega) W)
    unfold zcells at hSp
    replace hSp := Lib.hid hSp
    replace hend := Lib.hid hend
    replace hLl := Lib.hid hLl
    replace hpl := Lib.hid hpl
    cases hpo : pairOf p0 with
    | none =>
      have hq := Lib.hid (hend.out.2 hpo)
      have hv := pairV_none hpo
      generalize pairV p0 = V0 at *
      obtain ⟨v1, v2, v3⟩ := V0
      simp only at hv hPr
      subst hv
      clear hpo hend hLl hpl hL
      go_enter Tryd.func19, Tryd.ntmps19
      go_wp2_with (first  | (go_at_call 25; go_must (refine hSp.out.mono ?_; rintro e w1 ⟨q, cap, rfl, hP⟩; have hat := (Kd.R_cell ByteArray.empty (by have := hP.row; rw [show (p0 :: rest).length = ((p0 :: rest).map B).length by rw [List.length_map]] at this; exact this) 0 (by omega) (by simp)).1; rw [show rdOf ByteArray.empty ((p0 :: rest).map B) 0 = B p0 from rfl, show (0 : Int).toNat = 0 from rfl] at hat; obtain ⟨⟨z0, z1, z2, z3, z4, z5, z6, z7⟩, zf⟩ := CB.facts hP.res; have x0 := zf 0; have x1 := zf 1; have x2 := zf 2; have x3 := zf 3; have x4 := zf 4; have x5 := zf 5; have x6 := zf 6; have x7 := zf 7; clear zf; replace hP := Lib.hid hP))  | (go_at_call 26; go_must (refine (hPr.out _).mono ?_; rintro e w3 ⟨rfl, n3, rfl⟩)))
      exact bodyPost_ret (results_ct rfl rfl (load_ck (CB.put_all (hP.out.drewN n3).res zeroC))) rfl ⟨by rw [hq.out]; rfl, put8_below (hP.out.drewN n3).bel (Nat.le_refl _) zeroC⟩
    | some qq =>
      have hq := hend.out.1 qq hpo
      have hv := pairV_some hpo
      have hg := pair_glue hpo
      have hgl : (glue qq).length = qq.1.length + 1 + qq.2.length := by simp [glue]; omega
      have hc0 := Ok_start (n := qq.1) (v := qq.2) (by rw [← hg.1] at hgl; omega) (by rw [← hg.1] at hgl; omega)
      rw [hv] at hPr
      simp only at hPr
      obtain ⟨c0, hc0e⟩ : ∃ c0, startC qq.1 qq.2 = c0 := ⟨_, rfl⟩
      rw [hc0e] at hq hc0
      replace hq := Lib.hid hq
      replace hc0 := Lib.hid hc0
      obtain ⟨n, hn⟩ : ∃ n, rest.length = n := ⟨_, rfl⟩
      have hlen : (p0 :: rest).length = n + 1 := by rw [List.length_cons, hn]
      have hnl : n ≤ 4294967281 := by have := hLl.out; simp only [List.length_cons] at this; omega
      rw [hlen] at hSp
      clear hpo hend hLl hL hv hg hgl hlen
      replace hn := Lib.hid hn
      go_enter Tryd.func19, Tryd.ntmps19
      go_upto_region 5 with (first  | (go_at_call 25; go_must (refine hSp.out.mono ?_; rintro e w1 ⟨q, cap, rfl, hP⟩; have hat := (Kd.R_cell ByteArray.empty (by have := hP.row; rw [show (p0 :: rest).length = ((p0 :: rest).map B).length by rw [List.length_map]] at this; exact this) 0 (by omega) (by simp)).1; rw [show rdOf ByteArray.empty ((p0 :: rest).map B) 0 = B p0 from rfl, show (0 : Int).toNat = 0 from rfl] at hat; replace hP := Lib.hid hP))  | (go_at_call 26; go_must (refine (hPr.out _).mono ?_; rintro e w3 ⟨rfl, n3, rfl⟩)))
      have hP2 := hP.out.drewN n3
      clear hat hP
      generalize w1.drewN n3 = V1 at *
      have hPP := Lib.hid (PZ.put (g := 0) (c := c0) hP2.res hP2.row hP2.bel (startC qq.1 qq.2))
      clear hP2
      go_cut [8] (fun v V => v = .pointer (some ⟨V1.heap.size, 0, none⟩) ∧ PZ w V V1.heap.size c0 q cap (p0 :: rest))
      case first =>
        go_wp2
        go_meet
        rw [← hc0e]
        exact ⟨rfl, hPP.out⟩
      case rest =>
      clear hPP hc0e
      obtain ⟨rfl, hP⟩ := hcut
      generalize V1.heap.size = g at *
      replace hP := Lib.hid hP
      go_wp2
      go_loopw [9] (fun i wr => ∃ (PL RL : List (List UInt8)) (c : Ck), rest = PL ++ RL ∧ i = .int .i64 (PL.length + 1 : Nat) ∧ Hid (rest.foldl stepR c0 = RL.foldl stepR c) ∧ Hid c.Ok ∧ PZ w wr g c q cap (p0 :: rest)) (fun i _ => n + 1 - (intOf i).toNat)
      case atStart => exact ⟨[], rest, c0, rfl, rfl, Lib.hid rfl, hc0, hP.out⟩
      case round =>
        clear hP hc0
        obtain ⟨PL, RL, c, hls, rfl, hwk, hOk, hP⟩ := hrel
        replace hls := Lib.hid hls
        rename World => wr
        cases RL with
        | nil =>
          have hnn : PL.length = n := by rw [← hn.out, hls.out]; simp
          have hq1 : readR l = chkC l c := by rw [hq.out, hwk.out]; rfl
          have hS := rset_any c hOk.out wr
          obtain ⟨⟨k0, k1, k2, k3, k4, k5, k6, k7⟩, kf⟩ := CB.facts hP.cur
          clear kf
          replace hP := Lib.hid hP
          clear hwk hls hq
          rcases chk_cases l c with ⟨hsr, hck⟩ | ⟨s, hsr, hne, hck⟩ | ⟨hsr, hck⟩
          · rw [hsr] at hS
            have hq2 := Lib.hid (hq1.trans hck)
            replace hS := Lib.hid hS
            unfold Ck.V at hS
            clear hsr hck hq1
            go_wp2_with (first | (go_at_call 17; go_must (refine hS.out.mono ?_; rintro e w4 ⟨rfl, hb4⟩; replace hP := hP.out.next hb4; obtain ⟨⟨z0, z1, z2, z3, z4, z5, z6, z7⟩, zf⟩ := CB.facts hP.res; obtain ⟨⟨k0, k1, k2, k3, k4, k5, k6, k7⟩, kf⟩ := CB.facts hP.cur; clear kf; have x0 := zf 0; have x1 := zf 1; have x2 := zf 2; have x3 := zf 3; have x4 := zf 4; have x5 := zf 5; have x6 := zf 6; have x7 := zf 7; clear zf; replace hP := Lib.hid hP; clear hb4)))
            exact bodyPost_ret (results_ct rfl rfl (load_ck (hP.out.fin zeroC).1)) rfl ⟨by rw [hq2.out]; rfl, (hP.out.fin zeroC).2⟩
          · rw [hsr] at hS
            have hq2 := Lib.hid (hq1.trans hck)
            have e1 : ((B s).toList == (B l).toList) = false := by rw [B_toList, B_toList]; exact beq_eq_false_iff_ne.2 hne
            replace hS := Lib.hid hS
            unfold Ck.V at hS
            clear hsr hck hq1 hne
            go_wp2_with (first | (go_at_call 17; go_must (refine hS.out.mono ?_; rintro e w4 ⟨rfl, hb4⟩; replace hP := hP.out.next hb4; obtain ⟨⟨z0, z1, z2, z3, z4, z5, z6, z7⟩, zf⟩ := CB.facts hP.res; obtain ⟨⟨k0, k1, k2, k3, k4, k5, k6, k7⟩, kf⟩ := CB.facts hP.cur; clear kf; have x0 := zf 0; have x1 := zf 1; have x2 := zf 2; have x3 := zf 3; have x4 := zf 4; have x5 := zf 5; have x6 := zf 6; have x7 := zf 7; clear zf; replace hP := Lib.hid hP; clear hb4)))
            exact bodyPost_ret (results_ct rfl rfl (load_ck (hP.out.fin zeroC).1)) rfl ⟨by rw [hq2.out]; rfl, (hP.out.fin zeroC).2⟩
          · rw [hsr] at hS
            have hq2 := Lib.hid (hq1.trans hck)
            replace hS := Lib.hid hS
            unfold Ck.V at hS
            clear hsr hck hq1
            go_wp2_with (first | (go_at_call 17; go_must (refine hS.out.mono ?_; rintro e w4 ⟨rfl, hb4⟩; replace hP := hP.out.next hb4; obtain ⟨⟨z0, z1, z2, z3, z4, z5, z6, z7⟩, zf⟩ := CB.facts hP.res; obtain ⟨⟨k0, k1, k2, k3, k4, k5, k6, k7⟩, kf⟩ := CB.facts hP.cur; clear kf; have x0 := zf 0; have x1 := zf 1; have x2 := zf 2; have x3 := zf 3; have x4 := zf 4; have x5 := zf 5; have x6 := zf 6; have x7 := zf 7; clear zf; replace hP := Lib.hid hP; clear hb4)))
            exact bodyPost_ret (results_ct rfl rfl (load_ck (hP.out.fin c).1)) rfl ⟨by rw [hq2.out]; rfl, (hP.out.fin c).2⟩
        | cons p RL =>
          have hnn : PL.length + 1 + RL.length = n := by rw [← hn.out, hls.out]; simp; omega
          have hpm : p ∈ p0 :: rest := by rw [hls.out]; simp
          have hpL := hpl.out p hpm
          have hat : ∀ V c', PZ w V g c' q cap (p0 :: rest) → V.cell? ⟨q, PL.length + 1, none⟩ = some (.string (B p)) := fun V c' h => PZ.at_ (P := p0 :: PL) (p := p) (R := RL) (by have := h; rw [hls.out] at this; exact this)
          have hat0 := hat _ _ hP
          replace hat := Lib.hid hat
          have hw2 : rest.foldl stepR c0 = RL.foldl stepR (stepR c p) := by rw [hwk.out]; rfl
          replace hw2 := Lib.hid hw2
          obtain ⟨c1, hc1⟩ : ∃ c1, setPa c (behL p pathW) = c1 := ⟨_, rfl⟩
          obtain ⟨c2, hc2⟩ : ∃ c2, setAg c1 (behL p ageW) = c2 := ⟨_, rfl⟩
          obtain ⟨c3, hc3⟩ : ∃ c3, setSi c2 (behL p siteW) = c3 := ⟨_, rfl⟩
          have hc4 : stepR c p = setHS c3 p := by unfold stepR; rw [hc1, hc2, hc3]
          have hok : (stepR c p).Ok := by
            obtain ⟨o1, o2, o3, o4, o5, o6⟩ := hOk.out
            have g1 : c1.Ok := by
              rw [← hc1]
              cases hx : behL p pathW with
              | none => exact hOk.out
              | some x => have := behL_len hx; exact ⟨o1, o2, by simp only [setPa]; omega, o4, o5, o6⟩
            obtain ⟨o1, o2, o3, o4, o5, o6⟩ := g1
            have g2 : c2.Ok := by
              rw [← hc2]
              cases hx : behL p ageW with
              | none => exact ⟨o1, o2, o3, o4, o5, o6⟩
              | some x => have := digR_range x; exact ⟨o1, o2, o3, o4, by simp only [setAg]; omega, by simp only [setAg]; omega⟩
            obtain ⟨o1, o2, o3, o4, o5, o6⟩ := g2
            have g3 : c3.Ok := by
              rw [← hc3]
              cases hx : behL p siteW with
              | none => exact ⟨o1, o2, o3, o4, o5, o6⟩
              | some x => have := behL_len hx; exact ⟨o1, o2, o3, by simp only [setSi]; omega, o5, o6⟩
            rw [hc4]
            exact ⟨g3.nm, g3.vl, g3.pa, g3.si, g3.lo, g3.hi⟩
          replace hok := Lib.hid hok
          rw [hc4] at hw2 hok
          clear hc4 hwk
          have hB1 := Lib.hid (fun W => behind_any p pathW (by omega) (by decide) W)
          have hB2 := Lib.hid (fun W => behind_any p ageW (by omega) (by decide) W)
          have hB3 := Lib.hid (fun W => behind_any p siteW (by omega) (by decide) W)
          obtain ⟨⟨k0, k1, k2, k3, k4, k5, k6, k7⟩, kf⟩ := CB.facts hP.cur
          have f2 := kf 2
          clear kf
          have hPd := Lib.hid (fun n => hP.drewN n)
          clear hP hOk
          obtain ⟨⟨x1, b1⟩, hx1⟩ : ∃ r, bres (behL p pathW) = r := ⟨_, rfl⟩
          obtain ⟨⟨x2, b2⟩, hx2⟩ : ∃ r, bres (behL p ageW) = r := ⟨_, rfl⟩
          obtain ⟨⟨x3, b3⟩, hx3⟩ : ∃ r, bres (behL p siteW) = r := ⟨_, rfl⟩
          rw [hx1] at hB1
          rw [hx2] at hB2
          rw [hx3] at hB3
          replace hc1 := Lib.hid hc1
          replace hc2 := Lib.hid hc2
          replace hc3 := Lib.hid hc3
          replace hx1 := Lib.hid hx1
          replace hx2 := Lib.hid hx2
          replace hx3 := Lib.hid hx3
          go_upto_if 48 with (first | (go_at_call 35; go_must (refine (hB1.out _).mono ?_; rintro e w3 ⟨rfl, n3, rfl⟩)))
          go_cut [] (fun V => PZ w V g c1 q cap (p0 :: rest))
          case first =>
            cases b1 with
            | false =>
              have e : c1 = c := by rw [← hc1.out, bres_no hx1.out]; rfl
              replace e := Lib.hid e
              go_wp2
              go_meet
              rw [e.out]
              exact hPd.out _
            | true =>
              have e : c1 = { c with pa := x1 } := by rw [← hc1.out, bres_yes hx1.out]; rfl
              replace e := Lib.hid e
              go_wp2
              go_meet
              rw [e.out]
              exact (hPd.out _).set 2 _ { c with pa := x1 } rfl
          case rest =>
          have hP := hcut
          clear hcut hPd hat0 k0 k1 k2 k3 k4 k5 k6 k7 f2
          have hat0 := hat.out _ _ hP
          obtain ⟨⟨k0, k1, k2, k3, k4, k5, k6, k7⟩, kf⟩ := CB.facts hP.cur
          have f3 := kf 3
          have f4 := kf 4
          clear kf
          have hPd := Lib.hid (fun n => hP.drewN n)
          clear hP
          go_upto_if 59 with (first | (go_at_call 35; go_must (refine (hB2.out _).mono ?_; rintro e w3 ⟨rfl, n3, rfl⟩)))
          go_cut [] (fun V => PZ w V g c2 q cap (p0 :: rest))
          case first =>
            cases b2 with
            | false =>
              have e : c2 = c1 := by rw [← hc2.out, bres_no hx2.out]; rfl
              replace e := Lib.hid e
              go_wp2
              go_meet
              rw [e.out]
              exact hPd.out _
            | true =>
              have hxl := behL_len (bres_yes hx2.out)
              have hD := Lib.hid (fun W => rdigits_any 2147483647 x2 (by omega) W)
              rw [digM_R] at hD
              have e : c2 = { c1 with age := (digR x2).1, ha := true } := by rw [← hc2.out, bres_yes hx2.out]; rfl
              replace e := Lib.hid e
              generalize digR x2 = D at *
              obtain ⟨dn, de⟩ := D
              simp only at hD
              go_wp2_with (first | (go_at_call 36; go_must (refine (hD.out _).mono ?_; rintro e4 w4 ⟨rfl, n4, rfl⟩)))
              go_meet
              rw [e.out]
              first | exact ((hPd.out _).set 4 (.bool true) { c1 with ha := true } rfl).set 3 _ { c1 with age := dn, ha := true } rfl | exact (((hPd.out _).set 4 (.bool true) { c1 with ha := true } rfl).drewN _).set 3 _ { c1 with age := dn, ha := true } rfl
          case rest =>
          have hP := hcut
          clear hcut hPd hat0 k0 k1 k2 k3 k4 k5 k6 k7 f3 f4
          have hat0 := hat.out _ _ hP
          obtain ⟨⟨k0, k1, k2, k3, k4, k5, k6, k7⟩, kf⟩ := CB.facts hP.cur
          have f7 := kf 7
          clear kf
          have hPd := Lib.hid (fun n => hP.drewN n)
          clear hP
          go_upto_if 75 with (first | (go_at_call 35; go_must (refine (hB3.out _).mono ?_; rintro e w3 ⟨rfl, n3, rfl⟩)))
          go_cut [] (fun V => PZ w V g c3 q cap (p0 :: rest))
          case first =>
            cases b3 with
            | false =>
              have e : c3 = c2 := by rw [← hc3.out, bres_no hx3.out]; rfl
              replace e := Lib.hid e
              go_wp2
              go_meet
              rw [e.out]
              exact hPd.out _
            | true =>
              have e : c3 = { c2 with si := x3 } := by rw [← hc3.out, bres_yes hx3.out]; rfl
              replace e := Lib.hid e
              go_wp2
              go_meet
              rw [e.out]
              exact (hPd.out _).set 7 _ { c2 with si := x3 } rfl
          case rest =>
          have hP := hcut
          clear hcut hPd hat0 k0 k1 k2 k3 k4 k5 k6 k7 f7
          have hat0 := hat.out _ _ hP
          obtain ⟨⟨k0, k1, k2, k3, k4, k5, k6, k7⟩, kf⟩ := CB.facts hP.cur
          have f5 := kf 5
          have f6 := kf 6
          clear kf
          obtain ⟨q5, hq5⟩ : ∃ q, c3.ho = q := ⟨_, rfl⟩
          obtain ⟨q6, hq6⟩ : ∃ q, c3.se = q := ⟨_, rfl⟩
          rw [hq5] at k5
          rw [hq6] at k6
          obtain ⟨h5, hh5⟩ : ∃ b, (p == httpW) = b := ⟨_, rfl⟩
          obtain ⟨h6, hh6⟩ : ∃ b, (p == secW) = b := ⟨_, rfl⟩
          have e5 : ((B p).toList == [72, 116, 116, 112, 79, 110, 108, 121]) = h5 := by rw [B_toList]; exact hh5
          have e6 : ((B p).toList == [83, 101, 99, 117, 114, 101]) = h6 := by rw [B_toList]; exact hh6
          have hfin : ∀ V, V = (wr : World) → True := fun _ _ => trivial
          clear hfin
          have hres := (hP.set 5 (.bool (q5 || h5)) { c3 with ho := q5 || h5 } rfl).set 6 (.bool (q6 || h6)) (setHS c3 p) (by unfold setHS; rw [hq5, hq6, hh5, hh6]; rfl)
          replace hres := Lib.hid hres
          have hat5 := fun b => hat.out _ _ (hP.set 5 (.bool b) { c3 with ho := b } rfl)
          clear hP hq5 hq6 hh5 hh6
          cases q5
          all_goals cases q6
          all_goals
            go_wp2
            go_roundw
            case rel => exact ⟨PL ++ [p], RL, setHS c3 p, by rw [hls.out]; simp, by rw [List.length_append, List.length_singleton]; go_num, hw2, hok, hres.out⟩
            case measure => simp [intOf]; omega
end Go.Proofs.YtgnibfideghklaaDoor
