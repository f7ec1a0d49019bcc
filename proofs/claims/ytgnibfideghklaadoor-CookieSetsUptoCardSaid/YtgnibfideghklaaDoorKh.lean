/-
  Chapter 19: the first cookie of a name, walked.
-/
import Derived.Test.YtgnibfideghklaaDoorKg
set_option linter.unusedVariables false
set_option linter.unusedSimpArgs false
namespace Go.Proofs.YtgnibfideghklaaDoor
open Go.RowKit Go.Proofs.YtgnibfideghklaaDoorW.PrintWords Go.Proofs.YtgnibfideghklaaDoor.PCookieReads
theorem str_at {w : World} {A : Option Addr} {n : Nat} {V : List (List UInt8)} (h : Kd.C Kd.string w A n (V.map B)) {P R : List (List UInt8)} {v : List UInt8} (hV : V = P ++ v :: R) : ∃ ad, A = some ad ∧ w.cell? (ad.add P.length) = some (.string (B v)) := by
  have hn : n = V.length := by rw [← h.1, List.length_map]
  obtain ⟨ad, c, e, _, hK, hc⟩ := Kd.C_get h ByteArray.empty (P.length : Int) (by omega) (by rw [hn, hV]; simp; omega)
  have hK2 : c = [.string ((V.map B).getD P.length ByteArray.empty)] := hK
  refine ⟨ad, e, ?_⟩
  have := hc 0 _ (by rw [hK2]; rfl)
  have e2 : (P.length : Int).toNat * (Kd.string).sz + 0 = P.length := by
    show (P.length : Int).toNat * 1 + 0 = P.length
    simp
  rw [e2] at this
  rw [this, hV]
  simp [List.getD_eq_getElem?_getD]
theorem pair_at {w : World} {A : Option Addr} {n : Nat} {L : List (List UInt8 × List UInt8)} (h : Kd.C k43 w A n (L.map SP)) {P R : List (List UInt8 × List UInt8)} {p : List UInt8 × List UInt8} (hL : L = P ++ p :: R) : ∃ ad, A = some ad ∧ w.cell? (ad.add (P.length * 2)) = some (.string (B p.1)) ∧ w.cell? ⟨(ad.add (P.length * 2)).block, (ad.add (P.length * 2)).off + 1, none⟩ = some (.string (B p.2)) := by
  have hn : n = L.length := by rw [← h.1, List.length_map]
  obtain ⟨ad, e, h1, h2⟩ := at_T43 h (P.length : Int) (by omega) (by rw [hn, hL]; simp; omega)
  have hr : rd_T43 (L.map SP) (P.length : Int) = SP p := by
    rw [hL]
    simp [rd_T43, List.getD_eq_getElem?_getD]
  rw [hr, Int.toNat_natCast] at h1 h2
  exact ⟨ad, e, h1, h2⟩
set_option maxHeartbeats 1000000 in
set_option maxRecDepth 100000 in
theorem find_any (V : List (List UInt8)) (A0 : Option Addr) (c0 : Nat) (name : List UInt8) (w : World) (hC : Kd.C Kd.string w A0 V.length (V.map B)) (hlV : V.length < 4294967296) (hV : ∀ v ∈ V, v.length < 4294967281) (hm : MaxL w) :
    Calls Tryd.prog 8 #[.slice A0 V.length c0, .string (B name)] w fun e w' => e = .returned (.tuple #[.string (resF (findC name V)).1, .bool (resF (findC name V)).2]) ∧ Below w.heap.size w w' := by
  have hPa := Lib.hid (fun (v : List UInt8) (hv : v ∈ V) W h => parse_any v (hV v hv) W h)
  have hBa := Lib.hid (fun (v : List UInt8) (hv : v.length < 4611686018427387904) W => cookie_bare.calls (B v) _ W (bare_f v hv))
  have hV2 := Lib.hid hV
  have hC2 := Lib.hid hC
  have hm2 := Lib.hid hm
  have htn := Lib.hid (B_toList name)
  clear hC hm hV
  go_enter Tryd.func8, Tryd.ntmps8
  go_wp2
  go_loopw [14] (fun i wr => ∃ (PV RV : List (List UInt8)), V = PV ++ RV ∧ i = .int .i64 (PV.length : Nat) ∧ findC name V = findC name RV ∧ Below w.heap.size w wr) (fun i _ => V.length - (intOf i).toNat)
  case atStart => exact ⟨[], V, rfl, rfl, rfl, Below.refl _ _⟩
  case round =>
    obtain ⟨PV, RV, hVs, rfl, hfind, hb⟩ := hrel
    replace hfind := Lib.hid hfind
    replace hVs := Lib.hid hVs
    cases RV with
    | nil =>
      have hn : PV.length = V.length := by rw [hVs.out]; simp
      replace hb := Lib.hid hb
      go_wp2
      go_ret2
      exact ⟨by rw [hfind.out]; rfl, hb.out⟩
    | cons v RV =>
      have hn : PV.length + 1 + RV.length = V.length := by rw [hVs.out]; simp; omega
      have hvV : v ∈ V := by rw [hVs.out]; simp
      obtain ⟨ad, rfl, hcell⟩ := str_at (Kd.C_below hC2.out hb) hVs.out
      have hP1 := Lib.hid (hPa.out v hvV wr (hm2.out.below hb))
      have hvl := Lib.hid (hV2.out v hvV)
      replace hb := Lib.hid hb
      cases hpc : parseC v with
      | none =>
        rw [hpc] at hP1
        have hq : findC name V = findC name RV := by rw [hfind.out, findC, hpc]
        replace hq := Lib.hid hq
        have hP2 : Calls Tryd.prog 11 #[.string (B v)] wr fun e w' => ∃ x, e = .returned (.tuple #[x, .int .i64 190]) ∧ Below wr.heap.size wr w' := hP1.out.mono fun e w' ⟨x, he, _, hb⟩ => ⟨x, he, hb⟩
        replace hP2 := Lib.hid hP2
        clear hP1 hpc
        go_wp2_with (first | (go_at_call 11; go_must (refine hP2.out.mono ?_; rintro e w3 ⟨x, rfl, hb3⟩; replace hb := Lib.hid (hb.out.trans (hb3.mono hb.out.size)); clear hb3)))
        go_roundw
        case rel => exact ⟨PV ++ [v], RV, by rw [hVs.out]; simp, by rw [List.length_append, List.length_singleton]; go_num, hq.out, hb.out⟩
        case measure => simp [intOf]; omega
      | some ps =>
        rw [hpc] at hP1
        obtain ⟨hps16, hpsl⟩ := pairs_small hpc
        have hq : findC name V = (match findP name ps with | some x => some x | none => findC name RV) := by
          rw [hfind.out, findC, hpc]
          rfl
        replace hq := Lib.hid hq
        have hP2 : Calls Tryd.prog 11 #[.string (B v)] wr fun e w' => ∃ A c, e = .returned (.tuple #[.slice A ps.length c, .int .i64 0]) ∧ Kd.C k43 w' A ps.length (ps.map SP) ∧ Below wr.heap.size wr w' := hP1.out.mono fun e w' ⟨x, he, hr, hb⟩ => by
          obtain ⟨A, c, hx, _, hr2⟩ := Kd.R_reads hr
          subst hx
          have hlen : (resP (some ps)).1.length = ps.length := by simp [resP]
          rw [hlen] at he hr2
          exact ⟨A, c, he, hr2, hb⟩
        replace hP2 := Lib.hid hP2
        replace hpsl := Lib.hid hpsl
        clear hP1 hpc
        go_upto_region 7 with (first | (go_at_call 11; go_must (refine hP2.out.mono ?_; rintro e w3 ⟨A, c, rfl, hr, hb3⟩; replace hb := Lib.hid (hb.out.trans (hb3.mono hb.out.size)); replace hr := Lib.hid hr; clear hb3)))
        go_loopw [27] (fun i wr2 => ∃ (Pp Rp : List (List UInt8 × List UInt8)), ps = Pp ++ Rp ∧ i = .int .i64 (Pp.length : Nat) ∧ findP name ps = findP name Rp ∧ Below w.heap.size w wr2 ∧ Hid (Kd.C k43 wr2 A ps.length (ps.map SP))) (fun i _ => ps.length - (intOf i).toNat)
        case atStart => exact ⟨[], ps, rfl, rfl, rfl, hb.out, hr⟩
        case round =>
          clear hb hr
          rename_i wr2 _ _ _ _ _ _ _ _ _ _ _
          obtain ⟨Pp, Rp, hps, rfl, hfp, hb, hr⟩ := hrel
          replace hps := Lib.hid hps
          replace hfp := Lib.hid hfp
          cases Rp with
          | nil =>
            have hn2 : Pp.length = ps.length := by rw [hps.out]; simp
            have hq2 : findC name V = findC name RV := by
              have h1 := hq.out
              rw [hfp.out] at h1
              exact h1
            replace hq2 := Lib.hid hq2
            replace hb := Lib.hid hb
            go_wp2
            go_roundw
            case rel => exact ⟨PV ++ [v], RV, by rw [hVs.out]; simp, by rw [List.length_append, List.length_singleton]; go_num, hq2.out, hb.out⟩
            case measure => simp [intOf]; omega
          | cons p Rp =>
            have hn2 : Pp.length + 1 + Rp.length = ps.length := by rw [hps.out]; simp; omega
            obtain ⟨ad2, rfl, k1, k2⟩ := pair_at hr.out hps.out
            have hr3 := Lib.hid (fun X => Kd.C_below hr.out (below_alloc (Below.refl _ _) X))
            have hpl := hpsl.out p (by rw [hps.out]; simp)
            have hB1 := Lib.hid (hBa.out p.2 (by have := hvl.out; omega))
            replace hb := Lib.hid hb
            have hfq : findP name (p :: Rp) = if p.1 = name then some (bareL p.2) else findP name Rp := by
              unfold findP
              rw [List.find?_cons]
              by_cases h : p.1 = name
              · rw [if_pos h, show (p.1 == name) = true by simpa using h]
                rfl
              · rw [if_neg h, show (p.1 == name) = false by simpa using h]
            replace hpl := Lib.hid hpl
            by_cases hpn : p.1 = name
            · have hq2 : findC name V = some (bareL p.2) := by
                have h1 := hq.out
                rw [hfp.out, hfq, if_pos hpn] at h1
                exact h1
              replace hq2 := Lib.hid hq2
              have e1 : ((B p.1).toList == (B name).toList) = true := by rw [B_toList, B_toList, hpn]; simp
              clear hfq hpn
              go_wp2_with (first | (go_at_call 20; go_must (refine (hB1.out _).mono ?_; rintro e w4 ⟨rfl, hd⟩; replace hb := Lib.hid ((hb.out.alloc hb.out.size _).trans ((drawn_below hd).mono (hb.out.alloc hb.out.size _).size)); clear hd)))
              go_ret2
              exact ⟨by rw [hq2.out]; rfl, hb.out⟩
            · have hq2 : findP name ps = findP name Rp := by rw [hfp.out, hfq, if_neg hpn]
              replace hq2 := Lib.hid hq2
              have e1 : ((B p.1).toList == (B name).toList) = false := by rw [B_toList, B_toList]; exact beq_eq_false_iff_ne.2 hpn
              clear hfq hpn
              go_wp2
              go_roundw
              case rel => exact ⟨Pp ++ [p], Rp, by rw [hps.out]; simp, by rw [List.length_append, List.length_singleton]; go_num, hq2.out, hb.out.alloc hb.out.size _, Lib.hid (hr3.out _)⟩
              case measure => simp [intOf]; omega
end Go.Proofs.YtgnibfideghklaaDoor
