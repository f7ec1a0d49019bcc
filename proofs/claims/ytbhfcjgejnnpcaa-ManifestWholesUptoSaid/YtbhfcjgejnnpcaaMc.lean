/-
  Chapter 11: the program's Check, walked.
-/
import Derived.Test.YtbhfcjgejnnpcaaMb
import Derived.Deep.DeepCutAuto
import Derived.Deep.DeepFit
set_option linter.unusedVariables false
set_option linter.unusedSimpArgs false
namespace Go.Proofs.Ytbhfcjgejnnpcaa
open Go.RowKit Go.Proofs.YtbhfcjgejnnpcaaW.PrintWords Go.Proofs.Ytbhfcjgejnnpcaa.PManifest Go.Maps
theorem ordered_any (n : Nat) (l : List S44) (hl : l.length < 1000000000) (A : Option Addr) (c : Nat) (w : World) (hr : Kd.C k44 w A l.length l) (hc : l.length ≤ c) :
    Calls Try.prog 41 #[.int .i64 (n : Nat), .slice A l.length c] w fun e w' => e = .returned (.bool (ordB n l)) ∧ Below w.heap.size w w' :=
  (manifest_ordered.calls _ (n : Int) A c l _ w hr hc (ordered_f n (by omega) l hl)).mono fun e w' h => ⟨h.1, h.2.below⟩
theorem fileRight_any (t : S44) (w : World) :
    Calls Try.prog 42 #[.agg #[.int .i64 t.f0, .int .i64 t.f1, .int .i64 t.f2, .string t.f3, .string t.f4]] w fun e w' => e = .returned (.bool (fileB t)) ∧ Below w.heap.size w w' :=
  manifest_fileRight.calls _ _ _ _ _ _ w (fileRight_f t)
theorem wfi {n : Int} (h : (Lit.int .i64 n).wf = true) : -9223372036854775808 ≤ n ∧ n ≤ 9223372036854775807 := by
  simp only [Lit.wf, IntKind.min, IntKind.max, IntKind.signed, IntKind.bits, Bool.and_eq_true, decide_eq_true_eq, if_true] at h
  omega
section
variable {ops : Array Oper} {rest : List Oper} {o : Oper} {a : Act} {Q : Exit → Act → World → Prop}
theorem w_known {w : World} (hg : o.guard = none) (m x v : Operand) (hop : o.op = Op.mapUpdate 81 m x v) {b : Nat} {ns : List Int} (hm : a.eval m = .map (some b)) (h : KM w b ns) (hn : ns.length < 1000000000) (k : Int) (hk : (Lit.int .i64 k).wf = true) (hx : a.eval x = .int .i64 k) (hv : a.eval v = .bool true)
    (hK : ∀ w', Hid (KM w' b (ns ++ [k])) → Hid (w.grownBy w' (some b)) → wpList Try.prog ops Q rest (a.put o.dst undef) w') : wpList Try.prog ops Q (o :: rest) a w := by
  refine wpList_plain hg fun K' hK' => ?_
  obtain ⟨w', hrun, r1, r2⟩ := h.put hn k hk
  unfold Oper.wp
  simp [execOp, hop, hm, hx, hv, hrun, Result.andThen]
  exact hK' _ _ (hK w' r1 r2)
end
/-- What a world has while Check goes on: the state's box, the known numbers. -/
structure CW (w : World) (A : Option Addr) (n c : Nat) (log next seq : Int) (bm : Nat) (ns : List Int) (W : World) : Prop where
  box : W.heap[w.heap.size]? = some (.cells #[.slice A n c, .int .i64 log, .int .i64 next, .int .u64 seq] 27 (0, 0))
  known : KM W bm ns
  bel : Below w.heap.size w W
  base : w.heap.size < bm
theorem CW.next {w : World} {A : Option Addr} {n c : Nat} {log next seq : Int} {bm : Nat} {ns : List Int} {W W2 : World} (h : CW w A n c log next seq bm ns W) (hb : Below W.heap.size W W2) : CW w A n c log next seq bm ns W2 :=
  ⟨(hb.block _ (Array.getElem?_eq_some_iff.1 h.box).1).trans h.box, h.known.below hb, h.bel.trans (hb.mono h.bel.size), h.base⟩
theorem CW.put {w : World} {A : Option Addr} {n c : Nat} {log next seq : Int} {bm : Nat} {ns : List Int} {k : Int} {W W2 : World} (h : CW w A n c log next seq bm ns W) (hk : KM W2 bm (ns ++ [k])) (hg : W.grownBy W2 (some bm)) : CW w A n c log next seq bm (ns ++ [k]) W2 :=
  ⟨(hg.block _ (Array.getElem?_eq_some_iff.1 h.box).1 (by intro e; have := h.base; injection e with e; omega)).trans h.box, hk, h.bel.grown hg h.bel.size (fun k e => by have := h.base; injection e with e; omega), h.base⟩
theorem CW.cells {w : World} {A : Option Addr} {n c : Nat} {log next seq : Int} {bm : Nat} {ns : List Int} {W : World} (h : CW w A n c log next seq bm ns W) :
    W.cell? ⟨w.heap.size, 0, none⟩ = some (.slice A n c) ∧ W.cell? ⟨w.heap.size, 1, none⟩ = some (.int .i64 log) ∧ W.cell? ⟨w.heap.size, 2, none⟩ = some (.int .i64 next) ∧ W.cell? ⟨w.heap.size, 3, none⟩ = some (.int .u64 seq) :=
  ⟨(blk_cell h.box 0).trans rfl, (blk_cell h.box 1).trans rfl, (blk_cell h.box 2).trans rfl, (blk_cell h.box 3).trans rfl⟩
set_option maxHeartbeats 4000000 in
set_option maxRecDepth 100000 in
theorem check_any (L : List (List S44)) (log next seq : Int) (hL : L.length < 1000000000) (hl : ∀ l ∈ L, l.length < 100000000) (hf : L.flatten.length < 1000000000) (hwf : ∀ t ∈ L.flatten, (Lit.int .i64 t.f0).wf = true)
    (hlog : -9223372036854775808 ≤ log ∧ log ≤ 9223372036854775807) (hnext : -9223372036854775808 ≤ next ∧ next ≤ 9223372036854775807) (hseq : 0 ≤ seq ∧ seq ≤ 18446744073709551615)
    (A : Option Addr) (c : Nat) (w : World) (hr : Kd.C (Kd.slice 44 k44) w A L.length L) (hc : L.length ≤ c) :
    Calls Try.prog 17 #[.agg #[.slice A L.length c, .int .i64 log, .int .i64 next, .int .u64 seq]] w fun e w' => e = .returned (.int .i64 (c110 (chkB L log next seq))) ∧ Below w.heap.size w w' := by
  obtain ⟨hl1, hl2⟩ := hlog
  obtain ⟨hn1, hn2⟩ := hnext
  obtain ⟨hs1, hs2⟩ := hseq
  have hb0 : Below w.heap.size w (w.alloc (.cells #[.slice A L.length c, .int .i64 log, .int .i64 next, .int .u64 seq] 27)) := below_alloc (Below.refl _ _) _
  have hlast : 0 < L.length → ∃ (ad : Addr) (A0 : Option Addr) (c0 : Nat), A = some ad ∧ w.cell? (ad.add (L.length - 1)) = some (.slice A0 (L.getLast?.getD []).length c0) := fun h0 => by
    obtain ⟨ad, A0, c0, e1, e2, _⟩ := at_L3 hr ((L.length : Int) - 1) (by omega) (by omega)
    have e3 : rd_L3 L ((L.length : Int) - 1) = L.getLast?.getD [] := by
      unfold rd_L3
      rw [show ((L.length : Int) - 1).toNat = L.length - 1 by omega, List.getLast?_eq_getElem?, List.getD_eq_getElem?_getD]
    rw [show ((L.length : Int) - 1).toNat = L.length - 1 by omega, e3] at e2
    exact ⟨ad, A0, c0, e1, e2⟩
  have hcw : ∀ W, Below (w.alloc (.cells #[.slice A L.length c, .int .i64 log, .int .i64 next, .int .u64 seq] 27)).heap.size (w.alloc (.cells #[.slice A L.length c, .int .i64 log, .int .i64 next, .int .u64 seq] 27)) W → CW w A L.length c log next seq W.heap.size [] (W.alloc (.map #[] 0)) := fun W hb => by
    have hbx := heap_alloc_new w (.cells #[.slice A L.length c, .int .i64 log, .int .i64 next, .int .u64 seq] 27)
    have hsz := hb.size
    have h2 := below_alloc (Below.refl W.heap.size W) (.map #[] 0)
    have h1 := (hb.block _ (Array.getElem?_eq_some_iff.1 hbx).1).trans hbx
    exact ⟨(h2.block _ (Array.getElem?_eq_some_iff.1 h1).1).trans h1, KM.new W, (hb0.trans (hb.mono hb0.size)).trans (h2.mono (hb0.trans (hb.mono hb0.size)).size), by simp at hsz; omega⟩
  replace hcw := Lib.hid hcw
  replace hlast := Lib.hid hlast
  replace hb0 := Lib.hid hb0
  have hcz : CW w A L.length c log next seq (w.alloc (.cells #[.slice A L.length c, .int .i64 log, .int .i64 next, .int .u64 seq] 27)).heap.size [] _ := hcw.out _ (Below.refl _ _)
  replace hcz := Lib.hid hcz
  replace hr := Lib.hid hr
  replace hwf := Lib.hid hwf
  replace hl := Lib.hid hl
  have htot : ((!w0 L && !w1 log next seq) && (ordFrom 0 L && allP next [] L.flatten)) = total L log next seq := rfl
  replace htot := Lib.hid htot
  have hchk := Lib.hid (chk_total L log next seq)
  go_enter Try.func17, Try.ntmps17
  go_upto_region 3 with (fail)
  go_cut [5] (fun v V => v = .bool (w0 L) ∧ V = w.alloc (.cells #[.slice A L.length c, .int .i64 log, .int .i64 next, .int .u64 seq] 27))
  case first =>
    by_cases h0 : 0 < L.length
    · obtain ⟨ad, A0, c0, rfl, hcl⟩ := hlast.out h0
      replace hcl := pw_cell_below hb0.out hcl
      have i1 : IntKind.i64.wrap ((L.length : Int) - 1) = (L.length : Int) - 1 := IntWalk.i64_in _ (by omega)
      have i2 : ((L.length : Int) - 1).toNat = L.length - 1 := by omega
      by_cases h7 : 7 < L.length
      · have e : w0 L = true := by unfold w0; rw [decide_eq_true h7, Bool.true_or]
        replace e := Lib.hid e
        go_wp2
        go_meet
        exact ⟨by rw [e.out], rfl⟩
      · have e : w0 L = (L.getLast?.getD []).isEmpty := by unfold w0; rw [decide_eq_false h7, Bool.false_or, decide_eq_true h0, Bool.true_and]
        generalize L.getLast?.getD [] = z at *
        replace e := Lib.hid e
        cases z with
        | nil =>
          go_wp2
          go_meet
          exact ⟨by rw [e.out]; rfl, rfl⟩
        | cons z0 zr =>
          have k : (((z0 :: zr).length : Int) == 0) = false := beq_eq_false_iff_ne.2 (by simp; omega)
          go_wp2
          go_meet
          exact ⟨by rw [e.out]; simp; omega, rfl⟩
    · have e : w0 L = false := by unfold w0; rw [decide_eq_false (by omega), Bool.false_or, decide_eq_false h0, Bool.false_and]
      replace e := Lib.hid e
      go_wp2
      go_meet
      exact ⟨by rw [e.out, decide_eq_false (by omega)], rfl⟩
  case rest =>
    obtain ⟨rfl, rfl⟩ := hcut
    go_upto_region 4 with (fail)
    go_cut [5] (fun v V => v = .bool (w0 L || w1 log next seq) ∧ V = w.alloc (.cells #[.slice A L.length c, .int .i64 log, .int .i64 next, .int .u64 seq] 27))
    case first =>
      cases hw : w0 L with
      | true =>
        replace hw := Lib.hid hw
        go_wp2
        go_meet
        exact ⟨by rw [hw.out, Bool.true_or], rfl⟩
      | false =>
        replace hw := Lib.hid hw
        go_wp2
        all_goals go_meet
        all_goals
          refine ⟨congrArg Value.bool ?_, rfl⟩
          rw [hw.out, Bool.false_or]
          unfold w1
          first | (rw [decide_eq_true (by omega)]; done) | (rw [decide_eq_decide]; omega) | (rw [Bool.eq_iff_iff, decide_eq_true_eq]; simp; omega)
    case rest =>
      obtain ⟨rfl, rfl⟩ := hcut
      have hmm := @run_makeMap Try.prog
      go_wp2
      clear hmm
      have hG0 : ((!(w0 L || w1 log next seq)) && (ordFrom 0 L && allP next [] L.flatten)) = total L log next seq := by rw [← htot.out, Bool.not_or]
      replace hG0 := Lib.hid hG0
      go_loopw [5, 67] (fun v i wr => ∃ P R ns b, L = P ++ R ∧ i = .int .i64 (P.length : Nat) ∧ v = .bool b ∧ Hid (CW w A L.length c log next seq (w.heap.size + 1) ns wr) ∧ Hid ((!b && (ordFrom P.length R && allP next ns R.flatten)) = total L log next seq) ∧ Hid (ns = P.flatten.map (·.f0))) (fun _ i _ => L.length - (intOf i).toNat)
      case atStart => exact ⟨[], L, [], _, rfl, rfl, rfl, Lib.hid (by simpa using hcz.out), hG0, Lib.hid rfl⟩
      case round =>
        clear hcw hcz htot hG0 hlast hb0
        rename World => wr
        obtain ⟨P, R, ns, b, hLs, rfl, rfl, hC, hT, hns⟩ := hrel
        cases R with
        | nil =>
          have hn : P.length = L.length := by rw [hLs]; simp
          have hPL : P = L := by rw [hLs, List.append_nil]
          have hG : (!b) = total L log next seq := by rw [← hT.out]; simp [ordFrom, allP]
          replace hPL := Lib.hid hPL
          replace hLs := Lib.hid hLs
          cases b with
          | true =>
            have hq : c110 (chkB L log next seq) = 110 := by rw [hchk.out, ← hG]; rfl
            replace hq := Lib.hid hq
            clear hG
            go_wp2
            go_ret
            exact ⟨by rw [hq.out]; rfl, hC.out.bel⟩
          | false =>
            obtain ⟨m, hm1, hm2, hlen⟩ := hC.out.known.len
            have hnl : ns.length = L.flatten.length := by rw [hns.out, hPL.out, List.length_map]
            have hnd : ns.Nodup := by
              have := hchk.out
              have ht : total L log next seq = true := by rw [← hG]; rfl
              unfold total at ht
              simp only [Bool.and_eq_true] at ht
              have := allP_nodup next L.flatten [] ht.2.2 (by simp)
              rw [hns.out, hPL.out]
              simpa using this
            have hm : m = L.flatten.length := by rw [hm2 hnd, hnl]
            have hq : chkB L log next seq = decide (L.flatten.length ≤ 1024) := by rw [hchk.out, ← hG, Bool.not_false, Bool.true_and]
            replace hq := Lib.hid hq
            clear hG hm1 hm2 hnl hnd
            generalize L.flatten.length = fl at *
            subst hm
            by_cases hk : m ≤ 1024
            · have hq2 : c110 (chkB L log next seq) = 0 := by rw [hq.out, decide_eq_true hk]; rfl
              replace hq2 := Lib.hid hq2
              go_wp2
              go_ret
              exact ⟨by rw [hq2.out]; rfl, hC.out.bel⟩
            · have hq2 : c110 (chkB L log next seq) = 110 := by rw [hq.out, decide_eq_false hk]; rfl
              replace hq2 := Lib.hid hq2
              go_wp2
              go_ret
              exact ⟨by rw [hq2.out]; rfl, hC.out.bel⟩
        | cons l L2 =>
          have hPn : P.length + 1 + L2.length = L.length := by rw [hLs]; simp; omega
          have hll : l.length < 100000000 := hl.out l (by rw [hLs]; simp)
          have hnsl : ns.length + l.length + L2.flatten.length < 1000000000 := by
            have : L.flatten.length = P.flatten.length + (l.length + L2.flatten.length) := by rw [hLs, List.flatten_append, List.flatten_cons, List.length_append, List.length_append]
            rw [hns.out, List.length_map]
            omega
          have hwl : ∀ t ∈ l, (Lit.int .i64 t.f0).wf = true := fun t ht => hwf.out t (by rw [hLs]; simp; exact Or.inr (Or.inl ht))
          obtain ⟨ad, A0, c0, e1, e2, e3, e4⟩ := at_L3 hr.out (P.length : Int) (by omega) (by omega)
          replace e2 := pw_cell_below hC.out.bel e2
          have e5 : rd_L3 L (P.length : Int) = l := by rw [hLs]; exact rdL_mid _ _ _ _ rfl
          rw [e5] at e2 e3 e4
          rw [Int.toNat_natCast] at e2
          subst e1
          rw [ordFrom, List.flatten_cons] at hT
          replace hwl := Lib.hid hwl
          replace e4 := Lib.hid e4
          have hns2 : Hid (∀ x, ns ++ (l.map (·.f0)) = x → x = (P ++ [l]).flatten.map (·.f0)) := Lib.hid (fun x hx => by rw [← hx, hns.out]; simp)
          have hLs2 : Hid (L = (P ++ [l]) ++ L2) := Lib.hid (by rw [hLs]; simp)
          clear hLs hns e5
          go_upto_region 9 with (fail)
          go_cut [5] (fun v V => v = .bool (b || !ordB P.length l) ∧ CW w (some ad) L.length c log next seq (w.heap.size + 1) ns V)
          case first =>
            cases b with
            | true =>
              go_wp2
              go_meet
              exact ⟨rfl, hC.out⟩
            | false =>
              have hcall := Lib.hid (fun W hW => ordered_any P.length l (by omega) A0 c0 W hW e3)
              go_wp2_with (fail)
              refine (hcall.out _ (Kd.C_below e4.out hC.out.bel)).mono ?_
              rintro e w4 ⟨rfl, hb4⟩
              replace hb4 := Lib.hid hb4
              clear e2
              go_wp2
              go_meet
              exact ⟨rfl, hC.out.next hb4.out⟩
          case rest =>
            obtain ⟨rfl, hC2⟩ := hcut
            have hle := e4.out
            clear e2 e4 hC
            replace hle := Lib.hid hle
            replace hC2 := Lib.hid hC2
            have hT2 : (!(b || !ordB P.length l) && (ordFrom (P.length + 1) L2 && allP next ns (l ++ L2.flatten))) = total L log next seq := by
              rw [← hT.out]
              cases b <;> cases ordB P.length l <;> simp
            replace hT2 := Lib.hid hT2
            clear hT
            generalize (b || !ordB P.length l) = b1 at *
            go_wp2
            go_loopw [5, 81] (fun v i wi => ∃ Q R2 ns2 b2, l = Q ++ R2 ∧ i = .int .i64 (Q.length : Nat) ∧ v = .bool b2 ∧ Hid (CW w (some ad) L.length c log next seq (w.heap.size + 1) ns2 wi) ∧ Hid ((!b2 && (ordFrom (P.length + 1) L2 && allP next ns2 (R2 ++ L2.flatten))) = total L log next seq) ∧ Hid (ns2 = ns ++ Q.map (·.f0))) (fun _ i _ => l.length - (intOf i).toNat)
            case atStart => exact ⟨[], l, ns, b1, rfl, rfl, rfl, hC2, hT2, Lib.hid (by simp)⟩
            case round =>
              clear hC2 hT2
              rename World => wi
              obtain ⟨Q, R2, ns2, b2, hls, rfl, rfl, hC, hT, hn2⟩ := hrel
              cases R2 with
              | nil =>
                have hQ : Q.length = l.length := by rw [hls]; simp
                have hQl : Q = l := by rw [hls, List.append_nil]
                have hx := hns2.out ns2 (by rw [hn2.out, hQl])
                replace hls := Lib.hid hls
                replace hQl := Lib.hid hQl
                replace hx := Lib.hid hx
                go_wp2
                go_roundw
                case rel => exact ⟨P ++ [l], L2, ns2, b2, hLs2.out, by simp, rfl, hC, Lib.hid (by rw [List.length_append]; exact hT.out), hx⟩
                case measure => simp [intOf]; omega
              | cons t R3 =>
                have hQn : Q.length + 1 + R3.length = l.length := by rw [hls]; simp; omega
                have htw : (Lit.int .i64 t.f0).wf = true := hwl.out t (by rw [hls]; simp)
                obtain ⟨hw1, hw2⟩ : -9223372036854775808 ≤ t.f0 ∧ t.f0 ≤ 9223372036854775807 := wfi htw
                have hn3 : ns2.length < 1000000000 := by rw [hn2.out, List.length_append, List.length_map]; omega
                obtain ⟨ad2, e1, c0, c1, c2, c3, c4⟩ := at_T44 (Kd.C_below hle.out hC.out.bel) (Q.length : Int) (by omega) (by omega)
                have e5 : rd_T44 l (Q.length : Int) = t := by rw [hls]; exact rd_mid _ _ _ _ rfl
                rw [e5, Int.toNat_natCast] at c0 c1 c2 c3 c4
                subst e1
                have hls2 : Hid (l = (Q ++ [t]) ++ R3) := Lib.hid (by rw [hls]; simp)
                clear hls e5
                rw [List.cons_append, allP] at hT
                have hbx := below_alloc (Below.refl wi.heap.size wi) (.cells #[.int .i64 t.f0, .int .i64 t.f1, .int .i64 t.f2, .string t.f3, .string t.f4] 44)
                have hC1 := Lib.hid (hC.out.next hbx)
                have hlk := hC1.out.known.look t.f0 htw
                obtain ⟨s0, s1, s2, s3⟩ := hC1.out.cells
                have hcells : ∀ W2, Below (wi.alloc (.cells #[.int .i64 t.f0, .int .i64 t.f1, .int .i64 t.f2, .string t.f3, .string t.f4] 44)).heap.size (wi.alloc (.cells #[.int .i64 t.f0, .int .i64 t.f1, .int .i64 t.f2, .string t.f3, .string t.f4] 44)) W2 → W2.cell? ⟨wi.heap.size, 0, none⟩ = some (.int .i64 t.f0) ∧ W2.heap[wi.heap.size]? = some (.cells #[.int .i64 t.f0, .int .i64 t.f1, .int .i64 t.f2, .string t.f3, .string t.f4] 44 (0, 0)) := fun W2 hb => by
                  have h0 := heap_alloc_new wi (.cells #[.int .i64 t.f0, .int .i64 t.f1, .int .i64 t.f2, .string t.f3, .string t.f4] 44)
                  have h := (hb.block _ (Array.getElem?_eq_some_iff.1 h0).1).trans h0
                  exact ⟨(blk_cell h 0).trans rfl, h⟩
                replace hcells := Lib.hid hcells
                go_upto_region 13 with (fail)
                clear c0 c1 c2 c3 c4
                go_cut [5] (fun v V => v = .bool (b2 || (!fileB t || (ns2.contains t.f0 || decide (t.f0 ≥ next)))) ∧ CW w (some ad) L.length c log next seq (w.heap.size + 1) ns2 V ∧ V.heap[wi.heap.size]? = some (.cells #[.int .i64 t.f0, .int .i64 t.f1, .int .i64 t.f2, .string t.f3, .string t.f4] 44 (0, 0)))
                case first =>
                  cases b2 with
                  | true =>
                    go_wp2
                    go_meet
                    exact ⟨rfl, hC1.out, (hcells.out _ (Below.refl _ _)).2⟩
                  | false =>
                    have hcall := Lib.hid (fun W => fileRight_any t W)
                    go_wp2_with (fail)
                    refine (hcall.out _).mono ?_
                    rintro e w4 ⟨rfl, hb4⟩
                    have hC4 := Lib.hid (hC1.out.next hb4)
                    have hc4 := (hcells.out _ hb4).1
                    have hc5 := Lib.hid (hcells.out _ hb4).2
                    have hlk4 := hC4.out.known.look t.f0 htw
                    obtain ⟨s4, s5, s6, s7⟩ := hC4.out.cells
                    clear hb4 hlk s0 s1 s2 s3 s4 s5 s7
                    generalize fileB t = fb at *
                    generalize ns2.contains t.f0 = cb at *
                    go_wp2
                    all_goals go_meet
                    all_goals
                      refine ⟨congrArg Value.bool ?_, hC4.out, hc5.out⟩
                      simp [*]
                case rest =>
                  obtain ⟨rfl, hC5, hbk⟩ := hcut
                  rename World => V
                  have hT2 : (!(b2 || (!fileB t || (ns2.contains t.f0 || decide (t.f0 ≥ next)))) && (ordFrom (P.length + 1) L2 && allP next (ns2 ++ [t.f0]) (R3 ++ L2.flatten))) = total L log next seq := by
                    rw [← hT.out]
                    have f1 : decide (t.f0 ≥ next) = !decide (t.f0 < next) := by
                      by_cases h : t.f0 < next
                      · rw [decide_eq_true h, decide_eq_false (by omega)]; rfl
                      · rw [decide_eq_false h, decide_eq_true (by omega)]; rfl
                    rw [f1]
                    cases b2 <;> cases fileB t <;> cases ns2.contains t.f0 <;> cases decide (t.f0 < next) <;> simp
                  have hx : Hid (ns2 ++ [t.f0] = ns ++ (Q ++ [t]).map (·.f0)) := Lib.hid (by rw [hn2.out]; simp)
                  replace hT2 := Lib.hid hT2
                  replace hC5 := Lib.hid hC5
                  have u0 := (blk_cell hbk 0).trans (show _ = some (Value.int .i64 t.f0) from rfl)
                  clear hT hC1 hcells hlk s0 s1 s2 s3 hbx hC hbk
                  generalize (b2 || (!fileB t || (ns2.contains t.f0 || decide (t.f0 ≥ next)))) = b3 at *
                  obtain ⟨w6, hrun6, hk6, hg6⟩ := hC5.out.known.put hn3 t.f0 htw
                  replace hk6 := Lib.hid hk6
                  replace hg6 := Lib.hid hg6
                  go_wp2
                  have hC6 := Lib.hid (hC5.out.put hk6.out hg6.out)
                  clear u0 hk6 hg6
                  go_roundw
                  case rel => exact ⟨Q ++ [t], R3, ns2 ++ [t.f0], b3, hls2.out, by simp, rfl, hC6, hT2, hx⟩
                  case measure => simp [intOf]; omega
end Go.Proofs.Ytbhfcjgejnnpcaa
