/-
  Chapter 28: a term's lines, walked.
-/
import Derived.Test.YtigcgpbdifihoaaDoorNh
import Derived.Deep.CutBlock
import Derived.Deep.DeepCutAuto
set_option linter.unusedVariables false
set_option linter.unusedSimpArgs false
namespace Go.Proofs.YtigcgpbdifihoaaDoor
open Go.RowKit Go.Proofs.YtigcgpbdifihoaaDoorW.PrintWords Go.Proofs.YtigcgpbdifihoaaDoor.PScriptRequests
theorem SR.three {α : Type} {R : α → List Value → Prop} {C : Nat} {w : World} {A : Option Addr} {xs : List α} (h : ∀ W, Below C w W → ReadsRow R 3 W A xs.length xs) {P S : List α} {x : α} (hl : xs = P ++ x :: S) {u0 u1 u2 : Value} (hR : ∀ cs, R x cs → cs = [u0, u1, u2]) :
    ∃ ad, A = some ad ∧ ∀ W, Below C w W → W.cell? (ad.add (P.length * 3)) = some u0 ∧ W.cell? ⟨(ad.add (P.length * 3)).block, (ad.add (P.length * 3)).off + 1, none⟩ = some u1 ∧ W.cell? ⟨(ad.add (P.length * 3)).block, (ad.add (P.length * 3)).off + 2, none⟩ = some u2 := by
  obtain ⟨ad, e, hh⟩ := SR.at_ h hl
  refine ⟨ad, e, fun W hW => ?_⟩
  obtain ⟨cs, _, hr, hc⟩ := hh W hW
  obtain rfl := hR cs hr
  exact ⟨hc 0 _ rfl, by rw [← add_field _ _ 1 (by omega)]; exact hc 1 _ rfl, by rw [← add_field _ _ 2 (by omega)]; exact hc 2 _ rfl⟩
/-- A line of literal words, at the row that the call has just built. -/
theorem line_at (ws : List Wd) (hw : ∀ x ∈ ws, x.ok) {C b k n : Nat} {vs : Array Value} {Ls : List (List Wd)} {w : World} (hk : k = w.heap.size) (hn2 : n = ws.length) (hv : vs = (ws.map Wd.val).toArray) (hlen : (txtL (Ls ++ [ws])).length ≤ 140737488355328)
    (h : WS C b Ls w) (hC : C ≤ w.heap.size) (htab : TB C w) (hn : ws.length < 1000000000) :
    Calls Tryd.prog 20 #[.pointer (some ⟨b, 0, none⟩), .slice (some ⟨k, 0, none⟩) n n] (w.alloc (.cells vs 20)) fun e w' => e = .returned (.tuple #[]) ∧ WS C b (Ls ++ [ws]) w' ∧ Fr C b w w' := by
  subst hk hn2 hv
  exact line_lit ws hw hlen h hC htab hn
theorem TS.nine {C b : Nat} {w : World} {k : Nat} {T : TypeId} {Ls : List (List Wd)} {W : World} {v0 v1 v2 v3 v4 v5 v6 v7 v8 : Value} (h : TS C b w k #[v0, v1, v2, v3, v4, v5, v6, v7, v8] T Ls W) :
    W.cell? ⟨k, 0, none⟩ = some v0 ∧ W.cell? ⟨k, 1, none⟩ = some v1 ∧ W.cell? ⟨k, 2, none⟩ = some v2 ∧ W.cell? ⟨k, 3, none⟩ = some v3 ∧ W.cell? ⟨k, 4, none⟩ = some v4 ∧ W.cell? ⟨k, 5, none⟩ = some v5 ∧ W.cell? ⟨k, 6, none⟩ = some v6 ∧ W.cell? ⟨k, 7, none⟩ = some v7 ∧ W.cell? ⟨k, 8, none⟩ = some v8 :=
  ⟨h.cell 0 rfl, h.cell 1 rfl, h.cell 2 rfl, h.cell 3 rfl, h.cell 4 rfl, h.cell 5 rfl, h.cell 6 rfl, h.cell 7 rfl, h.cell 8 rfl⟩
set_option maxHeartbeats 1000000 in
set_option maxRecDepth 100000 in
theorem term_any (t : Tm) (ht : t.ok) {C b : Nat} {Ls : List (List Wd)} {w : World} {cs : List Value} (hlen : (txtL (Ls ++ termLs t)).length ≤ 140737488355328)
    (h : WS C b Ls w) (hC : C ≤ w.heap.size) (htab : TB C w) (hr : Rtm C w t cs) :
    Calls Tryd.prog 21 #[.pointer (some ⟨b, 0, none⟩), .agg cs.toArray] w fun e w' => e = .returned (.tuple #[]) ∧ WS C b (Ls ++ termLs t) w' ∧ Fr C b w w' := by
  obtain ⟨va, vp, vt, vd, vf, vk, rfl, ha, hp, htk, hd, hf, hk⟩ := hr
  obtain ⟨Aa, ca, rfl, hac, ha⟩ := ha
  obtain ⟨Af, cf, rfl, hfc, hf⟩ := hf
  have e0 : Ls ++ termLs t = Ls ++ [trmW t] ++ listI sPicks t.picks ++ listI sTicks t.ticks ++ listU sDraws t.draws ++ t.flts.map fltW ++ t.arr.map arrW ++ crashL t := by simp [termLs]
  rw [e0] at hlen ⊢
  have l6 := Nat.le_trans (txt_pre _ _) hlen
  have l5 := Nat.le_trans (txt_pre _ _) l6
  have l4 := Nat.le_trans (txt_pre _ _) l5
  have l3 := Nat.le_trans (txt_pre _ _) l4
  have l2 := Nat.le_trans (txt_pre _ _) l3
  have l1 := Nat.le_trans (txt_pre _ _) l2
  have hT : Hid (TS C b w w.heap.size #[.slice Aa t.arr.length ca, vp, vt, vd, .slice Af t.flts.length cf, .int .i64 t.steps, .int .i64 t.stop, .int .i64 t.dir, vk] 56 Ls (w.alloc (.cells #[.slice Aa t.arr.length ca, vp, vt, vd, .slice Af t.flts.length cf, .int .i64 t.steps, .int .i64 t.stop, .int .i64 t.dir, vk] 56))) := by
    have hb := below_alloc (Below.refl w.heap.size w) (.cells #[.slice Aa t.arr.length ca, vp, vt, vd, .slice Af t.flts.length cf, .int .i64 t.steps, .int .i64 t.stop, .int .i64 t.dir, vk] 56)
    exact Lib.hid ⟨h.below hb, Fr.of_below hC hb, heap_alloc_new w _⟩
  have w1 : ∀ x ∈ trmW t, x.ok := fun x hx => by
    simp only [trmW, List.mem_cons, List.not_mem_nil, or_false] at hx
    rcases hx with rfl | rfl | rfl
    · show sTerm.length < 1000000000; decide
    · exact ht.steps
    · exact ht.stop
  have hCC : C ≤ (w.alloc (.cells #[.slice Aa t.arr.length ca, vp, vt, vd, .slice Af t.flts.length cf, .int .i64 t.steps, .int .i64 t.stop, .int .i64 t.dir, vk] 56)).heap.size := Nat.le_trans hC hT.out.fr.1.size
  replace htab := Lib.hid htab
  have hTT := htab.out.next hT.out.fr.1
  obtain ⟨k0, k1, k2, k3, k4, k5, k6, k7, k8⟩ := hT.out.nine
  have y2 := ht.picks
  have y3 := ht.ticks
  have y4 := ht.draws
  have n2 := ht.lp
  have n3 := ht.lt
  have n4 := ht.ld
  replace hCC := Lib.hid hCC
  replace hTT := Lib.hid hTT
  clear h
  go_enter Tryd.func21, Tryd.ntmps21
  go_upto_region 2 with (first | (go_at_call 20; go_must (refine (line_at (trmW t) w1 (w := w.alloc (.cells #[.slice Aa t.arr.length ca, vp, vt, vd, .slice Af t.flts.length cf, .int .i64 t.steps, .int .i64 t.stop, .int .i64 t.dir, vk] 56)) (by simp) rfl rfl l1 hT.out.ws hCC.out hTT.out (by simp [trmW])).mono ?_; rintro e w2 ⟨rfl, h2, hf2⟩; replace hT := Lib.hid (hT.out.next (by decide) (by decide) h2 hf2); clear h2 hf2 k0 k1 k2 k3 k4 k5 k6 k7 k8; obtain ⟨k0, k1, k2, k3, k4, k5, k6, k7, k8⟩ := hT.out.nine; replace hCC := Lib.hid (Nat.le_trans hC hT.out.fr.1.size); replace hTT := Lib.hid (htab.out.next hT.out.fr.1))))
  go_upto_region 3 with (first | (go_at_call 40; go_must (refine (listI_any sPicks (by decide) t.picks y2 (by omega) l2 hT.out.ws hCC.out hTT.out vp (hp.next hT.out.fr.1).ri).mono ?_; rintro e w2 ⟨rfl, h2, hf2⟩; replace hT := Lib.hid (hT.out.next (by decide) (by decide) h2 hf2); clear h2 hf2 k0 k1 k2 k3 k4 k5 k6 k7 k8; obtain ⟨k0, k1, k2, k3, k4, k5, k6, k7, k8⟩ := hT.out.nine; replace hCC := Lib.hid (Nat.le_trans hC hT.out.fr.1.size); replace hTT := Lib.hid (htab.out.next hT.out.fr.1))))
  go_upto_region 4 with (first | (go_at_call 40; go_must (refine (listI_any sTicks (by decide) t.ticks y3 (by omega) l3 hT.out.ws hCC.out hTT.out vt (htk.next hT.out.fr.1).ri).mono ?_; rintro e w2 ⟨rfl, h2, hf2⟩; replace hT := Lib.hid (hT.out.next (by decide) (by decide) h2 hf2); clear h2 hf2 k0 k1 k2 k3 k4 k5 k6 k7 k8; obtain ⟨k0, k1, k2, k3, k4, k5, k6, k7, k8⟩ := hT.out.nine; replace hCC := Lib.hid (Nat.le_trans hC hT.out.fr.1.size); replace hTT := Lib.hid (htab.out.next hT.out.fr.1))))
  go_wp2_with (first | (go_at_call 41; go_must (refine (listU_any sDraws (by decide) t.draws y4 (by omega) l4 hT.out.ws hCC.out hTT.out vd (hd.next hT.out.fr.1).ru).mono ?_; rintro e w2 ⟨rfl, h2, hf2⟩; replace hT := Lib.hid (hT.out.next (by decide) (by decide) h2 hf2); clear h2 hf2 k0 k1 k2 k3 k4 k5 k6 k7 k8; obtain ⟨k0, k1, k2, k3, k4, k5, k6, k7, k8⟩ := hT.out.nine; replace hCC := Lib.hid (Nat.le_trans hC hT.out.fr.1.size); replace hTT := Lib.hid (htab.out.next hT.out.fr.1))))
  generalize e4 : Ls ++ [trmW t] ++ listI sPicks t.picks ++ listI sTicks t.ticks ++ listU sDraws t.draws = L4 at *
  replace e4 := Lib.hid e4
  clear y2 y3 y4 n2 n3 n4 hp htk hd l1 l2 l3 e0 w1
  have n5 := ht.lf
  have n6 := ht.la
  go_loopw [36] (fun i wr => ∃ P R, t.flts = P ++ R ∧ i = .int .i64 (P.length : Nat) ∧ Hid (TS C b w w.heap.size #[.slice Aa t.arr.length ca, vp, vt, vd, .slice Af t.flts.length cf, .int .i64 t.steps, .int .i64 t.stop, .int .i64 t.dir, vk] 56 (L4 ++ P.map fltW) wr)) (fun i _ => t.flts.length - (intOf i).toNat)
  case atStart => exact ⟨[], t.flts, rfl, rfl, by simpa using hT⟩
  case round =>
    clear k0 k1 k2 k3 k4 k5 k6 k7 k8 hCC hTT hT
    rename World => wr
    obtain ⟨P1, R1, hl1, rfl, hT⟩ := hrel
    have hCC := Lib.hid (Nat.le_trans hC hT.out.fr.1.size)
    have hTT := Lib.hid (htab.out.next hT.out.fr.1)
    cases R1 with
    | cons x R1 =>
      have hx := ht.flts x (by rw [hl1]; simp)
      have hPn1 : P1.length < t.flts.length := by rw [hl1]; simp
      obtain ⟨ad, rfl, hc⟩ := SR.three (u0 := .int .i64 x.op) (u1 := .int .i64 x.nth) (u2 := .int .i64 x.kind) hf hl1 (fun cs h => h)
      obtain ⟨q0, q1, q2⟩ := hc wr hT.out.fr.1
      have hl9 : t.flts = (P1 ++ [x]) ++ R1 := by rw [hl1]; simp
      have hlx : (txtL (L4 ++ P1.map fltW ++ [fltW x])).length ≤ 140737488355328 := by
        refine Nat.le_trans (txt_pre _ (R1.map fltW)) ?_
        rw [show L4 ++ P1.map fltW ++ [fltW x] ++ R1.map fltW = L4 ++ t.flts.map fltW by rw [hl1]; simp]
        exact l5
      replace hl1 := Lib.hid hl9
      clear hl9 hc
      have hTA := Lib.hid (hT.out.below hCC.out (below_alloc (Below.refl wr.heap.size wr) (.cells #[.int .i64 x.op, .int .i64 x.nth, .int .i64 x.kind] 97)))
      have hCA := Lib.hid (Nat.le_trans hC hTA.out.fr.1.size)
      have hTB := Lib.hid (htab.out.next hTA.out.fr.1)
      have hwx : ∀ y ∈ fltW x, y.ok := fun y hy => by
        simp only [fltW, List.mem_cons, List.not_mem_nil, or_false] at hy
        rcases hy with rfl | rfl | rfl | rfl
        · show sFault.length < 1000000000; decide
        · exact hx.1
        · exact hx.2.1
        · exact hx.2.2
      go_wp2_with (first | (go_at_call 20; go_must (refine (line_at (fltW x) hwx (w := wr.alloc (.cells #[.int .i64 x.op, .int .i64 x.nth, .int .i64 x.kind] 97)) (by simp) rfl rfl hlx hTA.out.ws hCA.out hTB.out (by simp [fltW])).mono ?_; rintro e w2 ⟨rfl, h2, hf2⟩; have hT2 := Lib.hid (hTA.out.next (by decide) (by decide) h2 hf2); clear h2 hf2)))
      go_roundw
      case rel => exact ⟨P1 ++ [x], R1, hl1.out, by simp, by simpa using hT2⟩
      case measure => simp [intOf]; omega
    | nil =>
      rw [List.append_nil] at hl1
      have hLe : t.flts.map fltW = P1.map fltW := by rw [hl1]
      replace hT : Hid (TS C b w w.heap.size #[.slice Aa t.arr.length ca, vp, vt, vd, .slice Af t.flts.length cf, .int .i64 t.steps, .int .i64 t.stop, .int .i64 t.dir, vk] 56 (L4 ++ t.flts.map fltW) wr) := by rw [hLe]; exact hT
      have hPn1 : ¬ P1.length < t.flts.length := by rw [hl1]; exact Nat.lt_irrefl _
      replace hl1 := Lib.hid hl1
      clear hLe
      obtain ⟨k0, k1, k2, k3, k4, k5, k6, k7, k8⟩ := hT.out.nine
      generalize e5 : L4 ++ t.flts.map fltW = L5 at *
      replace e5 := Lib.hid e5
      go_wp2
      go_loopw [57] (fun i wr => ∃ P R, t.arr = P ++ R ∧ i = .int .i64 (P.length : Nat) ∧ Hid (TS C b w w.heap.size #[.slice Aa t.arr.length ca, vp, vt, vd, .slice Af t.flts.length cf, .int .i64 t.steps, .int .i64 t.stop, .int .i64 t.dir, vk] 56 (L5 ++ P.map arrW) wr)) (fun i _ => t.arr.length - (intOf i).toNat)
      case atStart => exact ⟨[], t.arr, rfl, rfl, by simpa using hT⟩
      case round =>
        clear k0 k1 k2 k3 k4 k5 k6 k7 k8 hCC hTT hT
        rename World => wr
        obtain ⟨P2, R2, hl2, rfl, hT⟩ := hrel
        have hCC := Lib.hid (Nat.le_trans hC hT.out.fr.1.size)
        have hTT := Lib.hid (htab.out.next hT.out.fr.1)
        cases R2 with
        | cons x R2 =>
          have hx := ht.arr x (by rw [hl2]; simp)
          have hPn2 : P2.length < t.arr.length := by rw [hl2]; simp
          obtain ⟨ad, rfl, hc⟩ := SR.three (u0 := .int .i64 x.step) (u1 := .int .i64 x.conn) (u2 := .string (B x.bytes)) ha hl2 (fun cs h => h)
          obtain ⟨q0, q1, q2⟩ := hc wr hT.out.fr.1
          have hl9 : t.arr = (P2 ++ [x]) ++ R2 := by rw [hl2]; simp
          have hlx : (txtL (L5 ++ P2.map arrW ++ [arrW x])).length ≤ 140737488355328 := by
            refine Nat.le_trans (txt_pre _ (R2.map arrW)) ?_
            rw [show L5 ++ P2.map arrW ++ [arrW x] ++ R2.map arrW = L5 ++ t.arr.map arrW by rw [hl2]; simp]
            exact l6
          replace hl2 := Lib.hid hl9
          clear hl9 hc
          have hTA := Lib.hid (hT.out.below hCC.out (below_alloc (Below.refl wr.heap.size wr) (.cells #[.int .i64 x.step, .int .i64 x.conn, .string (B x.bytes)] 99)))
          have hCA := Lib.hid (Nat.le_trans hC hTA.out.fr.1.size)
          have hTB := Lib.hid (htab.out.next hTA.out.fr.1)
          have hwx : ∀ y ∈ arrW x, y.ok := fun y hy => by
            simp only [arrW, List.mem_cons, List.not_mem_nil, or_false] at hy
            rcases hy with rfl | rfl | rfl | rfl
            · show sAt.length < 1000000000; decide
            · exact hx.1
            · exact hx.2.1
            · exact hx.2.2
          go_wp2_with (first | (go_at_call 20; go_must (refine (line_at (arrW x) hwx (w := wr.alloc (.cells #[.int .i64 x.step, .int .i64 x.conn, .string (B x.bytes)] 99)) (by simp) rfl rfl hlx hTA.out.ws hCA.out hTB.out (by simp [arrW])).mono ?_; rintro e w2 ⟨rfl, h2, hf2⟩; have hT2 := Lib.hid (hTA.out.next (by decide) (by decide) h2 hf2); clear h2 hf2)))
          go_roundw
          case rel => exact ⟨P2 ++ [x], R2, hl2.out, by simp, by simpa using hT2⟩
          case measure => simp [intOf]; omega
        | nil =>
          rw [List.append_nil] at hl2
          have hLe : t.arr.map arrW = P2.map arrW := by rw [hl2]
          replace hT : Hid (TS C b w w.heap.size #[.slice Aa t.arr.length ca, vp, vt, vd, .slice Af t.flts.length cf, .int .i64 t.steps, .int .i64 t.stop, .int .i64 t.dir, vk] 56 (L5 ++ t.arr.map arrW) wr) := by rw [hLe]; exact hT
          have hPn2 : ¬ P2.length < t.arr.length := by rw [hl2]; exact Nat.lt_irrefl _
          replace hl2 := Lib.hid hl2
          clear hLe
          obtain ⟨k0, k1, k2, k3, k4, k5, k6, k7, k8⟩ := hT.out.nine
          generalize e6 : L5 ++ t.arr.map arrW = L6 at *
          replace e6 := Lib.hid e6
          obtain ⟨Ak, ck, rfl, hkc, hk⟩ := hk
          have hkk := hk wr hT.out.fr.1
          have nk := ht.lk
          have hcr : t.dir ≠ 0 ∨ 0 < t.keep.length → crashL t = listI sCrash (t.dir :: t.keep) := fun h => by rw [crashL, if_pos h, listI, if_neg (by simp)]
          have hcn : ¬ (t.dir ≠ 0 ∨ 0 < t.keep.length) → crashL t = [] := fun h => by rw [crashL, if_neg h]
          have hCL := Lib.hid (fun (hh : t.dir ≠ 0 ∨ 0 < t.keep.length) W v (hb : Below wr.heap.size wr W) (hv : RI W v (t.dir :: t.keep)) => by
            have hT9 := hT.out.below hCC.out hb
            have := listI_any sCrash (by decide) (t.dir :: t.keep) (fun x hx => by
              rcases List.mem_cons.1 hx with rfl | hx
              · exact ht.dir
              · exact ht.keep x hx) (by simp; omega) (by rw [← hcr hh]; exact hlen) hT9.ws (Nat.le_trans hC hT9.fr.1.size) (htab.out.next hT9.fr.1) v hv
            rw [← hcr hh] at this
            exact this.mono (fun e w' h => (⟨h.1, h.2.1, hT9.fr.trans h.2.2⟩ : e = .returned (.tuple #[]) ∧ WS C b (L6 ++ crashL t) w' ∧ Fr C b w w')))
          have hrow : Hid ((Kd.int .i64).R 3 (wr.alloc (.cells #[.int .i64 t.dir] 3)) wr.heap.size (fun _ => True) (.slice (some ⟨wr.heap.size, 0, none⟩) 1 1) [t.dir]) :=
            Lib.hid (Kd.R_of_own (World.ownsRow_lit (base := wr.heap.size) (e := 3) (size := 1) wr #[.int .i64 t.dir] 1 (Nat.le_refl _) (by unfold maxLen; decide) rfl) (fun _ _ => trivial))
          have hbb := Lib.hid (below_alloc (Below.refl wr.heap.size wr) (.cells #[.int .i64 t.dir] 3))
          have hRR : Hid (ReadsRow Rint 1 (wr.alloc (.cells #[.int .i64 t.dir] 3)) Ak t.keep.length t.keep) := Lib.hid (hk _ (hT.out.below hCC.out hbb.out).fr.1)
          have hend := Lib.hid (And.intro hT.out.ws hT.out.fr)
          obtain ⟨_, _, _, _, _, _, _, z7, z8⟩ := (hT.out.below hCC.out hbb.out).nine
          clear hT hk hkk
          by_cases hd0 : t.dir = 0
          · have g1 : (t.dir != 0) = false := by simp [hd0]
            by_cases hk0 : t.keep.length = 0
            · have hcn2 := Lib.hid (hcn (by omega))
              clear hCL hcr hcn
              go_wp2
              go_end0
              exact ⟨rfl, by rw [e4.out, e5.out, e6.out, hcn2.out, List.append_nil]; exact hend.out.1, hend.out.2⟩
            · have hh := Lib.hid (Or.inr (by omega) : t.dir ≠ 0 ∨ 0 < t.keep.length)
              have hk1 : 0 < t.keep.length := by omega
              clear hcr hcn hd0
              go_wp2_with (first | ((with_reducible refine gate_builtin (b := .append) (xs := #[.tmp 90, .tmp 93]) rfl ?_); at_builtin; go_must (refine Kd.R_append_rows (Kd.int .i64) (w0 := wr) wr.heap.size rfl (.tmp 90) (.tmp 93) 48 3 (.int .i64 0) 8 rfl Tryd.underlying48 (by kernel_rfl) rfl (by decide) (by omega) _ [t.dir] t.keep Ak t.keep.length ck (fun _ => True) (fun _ => False) rfl rfl hrow.out hRR.out (fun x cs h => h) (fun _ hk => hk.elim) (fun _ _ => trivial) hbb.out hbb.out.size (by simp only [List.length_cons, List.length_nil]; omega) ?_; intro v1 w1 ho hb1 hg hat; obtain ⟨A1, c1, rfl, hl1, hC1⟩ := Kd.R_reads ho; have hv := Lib.hid (⟨A1, c1, rfl, hC1⟩ : RI w1 (.slice A1 ([t.dir] ++ t.keep).length c1) (t.dir :: t.keep)); replace hb1 := Lib.hid hb1; clear ho hg hat hl1 hC1)) | (go_at_call 40; go_must (refine (hCL.out hh.out w1 _ hb1.out hv.out).mono ?_; rintro e w2 ⟨rfl, h2, hf2⟩)))
              go_end0
              exact ⟨rfl, by rw [e4.out, e5.out, e6.out]; exact h2, hf2⟩
          · have g1 : (t.dir != 0) = true := by simp [hd0]
            have hh := Lib.hid (Or.inl hd0 : t.dir ≠ 0 ∨ 0 < t.keep.length)
            clear hcr hcn
            go_wp2_with (first | ((with_reducible refine gate_builtin (b := .append) (xs := #[.tmp 90, .tmp 93]) rfl ?_); at_builtin; go_must (refine Kd.R_append_rows (Kd.int .i64) (w0 := wr) wr.heap.size rfl (.tmp 90) (.tmp 93) 48 3 (.int .i64 0) 8 rfl Tryd.underlying48 (by kernel_rfl) rfl (by decide) (by omega) _ [t.dir] t.keep Ak t.keep.length ck (fun _ => True) (fun _ => False) rfl rfl hrow.out hRR.out (fun x cs h => h) (fun _ hk => hk.elim) (fun _ _ => trivial) hbb.out hbb.out.size (by simp only [List.length_cons, List.length_nil]; omega) ?_; intro v1 w1 ho hb1 hg hat; obtain ⟨A1, c1, rfl, hl1, hC1⟩ := Kd.R_reads ho; have hv := Lib.hid (⟨A1, c1, rfl, hC1⟩ : RI w1 (.slice A1 ([t.dir] ++ t.keep).length c1) (t.dir :: t.keep)); replace hb1 := Lib.hid hb1; clear ho hg hat hl1 hC1)) | (go_at_call 40; go_must (refine (hCL.out hh.out w1 _ hb1.out hv.out).mono ?_; rintro e w2 ⟨rfl, h2, hf2⟩)))
            go_end0
            exact ⟨rfl, by rw [e4.out, e5.out, e6.out]; exact h2, hf2⟩
end Go.Proofs.YtigcgpbdifihoaaDoor
