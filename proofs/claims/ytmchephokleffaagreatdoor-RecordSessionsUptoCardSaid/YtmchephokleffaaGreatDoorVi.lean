/-
  Chapter 22: record.key walked, whatever the shape.
-/
import Derived.Test.YtmchephokleffaaGreatDoorVg
import Derived.Deep.CutBlock
import Derived.Deep.DeepCutAuto
import Derived.Deep.RegionHeld3
import Derived.RegionTactic
import Derived.Laws.EntriesVeiled
set_option linter.unusedVariables false
set_option linter.unusedSimpArgs false
namespace Go.Proofs.YtmchephokleffaaGreatDoor
open Go.RowKit Go.Proofs.YtmchephokleffaaGreatDoorW.PrintWords Go.Proofs.YtmchephokleffaaGreatDoor.PRecord
/-- A lookup in the map of shapes. -/
theorem look_at (w : World) (b : Nat) (x : Int) (i : Nat) (v : Value) (hb : w.heap[b]? = some (.map shM 5)) (hf : Instr.findNow (.int .i64) (.int .i64 x) shM.toList 0 = some (some (i, v))) :
    (Instr.lookup 75 (.map (some b)) (.int .i64 x) false).run Tryz.prog w = .ok v w := by
  have hck := check_int 3 Tryz.underlying3 w x 9999
  rw [show 9999 + 1 = 10000 from rfl] at hck
  have he : shM.isEmpty = false := rfl
  simp only [Instr.lookup, Instr.findKey, Sem.run_bind, run_underlying Tryz.underlying75, run_underlying Tryz.underlying3, MapKept.run_getObj_map hb, he, hck, hf, Result.andThen_ok, Sem.run_pure]
  rfl
theorem below_then {w6 W W2 : World} (h1 : Below w6.heap.size w6 W) (h2 : Below W.heap.size W W2) : Below w6.heap.size w6 W2 := h1.trans (h2.mono h1.size)
theorem two_size {w6 W W2 : World} (h1 : Below w6.drew.heap.size w6.drew W) (h2 : Below W.heap.size W W2) : w6.heap.size ≤ W2.heap.size := Nat.le_trans h1.size h2.size
theorem three_allocs (w : World) (o1 o2 o3 : Obj) : (((w.alloc o1).alloc o2).alloc o3).heap[w.heap.size]? = some o1 ∧ (((w.alloc o1).alloc o2).alloc o3).heap[w.heap.size + 1]? = some o2 ∧ (((w.alloc o1).alloc o2).alloc o3).heap[w.heap.size + 1 + 1]? = some o3 ∧ Below w.heap.size w (((w.alloc o1).alloc o2).alloc o3) := by
  have hz1 : (w.alloc o1).heap.size = w.heap.size + 1 := by simp
  have hz2 : ((w.alloc o1).alloc o2).heap.size = w.heap.size + 1 + 1 := by simp
  have a1 := heap_alloc_new w o1
  have a2 := heap_alloc_new (w.alloc o1) o2
  have a3 := heap_alloc_new ((w.alloc o1).alloc o2) o3
  have b2 := below_alloc (Below.refl (w.alloc o1).heap.size (w.alloc o1)) o2
  have b3 := below_alloc (Below.refl ((w.alloc o1).alloc o2).heap.size ((w.alloc o1).alloc o2)) o3
  rw [hz1] at a2
  rw [hz2] at a3
  refine ⟨((b3.block _ (by omega)).trans (b2.block _ (by omega))).trans a1, (b3.block _ (by omega)).trans a2, a3, ?_⟩
  exact below_alloc (below_alloc (below_alloc (Below.refl _ _) _) _) _
theorem eqPlace (d : Nat) (w : World) (x0 y0 : Int) (x1 y1 : ByteArray) (x2 y2 : ByteArray) (x3 y3 : ByteArray) (x4 y4 : Int) (x5 y5 : Int) :
    (Op.equalIn (d + 2) 24 (.agg #[.int .i64 x0, .string x1, .string x2, .string x3, .int .u64 x4, .int .i64 x5]) (.agg #[.int .i64 y0, .string y1, .string y2, .string y3, .int .u64 y4, .int .i64 y5])).run Tryz.prog w = .ok (x0 == y0 && (x1.toList == y1.toList && (x2.toList == y2.toList && (x3.toList == y3.toList && (x4 == y4 && (x5 == y5)))))) w := by
  refine eqA_of Tryz.underlying24 (by kernel_rfl) ?_
  refine eqf_cons (by rfl) (by go_simp; rfl) (by go_simp; rfl) (by go_simp) ?_
  refine eqf_cons (by rfl) (by go_simp; rfl) (by go_simp; rfl) (by go_simp) ?_
  refine eqf_cons (by rfl) (by go_simp; rfl) (by go_simp; rfl) (by go_simp) ?_
  refine eqf_cons (by rfl) (by go_simp; rfl) (by go_simp; rfl) (by go_simp) ?_
  refine eqf_cons (by rfl) (by go_simp; rfl) (by go_simp; rfl) (by go_simp) ?_
  exact eqf_last (by rfl) (by go_simp; rfl) (by go_simp; rfl) (by go_simp)
attribute [local go_sem high] eqPlace
def keyV : Option (List UInt8) → Value
  | none => .tuple #[.string ⟨#[]⟩, .int .i64 220]
  | some l => .tuple #[.string (Bd.B l), .int .i64 0]
/-- What a place's key is, if its shape takes it. -/
def keyO (p : Pl) (lt : List UInt8) (ps : List Pt) (b : Bool) : Option (List UInt8) := if (tenB p.te.data.toList && decide (0 ≤ p.nu) && b) = true then some (keyL (tP p.te :: tP (Bd.B lt) :: ps)) else none
set_option maxHeartbeats 4000000 in
set_option maxRecDepth 100000 in
theorem key_gen (p : Pl) (lt : List UInt8) (fp fr : FuncId) (hcp : ∀ (args : Array Value) (W : World), (callFunc fp args).run Tryz.prog W = .ok (.enter fp args) W) (hcr : ∀ (args : Array Value) (W : World), (callFunc fr args).run Tryz.prog W = .ok (.enter fr args) W) (i : Nat) (hf : Instr.findNow (.int .i64) (.int .i64 p.k) shM.toList 0 = some (some (i, shE (Bd.B lt) fp fr)))
    (ps : List Pt) (hparts : ∀ W, Calls Tryz.prog fp #[plV p] W (PartsP p ps W)) (b : Bool) (q : Pl)
    (hread : ∀ W g A c, Kd.C kP W A ps.length ps → (∀ ad, A = some ad → ad.block ≠ g) → PB W g ⟨p.k, p.te, ⟨#[]⟩, ⟨#[]⟩, 0, 0⟩ → Calls Tryz.prog fr #[.pointer (some ⟨g, 0, none⟩), .slice A ps.length c] W (ReadP g b q W))
    (hbq : b = true → q = p) (hsz : p.te.size ≤ 1000000) (hok : b = true → tenB p.te.data.toList = true → ∀ x ∈ tP p.te :: tP (Bd.B lt) :: ps, OkP x) (hps : ps.length ≤ 6) (hkl : (keyL (tP p.te :: tP (Bd.B lt) :: ps)).length ≤ 1000000000) (w : World) :
    Calls Tryz.prog 85 #[plV p] w fun e w' => e = .returned (keyV (keyO p lt ps b)) ∧ Below w.heap.size w w' := by
  obtain ⟨pk, pte, ptk, pus, pex, pnu⟩ := p
  simp only at hf hread hsz hok hkl
  replace hok := Lib.hid hok
  replace hkl := Lib.hid hkl
  unfold plV
  obtain ⟨W0, hW0⟩ : ∃ W0, W0 = w.alloc (.cells #[.int .i64 pk, .string pte, .string ptk, .string pus, .int .u64 (pex : Int), .int .i64 pnu] 24) := ⟨_, rfl⟩
  have hp0 : W0.heap[w.heap.size]? = some (.cells #[.int .i64 pk, .string pte, .string ptk, .string pus, .int .u64 (pex : Int), .int .i64 pnu] 24 (0, 0)) := by rw [hW0]; exact heap_alloc_new w _
  have hB0 := Lib.hid (show Below w.heap.size w W0 by rw [hW0]; exact (Below.refl _ _).alloc (Nat.le_refl _) _)
  have hs0 : w.heap.size + 1 = W0.heap.size := by rw [hW0]; simp
  have hp0H := Lib.hid hp0
  have hs0H := Lib.hid hs0
  clear hp0 hs0
  have hparts := Lib.hid hparts
  have hread := Lib.hid hread
  have hbq := Lib.hid hbq
  have hf := Lib.hid hf
  go_enter Tryz.func85, Tryz.ntmps85
  go_upto_region 1 with (fail)
  rw [← hW0]
  have hW0 := Lib.hid hW0
  go_cut [4] (fun v V => ∃ b1, v = .pointer (some ⟨b1, 0, none⟩) ∧ Hid (V.heap[b1]? = some (.cells #[.string (Bd.B lt), .func (.func fp) #[] #[], .func (.func fr) #[] #[]] 80 (0, 0)) ∧ PB V w.heap.size ⟨pk, pte, ptk, pus, pex, pnu⟩ ∧ Below w.heap.size w V))
  case first =>
    have k0 : (w.alloc (.cells #[.int .i64 pk, .string pte, .string ptk, .string pus, .int .u64 (pex : Int), .int .i64 pnu] 24)).cell? ⟨w.heap.size, 0, none⟩ = some (.int .i64 pk) := by rw [← hW0.out]; exact (blk_cell hp0H.out 0).trans rfl
    obtain ⟨W1, hW1⟩ : ∃ W1, W1 = w.alloc (.cells #[.int .i64 pk, .string pte, .string ptk, .string pus, .int .u64 (pex : Int), .int .i64 pnu] 24) := ⟨_, rfl⟩
    have hz1 : W1.heap.size = w.heap.size + 1 := by rw [hW1]; simp
    have kk : ∀ V : World, Below W1.heap.size W1 V → V.cell? ⟨w.heap.size, 0, none⟩ = some (.int .i64 pk) := fun V h => by
      rw [← k0, ← hW1]
      exact World.cell?_of_block (h.block _ (show w.heap.size < W1.heap.size by omega))
    have gg : ∀ (V : World) (b : Nat), V.heap[b]? = some (.map shM 5) → (Instr.lookup 75 (.map (some b)) (.int .i64 pk) false).run Tryz.prog V = .ok (.agg #[.string (Bd.B lt), .func (.func fp) #[] #[], .func (.func fr) #[] #[]]) V := fun V b h => look_at _ _ pk i _ h hf.out
    have b1 := below_alloc (Below.refl W1.heap.size W1) (.map shM 5)
    have b2 := below_alloc (Below.refl W1.heap.size W1) (.cells #[.string ⟨#[]⟩, .nilFunc, .nilFunc] 80)
    have b3 := below_alloc b1 (.cells #[.string ⟨#[]⟩, .nilFunc, .nilFunc] 80)
    have b4 := below_alloc b2 (.map shM 5)
    have k1 := kk _ b1
    have k2 := kk _ b2
    have k3 := kk _ b3
    have k4 := kk _ b4
    have m1 : (W1.alloc (.map shM 5)).heap[w.heap.size + 1]? = some (.map shM 5) := by rw [← hz1]; exact heap_alloc_new W1 _
    have m3 : ((W1.alloc (.map shM 5)).alloc (.cells #[.string ⟨#[]⟩, .nilFunc, .nilFunc] 80)).heap[w.heap.size + 1]? = some (.map shM 5) := ((below_alloc (Below.refl (W1.alloc (.map shM 5)).heap.size (W1.alloc (.map shM 5))) _).block _ (by simp [hz1])).trans m1
    have m4 : ((W1.alloc (.cells #[.string ⟨#[]⟩, .nilFunc, .nilFunc] 80)).alloc (.map shM 5)).heap[w.heap.size + 1 + 1]? = some (.map shM 5) := by
      have := heap_alloc_new (W1.alloc (.cells #[.string ⟨#[]⟩, .nilFunc, .nilFunc] 80)) (.map shM 5)
      rw [show (W1.alloc (.cells #[.string ⟨#[]⟩, .nilFunc, .nilFunc] 80)).heap.size = w.heap.size + 1 + 1 from by simp [hz1]] at this
      exact this
    have g1 := gg (W1.alloc (.map shM 5)).drew _ m1
    have g3 := gg ((W1.alloc (.map shM 5)).alloc (.cells #[.string ⟨#[]⟩, .nilFunc, .nilFunc] 80)).drew _ m3
    have g4 := gg ((W1.alloc (.cells #[.string ⟨#[]⟩, .nilFunc, .nilFunc] 80)).alloc (.map shM 5)).drew _ m4
    have hW1H := Lib.hid hW1
    have hmH := Lib.hid (And.intro m3 m4)
    have hbH := Lib.hid (And.intro b3 b4)
    clear kk gg b1 b2 b3 b4 m1 m3 m4 hz1
    subst hW1
    go_region_with ((go_at_call 48; refine (shapes_any _).mono ?_; rintro e w' ⟨rfl, rfl⟩))
    all_goals go_wp2
    all_goals go_meet
    all_goals
      obtain ⟨h1, h2, h3, h4⟩ := three_allocs w (.cells #[.int .i64 pk, .string pte, .string ptk, .string pus, .int .u64 (pex : Int), .int .i64 pnu] 24) (.map shM 5) (.cells #[.string (Bd.B lt), .func (.func fp) #[] #[], .func (.func fr) #[] #[]] 80)
      obtain ⟨e1, e2, e3, e4⟩ := three_allocs w (.cells #[.int .i64 pk, .string pte, .string ptk, .string pus, .int .u64 (pex : Int), .int .i64 pnu] 24) (.cells #[.string (Bd.B lt), .func (.func fp) #[] #[], .func (.func fr) #[] #[]] 80) (.map shM 5)
      first
        | exact ⟨_, rfl, Lib.hid ⟨h3, h1, below_drew h4⟩⟩
        | exact ⟨_, rfl, Lib.hid ⟨e2, e1, below_drew e4⟩⟩
  case rest =>
    obtain ⟨b1, rfl, h⟩ := hcut
    rename World => V
    have hp := Lib.hid h.out.2.1
    have hs := Lib.hid h.out.1
    have hbel := Lib.hid h.out.2.2
    have hpl : w.heap.size < V.heap.size := (Array.getElem?_eq_some_iff.1 hp.out).1
    have hsl : b1 < V.heap.size := (Array.getElem?_eq_some_iff.1 hs.out).1
    have hkp : Hid (∀ W, Below V.heap.size V W → (PB W w.heap.size ⟨pk, pte, ptk, pus, pex, pnu⟩ ∧ W.heap[b1]? = some (.cells #[.string (Bd.B lt), .func (.func fp) #[] #[], .func (.func fr) #[] #[]] 80 (0, 0))) ∧ Below w.heap.size w W) := Lib.hid (fun W hW => ⟨⟨(hW.block _ hpl).trans hp.out, (hW.block _ hsl).trans hs.out⟩, hbel.out.trans (hW.mono (Nat.le_of_lt hpl))⟩)
    have hcl : Hid (∀ W, Below V.heap.size V W → (W.cell? ⟨w.heap.size, 0, none⟩ = some (.int .i64 pk) ∧ W.cell? ⟨w.heap.size, 1, none⟩ = some (.string pte) ∧ W.cell? ⟨w.heap.size, 2, none⟩ = some (.string ptk) ∧ W.cell? ⟨w.heap.size, 3, none⟩ = some (.string pus) ∧ W.cell? ⟨w.heap.size, 4, none⟩ = some (.int .u64 (pex : Int)) ∧ W.cell? ⟨w.heap.size, 5, none⟩ = some (.int .i64 pnu)) ∧ W.cell? ⟨b1, 0, none⟩ = some (.string (Bd.B lt)) ∧ W.cell? ⟨b1, 1, none⟩ = some (.func (.func fp) #[] #[]) ∧ W.cell? ⟨b1, 2, none⟩ = some (.func (.func fr) #[] #[])) := Lib.hid (fun W hW => by
      obtain ⟨⟨h1, h2⟩, _⟩ := hkp.out W hW
      exact ⟨⟨(blk_cell h1 0).trans rfl, (blk_cell h1 1).trans rfl, (blk_cell h1 2).trans rfl, (blk_cell h1 3).trans rfl, (blk_cell h1 4).trans rfl, (blk_cell h1 5).trans rfl⟩, (blk_cell h2 0).trans rfl, (blk_cell h2 1).trans rfl, (blk_cell h2 2).trans rfl⟩)
    have hten := Lib.hid (fun W => tenant_any pte.data.toList (by rw [len_data]; omega) W)
    rw [Bd.of_data] at hten
    obtain ⟨⟨k0, k1, k2, k3, k4, k5⟩, s0, s1, s2⟩ := hcl.out V (Below.refl _ _)
    clear h hp hs hp0H hs0H hW0 hB0
    go_wp2_with (fail)
    refine (hparts.out _).mono ?_
    rintro e w3 ⟨A, c, rfl, hc, hC, hAl, hb3⟩
    have hB3 := Lib.hid hb3
    replace hC := Lib.hid hC
    replace hAl := Lib.hid hAl
    clear hb3 k0 k1 k2 k3 k4 k5 s0 s1 s2
    obtain ⟨⟨k0, k1, k2, k3, k4, k5⟩, s0, s1, s2⟩ := hcl.out _ hB3.out
    have hB4 := Lib.hid (below_alloc hB3.out (.cells #[.int .i64 pk, .string pte, .string ⟨#[]⟩, .string ⟨#[]⟩, .int .u64 0, .int .i64 0] 24))
    have hq4 : Hid (PB (w3.alloc (.cells #[.int .i64 pk, .string pte, .string ⟨#[]⟩, .string ⟨#[]⟩, .int .u64 0, .int .i64 0] 24)) w3.heap.size ⟨pk, pte, ⟨#[]⟩, ⟨#[]⟩, 0, 0⟩) := Lib.hid (heap_alloc_new w3 _)
    have hC4 := Lib.hid (Kd.C_below hC.out (below_alloc (Below.refl w3.heap.size w3) (.cells #[.int .i64 pk, .string pte, .string ⟨#[]⟩, .string ⟨#[]⟩, .int .u64 0, .int .i64 0] 24)))
    obtain ⟨⟨l0, l1, l2, l3, l4, l5⟩, t0, t1, t2⟩ := hcl.out _ hB4.out
    have hkey : keyO ⟨pk, pte, ptk, pus, pex, pnu⟩ lt ps b = if (tenB pte.data.toList && decide (0 ≤ pnu) && b) = true then some (keyL (tP pte :: tP (Bd.B lt) :: ps)) else none := rfl
    cases htb : tenB pte.data.toList with
    | false =>
      have hK : Hid (keyO ⟨pk, pte, ptk, pus, pex, pnu⟩ lt ps b = none) := Lib.hid (by rw [hkey, htb]; simp)
      rw [htb] at hten
      have hBw := Lib.hid (hkp.out _ hB4.out).2
      replace htb := Lib.hid htb
      clear hkey
      go_wp2_with (fail)
      refine (hten.out _).mono ?_
      rintro e w5 ⟨rfl, n5, rfl⟩
      go_wp2
      go_ret2
      exact ⟨by rw [hK.out]; rfl, pw_below_drewN hBw.out _⟩
    | true =>
      rw [htb] at hten
      replace htb := Lib.hid htb
      go_wp2_with (fail)
      refine (hten.out _).mono ?_
      rintro e w5 ⟨rfl, n5, hw5⟩
      have hB5 : Hid (Below V.heap.size V w5) := Lib.hid (by rw [hw5]; exact pw_below_drewN hB4.out _)
      have hq5 : Hid (PB w5 w3.heap.size ⟨pk, pte, ⟨#[]⟩, ⟨#[]⟩, 0, 0⟩) := Lib.hid (by rw [hw5]; exact hq4.out)
      have hC5 : Hid (Kd.C kP w5 A ps.length ps) := Lib.hid (by rw [hw5]; exact hC4.out)
      have hB35 : Hid (Below w3.heap.size w3 w5) := Lib.hid (by rw [hw5]; exact pw_below_drewN (below_alloc (Below.refl _ _) _) _)
      have hz3 : w3.heap.size < w5.heap.size := (Array.getElem?_eq_some_iff.1 hq5.out).1
      have hV3 : V.heap.size ≤ w3.heap.size := hB3.out.size
      clear hw5 l0 l1 l2 l3 l4 l5 t0 t1 t2 k0 k1 k2 k3 k4 k5 s0 s1 s2 hB4 hq4 hC4 hten
      obtain ⟨⟨l0, l1, l2, l3, l4, l5⟩, t0, t1, t2⟩ := hcl.out _ hB5.out
      by_cases hnu : pnu < 0
      · have hK : Hid (keyO ⟨pk, pte, ptk, pus, pex, pnu⟩ lt ps b = none) := Lib.hid (by rw [hkey, decide_eq_false (show ¬ 0 ≤ pnu by omega)]; simp)
        have d1 : decide (pnu < 0) = true := decide_eq_true hnu
        have hBw := Lib.hid (hkp.out _ hB5.out).2
        clear hkey
        go_wp2
        go_ret2
        exact ⟨by rw [hK.out]; rfl, hBw.out⟩
      · have d1 : decide (pnu < 0) = false := decide_eq_false hnu
        have hne : ∀ ad, A = some ad → ad.block ≠ w3.heap.size := fun ad h => Nat.ne_of_lt (hAl.out ad h)
        have hrd := Lib.hid (hread.out w5 w3.heap.size A c hC5.out hne hq5.out)
        clear hread hne
        go_wp2_with (fail)
        refine hrd.out.mono ?_
        rintro e w6 ⟨rfl, hq6, hb6⟩
        have hB6 := Lib.hid (hB5.out.trans (hb6.mono hV3))
        have hC6 := Lib.hid (Kd.C_below hC.out (hB35.out.trans hb6))
        replace hq6 := Lib.hid hq6
        clear l0 l1 l2 l3 l4 l5 t0 t1 t2 hb6 hB5 hq5 hC5 hB35 hrd
        obtain ⟨⟨l0, l1, l2, l3, l4, l5⟩, t0, t1, t2⟩ := hcl.out _ hB6.out
        cases b with
        | false =>
          have hK : Hid (keyO ⟨pk, pte, ptk, pus, pex, pnu⟩ lt ps false = none) := Lib.hid (by rw [hkey]; simp)
          have hBw := Lib.hid (hkp.out _ hB6.out).2
          clear hkey hbq
          go_wp2
          go_ret2
          exact ⟨by rw [hK.out]; rfl, hBw.out⟩
        | true =>
          have hK : Hid (keyO ⟨pk, pte, ptk, pus, pex, pnu⟩ lt ps true = some (keyL (tP pte :: tP (Bd.B lt) :: ps))) := Lib.hid (by rw [hkey, htb.out, decide_eq_true (show 0 ≤ pnu by omega)]; rfl)
          obtain rfl := hbq.out rfl
          have hq := hq6.out
          unfold PB at hq
          have q0 := (blk_cell hq 0).trans rfl
          have q1 := (blk_cell hq 1).trans rfl
          have q2 := (blk_cell hq 2).trans rfl
          have q3 := (blk_cell hq 3).trans rfl
          have q4 := (blk_cell hq 4).trans rfl
          have q5 := (blk_cell hq 5).trans rfl
          clear hkey hbq hq
          go_upto_region 6 with (fail)
          have hokp := Lib.hid (hok.out (by first | exact rfl | trivial) htb.out)
          clear q0 q1 q2 q3 q4 q5 hq6 l0 l2 l3 l4 l5 t1 t2 hok
          have hpn := hkp.out _ hB6.out
          have hall : Hid (∀ W, Below w6.heap.size w6 W → W.cell? ⟨w.heap.size, 1, none⟩ = some (.string pte) ∧ W.cell? ⟨b1, 0, none⟩ = some (.string (Bd.B lt)) ∧ Below w6.heap.size w6 W) := Lib.hid (fun W hW => by
            obtain ⟨⟨_, m1, _⟩, m2, _⟩ := hcl.out W (hB6.out.trans (hW.mono hB6.out.size))
            exact ⟨m1, m2, hW⟩)
          have hend : Hid (∀ W, Below w6.heap.size w6 W → Below w.heap.size w W) := Lib.hid (fun W hW => hpn.2.trans (hW.mono (Nat.le_of_lt (Array.getElem?_eq_some_iff.1 hpn.1.1).1)))
          have hA0 := hall.out w6 (Below.refl _ _)
          obtain ⟨L, hL⟩ : ∃ L, [tP pte, tP (Bd.B lt)] ++ ps = L := ⟨_, rfl⟩
          have hokL : Hid (∀ x ∈ L, OkP x) := Lib.hid (by rw [← hL]; exact hokp.out)
          have hklL : Hid ((keyL L).length ≤ 1000000000) := Lib.hid (by rw [← hL]; exact hkl.out)
          have hlL : L.length ≤ 8 := by rw [← hL]; simp; omega
          have hKL : Hid (keyO ⟨pk, pte, ptk, pus, pex, pnu⟩ lt ps true = some (keyL L)) := Lib.hid (by rw [hK.out, ← hL]; rfl)
          replace hL := Lib.hid hL
          clear hokp hkl hK
          clear hpn hcl hkp hparts hf hB3 hB6 hC hAl hbel
          go_region_held3 (fun W => W.cell? ⟨w.heap.size, 1, none⟩ = some (.string pte) ∧ W.cell? ⟨b1, 0, none⟩ = some (.string (Bd.B lt)) ∧ Below w6.heap.size w6 W)  (first | exact hall.out _ (Below.drew (Below.refl _ _)) | exact hall.out _ (below_then (And.right (And.right (by assumption : _ ∧ _ ∧ Below w6.heap.size w6 _))) (by assumption)) | exact hall.out _ (below_alloc (And.right (And.right (by assumption : _ ∧ _ ∧ Below w6.heap.size w6 _))) _) | exact hall.out _ (by assumption))  (first  | (go_at_call 51; refine (asText_any _ _).mono ?_; rintro e4 w4 ⟨rfl, hb4⟩)  | (go_at_call 140; refine (key_any L hlL hokL.out hklL.out _ _ _ hC9.out hc9).mono ?_; rintro e10 w10 ⟨rfl, hb10⟩)  | (refine Kd.R_append_rows_step kP (w0 := w6) w6.heap.size (by rfl) (.tmp 50) (.tmp 51) 70 68 (.agg #[.string ⟨#[]⟩, .int .u64 0, .bool false]) 32 (by rfl) Tryz.underlying70 infoP rfl (by decide) (by omega) _ [tP pte, tP (Bd.B lt)] ps A ps.length c (fun _ => True) (fun _ => False) (by rfl) (by rfl) (R_built _ _ (two_size (by assumption : Below w6.drew.heap.size w6.drew _) (by assumption)) _ (by simp)) (Kd.C_below hC6.out (And.right (And.right (by assumption : _ ∧ _ ∧ Below w6.heap.size w6 _)))) (fun x cs h => by rw [kP_open h]; exact kP_mkM _ _ _ x) (fun _ h => h.elim) (fun _ _ => trivial) (And.right (And.right (by assumption : _ ∧ _ ∧ Below w6.heap.size w6 _))) (And.right (And.right (by assumption : _ ∧ _ ∧ Below w6.heap.size w6 _))).size (by simp; omega) ?_; intro v9 w9 ho9 hb9 hg9 hat9; rw [hL.out] at ho9; obtain ⟨A9, c9, e9, hc9, hC9⟩ := Kd.R_reads ho9; subst e9; replace hC9 := Lib.hid hC9; clear ho9 hg9 hat9) | fail)
          all_goals
            go_wp2
            go_ret2
            exact ⟨by rw [hKL.out]; rfl, hend.out _ (And.right (And.right (by assumption : _ ∧ _ ∧ Below w6.heap.size w6 _)))⟩
end Go.Proofs.YtmchephokleffaaGreatDoor
/-
  Chapter 22: record.key walked at ledgers and at audit entries.
-/
set_option linter.unusedVariables false
set_option linter.unusedSimpArgs false
namespace Go.Proofs.YtmchephokleffaaGreatDoor
open Go.RowKit Go.Proofs.YtmchephokleffaaGreatDoorW.PrintWords Go.Proofs.YtmchephokleffaaGreatDoor.PRecord
theorem cf_1 (args : Array Value) (W : World) : (callFunc 92 args).run Tryz.prog W = .ok (.enter 92 args) W := by go_simp
theorem cf_2 (args : Array Value) (W : World) : (callFunc 93 args).run Tryz.prog W = .ok (.enter 93 args) W := by go_simp
theorem cf_9 (args : Array Value) (W : World) : (callFunc 101 args).run Tryz.prog W = .ok (.enter 101 args) W := by go_simp
theorem cf_10 (args : Array Value) (W : World) : (callFunc 102 args).run Tryz.prog W = .ok (.enter 102 args) W := by go_simp
theorem ten_zero {l : List UInt8} (h : tenB l = true) : l.count 0 = 0 := by
  unfold tenB at h
  simp only [Bool.and_eq_true, List.all_eq_true] at h
  rw [List.count_eq_zero]
  intro h0
  have := h.1 0 h0
  exact absurd this (by decide)
theorem ten_len {l : List UInt8} (h : tenB l = true) : l.length ≤ 32 := by
  unfold tenB at h
  simp only [Bool.and_eq_true, decide_eq_true_eq] at h
  exact h.2.2
theorem okt_of {s : ByteArray} (h : s.data.toList.count 0 = 0) : OkP (tP s) := .inr ⟨rfl, rfl, h⟩
theorem okn_of {n : Nat} (h : n < 18446744073709551616) : OkP (nP n) := .inl ⟨rfl, rfl, h⟩
theorem keyL_cons (x : Pt) (l : List Pt) : keyL (x :: l) = encP x ++ keyL l := rfl
theorem rd10_one (n : Nat) (q : Pl) : rd10 [nP n] q = if n < 1 ∨ 9223372036854775807 < n then (false, q) else (true, { q with nu := (n : Int) }) := rfl
/-- LedgerKey's place. -/
theorem key_ledger (te : ByteArray) (hsz : te.size ≤ 1000000) (w : World) :
    Calls Tryz.prog 85 #[plV ⟨1, te, ⟨#[]⟩, ⟨#[]⟩, 0, 0⟩] w fun e w' => e = .returned (keyV (keyO ⟨1, te, ⟨#[]⟩, ⟨#[]⟩, 0, 0⟩ [108] [] true)) ∧ Below w.heap.size w w' :=
  key_gen ⟨1, te, ⟨#[]⟩, ⟨#[]⟩, 0, 0⟩ [108] 92 93 cf_1 cf_2 0 rfl [] (fun W => parts1 _ W) true ⟨1, te, ⟨#[]⟩, ⟨#[]⟩, 0, 0⟩
    (fun W g A c _ _ hq => read2 A 0 c g (by omega) _ W hq) (fun _ => rfl) hsz
    (fun _ ht x hx => by
      simp only [List.mem_cons, List.mem_nil_iff, or_false] at hx
      rcases hx with rfl | rfl
      · exact okt_of (ten_zero ht)
      · exact okt_of rfl) (by simp)
    (by simp [keyL, encP, tP, Bd.B_size, Bd.B_data]; omega) w
theorem key_audit (te : ByteArray) (n : Nat) (hn : n < 9223372036854775808) (hsz : te.size ≤ 1000000) (w : World) :
    Calls Tryz.prog 85 #[plV ⟨5, te, ⟨#[]⟩, ⟨#[]⟩, 0, (n : Int)⟩] w fun e w' => e = .returned (keyV (keyO ⟨5, te, ⟨#[]⟩, ⟨#[]⟩, 0, (n : Int)⟩ [97] [nP n] (rd10 [nP n] ⟨5, te, ⟨#[]⟩, ⟨#[]⟩, 0, 0⟩).1)) ∧ Below w.heap.size w w' :=
  key_gen ⟨5, te, ⟨#[]⟩, ⟨#[]⟩, 0, (n : Int)⟩ [97] 101 102 cf_9 cf_10 4 rfl [nP n] (fun W => parts9 _ n rfl hn W) _ (rd10 [nP n] ⟨5, te, ⟨#[]⟩, ⟨#[]⟩, 0, 0⟩).2
    (fun W g A c hC hA hq => read10 [nP n] (by simp) A c g _ W hC hA hq)
    (fun hb => by
      rw [rd10_one] at hb ⊢
      by_cases h : n < 1 ∨ 9223372036854775807 < n
      · rw [if_pos h] at hb
        cases hb
      · rw [if_neg h]) hsz
    (fun _ ht x hx => by
      simp only [List.mem_cons, List.mem_nil_iff, or_false] at hx
      rcases hx with rfl | rfl | rfl
      · exact okt_of (ten_zero ht)
      · exact okt_of rfl
      · exact okn_of (by omega)) (by simp)
    (by simp [keyL, encP, tP, nP, Bd.B_size, Bd.B_data, be_len]; omega) w
end Go.Proofs.YtmchephokleffaaGreatDoor
