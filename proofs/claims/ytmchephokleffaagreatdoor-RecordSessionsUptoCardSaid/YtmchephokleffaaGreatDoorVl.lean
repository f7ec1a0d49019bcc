/-
  Chapter 22: the law's examples (awake), walked.
-/
import Derived.Test.YtmchephokleffaaGreatDoorVi
import Derived.Test.YtmchephokleffaaGreatDoorVk
set_option linter.unusedVariables false
set_option linter.unusedSimpArgs false
namespace Go.Proofs.YtmchephokleffaaGreatDoor
open Go.RowKit Go.Proofs.YtmchephokleffaaGreatDoorW.PrintWords Go.Proofs.YtmchephokleffaaGreatDoor.PRecord
theorem eqLedger (d : Nat) (w : World) (x0 y0 : Int) (x1 y1 : Int) (x2 y2 : ByteArray) :
    (Op.equalIn (d + 2) 62 (.agg #[.int .u64 x0, .int .u64 x1, .string x2]) (.agg #[.int .u64 y0, .int .u64 y1, .string y2])).run Tryz.prog w = .ok (x0 == y0 && (x1 == y1 && (x2.toList == y2.toList))) w := by
  refine eqA_of Tryz.underlying62 (by kernel_rfl) ?_
  refine eqf_cons (by rfl) (by go_simp; rfl) (by go_simp; rfl) (by go_simp) ?_
  refine eqf_cons (by rfl) (by go_simp; rfl) (by go_simp; rfl) (by go_simp) ?_
  exact eqf_last (by rfl) (by go_simp; rfl) (by go_simp; rfl) (by go_simp)
attribute [local go_sem high] eqLedger eqPlace
def acme : ByteArray := ⟨#[97, 99, 109, 101]⟩
def lkey : List UInt8 := [2, 97, 99, 109, 101, 0, 2, 108, 0]
def akey : List UInt8 := [2, 97, 99, 109, 101, 0, 2, 97, 0, 1, 0, 0, 0, 0, 0, 0, 0, 1]
theorem lkey_is : keyO ⟨1, acme, ⟨#[]⟩, ⟨#[]⟩, 0, 0⟩ [108] [] true = some lkey := by rfl
theorem akey_is : keyO ⟨5, acme, ⟨#[]⟩, ⟨#[]⟩, 0, ((1 : Nat) : Int)⟩ [97] [nP 1] (rd10 [nP 1] ⟨5, acme, ⟨#[]⟩, ⟨#[]⟩, 0, 0⟩).1 = some akey := by rfl
theorem akey_split : splitL akey = .ok (tP acme :: tP (Bd.B [97]) :: [nP 1]) := by rfl
set_option maxHeartbeats 1000000 in
theorem ledgerKey_any (te : ByteArray) (hsz : te.size ≤ 1000000) (w : World) :
    Calls Tryz.prog 34 #[.string te] w fun e w' => e = .returned (keyV (keyO ⟨1, te, ⟨#[]⟩, ⟨#[]⟩, 0, 0⟩ [108] [] true)) ∧ Below w.heap.size w w' := by
  have hk := Lib.hid (key_ledger te hsz w)
  unfold plV at hk
  generalize keyO ⟨1, te, ⟨#[]⟩, ⟨#[]⟩, 0, 0⟩ [108] [] true = o at *
  go_enter Tryz.func34, Tryz.ntmps34
  go_wp2_with (fail)
  refine hk.out.mono ?_
  rintro e w2 ⟨rfl, hb2⟩
  cases o with
  | none =>
    simp only [keyV]
    go_wp2
    go_ret2
    exact ⟨rfl, hb2⟩
  | some l =>
    simp only [keyV]
    go_wp2
    go_ret2
    exact ⟨rfl, hb2⟩
set_option maxHeartbeats 1000000 in
theorem auditKey_any (te : ByteArray) (n : Nat) (hn : n < 9223372036854775808) (hsz : te.size ≤ 1000000) (w : World) :
    Calls Tryz.prog 35 #[.string te, .int .i64 (n : Int)] w fun e w' => e = .returned (keyV (keyO ⟨5, te, ⟨#[]⟩, ⟨#[]⟩, 0, (n : Int)⟩ [97] [nP n] (rd10 [nP n] ⟨5, te, ⟨#[]⟩, ⟨#[]⟩, 0, 0⟩).1)) ∧ Below w.heap.size w w' := by
  have hk := Lib.hid (key_audit te n hn hsz w)
  unfold plV at hk
  generalize keyO ⟨5, te, ⟨#[]⟩, ⟨#[]⟩, 0, (n : Int)⟩ [97] [nP n] (rd10 [nP n] ⟨5, te, ⟨#[]⟩, ⟨#[]⟩, 0, 0⟩).1 = o at *
  go_enter Tryz.func35, Tryz.ntmps35
  go_wp2_with (fail)
  refine hk.out.mono ?_
  rintro e w2 ⟨rfl, hb2⟩
  cases o with
  | none =>
    simp only [keyV]
    go_wp2
    go_ret2
    exact ⟨rfl, hb2⟩
  | some l =>
    simp only [keyV]
    go_wp2
    go_ret2
    exact ⟨rfl, hb2⟩
def zer32 : ByteArray := ⟨(List.replicate 32 (0 : UInt8)).toArray⟩
set_option maxHeartbeats 1000000 in
theorem empty_any (w : World) : Calls Tryz.prog 36 #[] w fun e w' => e = .returned (.agg #[.int .u64 1, .int .u64 0, .string zer32]) ∧ Below w.heap.size w w' := by
  have hr0 := heap_alloc_new w (.cells #[.int .u64 0, .int .u64 0, .string ⟨#[]⟩] 62)
  have hb0 := Lib.hid ((Below.refl w.heap.size w).alloc (Nat.le_refl _) (.cells #[.int .u64 0, .int .u64 0, .string ⟨#[]⟩] 62))
  have hrep := Tryz.strings_Repeat ⟨#[0]⟩ 32 (w.alloc (.cells #[.int .u64 0, .int .u64 0, .string ⟨#[]⟩] 62)) (by omega) (by decide)
  rw [show (⟨(Lib.repeatL (⟨#[0]⟩ : ByteArray).data.toList 32).toArray⟩ : ByteArray) = zer32 from rfl] at hrep
  replace hrep := Lib.hid hrep
  replace hr0 := Lib.hid hr0
  generalize zer32 = z at *
  go_enter Tryz.func36, Tryz.ntmps36
  go_wp2_with (fail)
  refine hrep.out.mono ?_
  rintro e w2 ⟨rfl, hb2⟩
  have hre := (hb2.block _ (by simp)).trans hr0.out
  have hbel := Lib.hid (hb0.out.trans (hb2.mono hb0.out.size))
  have f0 := blk_frozen hre 0
  have f1 := blk_frozen hre 1
  have f2 := blk_frozen hre 2
  have r0 := (blk_cell hre 0).trans rfl
  have r1 := (blk_cell hre 1).trans rfl
  have r2 := (blk_cell hre 2).trans rfl
  have hput := Lib.hid hre
  clear hre hb2 hrep
  go_wp2
  exact bodyPost_ret (results_cell_row rfl _ _ w.heap.size _ _ _ _ rfl (by rw [blk_set (blk_set (blk_set hput.out 0 _) 1 _) 2 _]; rfl) Tryz.underlying62 rfl (by kernel_rfl)) rfl ⟨rfl, ((hbel.out.setCell (p := ⟨w.heap.size, 0, none⟩) (Nat.le_refl _) _).setCell (p := ⟨w.heap.size, 1, none⟩) (Nat.le_refl _) _).setCell (p := ⟨w.heap.size, 2, none⟩) (Nat.le_refl _) _⟩
theorem rempty_any (w : World) : Calls Tryz.prog 37 #[] w fun e w' => e = .returned (.agg #[.int .u64 1, .int .u64 0, .string zer32]) ∧ Below w.heap.size w w' :=
  atriumref22_Empty.calls 1 0 zer32 w (by unfold atriumref22_Empty.f; rw [if_pos (by omega)]; rfl)
theorem where_audit (w : World) : Calls Tryz.prog 13 #[.string (Bd.B akey)] w fun e w' => e = .returned (.tuple #[.agg #[.int .i64 5, .string acme, .string ⟨#[]⟩, .string ⟨#[]⟩, .int .u64 0, .int .i64 1], .int .i64 0]) ∧ Below w.heap.size w w' := by
  refine where_gen akey (by decide) acme (by decide) [97] [nP 1] akey_split (by decide) true ⟨5, acme, ⟨#[]⟩, ⟨#[]⟩, 0, 1⟩ 4 ?_ ?_ ?_ w
  · intro kd le fp fr bn h hle
    subst hle
    have h2 : (kd, fp, fr, bn) = ((5 : Int), 101, 102, 4) := by
      simp [shM, sh1, sh2, sh3, sh4, sh5, shE, Bd.B] at h
      simp [h]
    simp only [Prod.mk.injEq] at h2
    obtain ⟨rfl, rfl, rfl, rfl⟩ := h2
    exact ⟨rfl, cf_10, fun W g A c hC hA hq => read10 [nP 1] (by simp) A c g _ W hC hA hq⟩
  · intro kd le fp fr h _
    simp [shM, sh1, sh2, sh3, sh4, sh5, shE, Bd.B] at h
    exact h.2.1
  · intro _
    exact ⟨⟨.int .i64 5, sh5, 4⟩, by simp [shM], rfl⟩
set_option maxHeartbeats 2000000 in
theorem awake_any (w : World) : Calls Tryz.prog 10 #[] w fun e w' => e = .returned (.bool true) ∧ Below w.heap.size w w' := by
  have h1 := ledgerKey_any acme (by decide) w
  rw [lkey_is] at h1
  have h2 := fun W => auditKey_any acme 1 (by omega) (by decide) W
  rw [akey_is] at h2
  simp only [keyV] at h1 h2
  replace h1 := Lib.hid h1
  replace h2 := Lib.hid h2
  have e1 : Bd.B lkey = ⟨#[2, 97, 99, 109, 101, 0, 2, 108, 0]⟩ := rfl
  have e2 : Bd.B akey = ⟨#[2, 97, 99, 109, 101, 0, 2, 97, 0, 1, 0, 0, 0, 0, 0, 0, 0, 1]⟩ := rfl
  have h3 := fun W => where_audit W
  rw [e2] at h3
  have h1 := h1.out
  have h2 := h2.out
  rw [e1] at h1
  rw [e2] at h2
  have h4 := Lib.hid (fun W => empty_any W)
  have h5 := Lib.hid (fun W => rempty_any W)
  generalize zer32 = z at *
  clear e1 e2
  simp only [acme] at h1 h2 h3
  replace h1 := Lib.hid h1
  replace h2 := Lib.hid h2
  replace h3 := Lib.hid h3
  go_enter Tryz.func10, Tryz.ntmps10
  go_wp2_with (fail)
  refine h1.out.mono ?_
  rintro e w2 ⟨rfl, hb2⟩
  go_wp2_with (fail)
  refine (h2.out _).mono ?_
  rintro e w3 ⟨rfl, hb3⟩
  go_wp2_with (fail)
  refine (h3.out _).mono ?_
  rintro e w4 ⟨rfl, hb4⟩
  have hB4 := Lib.hid ((hb2.trans (hb3.mono hb2.size)).trans (hb4.mono (Nat.le_trans hb2.size hb3.size)))
  have hC := Lib.hid (below_alloc hB4.out (.cells #[.int .i64 5, .string ⟨#[97, 99, 109, 101]⟩, .string ⟨#[]⟩, .string ⟨#[]⟩, .int .u64 0, .int .i64 1] 24))
  clear hb2 hb3 hb4 h1 h2 h3
  go_wp2_with (fail)
  refine (h4.out _).mono ?_
  rintro e w5 ⟨rfl, hb5⟩
  have hD := Lib.hid (hC.out.trans (hb5.mono hC.out.size))
  clear hb5 h4 hC hB4
  go_wp2_with (fail)
  refine (h5.out _).mono ?_
  rintro e w6 ⟨rfl, hb6⟩
  have hE := Lib.hid (hD.out.trans (hb6.mono hD.out.size))
  clear hb6 h5 hD
  go_wp2
  go_ret
  exact ⟨rfl, hE.out⟩
end Go.Proofs.YtmchephokleffaaGreatDoor
