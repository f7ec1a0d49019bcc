/-
  Sessions read back, walked; the reference's.
-/
import Derived.Test.YtmchephokleffaaGreatDoorYh
set_option linter.unusedVariables false
set_option linter.unusedSimpArgs false
namespace Go.Proofs.YtmchephokleffaaGreatDoor
open Go.RowKit Go.Proofs.YtmchephokleffaaGreatDoorW.PrintWords Go.Proofs.YtmchephokleffaaGreatDoorW.PrintMore Go.Proofs.YtmchephokleffaaGreatDoor.PRecord
def u8O : Option ByteArray → Nat × Option ByteArray
  | none => (0, none)
  | some s => if s.size < 8 then (0, none) else (beN (s.extract 0 8).data.toList, some (s.extract 8 s.size))
theorem u64_r {g : Nat} {o : Option ByteArray} {w : World} (h : RS w g o) :
    Calls Tryz.prog 64 #[.pointer (some ⟨g, 0, none⟩)] w fun e w' => e = .returned (.int .u64 ((u8O o).1 : Int)) ∧ RS w' g (u8O o).2 ∧ Below g w w' := by
  cases o with
  | none =>
    obtain ⟨s, err, h1, h2, h3⟩ := h
    have hu := U64_rd (show s.size ≤ maxLen by unfold maxLen; omega) h3
    have er : rawR s err 8 = (⟨#[]⟩, s, err) := by unfold rawR; rw [if_pos h2]
    rw [er] at hu
    refine hu.mono ?_
    rintro e w' ⟨rfl, hc, hb⟩
    exact ⟨rfl, ⟨s, err, h1, h2, hc⟩, hb⟩
  | some s =>
    obtain ⟨h1, h3⟩ := h
    have hu := U64_rd (show s.size ≤ maxLen by unfold maxLen; omega) h3
    by_cases h8 : s.size < 8
    · have er : rawR s 0 8 = (⟨#[]⟩, s, 20) := by unfold rawR; rw [if_neg (by simp), if_neg (by decide), if_pos (by omega)]
      rw [er] at hu
      refine hu.mono ?_
      rintro e w' ⟨rfl, hc, hb⟩
      have hO : u8O (some s) = (0, none) := by simp only [u8O]; rw [if_pos h8]
      rw [hO]
      exact ⟨rfl, ⟨s, 20, h1, by omega, hc⟩, hb⟩
    · have er : rawR s 0 8 = (s.extract 0 8, s.extract 8 s.size, 0) := raw_cut s 8 (by omega)
      rw [er] at hu
      refine hu.mono ?_
      rintro e w' ⟨rfl, hc, hb⟩
      have hO : u8O (some s) = (beN (s.extract 0 8).data.toList, some (s.extract 8 s.size)) := by simp only [u8O]; rw [if_neg h8]
      rw [hO]
      exact ⟨rfl, ⟨by rw [ByteArray.size_extract]; omega, hc⟩, hb⟩
theorem teO_le (N : Nat) (o : Option ByteArray) (h : ∀ s, o = some s → s.size ≤ N) : (teO o).1.size ≤ N ∧ ∀ t, (teO o).2 = some t → t.size ≤ N := by
  cases o with
  | none => exact ⟨Nat.zero_le N, fun t h => by simp [teO] at h⟩
  | some s =>
    have hs := h s rfl
    simp only [teO]
    cases rv s.data.toList with
    | none => exact ⟨Nat.zero_le N, fun t h => by simp at h⟩
    | some p =>
      simp only
      split
      · exact ⟨Nat.zero_le N, fun t h => by simp at h⟩
      · refine ⟨by simp only [ByteArray.size_extract]; omega, fun t h => ?_⟩
        simp only [Option.some.injEq] at h
        rw [← h]
        simp only [ByteArray.size_extract]
        omega
/-- A session out of its value. -/
def decSes (tk v : ByteArray) : Option (ByteArray × ByteArray × Nat) :=
  let o1 := teO (some v)
  let o2 := teO o1.2
  let o3 := u8O o2.2
  if allR o3.2 = true ∧ mayB tk o1.1 o2.1 = true then some (o1.1, o2.1, o3.1) else none
def seV (tk : ByteArray) : Option (ByteArray × ByteArray × Nat) → Value
  | none => .tuple #[.agg #[.string ⟨#[]⟩, .string ⟨#[]⟩, .string ⟨#[]⟩, .int .u64 0], .int .i64 221]
  | some (a, b, c) => .tuple #[.agg #[.string tk, .string a, .string b, .int .u64 (c : Int)], .int .i64 0]
set_option maxHeartbeats 4000000 in
theorem decSes_any (tk v : ByteArray) (ht : tk.size ≤ 1000000000) (hv : v.size ≤ 1000000000) (w : World) :
    Calls Tryz.prog 24 #[.string tk, .string v] w fun e w' => e = .returned (seV tk (decSes tk v)) ∧ Below w.heap.size w w' := by
  obtain ⟨W0, hW0⟩ : ∃ W0, W0 = w.alloc (.cells #[.string ⟨#[]⟩, .string ⟨#[]⟩, .string ⟨#[]⟩, .int .u64 0] 42) := ⟨_, rfl⟩
  have hr0 : W0.heap[w.heap.size]? = some (.cells #[.string ⟨#[]⟩, .string ⟨#[]⟩, .string ⟨#[]⟩, .int .u64 0] 42 (0, 0)) := by rw [hW0]; exact heap_alloc_new w _
  have hB0 := Lib.hid (show Below w.heap.size w W0 by rw [hW0]; exact (Below.refl _ _).alloc (Nat.le_refl _) _)
  have hz0 : w.heap.size < W0.heap.size := by rw [hW0]; simp
  have hres : Hid (∀ W, Below W0.heap.size W0 W → W.heap[w.heap.size]? = some (.cells #[.string ⟨#[]⟩, .string ⟨#[]⟩, .string ⟨#[]⟩, .int .u64 0] 42 (0, 0)) ∧ Below w.heap.size w W) := Lib.hid (fun W h => ⟨(h.block _ hz0).trans hr0, hB0.out.trans (h.mono (Nat.le_of_lt hz0))⟩)
  have hspec : decSes tk v = if allR (u8O (teO (teO (some v)).2).2).2 = true ∧ mayB tk (teO (some v)).1 (teO (teO (some v)).2).1 = true then some ((teO (some v)).1, (teO (teO (some v)).2).1, (u8O (teO (teO (some v)).2).2).1) else none := rfl
  have hu1 := Lib.hid (fun (W : World) (g : Nat) (h : RS W g (some v)) => text_r h)
  have hu2 := Lib.hid (fun (W : World) (g : Nat) (h : RS W g (teO (some v)).2) => text_r h)
  have hu3 := Lib.hid (fun (W : World) (g : Nat) (h : RS W g (teO (teO (some v)).2).2) => u64_r h)
  have z1 := teO_le 1000000000 (some v) (fun s h => by injection h with h; rw [← h]; exact hv)
  have z2 := teO_le 1000000000 (teO (some v)).2 z1.2
  replace z1 := z1.1
  replace z2 := z2.1
  generalize u8O (teO (teO (some v)).2).2 = O3 at *
  generalize teO (teO (some v)).2 = O2 at *
  generalize teO (some v) = O1 at *
  obtain ⟨a, o1⟩ := O1
  obtain ⟨b, o2⟩ := O2
  obtain ⟨c, o3⟩ := O3
  simp only at hspec hu1 hu2 hu3 z1 z2
  have hdn := Lib.hid (fun (W : World) (g : Nat) (h : RS W g o3) => done_r h)
  have hen := Lib.hid (fun W => session_any tk a b (c : Int) ht z1 z2 W)
  replace hspec := Lib.hid hspec
  have hW0H := Lib.hid hW0
  clear hr0 hB0 hW0
  go_enter Tryz.func24, Tryz.ntmps24
  go_wp2_with (fail)
  rw [← hW0H.out]
  refine (newReader_any v W0).mono ?_
  rintro e w2 ⟨rfl, hc2, hb2⟩
  have hc2 := Lib.hid (show RS w2 W0.heap.size (some v) from ⟨hv, hc2⟩)
  replace hb2 := Lib.hid hb2
  go_wp2_with (fail)
  refine (hu1.out _ _ hc2.out).mono ?_
  rintro e w3 ⟨rfl, hc3, hb3⟩
  replace hc3 := Lib.hid hc3
  have hB3 := Lib.hid (hb2.out.trans hb3)
  clear hc2 hb2 hb3 hu1
  go_wp2_with (fail)
  refine (hu2.out _ _ hc3.out).mono ?_
  rintro e w4 ⟨rfl, hc4, hb4⟩
  replace hc4 := Lib.hid hc4
  have hB4 := Lib.hid (hB3.out.trans hb4)
  clear hc3 hB3 hb4 hu2
  go_wp2_with (fail)
  refine (hu3.out _ _ hc4.out).mono ?_
  rintro e w6 ⟨rfl, hc6, hb6⟩
  have hB6 := Lib.hid (hB4.out.trans hb6)
  have hc7 := Lib.hid (hc6.below (below_alloc (Below.refl w6.heap.size w6) (.cells #[.string tk, .string a, .string b, .int .u64 (c : Int)] 42)))
  have hbxH := Lib.hid (heap_alloc_new w6 (.cells #[.string tk, .string a, .string b, .int .u64 (c : Int)] 42))
  have hB7 := Lib.hid (below_alloc hB6.out (.cells #[.string tk, .string a, .string b, .int .u64 (c : Int)] 42))
  have hz7 := Lib.hid (show w6.heap.size < (w6.alloc (.cells #[.string tk, .string a, .string b, .int .u64 (c : Int)] 42)).heap.size by simp)
  clear hc4 hB4 hb6 hu3 hc6
  go_wp2_with (fail)
  generalize w6.alloc (.cells #[.string tk, .string a, .string b, .int .u64 (c : Int)] 42) = w7 at *
  generalize w6.heap.size = gb at *
  refine (hdn.out _ _ hc7.out).mono ?_
  rintro e w8 ⟨⟨D, rfl, hD⟩, rfl⟩
  by_cases hD0 : D = 0
  · have hall := Lib.hid (hD.mp hD0)
    subst hD0
    have q0 := (blk_cell hbxH.out 0).trans rfl
    have q1 := (blk_cell hbxH.out 1).trans rfl
    have q2 := (blk_cell hbxH.out 2).trans rfl
    have q3 := (blk_cell hbxH.out 3).trans rfl
    clear hD hc7 hdn
    go_wp2_with (fail)
    refine (hen.out _).mono ?_
    rintro e w9 ⟨rfl, hb9⟩
    have hbx9 := Lib.hid ((hb9.block _ hz7.out).trans hbxH.out)
    obtain ⟨hre, hbel⟩ := hres.out w9 (hB7.out.trans (hb9.mono hB7.out.size))
    clear q0 q1 q2 q3
    have q0 := (blk_cell hbx9.out 0).trans rfl
    have q1 := (blk_cell hbx9.out 1).trans rfl
    have q2 := (blk_cell hbx9.out 2).trans rfl
    have q3 := (blk_cell hbx9.out 3).trans rfl
    have f0 := blk_frozen hre 0
    have f1 := blk_frozen hre 1
    have f2 := blk_frozen hre 2
    have f3 := blk_frozen hre 3
    have r0 := (blk_cell hre 0).trans rfl
    have r1 := (blk_cell hre 1).trans rfl
    have r2 := (blk_cell hre 2).trans rfl
    have r3 := (blk_cell hre 3).trans rfl
    have hput := Lib.hid hre
    replace hbel := Lib.hid hbel
    clear hb9 hen hre hbxH hbx9 hB7 hz7 hres hB6 hW0H
    cases hE : mayB tk a b with
    | false =>
      have hS := Lib.hid (hspec.out.trans (if_neg (fun h => by rw [hE] at h; cases h.2)))
      clear hspec hall hE
      go_wp2
      exact bodyPost_ret (results_ct rfl _ _ w.heap.size _ _ _ _ rfl (put4 hput.out _ _ _ _) Tryz.underlying42 rfl (by kernel_rfl)) rfl ⟨by rw [hS.out]; rfl, put4_below hbel.out (Nat.le_refl _) _ _ _ _⟩
    | true =>
      have hS := Lib.hid (hspec.out.trans (if_pos ⟨hall.out, hE⟩))
      clear hspec hall hE
      go_wp2
      exact bodyPost_ret (results_ct rfl _ _ w.heap.size _ _ _ _ rfl (put4 hput.out _ _ _ _) Tryz.underlying42 rfl (by kernel_rfl)) rfl ⟨by rw [hS.out]; rfl, put4_below hbel.out (Nat.le_refl _) _ _ _ _⟩
  · have hS := Lib.hid (hspec.out.trans (if_neg (fun h => hD0 (hD.mpr h.1))))
    have d1 : (D != 0) = true := by simp [hD0]
    obtain ⟨hre, hbel⟩ := hres.out w7 hB7.out
    have f0 := blk_frozen hre 0
    have f1 := blk_frozen hre 1
    have f2 := blk_frozen hre 2
    have f3 := blk_frozen hre 3
    have r0 := (blk_cell hre 0).trans rfl
    have r1 := (blk_cell hre 1).trans rfl
    have r2 := (blk_cell hre 2).trans rfl
    have r3 := (blk_cell hre 3).trans rfl
    have hput := Lib.hid hre
    replace hbel := Lib.hid hbel
    clear hspec hc7 hdn hre hbxH hB7 hres hB6 hW0H hD hz7 hen
    go_wp2
    exact bodyPost_ret (results_ct rfl _ _ w.heap.size _ _ _ _ rfl (put4 hput.out _ _ _ _) Tryz.underlying42 rfl (by kernel_rfl)) rfl ⟨by rw [hS.out]; rfl, put4_below hbel.out (Nat.le_refl _) _ _ _ _⟩
theorem part_f (s : ByteArray) (hs : s.size ≤ 1000000000) : ∃ k, atriumref22_part.f k s = some ((teO (some s)).1, (teO (some s)).2.getD ⟨#[]⟩, (teO (some s)).2.isSome) := by
  obtain ⟨k, x, hx, hr⟩ := readV_f s hs
  cases hrv : rv s.data.toList with
  | none =>
    rw [hrv] at hr
    obtain ⟨e, he, rfl⟩ := hr
    have hT : teO (some s) = (⟨#[]⟩, none) := by simp only [teO, hrv]
    rw [hT]
    refine ⟨k, ?_⟩
    unfold atriumref22_part.f
    rw [hx, Option.bind_some, if_neg he]
    rfl
  | some p =>
    obtain ⟨n, z⟩ := p
    rw [hrv] at hr
    have hr : x = ((n : Int), (z : Int), 0) := hr
    subst hr
    obtain ⟨b1, b2, b3, b4⟩ := rvG_bound _ 0 0 (by omega) (by simp) hrv
    have b2 : z ≤ s.size := by rw [show s.size = s.data.toList.length from rfl]; omega
    have hz : (s.extract z s.size).size = s.size - z := by rw [ByteArray.size_extract]; omega
    by_cases hlt : (s.extract z s.size).size < n
    · have hT : teO (some s) = (⟨#[]⟩, none) := by simp only [teO, hrv]; rw [if_pos hlt]
      rw [hT]
      refine ⟨k, ?_⟩
      unfold atriumref22_part.f
      have e1 : wrap64 ((s.size : Int) - (z : Int)) = (s.size : Int) - (z : Int) := IntWalk.wrap64_in _ (by omega)
      have e2 : IntKind.u64.wrap ((s.size : Int) - (z : Int)) = (s.size : Int) - (z : Int) := IntWalk.u64_in _ (by omega)
      rw [hx, Option.bind_some]
      simp only [e1, e2]
      rw [if_pos trivial, if_pos (by omega)]
      rfl
    · have hT : teO (some s) = (s.extract z (z + n), some (s.extract (z + n) s.size)) := by
        simp only [teO, hrv]; rw [if_neg hlt, cut_mid s z n (by omega), cut_end s z n (by omega)]
      rw [hT]
      refine ⟨k, ?_⟩
      unfold atriumref22_part.f
      have e1 : wrap64 ((s.size : Int) - (z : Int)) = (s.size : Int) - (z : Int) := IntWalk.wrap64_in _ (by omega)
      have e2 : IntKind.u64.wrap ((s.size : Int) - (z : Int)) = (s.size : Int) - (z : Int) := IntWalk.u64_in _ (by omega)
      have e3 : wrap64 (n : Int) = (n : Int) := IntWalk.wrap64_in _ (by omega)
      have e4 : wrap64 ((z : Int) + (n : Int)) = ((z + n : Nat) : Int) := by rw [IntWalk.wrap64_in _ (by omega)]; omega
      rw [hx, Option.bind_some]
      simp only [e1, e2, e3, e4]
      rw [if_pos trivial, if_neg (by omega), if_pos (by omega), if_pos (by omega), if_pos (by omega), if_pos (by omega)]
      rfl
theorem part_up (s : ByteArray) (hs : s.size ≤ 1000000000) : ∃ k, ∀ d, k ≤ d → atriumref22_part.f d s = some ((teO (some s)).1, (teO (some s)).2.getD ⟨#[]⟩, (teO (some s)).2.isSome) := by
  obtain ⟨k, hk⟩ := part_f s hs
  exact ⟨k, fun d hd => leo_up (f := fun k => atriumref22_part.f k s) (fun k => atriumref22_part.mono s k) hk hd⟩
def seP : Option (ByteArray × ByteArray × Nat) → ByteArray → ByteArray × ByteArray × ByteArray × Int × Int
  | none, _ => (⟨#[]⟩, ⟨#[]⟩, ⟨#[]⟩, 0, 221)
  | some (a, b, c), tk => (tk, a, b, (c : Int), 0)
theorem rdecSes_f (tk v : ByteArray) (ht : tk.size ≤ 1000000000) (hv : v.size ≤ 1000000000) : ∃ k, atriumref22_DecodeSession.f k tk v = some (seP (decSes tk v) tk) := by
  have hspec : decSes tk v = if allR (u8O (teO (teO (some v)).2).2).2 = true ∧ mayB tk (teO (some v)).1 (teO (teO (some v)).2).1 = true then some ((teO (some v)).1, (teO (teO (some v)).2).1, (u8O (teO (teO (some v)).2).2).1) else none := rfl
  obtain ⟨k1, hk1⟩ := part_up v hv
  have z1 := teO_le 1000000000 (some v) (fun s h => by injection h with h; rw [← h]; exact hv)
  generalize teO (some v) = O1 at *
  obtain ⟨a, o1⟩ := O1
  simp only at hspec hk1 z1
  cases o1 with
  | none =>
    obtain ⟨k2, hk2⟩ := part_up ⟨#[]⟩ (by decide)
    refine ⟨k1 + k2 + 1, ?_⟩
    unfold atriumref22_DecodeSession.f
    rw [hk1 _ (by omega), Option.bind_some]
    simp only [Option.getD_none, Option.isSome_none]
    rw [hk2 _ (by omega), Option.bind_some, if_neg (by simp), atriumref22_DecodeSession.j0, if_pos rfl, hspec, if_neg (fun h => by simp [teO, u8O, allR] at h)]
    rfl
  | some t =>
    have hts := z1.2 t rfl
    obtain ⟨k2, hk2⟩ := part_up t hts
    have z2 := teO_le 1000000000 (some t) (fun s h => by injection h with h; rw [← h]; exact hts)
    generalize teO (some t) = O2 at *
    obtain ⟨b, o2⟩ := O2
    simp only at hspec hk2 z2
    cases o2 with
    | none =>
      refine ⟨k1 + k2 + 1, ?_⟩
      unfold atriumref22_DecodeSession.f
      rw [hk1 _ (by omega), Option.bind_some]
      simp only [Option.getD_some, Option.isSome_some]
      rw [hk2 _ (by omega), Option.bind_some, if_pos trivial]
      simp only [Option.isSome_none]
      rw [if_neg (by simp), atriumref22_DecodeSession.j0, if_pos rfl, hspec, if_neg (fun h => by simp [u8O, allR] at h)]
      rfl
    | some r =>
      obtain ⟨k3, hk3⟩ := rmay_up tk a b ((beN r.data.toList : Nat) : Int) ht z1.1 z2.1
      refine ⟨k1 + k2 + k3 + 20, ?_⟩
      unfold atriumref22_DecodeSession.f
      rw [hk1 _ (by omega), Option.bind_some]
      simp only [Option.getD_some, Option.isSome_some]
      rw [hk2 _ (by omega), Option.bind_some, if_pos trivial]
      simp only [Option.getD_some, Option.isSome_some]
      rw [if_pos trivial, show k1 + k2 + k3 + 20 = (k1 + k2 + k3 + 19) + 1 from rfl, atriumref22_DecodeSession.j0]
      by_cases h8 : r.size = 8
      · have e0 : r.extract 0 8 = r := by
          apply ByteArray.ext
          rw [ByteArray.data_extract, ← h8]
          exact Array.extract_size
        have e1 : u8O (some r) = (beN r.data.toList, some (r.extract 8 r.size)) := by
          simp only [u8O]
          rw [if_neg (by omega), e0]
        have e2 : allR (some (r.extract 8 r.size)) = true := decide_eq_true (by rw [ByteArray.size_extract]; omega)
        rw [e1] at hspec
        simp only [e2] at hspec
        rw [if_neg (by rw [h8]; decide), read_f r (by omega) _ (by omega), Option.bind_some, hk3 _ (by omega), Option.bind_some, hspec]
        cases mayB tk a b with
        | false => rw [if_neg (by simp), if_neg (by simp)]; rfl
        | true => rw [if_pos rfl, if_pos ⟨trivial, rfl⟩]; rfl
      · have e1 : allR (u8O (some r)).2 = false := by
          simp only [u8O]
          by_cases hlt : r.size < 8
          · rw [if_pos hlt]
            rfl
          · rw [if_neg hlt]
            exact decide_eq_false (by rw [ByteArray.size_extract]; omega)
        rw [if_pos (by simp; omega), hspec, if_neg (fun h => by rw [e1] at h; cases h.1)]
        rfl
theorem rdecSes_any (tk v : ByteArray) (ht : tk.size ≤ 1000000000) (hv : v.size ≤ 1000000000) (w : World) :
    Calls Tryz.prog 25 #[.string tk, .string v] w fun e w' => e = .returned (seV tk (decSes tk v)) ∧ Below w.heap.size w w' := by
  obtain ⟨k, hk⟩ := rdecSes_f tk v ht hv
  cases hd : decSes tk v with
  | none =>
    rw [hd] at hk
    exact atriumref22_DecodeSession.calls k tk v _ _ _ _ _ w hk
  | some p =>
    obtain ⟨a, b, c⟩ := p
    rw [hd] at hk
    exact atriumref22_DecodeSession.calls k tk v _ _ _ _ _ w hk
end Go.Proofs.YtmchephokleffaaGreatDoor
