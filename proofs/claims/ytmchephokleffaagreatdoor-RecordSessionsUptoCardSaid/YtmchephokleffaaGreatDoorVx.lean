/-
  Chapter 22: the reference reads an entry back, walked.
-/
import Derived.Test.YtmchephokleffaaGreatDoorVu
set_option linter.unusedVariables false
set_option linter.unusedSimpArgs false
namespace Go.Proofs.YtmchephokleffaaGreatDoor
open Go.RowKit Go.Proofs.YtmchephokleffaaGreatDoorW.PrintWords Go.Proofs.YtmchephokleffaaGreatDoor.PRecord
theorem cut_mid (s : ByteArray) (z n : Nat) (h : z + n ≤ s.size) : (s.extract z s.size).extract 0 n = s.extract z (z + n) := by
  apply ByteArray.ext
  simp only [ByteArray.data_extract, Array.extract_extract]
  congr 1
  show min _ _ = _
  have : s.data.size = s.size := rfl
  omega
theorem cut_end (s : ByteArray) (z n : Nat) (h : z + n ≤ s.size) : (s.extract z s.size).extract n (s.extract z s.size).size = s.extract (z + n) s.size := by
  apply ByteArray.ext
  simp only [ByteArray.data_extract, Array.extract_extract, ByteArray.size_extract]
  congr 1
  show min _ _ = _
  have : s.data.size = s.size := rfl
  omega
theorem part_any (s : ByteArray) (hs : s.size ≤ 1000000000) (w : World) :
    Calls Tryz.prog 66 #[.string s] w fun e w' => e = .returned (.tuple #[.string (teO (some s)).1, .string ((teO (some s)).2.getD ⟨#[]⟩), .bool (teO (some s)).2.isSome]) ∧ Below w.heap.size w w' := by
  obtain ⟨k, x, hx, hr⟩ := readV_f s hs
  cases hrv : rv s.data.toList with
  | none =>
    rw [hrv] at hr
    obtain ⟨e, he, rfl⟩ := hr
    have hT : teO (some s) = (⟨#[]⟩, none) := by simp only [teO, hrv]
    rw [hT]
    refine (atriumref22_part.calls k s _ _ _ w ?_).mono (fun e w2 h => ⟨h.1, h.2.below⟩)
    unfold atriumref22_part.f
    rw [hx, Option.bind_some, if_neg he]
    rfl
  | some p =>
    obtain ⟨n, z⟩ := p
    rw [hrv] at hr
    have hr : x = ((n : Int), (z : Int), 0) := hr
    subst hr
    obtain ⟨b1, b2, b3, b4⟩ := rvG_bound _ 0 0 (by omega) (by simp) hrv
    have b2 : z ≤ s.size := by rw [show s.size = s.data.toList.length from rfl]; omega
    have hz : (s.extract z s.size).size = s.size - z := by rw [ByteArray.size_extract]; omega
    by_cases hlt : (s.extract z s.size).size < n
    · have hT : teO (some s) = (⟨#[]⟩, none) := by simp only [teO, hrv]; rw [if_pos hlt]
      rw [hT]
      refine (atriumref22_part.calls k s _ _ _ w ?_).mono (fun e w2 h => ⟨h.1, h.2.below⟩)
      unfold atriumref22_part.f
      have e1 : wrap64 ((s.size : Int) - (z : Int)) = (s.size : Int) - (z : Int) := IntWalk.wrap64_in _ (by omega)
      have e2 : IntKind.u64.wrap ((s.size : Int) - (z : Int)) = (s.size : Int) - (z : Int) := IntWalk.u64_in _ (by omega)
      rw [hx, Option.bind_some]
      simp only [e1, e2]
      rw [if_pos trivial, if_pos (by omega)]
      rfl
    · have hT : teO (some s) = (s.extract z (z + n), some (s.extract (z + n) s.size)) := by
        simp only [teO, hrv]; rw [if_neg hlt, cut_mid s z n (by omega), cut_end s z n (by omega)]
      rw [hT]
      refine (atriumref22_part.calls k s _ _ _ w ?_).mono (fun e w2 h => ⟨h.1, h.2.below⟩)
      unfold atriumref22_part.f
      have e1 : wrap64 ((s.size : Int) - (z : Int)) = (s.size : Int) - (z : Int) := IntWalk.wrap64_in _ (by omega)
      have e2 : IntKind.u64.wrap ((s.size : Int) - (z : Int)) = (s.size : Int) - (z : Int) := IntWalk.u64_in _ (by omega)
      have e3 : wrap64 (n : Int) = (n : Int) := IntWalk.wrap64_in _ (by omega)
      have e4 : wrap64 ((z : Int) + (n : Int)) = ((z + n : Nat) : Int) := by rw [IntWalk.wrap64_in _ (by omega)]; omega
      rw [hx, Option.bind_some]
      simp only [e1, e2, e3, e4]
      rw [if_pos trivial, if_neg (by omega), if_pos (by omega), if_pos (by omega), if_pos (by omega), if_pos (by omega)]
      rfl
theorem readVar_any (s : ByteArray) (hs : s.size ≤ 1000000000) (w : World) :
    Calls Tryz.prog 116 #[.string s] w fun e w' => (match rv s.data.toList with
      | some (n, z) => e = .returned (.tuple #[.int .u64 (n : Int), .int .i64 (z : Int), .int .i64 0])
      | none => ∃ er : Int, er ≠ 0 ∧ e = .returned (.tuple #[.int .u64 0, .int .i64 0, .int .i64 er])) ∧ Below w.heap.size w w' := by
  obtain ⟨k, x, hx, hr⟩ := readV_f s hs
  cases hrv : rv s.data.toList with
  | none =>
    rw [hrv] at hr
    obtain ⟨e, he, rfl⟩ := hr
    refine (atriumref02_ReadVarint.calls k s _ _ _ w hx).mono (fun e w2 h => ⟨⟨_, he, h.1⟩, h.2.below⟩)
  | some p =>
    obtain ⟨n, z⟩ := p
    rw [hrv] at hr
    have hr : x = ((n : Int), (z : Int), 0) := hr
    subst hr
    refine (atriumref02_ReadVarint.calls k s _ _ _ w hx).mono (fun e w2 h => ⟨h.1, h.2.below⟩)
/-- What the loop of three has done after k rounds. -/
def Fit (v : ByteArray) (k : Nat) (t : ByteArray) (x0 x1 x2 : Nat) : Prop := match k with
  | 0 => t = v ∧ x0 = 0 ∧ x1 = 0 ∧ x2 = 0
  | 1 => vtO (some v) = (x0, some t) ∧ x1 = 0 ∧ x2 = 0
  | 2 => ∃ t1, vtO (some v) = (x0, some t1) ∧ vtO (some t1) = (x1, some t) ∧ x2 = 0
  | 3 => ∃ t1 t2, vtO (some v) = (x0, some t1) ∧ vtO (some t1) = (x1, some t2) ∧ vtO (some t2) = (x2, some t)
  | _ => False
theorem vtO_no {t : ByteArray} (h : rv t.data.toList = none) : vtO (some t) = (0, none) := by simp only [vtO, h]
theorem vtO_yes {t : ByteArray} {n z : Nat} (h : rv t.data.toList = some (n, z)) : vtO (some t) = (n, some (t.extract z t.size)) := by simp only [vtO, h]
theorem Fit.fail {v t : ByteArray} {k x0 x1 x2 : Nat} (h : Fit v k t x0 x1 x2) (hk : k < 3) (hr : rv t.data.toList = none) : decEnt v = none := by
  have hv := vtO_no hr
  match k, h with
  | 0, h =>
    obtain ⟨rfl, _⟩ := h
    simp [decEnt, hv, show vtO none = (0, none) from rfl, show teO none = (⟨#[]⟩, none) from rfl, allR]
  | 1, h =>
    obtain ⟨h1, _⟩ := h
    simp [decEnt, h1, hv, show vtO none = (0, none) from rfl, show teO none = (⟨#[]⟩, none) from rfl, allR]
  | 2, h =>
    obtain ⟨t1, h1, h2, _⟩ := h
    simp [decEnt, h1, h2, hv, show teO none = (⟨#[]⟩, none) from rfl, allR]
  | k + 3, _ => omega
theorem Fit.spec {v t : ByteArray} {x0 x1 x2 : Nat} (h : Fit v 3 t x0 x1 x2) : decEnt v = if allR (teO (some t)).2 = true ∧ encEnt (wrap64 (x0 : Int)) (wrap64 (x1 : Int)) x2 (teO (some t)).1 = some v then some (wrap64 (x0 : Int), wrap64 (x1 : Int), x2, (teO (some t)).1) else none := by
  obtain ⟨t1, t2, h1, h2, h3⟩ := h
  simp [decEnt, h1, h2, h3]
theorem Fit.rng {v t : ByteArray} {x0 x1 x2 : Nat} (h : Fit v 3 t x0 x1 x2) : x0 < 18446744073709551616 ∧ x1 < 18446744073709551616 ∧ x2 < 18446744073709551616 := by
  obtain ⟨t1, t2, h1, h2, h3⟩ := h
  have a := vtO_lt (some v)
  have b := vtO_lt (some t1)
  have c := vtO_lt (some t2)
  rw [h1] at a
  rw [h2] at b
  rw [h3] at c
  exact ⟨a, b, c⟩
set_option maxHeartbeats 4000000 in
theorem rdecEnt_any (v : ByteArray) (hv : v.size ≤ 1000000000) (w : World) :
    Calls Tryz.prog 81 #[.string v] w fun e w' => e = .returned (enV (decEnt v)) ∧ Below w.heap.size w w' := by
  go_enter Tryz.func81, Tryz.ntmps81
  go_wp2
  go_loopw [5, 16] (fun s i wr => ∃ (t : ByteArray) (x0 x1 x2 k : Nat), s = .string t ∧ i = .int .i64 k ∧ t.size ≤ 1000000000 ∧ Hid (Below w.heap.size w wr) ∧ Hid (wr.heap[w.heap.size]? = some (.cells #[.int .i64 0, .int .i64 0, .int .u64 0, .string ⟨#[]⟩] 121 (0, 0))) ∧ Hid (wr.heap[w.heap.size + 1]? = some (.cells #[.int .u64 (x0 : Int), .int .u64 (x1 : Int), .int .u64 (x2 : Int)] 174 (0, 0))) ∧ Hid (Fit v k t x0 x1 x2)) (fun _ i _ => 3 - (intOf i).toNat)
  case atStart =>
    refine ⟨v, 0, 0, 0, 0, rfl, rfl, hv, Lib.hid (below_alloc (below_alloc (Below.refl _ _) _) _), Lib.hid ?_, Lib.hid ?_, Lib.hid ⟨rfl, rfl, rfl, rfl⟩⟩
    · exact (below_alloc (Below.refl _ _) _).block _ (by simp) |>.trans (heap_alloc_new w _)
    · have := heap_alloc_new (w.alloc (.cells #[.int .i64 0, .int .i64 0, .int .u64 0, .string ⟨#[]⟩] 121)) (.cells #[.int .u64 0, .int .u64 0, .int .u64 0] 174)
      simpa using this
  case round =>
    obtain ⟨t, x0, x1, x2, k, rfl, rfl, ht, hB, hR, hA, hF⟩ := hrel
    match k, hF with
    | k + 4, hF => exact hF.out.elim
    | 0, hF =>
      have hrd := Lib.hid (fun W => readVar_any t ht W)
      cases hrv : rv t.data.toList with
      | none =>
        have hS := Lib.hid (hF.out.fail (by omega) hrv)
        rw [hrv] at hrd
        replace hrv := Lib.hid hrv
        clear hF
        go_wp2_with (fail)
        refine (hrd.out _).mono ?_
        rintro e w2 ⟨⟨er, he, rfl⟩, hb2⟩
        have hz := Lib.hid (show w.heap.size < wr.heap.size by
          rcases Nat.lt_or_ge w.heap.size wr.heap.size with h | h
          · exact h
          · have := hR.out; rw [Array.getElem?_eq_none h] at this; cases this)
        have hre := (hb2.block _ hz.out).trans hR.out
        have hbel := Lib.hid (hB.out.trans (hb2.mono hB.out.size))
        have d1 : (er != 0) = true := by simp [he]
        have f0 := blk_frozen hre 0
        have f1 := blk_frozen hre 1
        have f2 := blk_frozen hre 2
        have f3 := blk_frozen hre 3
        have r0 := (blk_cell hre 0).trans rfl
        have r1 := (blk_cell hre 1).trans rfl
        have r2 := (blk_cell hre 2).trans rfl
        have r3 := (blk_cell hre 3).trans rfl
        have hput := Lib.hid hre
        clear hre hb2 hz hrd hA hR hB
        go_wp2
        (try simp only [Exit.inBlock, Exit.then])
        exact bodyPost_ret (results_ct rfl _ _ w.heap.size _ _ _ _ rfl (put4 hput.out _ _ _ _) Tryz.underlying121 rfl (by kernel_rfl)) rfl ⟨by rw [hS.out]; rfl, put4_below hbel.out (Nat.le_refl _) _ _ _ _⟩
      | some p =>
        obtain ⟨n, z⟩ := p
        obtain ⟨b1, b2, b3, b4⟩ := rvG_bound _ 0 0 (by omega) (by simp) hrv
        have b2 : z ≤ t.size := by rw [show t.size = t.data.toList.length from rfl]; omega
        have b5 : (z : Int) ≤ (t.size : Int) := by omega
        rw [hrv] at hrd
        replace hrv := Lib.hid hrv
        go_wp2_with (fail)
        refine (hrd.out _).mono ?_
        rintro e w2 ⟨rfl, hb2⟩
        have hz := Lib.hid (show w.heap.size + 1 < wr.heap.size by
          rcases Nat.lt_or_ge (w.heap.size + 1) wr.heap.size with h | h
          · exact h
          · have := hA.out; rw [Array.getElem?_eq_none h] at this; cases this)
        have hR2 := Lib.hid ((hb2.block _ (Nat.lt_of_succ_lt hz.out)).trans hR.out)
        have hA2 := (hb2.block _ hz.out).trans hA.out
        have hB2 := Lib.hid (hB.out.trans (hb2.mono hB.out.size))
        have fA := blk_frozen hA2 0
        have qA := (blk_cell hA2 0).trans rfl
        have hA3 := Lib.hid hA2
        clear hA2 hb2 hz hrd hA hR hB
        go_wp2
        go_roundw
        case rel =>
          refine ⟨t.extract z t.size, n, x1, x2, 1, rfl, by go_num, by rw [ByteArray.size_extract]; omega, Lib.hid (hB2.out.setCell (p := ⟨w.heap.size + 1, 0, none⟩) (Nat.le_succ _) _), Lib.hid ((((Below.refl (w.heap.size + 1) w2).setCell (p := ⟨w.heap.size + 1, 0, none⟩) (Nat.le_refl _) _).block w.heap.size (Nat.lt_succ_self _)).trans hR2.out), Lib.hid ((blk_set hA3.out 0 _).trans rfl), Lib.hid ?_⟩
          · obtain ⟨rfl, _, h1, h2⟩ := hF.out
            subst h1 h2
            exact ⟨vtO_yes hrv, rfl, rfl⟩
        case measure => simp [intOf]
    | 1, hF =>
      have hrd := Lib.hid (fun W => readVar_any t ht W)
      cases hrv : rv t.data.toList with
      | none =>
        have hS := Lib.hid (hF.out.fail (by omega) hrv)
        rw [hrv] at hrd
        replace hrv := Lib.hid hrv
        clear hF
        go_wp2_with (fail)
        refine (hrd.out _).mono ?_
        rintro e w2 ⟨⟨er, he, rfl⟩, hb2⟩
        have hz := Lib.hid (show w.heap.size < wr.heap.size by
          rcases Nat.lt_or_ge w.heap.size wr.heap.size with h | h
          · exact h
          · have := hR.out; rw [Array.getElem?_eq_none h] at this; cases this)
        have hre := (hb2.block _ hz.out).trans hR.out
        have hbel := Lib.hid (hB.out.trans (hb2.mono hB.out.size))
        have d1 : (er != 0) = true := by simp [he]
        have f0 := blk_frozen hre 0
        have f1 := blk_frozen hre 1
        have f2 := blk_frozen hre 2
        have f3 := blk_frozen hre 3
        have r0 := (blk_cell hre 0).trans rfl
        have r1 := (blk_cell hre 1).trans rfl
        have r2 := (blk_cell hre 2).trans rfl
        have r3 := (blk_cell hre 3).trans rfl
        have hput := Lib.hid hre
        clear hre hb2 hz hrd hA hR hB
        go_wp2
        (try simp only [Exit.inBlock, Exit.then])
        exact bodyPost_ret (results_ct rfl _ _ w.heap.size _ _ _ _ rfl (put4 hput.out _ _ _ _) Tryz.underlying121 rfl (by kernel_rfl)) rfl ⟨by rw [hS.out]; rfl, put4_below hbel.out (Nat.le_refl _) _ _ _ _⟩
      | some p =>
        obtain ⟨n, z⟩ := p
        obtain ⟨b1, b2, b3, b4⟩ := rvG_bound _ 0 0 (by omega) (by simp) hrv
        have b2 : z ≤ t.size := by rw [show t.size = t.data.toList.length from rfl]; omega
        have b5 : (z : Int) ≤ (t.size : Int) := by omega
        rw [hrv] at hrd
        replace hrv := Lib.hid hrv
        go_wp2_with (fail)
        refine (hrd.out _).mono ?_
        rintro e w2 ⟨rfl, hb2⟩
        have hz := Lib.hid (show w.heap.size + 1 < wr.heap.size by
          rcases Nat.lt_or_ge (w.heap.size + 1) wr.heap.size with h | h
          · exact h
          · have := hA.out; rw [Array.getElem?_eq_none h] at this; cases this)
        have hR2 := Lib.hid ((hb2.block _ (Nat.lt_of_succ_lt hz.out)).trans hR.out)
        have hA2 := (hb2.block _ hz.out).trans hA.out
        have hB2 := Lib.hid (hB.out.trans (hb2.mono hB.out.size))
        have fA := blk_frozen hA2 1
        have qA := (blk_cell hA2 1).trans rfl
        have hA3 := Lib.hid hA2
        clear hA2 hb2 hz hrd hA hR hB
        go_wp2
        go_roundw
        case rel =>
          refine ⟨t.extract z t.size, x0, n, x2, 2, rfl, by go_num, by rw [ByteArray.size_extract]; omega, Lib.hid (hB2.out.setCell (p := ⟨w.heap.size + 1, 1, none⟩) (Nat.le_succ _) _), Lib.hid ((((Below.refl (w.heap.size + 1) w2).setCell (p := ⟨w.heap.size + 1, 1, none⟩) (Nat.le_refl _) _).block w.heap.size (Nat.lt_succ_self _)).trans hR2.out), Lib.hid ((blk_set hA3.out 1 _).trans rfl), Lib.hid ?_⟩
          · obtain ⟨h0, h2⟩ := hF.out
            exact ⟨_, h0, vtO_yes hrv, h2.2⟩
        case measure => simp [intOf]
    | 2, hF =>
      have hrd := Lib.hid (fun W => readVar_any t ht W)
      cases hrv : rv t.data.toList with
      | none =>
        have hS := Lib.hid (hF.out.fail (by omega) hrv)
        rw [hrv] at hrd
        replace hrv := Lib.hid hrv
        clear hF
        go_wp2_with (fail)
        refine (hrd.out _).mono ?_
        rintro e w2 ⟨⟨er, he, rfl⟩, hb2⟩
        have hz := Lib.hid (show w.heap.size < wr.heap.size by
          rcases Nat.lt_or_ge w.heap.size wr.heap.size with h | h
          · exact h
          · have := hR.out; rw [Array.getElem?_eq_none h] at this; cases this)
        have hre := (hb2.block _ hz.out).trans hR.out
        have hbel := Lib.hid (hB.out.trans (hb2.mono hB.out.size))
        have d1 : (er != 0) = true := by simp [he]
        have f0 := blk_frozen hre 0
        have f1 := blk_frozen hre 1
        have f2 := blk_frozen hre 2
        have f3 := blk_frozen hre 3
        have r0 := (blk_cell hre 0).trans rfl
        have r1 := (blk_cell hre 1).trans rfl
        have r2 := (blk_cell hre 2).trans rfl
        have r3 := (blk_cell hre 3).trans rfl
        have hput := Lib.hid hre
        clear hre hb2 hz hrd hA hR hB
        go_wp2
        (try simp only [Exit.inBlock, Exit.then])
        exact bodyPost_ret (results_ct rfl _ _ w.heap.size _ _ _ _ rfl (put4 hput.out _ _ _ _) Tryz.underlying121 rfl (by kernel_rfl)) rfl ⟨by rw [hS.out]; rfl, put4_below hbel.out (Nat.le_refl _) _ _ _ _⟩
      | some p =>
        obtain ⟨n, z⟩ := p
        obtain ⟨b1, b2, b3, b4⟩ := rvG_bound _ 0 0 (by omega) (by simp) hrv
        have b2 : z ≤ t.size := by rw [show t.size = t.data.toList.length from rfl]; omega
        have b5 : (z : Int) ≤ (t.size : Int) := by omega
        rw [hrv] at hrd
        replace hrv := Lib.hid hrv
        go_wp2_with (fail)
        refine (hrd.out _).mono ?_
        rintro e w2 ⟨rfl, hb2⟩
        have hz := Lib.hid (show w.heap.size + 1 < wr.heap.size by
          rcases Nat.lt_or_ge (w.heap.size + 1) wr.heap.size with h | h
          · exact h
          · have := hA.out; rw [Array.getElem?_eq_none h] at this; cases this)
        have hR2 := Lib.hid ((hb2.block _ (Nat.lt_of_succ_lt hz.out)).trans hR.out)
        have hA2 := (hb2.block _ hz.out).trans hA.out
        have hB2 := Lib.hid (hB.out.trans (hb2.mono hB.out.size))
        have fA := blk_frozen hA2 2
        have qA := (blk_cell hA2 2).trans rfl
        have hA3 := Lib.hid hA2
        clear hA2 hb2 hz hrd hA hR hB
        go_wp2
        go_roundw
        case rel =>
          refine ⟨t.extract z t.size, x0, x1, n, 3, rfl, by go_num, by rw [ByteArray.size_extract]; omega, Lib.hid (hB2.out.setCell (p := ⟨w.heap.size + 1, 2, none⟩) (Nat.le_succ _) _), Lib.hid ((((Below.refl (w.heap.size + 1) w2).setCell (p := ⟨w.heap.size + 1, 2, none⟩) (Nat.le_refl _) _).block w.heap.size (Nat.lt_succ_self _)).trans hR2.out), Lib.hid ((blk_set hA3.out 2 _).trans rfl), Lib.hid ?_⟩
          · obtain ⟨t1, h0, h1, h2⟩ := hF.out
            exact ⟨t1, _, h0, h1, vtO_yes hrv⟩
        case measure => simp [intOf]
    | 3, hF =>
      have hspec := Lib.hid hF.out.spec
      have hrg := hF.out.rng
      have hpt := Lib.hid (fun W => part_any t ht W)
      generalize teO (some t) = O4 at *
      obtain ⟨su, o4⟩ := O4
      simp only at hspec hpt
      have hen := Lib.hid (fun W => rencEnt_any (wrap64 (x0 : Int)) (wrap64 (x1 : Int)) x2 su (i64_rng _) (i64_rng _) hrg.2.2 W)
      obtain ⟨hx0, hx1, hx2⟩ := hrg
      have hz := Lib.hid (show w.heap.size + 1 < wr.heap.size by
          rcases Nat.lt_or_ge (w.heap.size + 1) wr.heap.size with h | h
          · exact h
          · have := hA.out; rw [Array.getElem?_eq_none h] at this; cases this)
      clear hF
      cases o4 with
      | none =>
        have hS := Lib.hid (hspec.out.trans (if_neg (fun h => by cases h.1)))
        clear hspec
        go_wp2_with (fail)
        refine (hpt.out _).mono ?_
        rintro e w2 ⟨rfl, hb2⟩
        have hR2 := Lib.hid ((hb2.block _ (Nat.lt_of_succ_lt hz.out)).trans hR.out)
        have hA2 := (hb2.block _ hz.out).trans hA.out
        have hbel := Lib.hid (hB.out.trans (hb2.mono hB.out.size))
        have qA0 := (blk_cell hA2 0).trans rfl
        have qA1 := (blk_cell hA2 1).trans rfl
        have qA2 := (blk_cell hA2 2).trans rfl
        have hz2 := Lib.hid (Nat.lt_of_lt_of_le hz.out hb2.size)
        simp only [Option.getD_none, Option.getD_some, Option.isSome_none, Option.isSome_some]
        clear hA2 hA hR hB hpt hb2 hz
        have hre := hR2.out
        have f0 := blk_frozen hre 0
        have f1 := blk_frozen hre 1
        have f2 := blk_frozen hre 2
        have f3 := blk_frozen hre 3
        have r0 := (blk_cell hre 0).trans rfl
        have r1 := (blk_cell hre 1).trans rfl
        have r2 := (blk_cell hre 2).trans rfl
        have r3 := (blk_cell hre 3).trans rfl
        have hput := Lib.hid hre
        clear hre hz2 hen hR2
        go_wp2
        (try simp only [Exit.inBlock, Exit.then])
        exact bodyPost_ret (results_ct rfl _ _ w.heap.size _ _ _ _ rfl (put4 hput.out _ _ _ _) Tryz.underlying121 rfl (by kernel_rfl)) rfl ⟨by rw [hS.out]; rfl, put4_below hbel.out (Nat.le_refl _) _ _ _ _⟩
      | some t4 =>
        by_cases h4 : t4.size = 0
        · by_cases y0 : 9223372036854775808 ≤ x0
          · have hE : encEnt (wrap64 (x0 : Int)) (wrap64 (x1 : Int)) x2 su = none := by
              unfold encEnt
              rw [if_pos (Or.inl (by unfold wrap64; omega))]
            have hS := Lib.hid (hspec.out.trans (if_neg (fun h => by rw [hE] at h; cases h.2)))
            replace hE := Lib.hid hE
            have d1 : decide ((9223372036854775808 : Int) ≤ (x0 : Int)) = true := decide_eq_true (by omega)
            obtain rfl : t4 = ⟨#[]⟩ := ByteArray.ext (Array.eq_empty_of_size_eq_zero h4)
            clear hspec h4
            go_wp2_with (fail)
            refine (hpt.out _).mono ?_
            rintro e w2 ⟨rfl, hb2⟩
            have hR2 := Lib.hid ((hb2.block _ (Nat.lt_of_succ_lt hz.out)).trans hR.out)
            have hA2 := (hb2.block _ hz.out).trans hA.out
            have hbel := Lib.hid (hB.out.trans (hb2.mono hB.out.size))
            have qA0 := (blk_cell hA2 0).trans rfl
            have qA1 := (blk_cell hA2 1).trans rfl
            have qA2 := (blk_cell hA2 2).trans rfl
            have hz2 := Lib.hid (Nat.lt_of_lt_of_le hz.out hb2.size)
            simp only [Option.getD_none, Option.getD_some, Option.isSome_none, Option.isSome_some]
            clear hA2 hA hR hB hpt hb2 hz
            have hre := hR2.out
            have f0 := blk_frozen hre 0
            have f1 := blk_frozen hre 1
            have f2 := blk_frozen hre 2
            have f3 := blk_frozen hre 3
            have r0 := (blk_cell hre 0).trans rfl
            have r1 := (blk_cell hre 1).trans rfl
            have r2 := (blk_cell hre 2).trans rfl
            have r3 := (blk_cell hre 3).trans rfl
            have hput := Lib.hid hre
            clear hre hz2 hen hR2
            go_wp2
            (try simp only [Exit.inBlock, Exit.then])
            exact bodyPost_ret (results_ct rfl _ _ w.heap.size _ _ _ _ rfl (put4 hput.out _ _ _ _) Tryz.underlying121 rfl (by kernel_rfl)) rfl ⟨by rw [hS.out]; rfl, put4_below hbel.out (Nat.le_refl _) _ _ _ _⟩
          · by_cases y1 : 9223372036854775808 ≤ x1
            · have hE : encEnt (wrap64 (x0 : Int)) (wrap64 (x1 : Int)) x2 su = none := by
                unfold encEnt
                rw [if_pos (Or.inr (Or.inl (by unfold wrap64; omega)))]
              have hS := Lib.hid (hspec.out.trans (if_neg (fun h => by rw [hE] at h; cases h.2)))
              replace hE := Lib.hid hE
              have d1 : decide ((9223372036854775808 : Int) ≤ (x0 : Int)) = false := decide_eq_false (by omega)
              have d2 : decide ((9223372036854775808 : Int) ≤ (x1 : Int)) = true := decide_eq_true (by omega)
              obtain rfl : t4 = ⟨#[]⟩ := ByteArray.ext (Array.eq_empty_of_size_eq_zero h4)
              clear hspec h4
              go_wp2_with (fail)
              refine (hpt.out _).mono ?_
              rintro e w2 ⟨rfl, hb2⟩
              have hR2 := Lib.hid ((hb2.block _ (Nat.lt_of_succ_lt hz.out)).trans hR.out)
              have hA2 := (hb2.block _ hz.out).trans hA.out
              have hbel := Lib.hid (hB.out.trans (hb2.mono hB.out.size))
              have qA0 := (blk_cell hA2 0).trans rfl
              have qA1 := (blk_cell hA2 1).trans rfl
              have qA2 := (blk_cell hA2 2).trans rfl
              have hz2 := Lib.hid (Nat.lt_of_lt_of_le hz.out hb2.size)
              simp only [Option.getD_none, Option.getD_some, Option.isSome_none, Option.isSome_some]
              clear hA2 hA hR hB hpt hb2 hz
              have hre := hR2.out
              have f0 := blk_frozen hre 0
              have f1 := blk_frozen hre 1
              have f2 := blk_frozen hre 2
              have f3 := blk_frozen hre 3
              have r0 := (blk_cell hre 0).trans rfl
              have r1 := (blk_cell hre 1).trans rfl
              have r2 := (blk_cell hre 2).trans rfl
              have r3 := (blk_cell hre 3).trans rfl
              have hput := Lib.hid hre
              clear hre hz2 hen hR2
              go_wp2
              (try simp only [Exit.inBlock, Exit.then])
              exact bodyPost_ret (results_ct rfl _ _ w.heap.size _ _ _ _ rfl (put4 hput.out _ _ _ _) Tryz.underlying121 rfl (by kernel_rfl)) rfl ⟨by rw [hS.out]; rfl, put4_below hbel.out (Nat.le_refl _) _ _ _ _⟩
            · have d1 : decide ((9223372036854775808 : Int) ≤ (x0 : Int)) = false := decide_eq_false (by omega)
              have d2 : decide ((9223372036854775808 : Int) ≤ (x1 : Int)) = false := decide_eq_false (by omega)
              obtain rfl : t4 = ⟨#[]⟩ := ByteArray.ext (Array.eq_empty_of_size_eq_zero h4)
              have w0 : wrap64 (x0 : Int) = (x0 : Int) := IntWalk.wrap64_in _ (by omega)
              have w1 : wrap64 (x1 : Int) = (x1 : Int) := IntWalk.wrap64_in _ (by omega)
              rw [w0, w1] at hspec hen
              clear w0 w1
              have hall := Lib.hid (show allR (some (⟨#[]⟩ : ByteArray)) = true from rfl)
              clear h4
              go_wp2_with (fail)
              refine (hpt.out _).mono ?_
              rintro e w2 ⟨rfl, hb2⟩
              have hR2 := Lib.hid ((hb2.block _ (Nat.lt_of_succ_lt hz.out)).trans hR.out)
              have hA2 := (hb2.block _ hz.out).trans hA.out
              have hbel := Lib.hid (hB.out.trans (hb2.mono hB.out.size))
              have qA0 := (blk_cell hA2 0).trans rfl
              have qA1 := (blk_cell hA2 1).trans rfl
              have qA2 := (blk_cell hA2 2).trans rfl
              have hz2 := Lib.hid (Nat.lt_of_lt_of_le hz.out hb2.size)
              simp only [Option.getD_none, Option.getD_some, Option.isSome_none, Option.isSome_some]
              clear hA2 hA hR hB hpt hb2 hz
              have hbxH := Lib.hid (heap_alloc_new w2 (.cells #[.int .i64 (x0 : Int), .int .i64 (x1 : Int), .int .u64 (x2 : Int), .string su] 121))
              have hB7 := Lib.hid (below_alloc hbel.out (.cells #[.int .i64 (x0 : Int), .int .i64 (x1 : Int), .int .u64 (x2 : Int), .string su] 121))
              have hR7 := Lib.hid (((below_alloc (Below.refl w2.heap.size w2) (.cells #[.int .i64 (x0 : Int), .int .i64 (x1 : Int), .int .u64 (x2 : Int), .string su] 121)).block w.heap.size (Nat.lt_of_succ_lt hz2.out)).trans hR2.out)
              have hz7 := Lib.hid (show w2.heap.size < (w2.alloc (.cells #[.int .i64 (x0 : Int), .int .i64 (x1 : Int), .int .u64 (x2 : Int), .string su] 121)).heap.size by simp)
              have hz8 := Lib.hid (Nat.lt_trans (Nat.lt_of_succ_lt hz2.out) hz7.out)
              have q0 := (blk_cell hbxH.out 0).trans rfl
              have q1 := (blk_cell hbxH.out 1).trans rfl
              have q2 := (blk_cell hbxH.out 2).trans rfl
              have q3 := (blk_cell hbxH.out 3).trans rfl
              clear hbel hR2 hz2
              go_wp2_with (fail)
              generalize w2.alloc (.cells #[.int .i64 (x0 : Int), .int .i64 (x1 : Int), .int .u64 (x2 : Int), .string su] 121) = w7 at *
              refine (hen.out _).mono ?_
              rintro e w9 ⟨rfl, hb9⟩
              have hbx9 := Lib.hid ((hb9.block _ hz7.out).trans hbxH.out)
              have hre := (hb9.block _ hz8.out).trans hR7.out
              have hbel := Lib.hid (hB7.out.trans (hb9.mono hB7.out.size))
              clear q0 q1 q2 q3
              have q0 := (blk_cell hbx9.out 0).trans rfl
              have q1 := (blk_cell hbx9.out 1).trans rfl
              have q2 := (blk_cell hbx9.out 2).trans rfl
              have q3 := (blk_cell hbx9.out 3).trans rfl
              have f0 := blk_frozen hre 0
              have f1 := blk_frozen hre 1
              have f2 := blk_frozen hre 2
              have f3 := blk_frozen hre 3
              have r0 := (blk_cell hre 0).trans rfl
              have r1 := (blk_cell hre 1).trans rfl
              have r2 := (blk_cell hre 2).trans rfl
              have r3 := (blk_cell hre 3).trans rfl
              have hput := Lib.hid hre
              clear hb9 hen hre hbxH hbx9 hB7 hz7 hz8 hR7
              cases hE : encEnt (x0 : Int) (x1 : Int) x2 su with
              | none =>
                have hS := Lib.hid (hspec.out.trans (if_neg (fun h => by rw [hE] at h; cases h.2)))
                replace hE := Lib.hid hE
                clear hspec hall
                simp only [ledV]
                go_wp2
                (try simp only [Exit.inBlock, Exit.then])
                exact bodyPost_ret (results_ct rfl _ _ w.heap.size _ _ _ _ rfl (put4 hput.out _ _ _ _) Tryz.underlying121 rfl (by kernel_rfl)) rfl ⟨by rw [hS.out]; rfl, put4_below hbel.out (Nat.le_refl _) _ _ _ _⟩
              | some s =>
                simp only [ledV]
                by_cases hsv : s = v
                · have hS := Lib.hid (hspec.out.trans (if_pos ⟨hall.out, by rw [hE, hsv]⟩))
                  have d3 : (s.toList == v.toList) = true := by rw [hsv]; simp
                  replace hE := Lib.hid hE
                  replace hsv := Lib.hid hsv
                  clear hspec hall
                  go_wp2
                  (try simp only [Exit.inBlock, Exit.then])
                  exact bodyPost_ret (results_ct rfl _ _ w.heap.size _ _ _ _ rfl (put4 hput.out _ _ _ _) Tryz.underlying121 rfl (by kernel_rfl)) rfl ⟨by rw [hS.out]; rfl, put4_below hbel.out (Nat.le_refl _) _ _ _ _⟩
                · have hS := Lib.hid (hspec.out.trans (if_neg (fun h => hsv (by have := h.2; rw [hE] at this; exact Option.some.inj this))))
                  have d3 : (s.toList == v.toList) = false := by
                    rw [beq_eq_false_iff_ne]
                    intro h
                    refine hsv (ByteArray.ext (Array.toList_inj.mp ?_))
                    rw [← ByteArray.toList_eq, ← ByteArray.toList_eq]
                    exact h
                  replace hE := Lib.hid hE
                  replace hsv := Lib.hid hsv
                  clear hspec hall
                  go_wp2
                  (try simp only [Exit.inBlock, Exit.then])
                  exact bodyPost_ret (results_ct rfl _ _ w.heap.size _ _ _ _ rfl (put4 hput.out _ _ _ _) Tryz.underlying121 rfl (by kernel_rfl)) rfl ⟨by rw [hS.out]; rfl, put4_below hbel.out (Nat.le_refl _) _ _ _ _⟩
        · have hS := Lib.hid (hspec.out.trans (if_neg (fun h => h4 (of_decide_eq_true h.1))))
          have d1 : (t4.toList == []) = false := by
            rw [beq_eq_false_iff_ne]
            intro h
            rw [ByteArray.toList_eq] at h
            exact h4 (by rw [show t4.size = t4.data.toList.length from rfl, h]; rfl)
          replace h4 := Lib.hid h4
          clear hspec
          go_wp2_with (fail)
          refine (hpt.out _).mono ?_
          rintro e w2 ⟨rfl, hb2⟩
          have hR2 := Lib.hid ((hb2.block _ (Nat.lt_of_succ_lt hz.out)).trans hR.out)
          have hA2 := (hb2.block _ hz.out).trans hA.out
          have hbel := Lib.hid (hB.out.trans (hb2.mono hB.out.size))
          have qA0 := (blk_cell hA2 0).trans rfl
          have qA1 := (blk_cell hA2 1).trans rfl
          have qA2 := (blk_cell hA2 2).trans rfl
          have hz2 := Lib.hid (Nat.lt_of_lt_of_le hz.out hb2.size)
          simp only [Option.getD_none, Option.getD_some, Option.isSome_none, Option.isSome_some]
          clear hA2 hA hR hB hpt hb2 hz
          have hre := hR2.out
          have f0 := blk_frozen hre 0
          have f1 := blk_frozen hre 1
          have f2 := blk_frozen hre 2
          have f3 := blk_frozen hre 3
          have r0 := (blk_cell hre 0).trans rfl
          have r1 := (blk_cell hre 1).trans rfl
          have r2 := (blk_cell hre 2).trans rfl
          have r3 := (blk_cell hre 3).trans rfl
          have hput := Lib.hid hre
          clear hre hz2 hen hR2
          go_wp2_with (fail)
          (try simp only [Exit.inBlock, Exit.then])
          exact bodyPost_ret (results_ct rfl _ _ w.heap.size _ _ _ _ rfl (put4 hput.out _ _ _ _) Tryz.underlying121 rfl (by kernel_rfl)) rfl ⟨by rw [hS.out]; rfl, put4_below hbel.out (Nat.le_refl _) _ _ _ _⟩
end Go.Proofs.YtmchephokleffaaGreatDoor
