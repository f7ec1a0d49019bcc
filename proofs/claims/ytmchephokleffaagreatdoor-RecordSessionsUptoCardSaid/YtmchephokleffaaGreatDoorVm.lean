/-
  Chapter 22: a ledger's value, written and read back, walked.
-/
import Derived.Deep.RegionHeld3
import Derived.Test.YtmchephokleffaaGreatDoorVl
import Derived.Test.YtmchephokleffaaGreatDoorQ4
set_option linter.unusedVariables false
set_option linter.unusedSimpArgs false
namespace Go.Proofs.YtmchephokleffaaGreatDoor
open Go.RowKit Go.Proofs.YtmchephokleffaaGreatDoorW.PrintWords Go.Proofs.YtmchephokleffaaGreatDoor.PRecord
attribute [local go_sem high] eqLedger
def doneR (s : ByteArray) (err : Int) : Int := if err ≠ 0 then err else if 0 < s.size then 22 else 0
set_option maxHeartbeats 1000000 in
theorem done_rd {g : Nat} {s : ByteArray} {err : Int} {w : World} (h : CR w g s err) :
    Calls Tryz.prog 65 #[.pointer (some ⟨g, 0, none⟩)] w fun e w' => e = .returned (.int .i64 (doneR s err)) ∧ w = w' := by
  have he := Lib.hid (err_rd h)
  obtain ⟨hb⟩ := h
  have k0 := (blk_cell hb 0).trans rfl
  clear hb
  by_cases h0 : err = 0
  · subst h0
    by_cases hs : 0 < s.size
    · have e1 : doneR s 0 = 22 := by simp [doneR, hs]
      rw [e1]
      clear e1
      go_enter Tryz.func65, Tryz.ntmps65
      go_wp2_with (fail)
      refine he.out.mono ?_
      rintro e w2 ⟨rfl, rfl⟩
      go_wp2
      go_ret
      exact ⟨rfl, rfl⟩
    · have e1 : doneR s 0 = 0 := by unfold doneR; rw [if_neg (by simp), if_neg hs]
      have hs0 : s.size = 0 := by omega
      have hs1 : decide (0 < s.size) = false := decide_eq_false hs
      replace hs0 := Lib.hid hs0
      clear hs
      rw [e1]
      clear e1
      go_enter Tryz.func65, Tryz.ntmps65
      go_wp2_with (fail)
      refine he.out.mono ?_
      rintro e w2 ⟨rfl, rfl⟩
      go_wp2
      go_ret
      exact ⟨rfl, rfl⟩
  · have e1 : doneR s err = err := by simp [doneR, h0]
    have h2 : (err != 0) = true := by simp [h0]
    rw [e1]
    clear e1
    go_enter Tryz.func65, Tryz.ntmps65
    go_wp2_with (fail)
    refine he.out.mono ?_
    rintro e w2 ⟨rfl, rfl⟩
    go_wp2
    go_ret
    exact ⟨rfl, rfl⟩
/-- A ledger's value. -/
def encLed (nx en : Nat) (hd : ByteArray) : Option ByteArray := if hd.size ≠ 32 ∨ nx = 0 then none else some (Bd.B (be 8 nx ++ be 8 en ++ hd.data.toList))
def ledV : Option ByteArray → Value
  | none => .tuple #[.string ⟨#[]⟩, .int .i64 221]
  | some s => .tuple #[.string s, .int .i64 0]
end Go.Proofs.YtmchephokleffaaGreatDoor
/-
  Chapter 22: a ledger's value read, walked; the references; the law RecordLedgers.
-/
set_option linter.unusedVariables false
set_option linter.unusedSimpArgs false
namespace Go.Proofs.YtmchephokleffaaGreatDoor
open Go.RowKit Go.Proofs.YtmchephokleffaaGreatDoorW.PrintWords Go.Proofs.YtmchephokleffaaGreatDoor.PRecord
attribute [local go_sem high] eqLedger
/-- A ledger out of its value. -/
def decLed (v : ByteArray) : Option (Nat × Nat × ByteArray) :=
  if v.size ≠ 48 ∨ beN (v.extract 0 8).data.toList = 0 then none else some (beN (v.extract 0 8).data.toList, beN (v.extract 8 16).data.toList, v.extract 16 v.size)
def ldV : Option (Nat × Nat × ByteArray) → Value
  | none => .tuple #[.agg #[.int .u64 0, .int .u64 0, .string ⟨#[]⟩], .int .i64 221]
  | some (a, b, s) => .tuple #[.agg #[.int .u64 (a : Int), .int .u64 (b : Int), .string s], .int .i64 0]
set_option maxHeartbeats 1000000 in
/-- What three takes of 8, 8 and 32 bytes give. -/
theorem three_takes (v : ByteArray) (R1 R2 R3 : ByteArray × ByteArray × Int) (h1 : R1 = rawR v 0 8) (h2 : R2 = rawR R1.2.1 R1.2.2 8) (h3 : R3 = rawR R2.2.1 R2.2.2 32) :
    (v.size = 48 → doneR R3.2.1 R3.2.2 = 0 ∧ R1.1 = v.extract 0 8 ∧ R2.1 = v.extract 8 16 ∧ R3.1 = v.extract 16 v.size) ∧ (v.size ≠ 48 → doneR R3.2.1 R3.2.2 ≠ 0) := by
  have hs : ∀ (s : ByteArray) (n m : Nat), (s.extract n m).size = min m s.size - n := fun s n m => ByteArray.size_extract ..
  have herr : ∀ (s : ByteArray) (e : Int) (n : Int), e ≠ 0 → rawR s e n = (⟨#[]⟩, s, e) := fun s e n h => by unfold rawR; rw [if_pos h]
  have hshort : ∀ (s : ByteArray) (n : Nat), s.size < n → rawR s 0 (n : Int) = (⟨#[]⟩, s, 20) := fun s n h => by unfold rawR; rw [if_neg (by simp), if_neg (by omega), if_pos (by omega)]
  have hd : ∀ (s : ByteArray) (e : Int), e ≠ 0 → doneR s e ≠ 0 := fun s e h => by unfold doneR; rw [if_pos h]; exact h
  by_cases c1 : v.size < 8
  · have e1 := hshort v 8 c1
    rw [show ((8 : Nat) : Int) = 8 from rfl] at e1
    rw [e1] at h1
    subst h1
    simp only [herr _ 20 _ (by omega : (20 : Int) ≠ 0)] at h2
    subst h2
    simp only [herr _ 20 _ (by omega : (20 : Int) ≠ 0)] at h3
    subst h3
    exact ⟨fun h => by omega, fun _ => hd _ _ (by simp)⟩
  · have e1 := raw_cut v 8 (by omega)
    rw [show ((8 : Nat) : Int) = 8 from rfl] at e1
    rw [e1] at h1
    subst h1
    simp only at h2
    have z1 := hs v 8 v.size
    by_cases c2 : v.size < 16
    · have e2 := hshort (v.extract 8 v.size) 8 (by omega)
      rw [show ((8 : Nat) : Int) = 8 from rfl] at e2
      rw [e2] at h2
      subst h2
      simp only [herr _ 20 _ (by omega : (20 : Int) ≠ 0)] at h3
      subst h3
      exact ⟨fun h => by omega, fun _ => hd _ _ (by simp)⟩
    · have e2 := raw_cut (v.extract 8 v.size) 8 (by omega)
      rw [show ((8 : Nat) : Int) = 8 from rfl] at e2
      rw [e2] at h2
      subst h2
      simp only at h3
      have z2 := hs (v.extract 8 v.size) 8 (v.extract 8 v.size).size
      by_cases c3 : v.size < 48
      · have e3 := hshort ((v.extract 8 v.size).extract 8 (v.extract 8 v.size).size) 32 (by omega)
        rw [show ((32 : Nat) : Int) = 32 from rfl] at e3
        rw [e3] at h3
        subst h3
        exact ⟨fun h => by omega, fun _ => hd _ _ (by simp)⟩
      · have e3 := raw_cut ((v.extract 8 v.size).extract 8 (v.extract 8 v.size).size) 32 (by omega)
        rw [show ((32 : Nat) : Int) = 32 from rfl] at e3
        rw [e3] at h3
        subst h3
        have z3 := hs ((v.extract 8 v.size).extract 8 (v.extract 8 v.size).size) 32 ((v.extract 8 v.size).extract 8 (v.extract 8 v.size).size).size
        constructor
        · intro h
          refine ⟨?_, rfl, ?_, ?_⟩
          · simp only [doneR]
            rw [if_neg (by simp), if_neg (by omega)]
          · show (v.extract 8 v.size).extract 0 8 = v.extract 8 16
            rw [ByteArray.extract_extract, show min (8 + 8) v.size = 16 from by omega]
          · show ((v.extract 8 v.size).extract 8 (v.extract 8 v.size).size).extract 0 32 = v.extract 16 v.size
            rw [ByteArray.extract_extract, ByteArray.extract_extract, z1, h, show min (8 + min (8 + 32) (min 48 48 - 8)) 48 = 48 from rfl]
        · intro h
          simp only [doneR]
          rw [if_neg (by simp), if_pos (by omega)]
          simp
theorem rawR_left (s : ByteArray) (err : Int) (n : Nat) : (rawR s err n).2.1.size ≤ s.size := by
  unfold rawR
  split
  · exact Nat.le_refl _
  · split
    · exact Nat.le_refl _
    · split
      · exact Nat.le_refl _
      · simp
theorem put3 {W : World} {g : Nat} {T : TypeId} {a b c : Value} (h : W.heap[g]? = some (.cells #[a, b, c] T (0, 0))) (a2 b2 c2 : Value) : (((W.setCell ⟨g, 0, none⟩ a2).setCell ⟨g, 1, none⟩ b2).setCell ⟨g, 2, none⟩ c2).heap[g]? = some (.cells #[a2, b2, c2] T (0, 0)) := by
  rw [blk_set (blk_set (blk_set h 0 a2) 1 b2) 2 c2]
  rfl
theorem put3_below {w W : World} {g : Nat} (h : Below w.heap.size w W) (hg : w.heap.size ≤ g) (a2 b2 c2 : Value) : Below w.heap.size w (((W.setCell ⟨g, 0, none⟩ a2).setCell ⟨g, 1, none⟩ b2).setCell ⟨g, 2, none⟩ c2) :=
  ((h.setCell (p := ⟨g, 0, none⟩) hg _).setCell (p := ⟨g, 1, none⟩) hg _).setCell (p := ⟨g, 2, none⟩) hg _
set_option maxHeartbeats 4000000 in
theorem decLed_any (v : ByteArray) (hv : v.size ≤ 1000000000) (w : World) :
    Calls Tryz.prog 117 #[.string v] w fun e w' => e = .returned (ldV (decLed v)) ∧ Below w.heap.size w w' := by
  obtain ⟨W0, hW0⟩ : ∃ W0, W0 = w.alloc (.cells #[.int .u64 0, .int .u64 0, .string ⟨#[]⟩] 62) := ⟨_, rfl⟩
  have hr0 : W0.heap[w.heap.size]? = some (.cells #[.int .u64 0, .int .u64 0, .string ⟨#[]⟩] 62 (0, 0)) := by rw [hW0]; exact heap_alloc_new w _
  have hB0 := Lib.hid (show Below w.heap.size w W0 by rw [hW0]; exact (Below.refl _ _).alloc (Nat.le_refl _) _)
  have hz0 : w.heap.size < W0.heap.size := by rw [hW0]; simp
  have hres : Hid (∀ W, Below W0.heap.size W0 W → W.heap[w.heap.size]? = some (.cells #[.int .u64 0, .int .u64 0, .string ⟨#[]⟩] 62 (0, 0)) ∧ Below w.heap.size w W) := Lib.hid (fun W h => ⟨(h.block _ hz0).trans hr0, hB0.out.trans (h.mono (Nat.le_of_lt hz0))⟩)
  obtain ⟨R1, hR1⟩ : ∃ R1, R1 = rawR v 0 8 := ⟨_, rfl⟩
  obtain ⟨R2, hR2⟩ : ∃ R2, R2 = rawR R1.2.1 R1.2.2 8 := ⟨_, rfl⟩
  obtain ⟨R3, hR3⟩ : ∃ R3, R3 = rawR R2.2.1 R2.2.2 32 := ⟨_, rfl⟩
  have h3 := three_takes v R1 R2 R3 hR1 hR2 hR3
  have hl1 : R1.2.1.size ≤ v.size := by rw [hR1]; exact rawR_left v 0 8
  have hl2 : R2.2.1.size ≤ R1.2.1.size := by rw [hR2]; exact rawR_left _ _ 8
  have hx1 : beN R1.1.data.toList < 18446744073709551616 := by
    have h1 := beN_lt R1.1.data.toList
    have h2 : R1.1.data.toList.length ≤ 8 := by rw [len_data, hR1]; exact rawR_size v 0 8
    exact Nat.lt_of_lt_of_le h1 (Nat.le_trans (Nat.pow_le_pow_right (by omega) h2) (by decide))
  have hu1 := Lib.hid (fun (W : World) (g : Nat) (h : CR W g v 0) => U64_rd (show v.size ≤ maxLen by unfold maxLen; omega) h)
  have hu2 := Lib.hid (fun (W : World) (g : Nat) (h : CR W g R1.2.1 R1.2.2) => U64_rd (show R1.2.1.size ≤ maxLen by unfold maxLen; omega) h)
  have hu3 := Lib.hid (fun (W : World) (g : Nat) (h : CR W g R2.2.1 R2.2.2) => Raw_rd 32 h)
  rw [← hR1] at hu1
  rw [← hR2] at hu2
  rw [← hR3] at hu3
  obtain ⟨D, hD⟩ : ∃ D, D = doneR R3.2.1 R3.2.2 := ⟨_, rfl⟩
  rw [← hD] at h3
  have hdn := Lib.hid (fun (W : World) (g : Nat) (h : CR W g R3.2.1 R3.2.2) => done_rd h)
  rw [← hD] at hdn
  have hspec : Hid (ldV (decLed v) = if D = 0 ∧ beN R1.1.data.toList ≠ 0 then .tuple #[.agg #[.int .u64 ((beN R1.1.data.toList : Nat) : Int), .int .u64 ((beN R2.1.data.toList : Nat) : Int), .string R3.1], .int .i64 0] else .tuple #[.agg #[.int .u64 0, .int .u64 0, .string ⟨#[]⟩], .int .i64 221]) := Lib.hid (by
    by_cases h48 : v.size = 48
    · obtain ⟨hd0, q1, q2, q3⟩ := h3.1 h48
      rw [q1, q2, q3]
      unfold decLed
      by_cases hz : beN (v.extract 0 8).data.toList = 0
      · rw [if_pos (Or.inr hz), if_neg (fun h => h.2 hz)]
        rfl
      · rw [if_neg (fun h => h.elim (fun h => h h48) hz), if_pos ⟨hd0, hz⟩]
        rfl
    · have := h3.2 h48
      unfold decLed
      rw [if_pos (Or.inl h48), if_neg (fun h => this h.1)]
      rfl)
  generalize beN R1.1.data.toList = x1 at *
  generalize beN R2.1.data.toList = x2 at *
  replace hR1 := Lib.hid hR1
  replace hR2 := Lib.hid hR2
  replace hR3 := Lib.hid hR3
  replace hD := Lib.hid hD
  have hW0H := Lib.hid hW0
  clear h3 hr0 hB0 hW0
  go_enter Tryz.func117, Tryz.ntmps117
  go_wp2_with (fail)
  rw [← hW0H.out]
  refine (newReader_any v W0).mono ?_
  rintro e w2 ⟨rfl, hc2, hb2⟩
  replace hc2 := Lib.hid hc2
  replace hb2 := Lib.hid hb2
  go_wp2_with (fail)
  refine (hu1.out _ _ hc2.out).mono ?_
  rintro e w3 ⟨rfl, hc3, hb3⟩
  replace hc3 := Lib.hid hc3
  have hB3 := Lib.hid (hb2.out.trans hb3)
  clear hc2 hb2 hb3 hu1
  go_wp2_with (fail)
  refine (hu2.out _ _ hc3.out).mono ?_
  rintro e w4 ⟨rfl, hc4, hb4⟩
  replace hc4 := Lib.hid hc4
  have hB4 := Lib.hid (hB3.out.trans hb4)
  clear hc3 hB3 hb4 hu2
  go_wp2_with (fail)
  refine (hu3.out _ _ hc4.out).mono ?_
  rintro e w5 ⟨rfl, hc5, hb5⟩
  have hB5 := Lib.hid (hB4.out.trans hb5)
  have hc6 := Lib.hid (hc5.below (below_alloc (Below.refl w5.heap.size w5) (.cells #[.int .u64 (x1 : Int), .int .u64 (x2 : Int), .string R3.1] 62)))
  have hbx := heap_alloc_new w5 (.cells #[.int .u64 (x1 : Int), .int .u64 (x2 : Int), .string R3.1] 62)
  have hB6 := Lib.hid (below_alloc hB5.out (.cells #[.int .u64 (x1 : Int), .int .u64 (x2 : Int), .string R3.1] 62))
  have hbxH := Lib.hid hbx
  clear hc4 hB4 hb5 hc5 hu3 hbx
  go_wp2_with (fail)
  generalize w5.alloc (.cells #[.int .u64 (x1 : Int), .int .u64 (x2 : Int), .string R3.1] 62) = w6 at *
  generalize w5.heap.size = gb at *
  refine (hdn.out _ _ hc6.out).mono ?_
  rintro e w7 ⟨rfl, rfl⟩
  obtain ⟨hre, hbel⟩ := hres.out w6 hB6.out
  have q0 := (blk_cell hbxH.out 0).trans rfl
  have q1 := (blk_cell hbxH.out 1).trans rfl
  have q2 := (blk_cell hbxH.out 2).trans rfl
  have f0 := blk_frozen hre 0
  have f1 := blk_frozen hre 1
  have f2 := blk_frozen hre 2
  have r0 := (blk_cell hre 0).trans rfl
  have r1 := (blk_cell hre 1).trans rfl
  have r2 := (blk_cell hre 2).trans rfl
  have hput := Lib.hid hre
  replace hbel := Lib.hid hbel
  clear hc6 hdn hre hbxH hB6 hres hB5 hW0H
  by_cases hD0 : D = 0
  · subst hD0
    by_cases hx0 : x1 = 0
    · have hS := Lib.hid (hspec.out.trans (if_neg (fun h => h.2 hx0)))
      have d1 : ((x1 : Int) == 0) = true := by rw [hx0]; rfl
      replace hx0 := Lib.hid hx0
      clear hspec
      go_wp2
      exact bodyPost_ret (results_ct rfl _ _ w.heap.size _ _ _ _ rfl (put3 hput.out _ _ _) Tryz.underlying62 rfl (by kernel_rfl)) rfl ⟨by rw [hS.out]; rfl, put3_below hbel.out (Nat.le_refl _) _ _ _⟩
    · have hS := Lib.hid (hspec.out.trans (if_pos ⟨rfl, hx0⟩))
      have d1 : ((x1 : Int) == 0) = false := by simp; omega
      clear hspec
      go_wp2
      exact bodyPost_ret (results_ct rfl _ _ w.heap.size _ _ _ _ rfl (put3 hput.out _ _ _) Tryz.underlying62 rfl (by kernel_rfl)) rfl ⟨by rw [hS.out]; rfl, put3_below hbel.out (Nat.le_refl _) _ _ _⟩
  · have hS := Lib.hid (hspec.out.trans (if_neg (fun h => hD0 h.1)))
    have d1 : (D != 0) = true := by simp [hD0]
    clear hspec
    go_wp2
    exact bodyPost_ret (results_ct rfl _ _ w.heap.size _ _ _ _ rfl (put3 hput.out _ _ _) Tryz.underlying62 rfl (by kernel_rfl)) rfl ⟨by rw [hS.out]; rfl, put3_below hbel.out (Nat.le_refl _) _ _ _⟩
end Go.Proofs.YtmchephokleffaaGreatDoor
/-
  Chapter 22: the references on numbers and ledgers.
-/
set_option linter.unusedVariables false
set_option linter.unusedSimpArgs false
namespace Go.Proofs.YtmchephokleffaaGreatDoor
open Go.RowKit Go.Proofs.YtmchephokleffaaGreatDoorW.PrintWords Go.Proofs.YtmchephokleffaaGreatDoor.PRecord
theorem below_then3 {w6 W W2 : World} (h1 : Below w6.heap.size w6 W) (h2 : Below W.heap.size W W2) : Below w6.heap.size w6 W2 := h1.trans (h2.mono h1.size)
theorem shr_pow (n i : Nat) (hi : i < 8) : shr .u64 (n : Int) (8 * (i : Int)) % 256 = ((n / 256 ^ i % 256 : Nat) : Int) := by
  have e1 : (8 * (i : Int)).toNat = 8 * i := by omega
  unfold shr
  rw [e1, show min (8 * i) IntKind.u64.bits = 8 * i from Nat.min_eq_left (by show 8 * i ≤ 64; omega), show ((2 : Int) ^ (8 * i)) = ((256 ^ i : Nat) : Int) from by rw [Int.pow_mul]; simp]
  omega
theorem num_l0 (n : Nat) : ∀ (j : Nat) (acc : List Int), j ≤ 8 → acc.length + j ≤ 1000 → atriumref02_Number.l0 (j + 1) (n : Int) acc ((j : Int) - 1) = some (strOfNums (acc ++ bi (be j n)))
  | 0, acc, _, _ => by
    rw [atriumref02_Number.l0, if_neg (by omega)]
    simp [be, bi]
  | j + 1, acc, hj, ha => by
    have e1 : (((j + 1 : Nat) : Int) - 1) = (j : Int) := by omega
    have e2 : wrap64 (8 * (j : Int)) = 8 * (j : Int) := IntWalk.wrap64_in _ (by omega)
    have e3 : wrap64 ((j : Int) - 1) = (j : Int) - 1 := IntWalk.wrap64_in _ (by omega)
    rw [atriumref02_Number.l0, e1, if_pos (by omega), e2, if_pos (by omega), if_pos (by omega), e3, shr_pow n j (by omega), num_l0 n j _ (by omega) (by simp; omega)]
    simp only [be, bi, List.append_assoc, List.map_cons, List.singleton_append]
    congr 3
theorem number_any (n : Nat) (w : World) : Calls Tryz.prog 61 #[.int .u64 (n : Int), .int .i64 8] w fun e w' => e = .returned (.string (Bd.B (be 8 n))) ∧ Below w.heap.size w w' :=
  atriumref02_Number.calls 9 (n : Int) 8 (Bd.B (be 8 n)) w (by
    unfold atriumref02_Number.f
    rw [show wrap64 ((8 : Int) - 1) = ((8 : Nat) : Int) - 1 from by unfold wrap64; omega, num_l0 n 8 [] (by omega) (by simp), List.nil_append, str_bi]
    rfl)
theorem cat_run (a b : ByteArray) (h : a.size + b.size ≤ 9223372036854775807) (V : World) : (binOp .add 9 (.string a) (.string b)).run Tryz.prog V = .ok (.string (a ++ b)) V :=
  run_string_add_sum V a b h
theorem u64w (x : Int) (h0 : 0 ≤ x) (h : x < 18446744073709551616) : IntKind.u64.wrap x = x := by
  simp [IntKind.wrap, IntKind.bits, IntKind.signed] <;> omega
theorem read_l0 : ∀ (R P : List UInt8), (P ++ R).length ≤ 8 → atriumref02_Read.l0 (R.length + 1) (Bd.B (P ++ R)) ((beN P : Nat) : Int) (P.length : Nat) = some ((beN (P ++ R) : Nat) : Int)
  | [], P, h => by
    simp only [List.append_nil] at h ⊢
    rw [show ([] : List UInt8).length + 1 = 0 + 1 from rfl, atriumref02_Read.l0, if_neg (by rw [Bd.B_size]; omega)]
  | c :: R, P, h => by
    have hl : (P ++ c :: R).length = P.length + 1 + R.length := by simp; omega
    have hb := Bd.bt_mid P R c
    have ih := read_l0 R (P ++ [c]) (by simpa using h)
    have hp := beN_lt P
    have hp2 : beN P < 72057594037927936 := Nat.lt_of_lt_of_le hp (Nat.le_trans (Nat.pow_le_pow_right (by omega) (show P.length ≤ 7 by omega)) (by decide))
    have hc := c.toNat_lt
    rw [List.append_assoc, beN_snoc] at ih
    rw [List.length_cons, atriumref02_Read.l0, hb, if_pos (by rw [Bd.B_size]; omega), if_pos (by omega), Bd.w_succ _ (by omega), u64w (((beN P : Nat) : Int) * 256) (by omega) (by omega), u64w (c.toNat : Int) (by omega) (by omega), u64w _ (by omega) (by omega)]
    have e1 : (((beN P : Nat) : Int) * 256 + (c.toNat : Int)) = ((beN P * 256 + c.toNat : Nat) : Int) := by omega
    have e2 : (P ++ [c]).length = P.length + 1 := by simp
    rw [e1, ← e2]
    exact ih
theorem read_up (s : ByteArray) (a i : Int) (r : Int) (k : Nat) (h : atriumref02_Read.l0 k s a i = some r) : ∀ d, atriumref02_Read.l0 (k + d) s a i = some r
  | 0 => h
  | d + 1 => atriumref02_Read.mono_l (k + d) s a i r (read_up s a i r k h d)
theorem read_f (s : ByteArray) (h : s.size ≤ 8) (k : Nat) (hk : 9 ≤ k) : atriumref02_Read.f k s = some ((beN s.data.toList : Nat) : Int) := by
  have h1 := read_l0 s.data.toList [] (by rw [List.nil_append, len_data]; exact h)
  rw [List.nil_append, Bd.of_data] at h1
  have h2 := read_up s 0 0 _ _ h1 (k - (s.data.toList.length + 1))
  rw [len_data, show s.size + 1 + (k - (s.size + 1)) = k from by omega] at h2
  exact h2
theorem rdecLed_any (v : ByteArray) (w : World) :
    Calls Tryz.prog 78 #[.string v] w fun e w' => e = .returned (ldV (decLed v)) ∧ Below w.heap.size w w' := by
  by_cases h48 : v.size = 48
  · by_cases hz : beN (v.extract 0 8).data.toList = 0
    · have hd : decLed v = none := by unfold decLed; rw [if_pos (Or.inr hz)]
      rw [hd]
      refine atriumref22_DecodeLedger.calls 9 v 0 0 ⟨#[]⟩ 221 w ?_
      unfold atriumref22_DecodeLedger.f
      rw [if_pos (by omega), if_pos (by omega), if_pos (by omega), read_f _ (by rw [ByteArray.size_extract]; omega) 9 (by omega), Option.bind_some, if_pos (by omega), if_pos (by omega), read_f _ (by rw [ByteArray.size_extract]; omega) 9 (by omega), Option.bind_some, if_pos (by rw [hz]; rfl)]
    · have hd : decLed v = some (beN (v.extract 0 8).data.toList, beN (v.extract 8 16).data.toList, v.extract 16 v.size) := by unfold decLed; rw [if_neg (fun h => h.elim (fun h => h h48) hz)]
      rw [hd]
      refine atriumref22_DecodeLedger.calls 9 v _ _ _ _ w ?_
      unfold atriumref22_DecodeLedger.f
      rw [if_pos (by omega), if_pos (by omega), if_pos (by omega), read_f _ (by rw [ByteArray.size_extract]; omega) 9 (by omega), Option.bind_some, if_pos (by omega), if_pos (by omega), read_f _ (by rw [ByteArray.size_extract]; omega) 9 (by omega), Option.bind_some, if_neg (by omega)]
  · have hd : decLed v = none := by unfold decLed; rw [if_pos (Or.inl h48)]
    rw [hd]
    refine atriumref22_DecodeLedger.calls 9 v 0 0 ⟨#[]⟩ 221 w ?_
    unfold atriumref22_DecodeLedger.f
    rw [if_neg (by omega)]
end Go.Proofs.YtmchephokleffaaGreatDoor
