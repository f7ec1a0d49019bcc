/-
  Chapter 22: the reader's varints and texts, walked.
-/
import Derived.Test.YtmchephokleffaaGreatDoorVs
set_option linter.unusedVariables false
set_option linter.unusedSimpArgs false
namespace Go.Proofs.YtmchephokleffaaGreatDoor
open Go.RowKit Go.Proofs.YtmchephokleffaaGreatDoorW.PrintWords Go.Proofs.YtmchephokleffaaGreatDoor.PRecord
/-- The reader at block g: what is left, or that something was at fault. -/
def RS (w : World) (g : Nat) (o : Option ByteArray) : Prop := match o with
  | some s => s.size ≤ 1000000000 ∧ CR w g s 0
  | none => ∃ s err, s.size ≤ 1000000000 ∧ err ≠ 0 ∧ CR w g s err
theorem RS.below {w w1 : World} {g : Nat} {o : Option ByteArray} (h : RS w g o) (hb : Below w.heap.size w w1) : RS w1 g o := by
  cases o with
  | some s => exact ⟨h.1, h.2.below hb⟩
  | none =>
    obtain ⟨s, err, h1, h2, h3⟩ := h
    exact ⟨s, err, h1, h2, h3.below hb⟩
def vtO : Option ByteArray → Nat × Option ByteArray
  | none => (0, none)
  | some s => match rv s.data.toList with
    | some (n, z) => (n, some (s.extract z s.size))
    | none => (0, none)
def teO : Option ByteArray → ByteArray × Option ByteArray
  | none => (⟨#[]⟩, none)
  | some s => match rv s.data.toList with
    | some (n, z) => if (s.extract z s.size).size < n then (⟨#[]⟩, none) else ((s.extract z s.size).extract 0 n, some ((s.extract z s.size).extract n (s.extract z s.size).size))
    | none => (⟨#[]⟩, none)
set_option maxHeartbeats 2000000 in
theorem varint_r {g : Nat} {o : Option ByteArray} {w : World} (h : RS w g o) :
    Calls Tryz.prog 112 #[.pointer (some ⟨g, 0, none⟩)] w fun e w' => e = .returned (.int .u64 ((vtO o).1 : Int)) ∧ RS w' g (vtO o).2 ∧ Below g w w' := by
  cases o with
  | none =>
    obtain ⟨s, err, h1, h2, h3⟩ := h
    have H := Lib.hid (show RS w g none from ⟨s, err, h1, h2, h3⟩)
    obtain ⟨hb⟩ := h3
    have k1 := (blk_cell hb 1).trans rfl
    have d1 : (err != 0) = true := by simp [h2]
    show Calls _ _ _ _ fun e w' => e = .returned (.int .u64 ((0 : Nat) : Int)) ∧ RS w' g none ∧ Below g w w'
    clear hb h1 h2
    go_enter Tryz.func112, Tryz.ntmps112
    go_wp2
    go_ret
    exact ⟨rfl, H.out, Below.refl _ _⟩
  | some s =>
    obtain ⟨hs, hcr⟩ := h
    obtain ⟨k, x, hx, hR⟩ := shape_f s hs
    obtain ⟨x1, x2, x3⟩ := x
    have hsh := Lib.hid (fun W => codec_shape.calls k s x1 x2 x3 W hx)
    have HC := Lib.hid hcr
    obtain ⟨hb⟩ := hcr
    have k0 := (blk_cell hb 0).trans rfl
    have k1 := (blk_cell hb 1).trans rfl
    clear hb hx
    cases hv : rv s.data.toList with
    | none =>
      rw [hv] at hR
      obtain ⟨er, he, hx⟩ := hR
      injection hx with hx1 hx
      injection hx with hx2 hx3
      subst hx1 hx2 hx3
      have hO : vtO (some s) = (0, none) := by simp only [vtO, hv]
      rw [hO]
      have d1 : (x3 != 0) = true := by simp [he]
      replace hv := Lib.hid hv
      replace he := Lib.hid he
      clear hO
      go_enter Tryz.func112, Tryz.ntmps112
      go_wp2_with (fail)
      refine (hsh.out _).mono ?_
      rintro e w2 ⟨rfl, hd⟩
      obtain ⟨⟨m, rfl⟩⟩ := hd
      have HC2 := Lib.hid (HC.out.below (pw_below_drewN (Below.refl w.heap.size w) m))
      have hb2 := Lib.hid (pw_below_drewN (Below.refl g w) m)
      clear k0 k1 hsh HC
      generalize w.drewN m = w2 at *
      go_wp2_with (fail)
      refine (fault_any x3 HC2.out).mono ?_
      rw [if_pos rfl]
      rintro e w3 ⟨rfl, hc3, hb3⟩
      replace hc3 := Lib.hid hc3
      replace hb3 := Lib.hid hb3
      go_wp2
      go_ret
      exact ⟨rfl, ⟨s, x3, hs, he.out, hc3.out⟩, hb2.out.trans hb3.out⟩
    | some p =>
      obtain ⟨n, z⟩ := p
      rw [hv] at hR
      simp only [ShR, Prod.mk.injEq] at hR
      obtain ⟨rfl, rfl, rfl⟩ := hR
      have hbd := rvG_bound _ 0 0 (by omega) (by simp) hv
      rw [len_data] at hbd
      have hO : vtO (some s) = (n, some (s.extract z s.size)) := by simp only [vtO, hv]
      rw [hO]
      have hz : z ≤ s.size := by omega
      have hes : (s.extract z s.size).size ≤ 1000000000 := by rw [ByteArray.size_extract]; omega
      replace hv := Lib.hid hv
      replace hes := Lib.hid hes
      clear hO
      go_enter Tryz.func112, Tryz.ntmps112
      go_wp2_with (fail)
      refine (hsh.out _).mono ?_
      rintro e w2 ⟨rfl, hd⟩
      obtain ⟨⟨m, rfl⟩⟩ := hd
      have HC2 := HC.out.below (pw_below_drewN (Below.refl w.heap.size w) m)
      have hb2 := Lib.hid (pw_below_drewN (Below.refl g w) m)
      clear k0 k1 hsh HC
      generalize w.drewN m = w2 at *
      obtain ⟨hb⟩ := HC2
      have k0 := (blk_cell hb 0).trans rfl
      have f0 := blk_frozen hb 0
      have hset := Lib.hid (blk_set hb 0 (.string (s.extract z s.size)))
      clear hb
      go_wp2
      go_ret
      exact ⟨rfl, ⟨hes.out, ⟨hset.out⟩⟩, hb2.out.setCell (p := ⟨g, 0, none⟩) (Nat.le_refl g) _⟩
set_option maxHeartbeats 2000000 in
theorem text_r {g : Nat} {o : Option ByteArray} {w : World} (h : RS w g o) :
    Calls Tryz.prog 63 #[.pointer (some ⟨g, 0, none⟩)] w fun e w' => e = .returned (.string (teO o).1) ∧ RS w' g (teO o).2 ∧ Below g w w' := by
  have hv := varint_r h
  have hO : teO o = match vtO o with
      | (n, some t) => if t.size < n then (⟨#[]⟩, none) else (t.extract 0 n, some (t.extract n t.size))
      | (_, none) => (⟨#[]⟩, none) := by
    cases o with
    | none => rfl
    | some s =>
      simp only [teO, vtO]
      cases rv s.data.toList with
      | none => rfl
      | some p => rfl
  generalize vtO o = V at *
  obtain ⟨n, t⟩ := V
  rw [hO]
  replace hv := Lib.hid hv
  clear hO h
  cases t with
  | none =>
    simp only at hv ⊢
    go_enter Tryz.func63, Tryz.ntmps63
    go_wp2_with (fail)
    refine hv.out.mono ?_
    rintro e w2 ⟨rfl, hr, hb2⟩
    have H := Lib.hid hr
    obtain ⟨s, err, h1, h2, hc⟩ := hr
    obtain ⟨hb⟩ := hc
    have k1 := (blk_cell hb 1).trans rfl
    have d1 : (err != 0) = true := by simp [h2]
    replace hb2 := Lib.hid hb2
    clear hb h1 h2 hv
    go_wp2
    go_ret
    exact ⟨rfl, H.out, hb2.out⟩
  | some t =>
    simp only at hv ⊢
    by_cases hlt : t.size < n
    · rw [if_pos hlt]
      go_enter Tryz.func63, Tryz.ntmps63
      go_wp2_with (fail)
      refine hv.out.mono ?_
      rintro e w2 ⟨rfl, ⟨hts, hc⟩, hb2⟩
      have HC := Lib.hid hc
      obtain ⟨hb⟩ := hc
      have k0 := (blk_cell hb 0).trans rfl
      have k1 := (blk_cell hb 1).trans rfl
      have c1 : IntKind.u64.wrap (t.size : Int) = (t.size : Int) := IntWalk.u64_in _ (by omega)
      have d1 : decide (t.size < n) = true := decide_eq_true hlt
      replace hb2 := Lib.hid hb2
      clear hb hv
      go_wp2_with (fail)
      refine (fault_any 20 HC.out).mono ?_
      rw [if_pos rfl]
      rintro e w3 ⟨rfl, hc3, hb3⟩
      replace hc3 := Lib.hid hc3
      replace hb3 := Lib.hid hb3
      go_wp2
      go_ret
      exact ⟨rfl, ⟨t, 20, hts, by omega, hc3.out⟩, hb2.out.trans hb3.out⟩
    · rw [if_neg hlt]
      go_enter Tryz.func63, Tryz.ntmps63
      go_wp2_with (fail)
      refine hv.out.mono ?_
      rintro e w2 ⟨rfl, ⟨hts, hc⟩, hb2⟩
      have hraw := Raw_rd (n : Int) hc
      rw [raw_cut t n (by omega)] at hraw
      replace hraw := Lib.hid hraw
      obtain ⟨hb⟩ := hc
      have k0 := (blk_cell hb 0).trans rfl
      have k1 := (blk_cell hb 1).trans rfl
      have c1 : IntKind.u64.wrap (t.size : Int) = (t.size : Int) := IntWalk.u64_in _ (by omega)
      have d1 : decide (t.size < n) = false := decide_eq_false hlt
      have b1 : (n : Int) ≤ 1000000000 := by omega
      have b2 : (0 : Int) ≤ (n : Int) := by omega
      have hes : (t.extract n t.size).size ≤ 1000000000 := by rw [ByteArray.size_extract]; omega
      replace hes := Lib.hid hes
      replace hb2 := Lib.hid hb2
      clear hb hv
      go_wp2_with (fail)
      refine hraw.out.mono ?_
      rintro e w3 ⟨rfl, hc3, hb3⟩
      replace hc3 := Lib.hid hc3
      replace hb3 := Lib.hid hb3
      go_wp2
      go_ret
      exact ⟨rfl, ⟨hes.out, hc3.out⟩, hb2.out.trans hb3.out⟩
/-- Was all read? -/
def allR : Option ByteArray → Bool
  | some s => decide (s.size = 0)
  | none => false
theorem done_r {g : Nat} {o : Option ByteArray} {w : World} (h : RS w g o) :
    Calls Tryz.prog 65 #[.pointer (some ⟨g, 0, none⟩)] w fun e w' => (∃ D : Int, e = .returned (.int .i64 D) ∧ (D = 0 ↔ allR o = true)) ∧ w = w' := by
  cases o with
  | none =>
    obtain ⟨s, err, h1, h2, hc⟩ := h
    refine (done_rd hc).mono ?_
    rintro e w' ⟨rfl, rfl⟩
    refine ⟨⟨_, rfl, ?_⟩, rfl⟩
    unfold doneR
    rw [if_pos h2]
    simp [allR, h2]
  | some s =>
    obtain ⟨h1, hc⟩ := h
    refine (done_rd hc).mono ?_
    rintro e w' ⟨rfl, rfl⟩
    refine ⟨⟨_, rfl, ?_⟩, rfl⟩
    unfold doneR
    rw [if_neg (by simp)]
    by_cases hs : 0 < s.size
    · rw [if_pos hs]
      exact ⟨fun h => absurd h (by omega), fun h => by have h2 : s.size = 0 := of_decide_eq_true h; omega⟩
    · rw [if_neg hs]
      exact ⟨fun _ => decide_eq_true (show s.size = 0 by omega), fun _ => rfl⟩
theorem encEnt_any (nu ki : Int) (ti : Nat) (su : ByteArray) (hn : nu < 9223372036854775808) (hk : ki < 9223372036854775808) (ht : ti < 18446744073709551616) (w : World) :
    Calls Tryz.prog 119 #[.agg #[.int .i64 nu, .int .i64 ki, .int .u64 (ti : Int), .string su]] w fun e w' => e = .returned (ledV (encEnt nu ki ti su)) ∧ Below w.heap.size w w' := by
  by_cases hbad : nu < 1 ∨ ki < 1 ∨ 128 < su.size
  · exact encEnt_bad nu ki ti su hbad w
  · obtain ⟨n, rfl⟩ := Int.eq_ofNat_of_zero_le (show 0 ≤ nu by omega)
    obtain ⟨m, rfl⟩ := Int.eq_ofNat_of_zero_le (show 0 ≤ ki by omega)
    exact encEnt_ok n m ti su (by omega) (by omega) (by omega) (by omega) ht (by omega) w
theorem rencEnt_any (nu ki : Int) (ti : Nat) (su : ByteArray) (hn : nu < 9223372036854775808) (hk : ki < 9223372036854775808) (ht : ti < 18446744073709551616) (w : World) :
    Calls Tryz.prog 136 #[.agg #[.int .i64 nu, .int .i64 ki, .int .u64 (ti : Int), .string su]] w fun e w' => e = .returned (ledV (encEnt nu ki ti su)) ∧ Below w.heap.size w w' := by
  by_cases hbad : nu < 1 ∨ ki < 1 ∨ 128 < su.size
  · exact rencEnt_bad nu ki ti su hbad w
  · obtain ⟨n, rfl⟩ := Int.eq_ofNat_of_zero_le (show 0 ≤ nu by omega)
    obtain ⟨m, rfl⟩ := Int.eq_ofNat_of_zero_le (show 0 ≤ ki by omega)
    exact rencEnt_ok n m ti su (by omega) (by omega) (by omega) (by omega) ht (by omega) w
/-- An entry out of its value. -/
def decEnt (v : ByteArray) : Option (Int × Int × Nat × ByteArray) :=
  let o1 := vtO (some v)
  let o2 := vtO o1.2
  let o3 := vtO o2.2
  let o4 := teO o3.2
  if allR o4.2 = true ∧ encEnt (wrap64 (o1.1 : Int)) (wrap64 (o2.1 : Int)) o3.1 o4.1 = some v then some (wrap64 (o1.1 : Int), wrap64 (o2.1 : Int), o3.1, o4.1) else none
def enV : Option (Int × Int × Nat × ByteArray) → Value
  | none => .tuple #[.agg #[.int .i64 0, .int .i64 0, .int .u64 0, .string ⟨#[]⟩], .int .i64 221]
  | some (a, b, c, s) => .tuple #[.agg #[.int .i64 a, .int .i64 b, .int .u64 (c : Int), .string s], .int .i64 0]
theorem vtO_lt (o : Option ByteArray) : (vtO o).1 < 18446744073709551616 := by
  cases o with
  | none => simp [vtO]
  | some s =>
    simp only [vtO]
    cases h : rv s.data.toList with
    | none => simp
    | some p => exact (rvG_bound _ 0 0 (by omega) (by simp) h).1
theorem i64_rng (x : Int) : wrap64 x < 9223372036854775808 := by
  unfold wrap64
  omega
theorem put4 {W : World} {g : Nat} {T : TypeId} {a b c d : Value} (h : W.heap[g]? = some (.cells #[a, b, c, d] T (0, 0))) (a2 b2 c2 d2 : Value) : ((((W.setCell ⟨g, 0, none⟩ a2).setCell ⟨g, 1, none⟩ b2).setCell ⟨g, 2, none⟩ c2).setCell ⟨g, 3, none⟩ d2).heap[g]? = some (.cells #[a2, b2, c2, d2] T (0, 0)) := by
  rw [blk_set (blk_set (blk_set (blk_set h 0 a2) 1 b2) 2 c2) 3 d2]
  rfl
theorem put4_below {w W : World} {g : Nat} (h : Below w.heap.size w W) (hg : w.heap.size ≤ g) (a2 b2 c2 d2 : Value) : Below w.heap.size w ((((W.setCell ⟨g, 0, none⟩ a2).setCell ⟨g, 1, none⟩ b2).setCell ⟨g, 2, none⟩ c2).setCell ⟨g, 3, none⟩ d2) :=
  (((h.setCell (p := ⟨g, 0, none⟩) hg _).setCell (p := ⟨g, 1, none⟩) hg _).setCell (p := ⟨g, 2, none⟩) hg _).setCell (p := ⟨g, 3, none⟩) hg _
set_option maxHeartbeats 4000000 in
theorem decEnt_any (v : ByteArray) (hv : v.size ≤ 1000000000) (w : World) :
    Calls Tryz.prog 118 #[.string v] w fun e w' => e = .returned (enV (decEnt v)) ∧ Below w.heap.size w w' := by
  obtain ⟨W0, hW0⟩ : ∃ W0, W0 = w.alloc (.cells #[.int .i64 0, .int .i64 0, .int .u64 0, .string ⟨#[]⟩] 121) := ⟨_, rfl⟩
  have hr0 : W0.heap[w.heap.size]? = some (.cells #[.int .i64 0, .int .i64 0, .int .u64 0, .string ⟨#[]⟩] 121 (0, 0)) := by rw [hW0]; exact heap_alloc_new w _
  have hB0 := Lib.hid (show Below w.heap.size w W0 by rw [hW0]; exact (Below.refl _ _).alloc (Nat.le_refl _) _)
  have hz0 : w.heap.size < W0.heap.size := by rw [hW0]; simp
  have hres : Hid (∀ W, Below W0.heap.size W0 W → W.heap[w.heap.size]? = some (.cells #[.int .i64 0, .int .i64 0, .int .u64 0, .string ⟨#[]⟩] 121 (0, 0)) ∧ Below w.heap.size w W) := Lib.hid (fun W h => ⟨(h.block _ hz0).trans hr0, hB0.out.trans (h.mono (Nat.le_of_lt hz0))⟩)
  have hspec : decEnt v = if allR (teO (vtO (vtO (vtO (some v)).2).2).2).2 = true ∧ encEnt (wrap64 ((vtO (some v)).1 : Int)) (wrap64 ((vtO (vtO (some v)).2).1 : Int)) (vtO (vtO (vtO (some v)).2).2).1 (teO (vtO (vtO (vtO (some v)).2).2).2).1 = some v then some (wrap64 ((vtO (some v)).1 : Int), wrap64 ((vtO (vtO (some v)).2).1 : Int), (vtO (vtO (vtO (some v)).2).2).1, (teO (vtO (vtO (vtO (some v)).2).2).2).1) else none := rfl
  have hu1 := Lib.hid (fun (W : World) (g : Nat) (h : RS W g (some v)) => varint_r h)
  have hu2 := Lib.hid (fun (W : World) (g : Nat) (h : RS W g (vtO (some v)).2) => varint_r h)
  have hu3 := Lib.hid (fun (W : World) (g : Nat) (h : RS W g (vtO (vtO (some v)).2).2) => varint_r h)
  have hu4 := Lib.hid (fun (W : World) (g : Nat) (h : RS W g (vtO (vtO (vtO (some v)).2).2).2) => text_r h)
  have l3 := vtO_lt (vtO (vtO (some v)).2).2
  generalize teO (vtO (vtO (vtO (some v)).2).2).2 = O4 at *
  generalize vtO (vtO (vtO (some v)).2).2 = O3 at *
  generalize vtO (vtO (some v)).2 = O2 at *
  generalize vtO (some v) = O1 at *
  obtain ⟨a, o1⟩ := O1
  obtain ⟨b, o2⟩ := O2
  obtain ⟨c, o3⟩ := O3
  obtain ⟨su, o4⟩ := O4
  simp only at hspec hu1 hu2 hu3 hu4 l3
  have hdn := Lib.hid (fun (W : World) (g : Nat) (h : RS W g o4) => done_r h)
  have hen := Lib.hid (fun W => encEnt_any (wrap64 (a : Int)) (wrap64 (b : Int)) c su (i64_rng _) (i64_rng _) l3 W)
  replace hspec := Lib.hid hspec
  have hW0H := Lib.hid hW0
  clear hr0 hB0 hW0
  go_enter Tryz.func118, Tryz.ntmps118
  go_wp2_with (fail)
  rw [← hW0H.out]
  refine (newReader_any v W0).mono ?_
  rintro e w2 ⟨rfl, hc2, hb2⟩
  have hc2 := Lib.hid (show RS w2 W0.heap.size (some v) from ⟨hv, hc2⟩)
  replace hb2 := Lib.hid hb2
  go_wp2_with (fail)
  refine (hu1.out _ _ hc2.out).mono ?_
  rintro e w3 ⟨rfl, hc3, hb3⟩
  replace hc3 := Lib.hid hc3
  have hB3 := Lib.hid (hb2.out.trans hb3)
  clear hc2 hb2 hb3 hu1
  go_wp2_with (fail)
  refine (hu2.out _ _ hc3.out).mono ?_
  rintro e w4 ⟨rfl, hc4, hb4⟩
  replace hc4 := Lib.hid hc4
  have hB4 := Lib.hid (hB3.out.trans hb4)
  clear hc3 hB3 hb4 hu2
  go_wp2_with (fail)
  refine (hu3.out _ _ hc4.out).mono ?_
  rintro e w5 ⟨rfl, hc5, hb5⟩
  replace hc5 := Lib.hid hc5
  have hB5 := Lib.hid (hB4.out.trans hb5)
  clear hc4 hB4 hb5 hu3
  go_wp2_with (fail)
  refine (hu4.out _ _ hc5.out).mono ?_
  rintro e w6 ⟨rfl, hc6, hb6⟩
  have hB6 := Lib.hid (hB5.out.trans hb6)
  have hc7 := Lib.hid (hc6.below (below_alloc (Below.refl w6.heap.size w6) (.cells #[.int .i64 (wrap64 (a : Int)), .int .i64 (wrap64 (b : Int)), .int .u64 (c : Int), .string su] 121)))
  have hbxH := Lib.hid (heap_alloc_new w6 (.cells #[.int .i64 (wrap64 (a : Int)), .int .i64 (wrap64 (b : Int)), .int .u64 (c : Int), .string su] 121))
  have hB7 := Lib.hid (below_alloc hB6.out (.cells #[.int .i64 (wrap64 (a : Int)), .int .i64 (wrap64 (b : Int)), .int .u64 (c : Int), .string su] 121))
  have hz7 := Lib.hid (show w6.heap.size < (w6.alloc (.cells #[.int .i64 (wrap64 (a : Int)), .int .i64 (wrap64 (b : Int)), .int .u64 (c : Int), .string su] 121)).heap.size by simp)
  clear hc5 hB5 hb6 hu4 hc6
  go_wp2_with (fail)
  generalize w6.alloc (.cells #[.int .i64 (wrap64 (a : Int)), .int .i64 (wrap64 (b : Int)), .int .u64 (c : Int), .string su] 121) = w7 at *
  generalize w6.heap.size = gb at *
  refine (hdn.out _ _ hc7.out).mono ?_
  rintro e w8 ⟨⟨D, rfl, hD⟩, rfl⟩
  by_cases hD0 : D = 0
  · have hall := Lib.hid (hD.mp hD0)
    subst hD0
    have q0 := (blk_cell hbxH.out 0).trans rfl
    have q1 := (blk_cell hbxH.out 1).trans rfl
    have q2 := (blk_cell hbxH.out 2).trans rfl
    have q3 := (blk_cell hbxH.out 3).trans rfl
    clear hD hc7 hdn
    go_wp2_with (fail)
    refine (hen.out _).mono ?_
    rintro e w9 ⟨rfl, hb9⟩
    have hbx9 := Lib.hid ((hb9.block _ hz7.out).trans hbxH.out)
    obtain ⟨hre, hbel⟩ := hres.out w9 (hB7.out.trans (hb9.mono hB7.out.size))
    clear q0 q1 q2 q3
    have q0 := (blk_cell hbx9.out 0).trans rfl
    have q1 := (blk_cell hbx9.out 1).trans rfl
    have q2 := (blk_cell hbx9.out 2).trans rfl
    have q3 := (blk_cell hbx9.out 3).trans rfl
    have f0 := blk_frozen hre 0
    have f1 := blk_frozen hre 1
    have f2 := blk_frozen hre 2
    have f3 := blk_frozen hre 3
    have r0 := (blk_cell hre 0).trans rfl
    have r1 := (blk_cell hre 1).trans rfl
    have r2 := (blk_cell hre 2).trans rfl
    have r3 := (blk_cell hre 3).trans rfl
    have hput := Lib.hid hre
    replace hbel := Lib.hid hbel
    clear hb9 hen hre hbxH hbx9 hB7 hz7 hres hB6 hW0H
    cases hE : encEnt (wrap64 (a : Int)) (wrap64 (b : Int)) c su with
    | none =>
      have hS := Lib.hid (hspec.out.trans (if_neg (fun h => by rw [hE] at h; cases h.2)))
      replace hE := Lib.hid hE
      clear hspec hall
      simp only [ledV]
      go_wp2
      exact bodyPost_ret (results_ct rfl _ _ w.heap.size _ _ _ _ rfl (put4 hput.out _ _ _ _) Tryz.underlying121 rfl (by kernel_rfl)) rfl ⟨by rw [hS.out]; rfl, put4_below hbel.out (Nat.le_refl _) _ _ _ _⟩
    | some s =>
      have hS0 := Lib.hid (hspec.out)
      simp only [ledV]
      by_cases hsv : s = v
      · have hS := Lib.hid (hspec.out.trans (if_pos ⟨hall.out, by rw [hE, hsv]⟩))
        have d1 : (s.toList == v.toList) = true := by rw [hsv]; simp
        replace hE := Lib.hid hE
        replace hsv := Lib.hid hsv
        clear hspec hall hS0
        go_wp2
        exact bodyPost_ret (results_ct rfl _ _ w.heap.size _ _ _ _ rfl (put4 hput.out _ _ _ _) Tryz.underlying121 rfl (by kernel_rfl)) rfl ⟨by rw [hS.out]; rfl, put4_below hbel.out (Nat.le_refl _) _ _ _ _⟩
      · have hS := Lib.hid (hspec.out.trans (if_neg (fun h => hsv (by have := h.2; rw [hE] at this; exact Option.some.inj this))))
        have d1 : (s.toList == v.toList) = false := by
          rw [beq_eq_false_iff_ne]
          intro h
          refine hsv (ByteArray.ext (Array.toList_inj.mp ?_))
          rw [← ByteArray.toList_eq, ← ByteArray.toList_eq]
          exact h
        replace hE := Lib.hid hE
        replace hsv := Lib.hid hsv
        clear hspec hall hS0
        go_wp2
        exact bodyPost_ret (results_ct rfl _ _ w.heap.size _ _ _ _ rfl (put4 hput.out _ _ _ _) Tryz.underlying121 rfl (by kernel_rfl)) rfl ⟨by rw [hS.out]; rfl, put4_below hbel.out (Nat.le_refl _) _ _ _ _⟩
  · have hS := Lib.hid (hspec.out.trans (if_neg (fun h => hD0 (hD.mpr h.1))))
    have d1 : (D != 0) = true := by simp [hD0]
    obtain ⟨hre, hbel⟩ := hres.out w7 hB7.out
    have f0 := blk_frozen hre 0
    have f1 := blk_frozen hre 1
    have f2 := blk_frozen hre 2
    have f3 := blk_frozen hre 3
    have r0 := (blk_cell hre 0).trans rfl
    have r1 := (blk_cell hre 1).trans rfl
    have r2 := (blk_cell hre 2).trans rfl
    have r3 := (blk_cell hre 3).trans rfl
    have hput := Lib.hid hre
    replace hbel := Lib.hid hbel
    clear hspec hc7 hdn hre hbxH hB7 hres hB6 hW0H hD hz7 hen
    go_wp2
    exact bodyPost_ret (results_ct rfl _ _ w.heap.size _ _ _ _ rfl (put4 hput.out _ _ _ _) Tryz.underlying121 rfl (by kernel_rfl)) rfl ⟨by rw [hS.out]; rfl, put4_below hbel.out (Nat.le_refl _) _ _ _ _⟩
end Go.Proofs.YtmchephokleffaaGreatDoor
