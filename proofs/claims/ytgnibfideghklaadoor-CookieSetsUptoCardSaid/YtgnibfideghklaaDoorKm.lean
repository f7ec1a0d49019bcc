/-
  Chapter 19: the program's Set, walked.
-/
import Derived.Test.YtgnibfideghklaaDoorKl
import Derived.Lib.SmallJoins
import Derived.Lib.AppendIntMem
set_option linter.unusedVariables false
set_option linter.unusedSimpArgs false
namespace Go.Proofs.YtgnibfideghklaaDoor
open Go.RowKit Go.Proofs.YtgnibfideghklaaDoorW.PrintWords Go.Proofs.YtgnibfideghklaaDoor.PCookieReads
def Tab (w : World) : Prop := Lib.TabIs Tryd.prog w "internal/strconv.uint64pow10" .u64 Lib.pow10Tab
theorem Tab.below {w w1 : World} (h : Tab w) (hb : Below w.heap.size w w1) : Tab w1 :=
  Go.Joins.var_stays (g := (Tryd.prog.globalNamed "internal/strconv.uint64pow10").getD 0) (by kernel_rfl) h hb (Nat.le_refl _)
theorem itoa_any (n : Int) (h0 : -9223372036854775808 ≤ n) (h1 : n ≤ 9223372036854775807) (w : World) (htab : Tab w) :
    Calls Tryd.prog 31 #[.int .i64 n] w fun e w' => e = .returned (.string (B (Lib.itoa n))) ∧ Below w.heap.size w w' := by
  refine (Tryd.strconv_Itoa n h0 h1 w htab).mono ?_
  rintro e w' ⟨rfl, k, os, rfl⟩
  exact ⟨rfl, Lib.below_grow _ w (Nat.le_refl _) k os⟩
theorem join_any (v : Value) (V : List (List UInt8)) (w : World) (base : Nat) (ok : Nat → Prop) (h : Kd.R Kd.string 9 w base ok v (V.map B)) (hne : V ≠ []) (hV : V.length ≤ 1000) (hl : (joinR V).length ≤ 140737488355328) :
    Calls Tryd.prog 27 #[v, .string ⟨#[59, 32]⟩] w fun e w' => e = .returned (.string (B (joinR V))) ∧ Below w.heap.size w w' := by
  obtain ⟨g, cap, hv, hb, hlt, _⟩ := Kd.R_form h (by rw [List.length_map]; exact List.length_pos_iff.2 hne)
  obtain ⟨A, c, hv2, hle, hC⟩ := Kd.R_reads h
  have hvv := hv
  rw [hv2] at hv
  injection hv with hA _ hc
  subst hA hc
  have hm : (V.map B).map (·.data.toList) = V := by
    rw [List.map_map]
    conv => rhs; rw [← List.map_id V]
    exact List.map_congr_left fun x _ => B_data x
  have hcells : ∀ (j : Nat) x, (V.map B)[j]? = some x → w.cell? ⟨g, 0 + j, none⟩ = some (.string x) := fun j x hx => by
    rw [List.getElem?_map] at hx
    obtain ⟨y, hy, rfl⟩ := Option.map_eq_some_iff.1 hx
    have hj : j < V.length := (List.getElem?_eq_some_iff.1 hy).1
    have hs : V = V.take j ++ y :: V.drop (j + 1) := by
      obtain ⟨h0, h1⟩ := List.getElem?_eq_some_iff.1 hy
      rw [← h1, ← List.drop_eq_getElem_cons h0, List.take_append_drop]
    rw [List.length_map] at hC
    obtain ⟨ad, e, hcell⟩ := str_at hC hs
    injection e with e
    subst e
    rw [List.length_take, Nat.min_eq_left (by omega), add_plain] at hcell
    rw [Nat.zero_add]
    exact hcell
  have hj : Lib.join V (⟨#[59, 32]⟩ : ByteArray).data.toList = joinR V := join_R V
  have := Tryd.strings_Join g 0 c (V.map B) ⟨#[59, 32]⟩ w hcells hlt (by rw [List.length_map]; omega) hle (by rw [hm, hj]; exact hl)
  rw [hm, hj] at this
  rw [hvv]
  exact this
/-- The parts so far, in a row of the call's own. -/
structure SQ (w : World) (c : Ck) (V : World) (v : Value) (ps : List (List UInt8)) : Prop where
  sb : SB w c V
  row : Kd.R Kd.string 9 V w.heap.size (fun _ => True) v (ps.map B)
theorem SQ.next {w V V2 : World} {c : Ck} {v : Value} {ps : List (List UInt8)} (h : SQ w c V v ps) (hb : Below V.heap.size V V2) : SQ w c V2 v ps := ⟨h.sb.next hb, Kd.R_below h.row hb⟩
theorem SQ.app {w V W12 : World} {c : Ck} {v v1 : Value} {ps : List (List UInt8)} {x : List UInt8} (h : SQ w c V v ps) (hb : Below w.heap.size w W12) (hg : V.grownBy W12 v.ownBlock) (ho : Kd.R Kd.string 9 W12 w.heap.size (fun _ => True) v1 (ps.map B ++ [B x])) : SQ w c W12 v1 (ps ++ [x]) := by
  refine ⟨⟨(hg.block _ (Array.getElem?_eq_some_iff.1 h.sb.blk).1 (Kd.R_ne h.row h.sb.blk (by decide))).trans h.sb.blk, hb⟩, ?_⟩
  rw [List.map_append]
  exact ho
theorem SQ.one {w V : World} {c : Ck} (h : SB w c V) (x : List UInt8) : SQ w c (V.alloc (.cells #[.string (B x)] 9)) (.slice (some ⟨V.heap.size, 0, none⟩) 1 1) [x] := by
  refine ⟨h.next (below_alloc (Below.refl V.heap.size V) _), ?_⟩
  have := own_lit_of (enc := Value.string) V w.heap.size 9 [B x] h.bel.size (by simp)
  exact Kd.R_of_own (h1 := fun _ => rfl) this (fun _ _ => trivial)
theorem addP_len (ps : List (List UInt8)) (b : Bool) (x : List UInt8) : (addP ps b x).length ≤ ps.length + 1 := by
  unfold addP
  split
  · simp
  · omega
theorem ps_len (c : Ck) : (ps0 c).length = 1 ∧ (ps1 c).length ≤ 2 ∧ (ps2 c).length ≤ 3 ∧ (ps3 c).length ≤ 4 ∧ (ps4 c).length ≤ 5 ∧ (ps5 c).length ≤ 6 := by
  have a1 : (ps1 c).length ≤ (ps0 c).length + 1 := addP_len _ _ _
  have a2 : (ps2 c).length ≤ (ps1 c).length + 1 := addP_len _ _ _
  have a3 : (ps3 c).length ≤ (ps2 c).length + 1 := addP_len _ _ _
  have a4 : (ps4 c).length ≤ (ps3 c).length + 1 := addP_len _ _ _
  have a5 : (ps5 c).length ≤ (ps4 c).length + 1 := addP_len _ _ _
  have a0 : (ps0 c).length = 1 := rfl
  omega
set_option maxHeartbeats 4000000 in
set_option maxRecDepth 100000 in
theorem set_any (c : Ck) (hc : c.Ok) (w : World) (htab : Tab w) :
    Calls Tryd.prog 16 #[c.V] w fun e w' => e = .returned (.tuple #[.string (B (setR c).1), .int .i64 (setR c).2]) ∧ Below w.heap.size w w' := by
  have hM := Lib.hid (fun W => ckright_any c (by have := hc.nm; omega) (by have := hc.vl; omega) (by have := hc.pa; omega) W)
  have hS0 := SB.new w c
  obtain ⟨m, hm⟩ : ∃ m, mayC c = m := ⟨_, rfl⟩
  rw [hm] at hM
  unfold setR
  cases m with
  | false =>
    rw [if_neg (by rw [hm]; decide)]
    clear hm
    unfold Ck.V at hM ⊢
    unfold Ck.cells at hS0
    replace hS0 := Lib.hid hS0.bel
    go_enter Tryd.func16, Tryd.ntmps16
    go_wp2_with (first | (go_at_call 30; go_must (refine (hM.out _).mono ?_; rintro e w1 ⟨rfl, hb1⟩; replace hS0 := Lib.hid (hS0.out.trans (hb1.mono hS0.out.size)); clear hb1)))
    go_ret2
    exact ⟨rfl, hS0.out⟩
  | true =>
    rw [if_pos hm]
    obtain ⟨_, _, _, _, _, b5, bi⟩ := ss_len hc hm
    obtain ⟨p0, p1, p2, p3, p4, p5⟩ := ps_len c
    obtain ⟨ga0, ga1⟩ := may_age hm
    have hN : ∀ W, SB w c W → Calls Tryd.prog 31 #[.int .i64 c.age] W fun e w' => e = .returned (.string (B (Lib.itoa c.age))) ∧ Below W.heap.size W w' := fun W h => itoa_any c.age (by omega) (by omega) W (htab.below h.bel)
    replace hN := Lib.hid hN
    rw [← set_ss] at b5
    have hJ : ∀ W v, SQ w c W v (ps5 c) → Calls Tryd.prog 27 #[v, .string ⟨#[59, 32]⟩] W fun e w' => e = .returned (.string (B (setL c))) ∧ Below W.heap.size W w' := fun W v h => join_any v (ps5 c) W _ _ h.row (addP_ne (ps4_ne c) _ _) (by omega) (by unfold setL at b5; omega)
    replace hJ := Lib.hid hJ
    clear b5
    obtain ⟨g1, g2, g3, g4, g5, g6⟩ := hc
    generalize hit : Lib.itoa c.age = D at *
    replace hit := Lib.hid hit
    clear hm
    obtain ⟨q4, hq4⟩ : ∃ q, c.ha = q := ⟨_, rfl⟩
    obtain ⟨q5, hq5⟩ : ∃ q, c.ho = q := ⟨_, rfl⟩
    obtain ⟨q6, hq6⟩ : ∃ q, c.se = q := ⟨_, rfl⟩
    replace hq4 := Lib.hid hq4
    replace hq5 := Lib.hid hq5
    replace hq6 := Lib.hid hq6
    have rs := B_size
    have rt := B_toList
    have r0 : ∀ l m, B l ++ B m = B (l ++ m) := B_app
    have r1 : ∀ l, B l ++ (⟨#[61]⟩ : ByteArray) = B (l ++ [61]) := fun l => B_app l [61]
    have r2 : ∀ l, (⟨#[80, 97, 116, 104, 61]⟩ : ByteArray) ++ B l = B (pathW ++ l) := fun l => B_app pathW l
    have r3 : ∀ l, (⟨#[77, 97, 120, 45, 65, 103, 101, 61]⟩ : ByteArray) ++ B l = B (ageW ++ l) := fun l => B_app ageW l
    have r4 : ∀ l, (⟨#[83, 97, 109, 101, 83, 105, 116, 101, 61]⟩ : ByteArray) ++ B l = B (siteW ++ l) := fun l => B_app siteW l
    have m1 : (9223372036854775807 < c.nm.length + 1) = False := eq_false (by omega)
    have m2 : (9223372036854775807 < c.nm.length + 1 + c.vl.length) = False := eq_false (by omega)
    have hS1 : ∀ V, Below (w.alloc (.cells c.cells 37)).heap.size (w.alloc (.cells c.cells 37)) V → SB w c V := fun V hb => hS0.next hb
    replace hS1 := Lib.hid hS1
    have hS2 : ∀ V, SB w c V → SQ w c (V.alloc (.cells #[.string (B (ss0 c))] 9)) (.slice (some ⟨V.heap.size, 0, none⟩) 1 1) (ps0 c) := fun V h => SQ.one h _
    replace hS2 := Lib.hid hS2
    clear hS0
    unfold Ck.V at hM ⊢
    go_enter Tryd.func16, Tryd.ntmps16
    go_upto_region 3 with (first | (go_at_call 30; go_must (refine (hM.out _).mono ?_; rintro e w1 ⟨rfl, hb1⟩; have hS := Lib.hid (hS1.out _ hb1); clear hb1 hS1 hM; obtain ⟨k0, k1, k2, k3, k4, k5, k6, k7⟩ := hS.out.cells hq4 hq5 hq6)))
    go_cut [4] (fun v V => SQ w c V v (ps0 c))
    case first =>
      go_wp2
      go_meet
      exact hS2.out _ hS.out
    case rest =>
    clear m1 m2 hS hS2
    clear k0 k1 k2 k3 k4 k5 k6 k7
    have hS := Lib.hid hcut
    clear hcut
    obtain ⟨k0, k1, k2, k3, k4, k5, k6, k7⟩ := hS.out.sb.cells hq4 hq5 hq6
    go_upto_if 17 with (fail)
    have n1 : (9223372036854775807 < 5 + c.pa.length) = False := eq_false (by omega)
    go_cut [4] (fun v V => SQ w c V v (ps1 c))
    case first =>
      cases hb : c.pa.isEmpty
      · -- it is there
        go_wp2_with (first | ((with_reducible refine gate_builtin (b := .append) (xs := #[.tmp 18, .tmp 22]) rfl ?_); at_builtin; go_must (refine Kd.R_append Kd.string (w0 := w) w.heap.size rfl (.tmp 18) (.tmp 22) 22 9 (.string ⟨#[]⟩) 16 rfl Tryd.underlying22 info9 rfl (by decide) (by omega) _ ((ps0 c).map B) (B (pathW ++ c.pa)) [.string (B (pathW ++ c.pa))] (fun _ => True) (fun _ => False) rfl rfl rfl (fun _ hk => hk.elim) (fun _ _ => trivial) hS.out.row hS.out.sb.bel hS.out.sb.bel.size (by rw [List.length_map]; omega) ?_; intro v1 w12 ho hbb hg hat; have hS3 := Lib.hid (SQ.app (x := pathW ++ c.pa) hS.out hbb hg ho); clear ho hbb hg hat)))
        go_meet
        have e : ps1 c = ps0 c ++ [pathW ++ c.pa] := by simp [ps1, addP, hb]
        rw [e]
        exact hS3.out
      · -- it isn't
        go_wp2
        go_meet
        have e : ps1 c = ps0 c := by simp [ps1, addP, hb]
        rw [e]
        exact hS.out
    case rest =>
    clear hS n1
    clear k0 k1 k2 k3 k4 k5 k6 k7
    have hS := Lib.hid hcut
    clear hcut
    obtain ⟨k0, k1, k2, k3, k4, k5, k6, k7⟩ := hS.out.sb.cells hq4 hq5 hq6
    go_upto_if 25 with (fail)
    have n2 : (9223372036854775807 < 8 + D.length) = False := eq_false (by omega)
    go_cut [4] (fun v V => SQ w c V v (ps2 c))
    case first =>
      cases q4
      · -- it isn't
        go_wp2
        go_meet
        have e : ps2 c = ps1 c := by simp [ps2, addP, hq4.out]
        rw [e]
        exact hS.out
      · -- it is there
        go_wp2_with (first | (go_at_call 31; go_must (refine (hN.out _ hS.out.sb).mono ?_; rintro e w2 ⟨rfl, hb2⟩; replace hS := Lib.hid (hS.out.next hb2); clear hb2)) | ((with_reducible refine gate_builtin (b := .append) (xs := #[.tmp 26, .tmp 31]) rfl ?_); at_builtin; go_must (refine Kd.R_append Kd.string (w0 := w) w.heap.size rfl (.tmp 26) (.tmp 31) 22 9 (.string ⟨#[]⟩) 16 rfl Tryd.underlying22 info9 rfl (by decide) (by omega) _ ((ps1 c).map B) (B (ageW ++ D)) [.string (B (ageW ++ D))] (fun _ => True) (fun _ => False) rfl rfl rfl (fun _ hk => hk.elim) (fun _ _ => trivial) hS.out.row hS.out.sb.bel hS.out.sb.bel.size (by rw [List.length_map]; omega) ?_; intro v1 w12 ho hbb hg hat; have hS3 := Lib.hid (SQ.app (x := ageW ++ D) hS.out hbb hg ho); clear ho hbb hg hat)))
        go_meet
        have e : ps2 c = ps1 c ++ [ageW ++ D] := by simp [ps2, addP, hq4.out, hit.out]
        rw [e]
        exact hS3.out
    case rest =>
    clear hS n2
    clear k0 k1 k2 k3 k4 k5 k6 k7
    have hS := Lib.hid hcut
    clear hcut
    obtain ⟨k0, k1, k2, k3, k4, k5, k6, k7⟩ := hS.out.sb.cells hq4 hq5 hq6
    go_upto_if 34 with (fail)
    go_cut [4] (fun v V => SQ w c V v (ps3 c))
    case first =>
      cases q5
      · -- it isn't
        go_wp2
        go_meet
        have e : ps3 c = ps2 c := by simp [ps3, addP, hq5.out]
        rw [e]
        exact hS.out
      · -- it is there
        go_wp2_with (first | ((with_reducible refine gate_builtin (b := .append) (xs := #[.tmp 35, .tmp 36]) rfl ?_); at_builtin; go_must (refine Kd.R_append Kd.string (w0 := w) w.heap.size rfl (.tmp 35) (.tmp 36) 22 9 (.string ⟨#[]⟩) 16 rfl Tryd.underlying22 info9 rfl (by decide) (by omega) _ ((ps2 c).map B) ((⟨#[72, 116, 116, 112, 79, 110, 108, 121]⟩ : ByteArray)) [.string ((⟨#[72, 116, 116, 112, 79, 110, 108, 121]⟩ : ByteArray))] (fun _ => True) (fun _ => False) rfl rfl rfl (fun _ hk => hk.elim) (fun _ _ => trivial) hS.out.row hS.out.sb.bel hS.out.sb.bel.size (by rw [List.length_map]; omega) ?_; intro v1 w12 ho hbb hg hat; have hS3 := Lib.hid (SQ.app (x := httpW) hS.out hbb hg ho); clear ho hbb hg hat)))
        go_meet
        have e : ps3 c = ps2 c ++ [httpW] := by simp [ps3, addP, hq5.out]
        rw [e]
        exact hS3.out
    case rest =>
    clear hS
    clear k0 k1 k2 k3 k4 k5 k6 k7
    have hS := Lib.hid hcut
    clear hcut
    obtain ⟨k0, k1, k2, k3, k4, k5, k6, k7⟩ := hS.out.sb.cells hq4 hq5 hq6
    go_upto_if 39 with (fail)
    go_cut [4] (fun v V => SQ w c V v (ps4 c))
    case first =>
      cases q6
      · -- it isn't
        go_wp2
        go_meet
        have e : ps4 c = ps3 c := by simp [ps4, addP, hq6.out]
        rw [e]
        exact hS.out
      · -- it is there
        go_wp2_with (first | ((with_reducible refine gate_builtin (b := .append) (xs := #[.tmp 40, .tmp 41]) rfl ?_); at_builtin; go_must (refine Kd.R_append Kd.string (w0 := w) w.heap.size rfl (.tmp 40) (.tmp 41) 22 9 (.string ⟨#[]⟩) 16 rfl Tryd.underlying22 info9 rfl (by decide) (by omega) _ ((ps3 c).map B) ((⟨#[83, 101, 99, 117, 114, 101]⟩ : ByteArray)) [.string ((⟨#[83, 101, 99, 117, 114, 101]⟩ : ByteArray))] (fun _ => True) (fun _ => False) rfl rfl rfl (fun _ hk => hk.elim) (fun _ _ => trivial) hS.out.row hS.out.sb.bel hS.out.sb.bel.size (by rw [List.length_map]; omega) ?_; intro v1 w12 ho hbb hg hat; have hS3 := Lib.hid (SQ.app (x := secW) hS.out hbb hg ho); clear ho hbb hg hat)))
        go_meet
        have e : ps4 c = ps3 c ++ [secW] := by simp [ps4, addP, hq6.out]
        rw [e]
        exact hS3.out
    case rest =>
    clear hS
    clear k0 k1 k2 k3 k4 k5 k6 k7
    have hS := Lib.hid hcut
    clear hcut
    obtain ⟨k0, k1, k2, k3, k4, k5, k6, k7⟩ := hS.out.sb.cells hq4 hq5 hq6
    go_upto_if 45 with (fail)
    have n5 : (9223372036854775807 < 9 + c.si.length) = False := eq_false (by omega)
    go_cut [4] (fun v V => SQ w c V v (ps5 c))
    case first =>
      cases hb : c.si.isEmpty
      · -- it is there
        go_wp2_with (first | ((with_reducible refine gate_builtin (b := .append) (xs := #[.tmp 46, .tmp 50]) rfl ?_); at_builtin; go_must (refine Kd.R_append Kd.string (w0 := w) w.heap.size rfl (.tmp 46) (.tmp 50) 22 9 (.string ⟨#[]⟩) 16 rfl Tryd.underlying22 info9 rfl (by decide) (by omega) _ ((ps4 c).map B) (B (siteW ++ c.si)) [.string (B (siteW ++ c.si))] (fun _ => True) (fun _ => False) rfl rfl rfl (fun _ hk => hk.elim) (fun _ _ => trivial) hS.out.row hS.out.sb.bel hS.out.sb.bel.size (by rw [List.length_map]; omega) ?_; intro v1 w12 ho hbb hg hat; have hS3 := Lib.hid (SQ.app (x := siteW ++ c.si) hS.out hbb hg ho); clear ho hbb hg hat)))
        go_meet
        have e : ps5 c = ps4 c ++ [siteW ++ c.si] := by simp [ps5, addP, hb]
        rw [e]
        exact hS3.out
      · -- it isn't
        go_wp2
        go_meet
        have e : ps5 c = ps4 c := by simp [ps5, addP, hb]
        rw [e]
        exact hS.out
    case rest =>
    clear hS n5
    clear k0 k1 k2 k3 k4 k5 k6 k7
    have hS := Lib.hid hcut
    clear hcut
    obtain ⟨k0, k1, k2, k3, k4, k5, k6, k7⟩ := hS.out.sb.cells hq4 hq5 hq6
    go_wp2_with (first | (go_at_call 27; go_must (refine (hJ.out _ _ hS.out).mono ?_; rintro e w2 ⟨rfl, hb2⟩; replace hS := Lib.hid (hS.out.sb.next hb2); clear hb2)))
    go_ret2
    exact ⟨rfl, hS.out.bel⟩
end Go.Proofs.YtgnibfideghklaaDoor
