/-
  Chapter 19: the program's Print, walked.
-/
import Derived.Test.YtgnibfideghklaaDoorKp
set_option linter.unusedVariables false
set_option linter.unusedSimpArgs false
namespace Go.Proofs.YtgnibfideghklaaDoor
open Go.RowKit Go.Proofs.YtgnibfideghklaaDoorW.PrintWords Go.Proofs.YtgnibfideghklaaDoor.PCookieReads
theorem resPr_none {L : List (List UInt8 × List UInt8)} (h : printC L = none) : resPr L = (⟨#[]⟩, 190) := by unfold resPr; rw [h]
theorem resPr_some {L : List (List UInt8 × List UInt8)} {l : List UInt8} (h : printC L = some l) : resPr L = (B l, 0) := by unfold resPr; rw [h]
/-- The rows of a loop of Print. -/
structure PQ (w wr : World) (A : Option Addr) (L : List (List UInt8 × List UInt8)) (v : Value) (PL : List (List UInt8 × List UInt8)) : Prop where
  row : Kd.R Kd.string 9 wr w.heap.size (fun _ => True) v ((PL.map glue).map B)
  arg : Kd.C k43 wr A L.length (L.map SP)
  bel : Below w.heap.size w wr
theorem PQ.next {w wr w2 : World} {A : Option Addr} {L PL : List (List UInt8 × List UInt8)} {v : Value} (h : PQ w wr A L v PL) (hb : Below wr.heap.size wr w2) : PQ w w2 A L v PL :=
  ⟨Kd.R_below h.row hb, Kd.C_below h.arg hb, h.bel.trans (hb.mono h.bel.size)⟩
set_option maxHeartbeats 2000000 in
set_option maxRecDepth 100000 in
theorem print_any (L : List (List UInt8 × List UInt8)) (hS : Small L) (A0 : Option Addr) (c0 : Nat) (w : World) (hC : Kd.C k43 w A0 L.length (L.map SP)) (hll : L.length < 4611686018427387904) :
    Calls Tryd.prog 14 #[.slice A0 L.length c0] w fun e w' => e = .returned (.tuple #[.string (resPr L).1, .int .i64 (resPr L).2]) ∧ Below w.heap.size w w' := by
  by_cases h1 : 1 ≤ L.length
  case neg =>
    have hq : resPr L = (⟨#[]⟩, 190) := resPr_none (by unfold printC; rw [if_neg (by omega)])
    rw [hq]
    have h0 : L.length = 0 := by omega
    clear hq hC
    generalize L.length = n at *
    subst h0
    go_enter Tryd.func14, Tryd.ntmps14
    go_wp2
    go_ret2
    exact ⟨rfl, Below.refl _ _⟩
  case pos =>
    by_cases h16 : L.length ≤ 16
    case neg =>
      have hq : resPr L = (⟨#[]⟩, 190) := resPr_none (by unfold printC; rw [if_neg (by omega)])
      rw [hq]
      clear hq hC
      generalize L.length = n at *
      go_enter Tryd.func14, Tryd.ntmps14
      go_wp2
      go_ret2
      exact ⟨rfl, Below.refl _ _⟩
    case pos =>
      have hP0 : PQ w w A0 L (.slice none 0 0) [] := ⟨Kd.R_nil _ _ _ _ _, hC, Below.refl _ _⟩
      replace hP0 := Lib.hid hP0
      have hRt := Lib.hid (fun (p : List UInt8 × List UInt8) (hp : p ∈ L) W => right_any p.1 p.2 (by have := (hS p hp).1; omega) (by have := (hS p hp).2; omega) W)
      have hbad : ∀ (P R : List (List UInt8 × List UInt8)) (p : List UInt8 × List UInt8), L = P ++ p :: R → pairRt p = false → resPr L = (⟨#[]⟩, 190) := fun P R p e hp => by
        apply resPr_none
        unfold printC
        rw [if_neg]
        intro h
        have := List.all_eq_true.1 h.2.2 p (by rw [e]; simp)
        rw [hp] at this
        cases this
      have hgood : L.all pairRt = true → resPr L = (B (joinR (L.map glue)), 0) := fun h => by
        apply resPr_some
        unfold printC
        rw [if_pos ⟨h1, h16, h⟩]
      replace hbad := Lib.hid hbad
      replace hgood := Lib.hid hgood
      have hJ : ∀ W v, PQ w W A0 L v L → Calls Tryd.prog 27 #[v, .string ⟨#[59, 32]⟩] W fun e w' => e = .returned (.string (B (joinR (L.map glue)))) ∧ Below W.heap.size W w' := fun W v h =>
        join_any v (L.map glue) W _ _ h.row (by intro e; rw [List.map_eq_nil_iff] at e; rw [e] at h1; simp at h1) (by rw [List.length_map]; omega) (by
          have := joinR_len 8589934594 (L.map glue) (fun x hx => by
            obtain ⟨q, hq, rfl⟩ := List.mem_map.1 hx
            have := hS q hq
            rw [glue_len]
            omega)
          rw [List.length_map] at this
          have h2 := Nat.mul_le_mul_right 8589934594 h16
          exact Nat.le_trans this (Nat.le_trans h2 (Nat.le_of_ble_eq_true rfl)))
      replace hJ := Lib.hid hJ
      have hS2 := Lib.hid hS
      have hC0 := Lib.hid hC
      clear hS hC hll
      go_enter Tryd.func14, Tryd.ntmps14
      go_wp2
      go_loopw [4, 17] (fun v i wr => ∃ (PL RL : List (List UInt8 × List UInt8)), L = PL ++ RL ∧ i = .int .i64 (PL.length : Nat) ∧ PL.all pairRt = true ∧ PQ w wr A0 L v PL) (fun _ i _ => L.length - (intOf i).toNat)
      case atStart => exact ⟨[], L, rfl, rfl, rfl, hP0.out⟩
      case round =>
        clear hP0
        rename World => wr
        obtain ⟨PL, RL, hLs, rfl, hall, hP⟩ := hrel
        replace hLs := Lib.hid hLs
        cases RL with
        | nil =>
          have hn : PL.length = L.length := by rw [hLs.out]; simp
          have e : PL = L := by rw [hLs.out, List.append_nil]
          have hq := hgood.out (by rw [← e]; exact hall)
          rw [e] at hP
          replace hq := Lib.hid hq
          replace hP := Lib.hid hP
          clear hall e
          go_wp2_with (first | (go_at_call 27; go_must (refine (hJ.out _ _ hP.out).mono ?_; rintro e4 w4 ⟨rfl, hb4⟩; replace hb := Lib.hid (hP.out.bel.trans (hb4.mono hP.out.bel.size)); clear hb4)))
          go_ret2
          exact ⟨by rw [hq.out]; rfl, hb.out⟩
        | cons p RL =>
          have hn : PL.length + 1 + RL.length = L.length := by rw [hLs.out]; simp; omega
          have hpL : p ∈ L := by rw [hLs.out]; simp
          obtain ⟨ad, rfl, k0, k1⟩ := pair_at hP.arg hLs.out
          have hR1 := Lib.hid (hRt.out p hpL)
          obtain ⟨hp1, hp2⟩ := hS2.out p hpL
          have hcells : ∀ W2, Below (wr.alloc (.cells #[.string (B p.1), .string (B p.2)] 43)).heap.size (wr.alloc (.cells #[.string (B p.1), .string (B p.2)] 43)) W2 → W2.cell? ⟨wr.heap.size, 0, none⟩ = some (.string (B p.1)) ∧ W2.cell? ⟨wr.heap.size, 1, none⟩ = some (.string (B p.2)) ∧ PQ w W2 (some ad) L _ PL := fun W2 hb => by
            have h0 := heap_alloc_new wr (.cells #[.string (B p.1), .string (B p.2)] 43)
            have h := (hb.block _ (Array.getElem?_eq_some_iff.1 h0).1).trans h0
            exact ⟨(blk_cell h 0).trans rfl, (blk_cell h 1).trans rfl, (hP.next (below_alloc (Below.refl _ _) _)).next hb⟩
          replace hcells := Lib.hid hcells
          clear hP
          cases hrt : pairRt p with
          | false =>
            have hq := hbad.out _ _ _ hLs.out hrt
            have e : (p.1, p.2) = p := rfl
            rw [e, hrt] at hR1
            replace hq := Lib.hid hq
            clear hrt e
            go_wp2_with (first | (go_at_call 24; go_must (refine (hR1.out _).mono ?_; rintro e4 w4 ⟨rfl, hb4⟩; replace hb := Lib.hid (hcells.out _ hb4).2.2.bel; clear hb4)))
            go_ret2
            exact ⟨by rw [hq.out]; rfl, hb.out⟩
          | true =>
            have e : (p.1, p.2) = p := rfl
            rw [e, hrt] at hR1
            have hall2 : (PL ++ [p]).all pairRt = true := by rw [List.all_append, hall, List.all_cons, hrt]; rfl
            replace hall2 := Lib.hid hall2
            clear hrt e hall
            have rs := B_size
            have r0 : ∀ l m, B l ++ B m = B (l ++ m) := B_app
            have r1 : ∀ l, B l ++ (⟨#[61]⟩ : ByteArray) = B (l ++ [61]) := fun l => B_app l [61]
            have m1 : (9223372036854775807 < p.1.length + 1) = False := eq_false (by omega)
            have m2 : (9223372036854775807 < p.1.length + 1 + p.2.length) = False := eq_false (by omega)
            have hgl : glue p = p.1 ++ 61 :: p.2 := rfl
            replace hgl := Lib.hid hgl
            go_wp2_with (first  | (go_at_call 24; go_must (refine (hR1.out _).mono ?_; rintro e4 w4 ⟨rfl, hb4⟩; obtain ⟨k2, k3, hP⟩ := hcells.out _ hb4; replace hP := Lib.hid hP; clear hb4))  | ((with_reducible refine gate_builtin (b := .append) (xs := #[.tmp 27, .tmp 34]) rfl ?_); at_builtin; go_must (refine Kd.R_append Kd.string (w0 := w) w.heap.size rfl (.tmp 27) (.tmp 34) 22 9 (.string ⟨#[]⟩) 16 rfl Tryd.underlying22 info9 rfl (by decide) (by omega) _ ((PL.map glue).map B) (B (p.1 ++ 61 :: p.2)) [.string (B (p.1 ++ 61 :: p.2))] (fun _ => True) (fun _ => False) rfl rfl rfl (fun _ hk => hk.elim) (fun _ _ => trivial) hP.out.row hP.out.bel hP.out.bel.size (by rw [List.length_map, List.length_map]; omega) ?_; intro v1 w12 ho hbb hg hat; have hP3 : PQ w w12 (some ad) L v1 (PL ++ [p]) := ⟨by rw [List.map_append, List.map_append]; exact ho, Kd.C_below hC0.out hbb, hbb⟩; replace hP3 := Lib.hid hP3; clear ho hbb hg hat)))
            go_roundw
            case rel => exact ⟨PL ++ [p], RL, by rw [hLs.out]; simp, by rw [List.length_append, List.length_singleton]; go_num, hall2.out, hP3.out⟩
            case measure => simp [intOf]; omega
end Go.Proofs.YtgnibfideghklaaDoor
