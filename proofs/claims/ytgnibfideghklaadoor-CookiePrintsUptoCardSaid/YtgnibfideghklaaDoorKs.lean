/-
  Chapter 19: the law CookiePrints, walked.
-/
import Derived.Test.YtgnibfideghklaaDoorKr
import Derived.Test.YtgnibfideghklaaDoorKo
set_option linter.unusedVariables false
set_option linter.unusedSimpArgs false
namespace Go.Proofs.YtgnibfideghklaaDoor
open Go.RowKit Go.Proofs.YtgnibfideghklaaDoorW.PrintWords Go.Proofs.YtgnibfideghklaaDoor.PCookieReads
theorem empty_R (W : World) : Kd.R k43 43 (W.alloc (.cells #[] 43)) W.heap.size (fun _ => True) (.slice (some ⟨W.heap.size, 0, none⟩) 0 0) [] := by
  have h := World.ownsRow_lit (base := W.heap.size) (e := 43) (size := 2) W #[] 0 (Nat.le_refl _) (by decide) rfl
  exact ⟨fun _ _ => trivial, [], h, Reps.none _ _⟩
set_option maxHeartbeats 2000000 in
set_option maxRecDepth 100000 in
theorem prints_walk (W : World) (hm : MaxL W) (ht : Tab W) (A : Option Addr) (c : Nat) (xs : List S43) (hC : Kd.C k43 W A xs.length xs) (hc : xs.length ≤ c) (hn : xs.length ≤ 1048576) (hs : (xs.map fun x => x.f0.size + x.f1.size).sum ≤ 1048576) :
    Calls Tryd.prog 5 #[.slice A xs.length c] W fun e w' => e = .returned (.bool true) ∧ Below W.heap.size W w' := by
  obtain ⟨L, hL⟩ : ∃ L : List (List UInt8 × List UInt8), xs.map (fun x => (x.f0.data.toList, x.f1.data.toList)) = L := ⟨_, rfl⟩
  have hLx : L.map SP = xs := by
    rw [← hL, List.map_map]
    conv => rhs; rw [← List.map_id xs]
    exact List.map_congr_left fun x _ => by simp [SP, of_data]
  have hLl : L.length = xs.length := by rw [← hL, List.length_map]
  have hsz : ∀ p ∈ L, p.1.length ≤ 1048576 ∧ p.2.length ≤ 1048576 := fun p hp => by
    rw [← hL] at hp
    obtain ⟨x, hx, rfl⟩ := List.mem_map.1 hp
    have := sum_le (fun x : S43 => x.f0.size + x.f1.size) xs x hx
    simp only [len_data'] at this ⊢
    omega
  have hS : Small L := fun p hp => by have := hsz p hp; omega
  have hP : ∀ w A c, Kd.C k43 w A xs.length xs → Calls Tryd.prog 14 #[.slice A xs.length c] w fun e w' => e = .returned (.tuple #[.string (resPr L).1, .int .i64 (resPr L).2]) ∧ Below w.heap.size w w' := fun w A c h => by
    have := print_any L hS A c w (by rw [hLx, hLl]; exact h) (by omega)
    rw [hLl] at this
    exact this
  have hR : ∀ w, Below W.heap.size W w → Calls Tryd.prog 15 #[.slice A xs.length c] w fun e w' => e = .returned (.tuple #[.string (resPr L).1, .int .i64 (resPr L).2]) ∧ Below w.heap.size w w' := fun w hb => by
    have := rprint_any L hS A c w (by rw [hLx, hLl]; exact Kd.C_below hC hb) (by omega)
    rw [hLl] at this
    exact this
  have hV := Lib.hid (fun w (h : Below W.heap.size W w) => lives_any w (hm.below h) (ht.below h))
  have hSm := Lib.hid (fun A0 c0 w h0 hc0 (hb : Below W.heap.size W w) => same_any xs (by omega) A0 A c0 c w h0 hc0 (Kd.C_below hC hb) hc)
  have hSm2 := Lib.hid (fun A0 A1 c0 c1 w => same_any xs (by omega) A0 A1 c0 c1 w)
  have hCC := Lib.hid hC
  replace hP := Lib.hid hP
  replace hR := Lib.hid hR
  have hE := Lib.hid (empty_R W)
  have hKM : ∀ (x : S43) cs, k43.K W x cs → k43.M (W.alloc (.cells #[] 43)) W.heap.size (fun _ => False) x cs := fun x cs h => by
    rw [k43_open h]
    exact k43_mkM _ _ _ _
  have hRR : ReadsRow (k43.K W) k43.sz (W.alloc (.cells #[] 43)) A xs.length xs := ReadsRow.imp_ hC (below_alloc (Below.refl _ _) _) (fun _ _ h => h)
  replace hKM := Lib.hid hKM
  replace hRR := Lib.hid hRR
  have hbb := Lib.hid (below_alloc (Below.refl W.heap.size W) (.cells #[] 43))
  clear hC hs
  cases hp : printC L with
  | none =>
    have e : resPr L = (⟨#[]⟩, 190) := resPr_none hp
    rw [e] at hP hR
    clear hp e hLx hLl hsz hS hL
    go_enter Tryd.func5, Tryd.ntmps5
    go_wp2_with (first  | ((with_reducible refine gate_builtin (b := .append) (xs := #[.tmp 9, .tmp 10]) rfl ?_); at_builtin; go_must (refine Kd.R_append_rows k43 (w0 := W) W.heap.size rfl (.tmp 9) (.tmp 10) 27 43 (.agg #[(.string ⟨#[]⟩), (.string ⟨#[]⟩)]) 32 rfl Tryd.underlying27 info43 rfl (by decide) (by omega) _ [] xs A xs.length c (fun _ => True) (fun _ => False) rfl rfl hE.out hRR.out hKM.out (fun _ hk => hk.elim) (fun _ _ => trivial) hbb.out hbb.out.size (by simp only [List.length_nil]; omega) ?_; intro v1 w1 ho hb hg hat; obtain ⟨A1, c1, rfl, hl1, hC1⟩ := Kd.R_reads ho; simp only [List.nil_append] at hl1 hC1; replace hC1 := Lib.hid hC1; replace hb := Lib.hid hb; replace hl1 := Lib.hid hl1; clear ho hg hat))  | (go_at_call 14; go_must (refine (hP.out _ _ _ hC1.out).mono ?_; rintro e w2 ⟨rfl, hb2⟩; replace hC1 := Lib.hid (Kd.C_below hC1.out hb2); replace hb := Lib.hid (hb.out.trans (hb2.mono hb.out.size)); clear hb2))  | (go_at_call 15; go_must (refine (hR.out _ hb.out).mono ?_; rintro e w2 ⟨rfl, hb2⟩; replace hC1 := Lib.hid (Kd.C_below hC1.out hb2); replace hb := Lib.hid (hb.out.trans (hb2.mono hb.out.size)); clear hb2))  | (go_at_call 10; go_must (refine (hV.out _ hb.out).mono ?_; rintro e w2 ⟨rfl, hb2⟩; replace hC1 := Lib.hid (Kd.C_below hC1.out hb2); replace hb := Lib.hid (hb.out.trans (hb2.mono hb.out.size)); clear hb2))  | (go_at_call 13; go_must (refine (hSm.out _ _ _ hC1.out hl1.out hb.out).mono ?_; rintro e w2 ⟨rfl, hb2⟩; replace hb := Lib.hid (hb.out.trans (hb2.mono hb.out.size)); clear hb2)))
    go_ret
    exact ⟨rfl, hb.out⟩
  | some l =>
    have e : resPr L = (B l, 0) := resPr_some hp
    rw [e] at hP hR
    have hpl : l.length ≤ 33554512 := by
      unfold printC at hp
      split at hp
      · rename_i h
        injection hp with hp
        rw [← hp]
        have := joinR_len 2097157 (L.map glue) (fun x hx => by
          obtain ⟨q, hq, rfl⟩ := List.mem_map.1 hx
          have := hsz q hq
          rw [glue_len]
          omega)
        rw [List.length_map] at this
        have h2 := Nat.mul_le_mul_right 2097157 h.2.1
        exact Nat.le_trans this (Nat.le_trans h2 (Nat.le_of_ble_eq_true rfl))
      · cases hp
    have hPa : ∀ w, Below W.heap.size W w → Calls Tryd.prog 11 #[.string (B l)] w (Pairs xs 0 w) := fun w h => by
      have := parse_any l (by omega) w (hm.below h)
      rw [print_parse hp] at this
      have e1 : (resP (some L)).1 = xs := hLx
      have e2 : (resP (some L)).2 = 0 := rfl
      rw [e1, e2] at this
      exact this.mono fun e w' h => pairs_of h
    replace hPa := Lib.hid hPa
    clear hp e hLx hLl hsz hS hL hpl
    go_enter Tryd.func5, Tryd.ntmps5
    go_upto_region 5 with (first  | ((with_reducible refine gate_builtin (b := .append) (xs := #[.tmp 9, .tmp 10]) rfl ?_); at_builtin; go_must (refine Kd.R_append_rows k43 (w0 := W) W.heap.size rfl (.tmp 9) (.tmp 10) 27 43 (.agg #[(.string ⟨#[]⟩), (.string ⟨#[]⟩)]) 32 rfl Tryd.underlying27 info43 rfl (by decide) (by omega) _ [] xs A xs.length c (fun _ => True) (fun _ => False) rfl rfl hE.out hRR.out hKM.out (fun _ hk => hk.elim) (fun _ _ => trivial) hbb.out hbb.out.size (by simp only [List.length_nil]; omega) ?_; intro v1 w1 ho hb hg hat; obtain ⟨A1, c1, rfl, hl1, hC1⟩ := Kd.R_reads ho; simp only [List.nil_append] at hl1 hC1; replace hC1 := Lib.hid hC1; replace hb := Lib.hid hb; replace hl1 := Lib.hid hl1; clear ho hg hat))  | (go_at_call 14; go_must (refine (hP.out _ _ _ hC1.out).mono ?_; rintro e w2 ⟨rfl, hb2⟩; replace hC1 := Lib.hid (Kd.C_below hC1.out hb2); replace hb := Lib.hid (hb.out.trans (hb2.mono hb.out.size)); clear hb2))  | (go_at_call 15; go_must (refine (hR.out _ hb.out).mono ?_; rintro e w2 ⟨rfl, hb2⟩; replace hC1 := Lib.hid (Kd.C_below hC1.out hb2); replace hb := Lib.hid (hb.out.trans (hb2.mono hb.out.size)); clear hb2))  | (go_at_call 10; go_must (refine (hV.out _ hb.out).mono ?_; rintro e w2 ⟨rfl, hb2⟩; replace hC1 := Lib.hid (Kd.C_below hC1.out hb2); replace hb := Lib.hid (hb.out.trans (hb2.mono hb.out.size)); clear hb2))  | (go_at_call 13; go_must (refine (hSm.out _ _ _ hC1.out hl1.out hb.out).mono ?_; rintro e w2 ⟨rfl, hb2⟩; replace hb := Lib.hid (hb.out.trans (hb2.mono hb.out.size)); clear hb2)))
    clear hC1 hl1
    go_wp2_with (first  | (go_at_call 11; go_must (refine (hPa.out _ hb.out).mono ?_; rintro e w3 ⟨A3, c3, rfl, hC3, hl3, hb3⟩; have k3 := Lib.hid (hC3.out _ (Below.refl _ _)); replace hb := Lib.hid (hb.out.trans (hb3.mono hb.out.size)); replace hl3 := Lib.hid hl3; clear hb3))  | (go_at_call 13; go_must (refine (hSm.out _ _ _ k3.out hl3.out hb.out).mono ?_; rintro e w2 ⟨rfl, hb2⟩; replace hb := Lib.hid (hb.out.trans (hb2.mono hb.out.size)); clear hb2)))
    go_ret
    exact ⟨rfl, hb.out⟩
end Go.Proofs.YtgnibfideghklaaDoor
