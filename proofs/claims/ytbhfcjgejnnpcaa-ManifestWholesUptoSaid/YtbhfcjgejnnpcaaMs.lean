/-
  Chapter 11: the program's Whole, walked.
-/
import Derived.Test.YtbhfcjgejnnpcaaMx
import Derived.Test.YtbhfcjgejnnpcaaQ8
set_option linter.unusedVariables false
set_option linter.unusedSimpArgs false
namespace Go.Proofs.Ytbhfcjgejnnpcaa
open Go.RowKit Go.Proofs.YtbhfcjgejnnpcaaW.PrintWords Go.Proofs.Ytbhfcjgejnnpcaa.PManifest
def whF : Nat → List (List S44) → List S71
  | _, [] => []
  | n, l :: r => l.map (fun t => (⟨(n : Int), t⟩ : S71)) ++ whF (n + 1) r
theorem whF_app : ∀ (P : List (List S44)) (n : Nat) (l : List S44), whF n (P ++ [l]) = whF n P ++ l.map (fun t => (⟨((n + P.length : Nat) : Int), t⟩ : S71))
  | [], n, l => by simp [whF]
  | p :: r, n, l => by
    rw [List.cons_append, whF, whF, whF_app r (n + 1) l, List.append_assoc, List.length_cons, show n + 1 + r.length = n + (r.length + 1) by omega]
theorem whF_len : ∀ (P : List (List S44)) (n : Nat), (whF n P).length = P.flatten.length
  | [], n => rfl
  | p :: r, n => by rw [whF, List.length_append, List.length_map, whF_len r (n + 1), List.flatten_cons, List.length_append]
theorem whF_mem : ∀ (P : List (List S44)) (n : Nat) (a : S71), a ∈ whF n P → a.f1 ∈ P.flatten
  | [], n, a, h => by cases h
  | p :: r, n, a, h => by
    rw [whF] at h
    rw [List.flatten_cons]
    rcases List.mem_append.1 h with h | h
    · obtain ⟨t, ht, rfl⟩ := List.mem_map.1 h
      exact List.mem_append_left _ ht
    · exact List.mem_append_right _ (whF_mem r (n + 1) a h)
def zs5 : List Value := [.int .i64 0, .int .i64 0, .int .u64 0, .slice none 0 0, .slice none 0 0]
structure WhB (w : World) (sc : List Value) (log next seq : Int) (v : Value) (acc : List S71) (W : World) : Prop where
  s : W.heap[w.heap.size]? = some (.cells sc.toArray 27 (0, 0))
  r : W.heap[w.heap.size + 1]? = some (.cells zs5.toArray 31 (0, 0))
  e : W.heap[w.heap.size + 2]? = some (.cells #[.int .i64 log, .int .i64 next, .int .u64 seq, v, .slice none 0 0] 31 (0, 0))
  row : Kd.R k71 71 W (w.heap.size + 3) (fun _ => True) v acc
  bel : Below w.heap.size w W
theorem WhB.lt {w : World} {sc : List Value} {log next seq : Int} {v : Value} {acc : List S71} {W : World} (h : WhB w sc log next seq v acc W) : w.heap.size + 2 < W.heap.size := (Array.getElem?_eq_some_iff.1 h.e).1
theorem WhB.next {w : World} {sc : List Value} {log next seq : Int} {v : Value} {acc : List S71} {W W2 : World} (h : WhB w sc log next seq v acc W) (hb : Below W.heap.size W W2) : WhB w sc log next seq v acc W2 :=
  have hl := h.lt
  ⟨(hb.block _ (by omega)).trans h.s, (hb.block _ (by omega)).trans h.r, (hb.block _ (by omega)).trans h.e, Kd.R_below h.row hb, h.bel.trans (hb.mono h.bel.size)⟩
theorem WhB.step {w : World} {sc : List Value} {log next seq : Int} {v : Value} {acc : List S71} {W : World} (h : WhB w sc log next seq v acc W) {x : S71} {v1 : Value} {w1 : World} (hR : Kd.R k71 71 w1 (w.heap.size + 3) (fun _ => True) v1 (acc ++ [x])) (hg : W.grownBy w1 v.ownBlock) :
    (w1.heap[w.heap.size + 2]? = some (.cells #[.int .i64 log, .int .i64 next, .int .u64 seq, v, .slice none 0 0] 31 (0, 0))) ∧ WhB w sc log next seq v1 (acc ++ [x]) (w1.setCell ⟨w.heap.size + 2, 3, none⟩ v1) := by
  have hl := h.lt
  have hge : ∀ k, v.ownBlock = some k → w.heap.size + 3 ≤ k := fun k hk => (Kd.R_bound h.row).1 k hk |>.2.1
  have hne : ∀ j, j < 3 → some (w.heap.size + j) ≠ v.ownBlock := fun j hj e => by
    have := hge _ e.symm
    omega
  have b0 := (hg.block _ (by omega) (hne 0 (by omega))).trans h.s
  have b1 := (hg.block _ (by omega) (hne 1 (by omega))).trans h.r
  have b2 := (hg.block _ (by omega) (hne 2 (by omega))).trans h.e
  refine ⟨b2, (Below.heap_setCell _ _ _ _ (show w.heap.size + 0 ≠ w.heap.size + 2 by omega)).trans b0, (Below.heap_setCell _ _ _ _ (show w.heap.size + 1 ≠ w.heap.size + 2 by omega)).trans b1, ?_, ?_, ?_⟩
  · rw [blk_set b2]
    rfl
  · refine Kd.R_mono (Kd.R_move (Kd.R_bound hR) fun b hb => Below.heap_setCell _ _ _ _ ?_) fun _ _ => trivial
    have := hb.2.1
    show b ≠ w.heap.size + 2
    omega
  · exact (h.bel.grown hg h.bel.size (fun k hk => by have := hge k hk; omega)).setCell (by show w.heap.size ≤ w.heap.size + 2; omega) _
theorem WhB.new (w : World) (sc : List Value) (log next seq : Int) : WhB w sc log next seq (.slice none 0 0) [] (((w.alloc (.cells sc.toArray 27)).alloc (.cells zs5.toArray 31)).alloc (.cells #[.int .i64 log, .int .i64 next, .int .u64 seq, .slice none 0 0, .slice none 0 0] 31)) := by
  have h0 := heap_alloc_new w (.cells sc.toArray 27)
  have h1 := heap_alloc_new (w.alloc (.cells sc.toArray 27)) (.cells zs5.toArray 31)
  have h2 := heap_alloc_new ((w.alloc (.cells sc.toArray 27)).alloc (.cells zs5.toArray 31)) (.cells #[.int .i64 log, .int .i64 next, .int .u64 seq, .slice none 0 0, .slice none 0 0] 31)
  have e1 : (w.alloc (.cells sc.toArray 27)).heap.size = w.heap.size + 1 := by simp
  have e2 : ((w.alloc (.cells sc.toArray 27)).alloc (.cells zs5.toArray 31)).heap.size = w.heap.size + 2 := by simp
  rw [e1] at h1
  rw [e2] at h2
  exact ⟨blk_alloc (blk_alloc h0 _) _, blk_alloc h1 _, h2, Kd.R_nil _ _ _ _ _, (below_alloc (below_alloc (below_alloc (Below.refl _ _) _) _) _)⟩
def WholeP (L : List (List S44)) (log next seq : Int) (w : World) (e : Ending) (w' : World) : Prop :=
  ∃ A c A4 c4, e = .returned (.agg #[.int .i64 log, .int .i64 next, .int .u64 seq, .slice A (whF 0 L).length c, .slice A4 0 c4]) ∧ (whF 0 L).length ≤ c ∧ Kd.C k71 w' A (whF 0 L).length (whF 0 L) ∧ Below w.heap.size w w'
theorem C_zero {α : Type} (d : Kd α) (w : World) (A : Option Addr) : Kd.C d w A 0 [] := ⟨rfl, by omega, fun h => absurd h (Nat.lt_irrefl 0)⟩
theorem put5 {W : World} {g : Nat} {T : TypeId} {a b c d e : Value} (h : W.heap[g]? = some (.cells #[a, b, c, d, e] T (0, 0))) (a2 b2 c2 d2 e2 : Value) : (((((W.setCell ⟨g, 0, none⟩ a2).setCell ⟨g, 1, none⟩ b2).setCell ⟨g, 2, none⟩ c2).setCell ⟨g, 3, none⟩ d2).setCell ⟨g, 4, none⟩ e2).heap[g]? = some (.cells #[a2, b2, c2, d2, e2] T (0, 0)) := by
  rw [blk_set (blk_set (blk_set (blk_set (blk_set h 0 a2) 1 b2) 2 c2) 3 d2) 4 e2]
  rfl
set_option maxHeartbeats 2000000 in
set_option maxRecDepth 100000 in
theorem whole_any (L : List (List S44)) (log next seq : Int) (hn : L.length < 1000000000) (hfl : L.flatten.length < 1000000000) (A : Option Addr) (c : Nat) (w : World) (hr : Kd.C (Kd.slice 44 k44) w A L.length L) (hc : L.length ≤ c) :
    Calls Try.prog 10 #[.agg #[.slice A L.length c, .int .i64 log, .int .i64 next, .int .u64 seq]] w (WholeP L log next seq w) := by
  obtain ⟨sc, hsc⟩ : ∃ sc : List Value, sc = [.slice A L.length c, .int .i64 log, .int .i64 next, .int .u64 seq] := ⟨_, rfl⟩
  have hB0 := WhB.new w sc log next seq
  have hcell : ∀ W v acc, WhB w sc log next seq v acc W → W.cell? ⟨w.heap.size, 0, none⟩ = some (.slice A L.length c) ∧ W.cell? ⟨w.heap.size, 1, none⟩ = some (.int .i64 log) ∧ W.cell? ⟨w.heap.size, 2, none⟩ = some (.int .i64 next) ∧ W.cell? ⟨w.heap.size, 3, none⟩ = some (.int .u64 seq) := fun W v acc h => by
    have hs := h.s
    rw [hsc] at hs
    exact ⟨(blk_cell hs 0).trans rfl, (blk_cell hs 1).trans rfl, (blk_cell hs 2).trans rfl, (blk_cell hs 3).trans rfl⟩
  have hcell2 := hcell
  replace hcell := Lib.hid hcell
  rw [hsc] at hB0
  replace hB0 : Hid (WhB w sc log next seq (.slice none 0 0) [] _) := Lib.hid (by rw [hsc]; exact hB0)
  obtain ⟨k0, k1, k2, k3⟩ := hcell.out _ _ _ hB0.out
  clear hcell2 hsc
  replace hr := Lib.hid hr
  have hBx := Lib.hid (And.intro (blk_cell hB0.out.e 3) (blk_frozen hB0.out.e 3))
  go_enter Try.func10, Try.ntmps10
  go_wp2
  clear k0 k1 k2 k3 hBx
  go_loopw [19] (fun i wr => ∃ P R v, L = P ++ R ∧ i = .int .i64 (P.length : Nat) ∧ Hid (WhB w sc log next seq v (whF 0 P) wr)) (fun i _ => L.length - (intOf i).toNat)
  case atStart => exact ⟨[], L, _, rfl, rfl, hB0⟩
  case round =>
    clear hB0
    rename World => wr
    obtain ⟨P, R, v, hLs, rfl, hB⟩ := hrel
    cases R with
    | nil =>
      have hPL : P = L := by rw [hLs, List.append_nil]
      subst hPL
      clear hLs
      have hbe := hB.out.e
      have hbr := hB.out.r
      obtain ⟨A9, c9, rfl, hc9, _⟩ := Kd.R_reads hB.out.row
      have c0 := (blk_cell hbe 0).trans rfl
      have c1 := (blk_cell hbe 1).trans rfl
      have c2 := (blk_cell hbe 2).trans rfl
      have c3 := (blk_cell hbe 3).trans rfl
      have c4 := (blk_cell hbe 4).trans rfl
      have d0 : wr.cell? ⟨w.heap.size + 1, 0, none⟩ = some (.int .i64 0) := (blk_cell hbr 0).trans rfl
      have d1 : wr.cell? ⟨w.heap.size + 1, 1, none⟩ = some (.int .i64 0) := (blk_cell hbr 1).trans rfl
      have d2 : wr.cell? ⟨w.heap.size + 1, 2, none⟩ = some (.int .u64 0) := (blk_cell hbr 2).trans rfl
      have d3 : wr.cell? ⟨w.heap.size + 1, 3, none⟩ = some (.slice none 0 0) := (blk_cell hbr 3).trans rfl
      have d4 : wr.cell? ⟨w.heap.size + 1, 4, none⟩ = some (.slice none 0 0) := (blk_cell hbr 4).trans rfl
      have f0 := fun i => blk_frozen hbr i
      clear hbe hbr
      have hR2 := Lib.hid (Kd.R_bound hB.out.row)
      have hrb := Lib.hid hB.out.r
      have hbel := Lib.hid hB.out.bel
      clear hB
      go_wp2
      refine bodyPost_ret (v := .agg #[.int .i64 log, .int .i64 next, .int .u64 seq, .slice A9 (whF 0 P).length c9, .slice none 0 0]) ?_ ?_ ?_
      · exact results_single rfl (Vals.cell (w.heap.size + 1) 31 _ (0, 0) _ rfl (put5 hrb.out _ _ _ _ _) Try.underlying31 rfl (by kernel_rfl) .nil)
      · rfl
      · refine ⟨A9, c9, none, 0, rfl, ?_, ?_, ?_⟩
        · exact hc9
        · have hm := Kd.R_move (w1 := ((((wr.setCell ⟨w.heap.size + 1, 0, none⟩ (.int .i64 log)).setCell ⟨w.heap.size + 1, 1, none⟩ (.int .i64 next)).setCell ⟨w.heap.size + 1, 2, none⟩ (.int .u64 seq)).setCell ⟨w.heap.size + 1, 3, none⟩ (.slice A9 (whF 0 P).length c9)).setCell ⟨w.heap.size + 1, 4, none⟩ (.slice none 0 0)) hR2.out fun b hb => by
            have hne : b ≠ w.heap.size + 1 := by
              have := hb.2.1
              omega
            exact (Below.heap_setCell _ _ _ _ (show b ≠ w.heap.size + 1 from hne)).trans ((Below.heap_setCell _ _ _ _ (show b ≠ w.heap.size + 1 from hne)).trans ((Below.heap_setCell _ _ _ _ (show b ≠ w.heap.size + 1 from hne)).trans ((Below.heap_setCell _ _ _ _ (show b ≠ w.heap.size + 1 from hne)).trans (Below.heap_setCell _ _ _ _ (show b ≠ w.heap.size + 1 from hne)))))
          exact (Kd.R_reads' hm).2.2
        · exact (put4_below hbel.out (by omega) _ _ _ _).setCell (p := ⟨w.heap.size + 1, 4, none⟩) (show w.heap.size ≤ w.heap.size + 1 by omega) _
    | cons l R =>
      have hn2 : P.length + 1 + R.length = L.length := by rw [hLs]; simp; omega
      have hfl2 : (whF 0 P).length + l.length < 1000000000 := by
        rw [whF_len]
        have : L.flatten.length = P.flatten.length + (l.length + R.flatten.length) := by rw [hLs, List.flatten_append, List.flatten_cons, List.length_append, List.length_append]
        omega
      have hll : l.length < 1000000000 := by omega
      obtain ⟨ad, A3, c3, e1, e2, e3, e4⟩ := at_L3 hr.out (P.length : Int) (by omega) (by omega)
      have e5 : rd_L3 L (P.length : Int) = l := by rw [hLs]; exact rdL_mid _ _ _ _ rfl
      rw [e5] at e2 e3 e4
      rw [Int.toNat_natCast] at e2
      subst e1
      have q2 := pw_cell_below hB.out.bel e2
      have b1 : decide (P.length < L.length) = true := decide_eq_true (by omega)
      have hLs2 : Hid (L = (P ++ [l]) ++ R) := Lib.hid (by rw [hLs]; simp)
      replace e4 := Lib.hid e4
      clear hLs e5 e2
      go_wp2
      clear q2
      go_loopw [26] (fun i wr => ∃ P2 R2 v, l = P2 ++ R2 ∧ i = .int .i64 (P2.length : Nat) ∧ Hid (WhB w sc log next seq v (whF 0 P ++ P2.map (fun t => (⟨(P.length : Int), t⟩ : S71))) wr)) (fun i _ => l.length - (intOf i).toNat)
      case atStart => exact ⟨[], l, v, rfl, rfl, Lib.hid (by rw [List.map_nil, List.append_nil]; exact hB.out)⟩
      case round =>
        clear hB
        rename World => wi
        obtain ⟨P2, R2, v2, hl, rfl, hB⟩ := hrel
        cases R2 with
        | nil =>
          have hPl : P2 = l := by rw [hl, List.append_nil]
          subst hPl
          have hB3 : Hid (WhB w sc log next seq v2 (whF 0 (P ++ [P2])) wi) := Lib.hid (by
            rw [whF_app, Nat.zero_add]
            exact hB.out)
          clear hl hB
          go_wp2
          go_roundw
          case rel => exact ⟨P ++ [P2], R, v2, hLs2.out, by simp, hB3⟩
          case measure => simp [intOf]; omega
        | cons t R2 =>
          have hn3 : P2.length + 1 + R2.length = l.length := by rw [hl]; simp; omega
          obtain ⟨ad4, e6, d0, d1, d2, d3, d4⟩ := at_T44 (Kd.C_below e4.out hB.out.bel) (P2.length : Int) (by omega) (by omega)
          have e7 : rd_T44 l (P2.length : Int) = t := by rw [hl]; exact rd_mid _ _ _ _ rfl
          rw [e7, Int.toNat_natCast] at d0 d1 d2 d3 d4
          subst e6
          have b2 : decide (P2.length < l.length) = true := decide_eq_true (by omega)
          have hl2 : Hid (l = (P2 ++ [t]) ++ R2) := Lib.hid (by rw [hl]; simp)
          clear hl e7
          have hbx := below_alloc (Below.refl wi.heap.size wi) (.cells #[.int .i64 t.f0, .int .i64 t.f1, .int .i64 t.f2, .string t.f3, .string t.f4] 44)
          have hB4 := Lib.hid (hB.out.next hbx)
          have hx := heap_alloc_new wi (.cells #[.int .i64 t.f0, .int .i64 t.f1, .int .i64 t.f2, .string t.f3, .string t.f4] 44)
          have x0 := (blk_cell hx 0).trans rfl
          have x1 := (blk_cell hx 1).trans rfl
          have x2 := (blk_cell hx 2).trans rfl
          have x3 := (blk_cell hx 3).trans rfl
          have x4 := (blk_cell hx 4).trans rfl
          obtain ⟨A9, c9, rfl, _, _⟩ := Kd.R_reads hB.out.row
          have y3 := (blk_cell hB4.out.e 3).trans rfl
          have hlt := hB.out.lt
          have hlen : (whF 0 P ++ P2.map (fun t => (⟨(P.length : Int), t⟩ : S71))).length < 1000000000 := by rw [List.length_append, List.length_map]; omega
          generalize hacc : whF 0 P ++ P2.map (fun t => (⟨(P.length : Int), t⟩ : S71)) = acc at *
          replace hacc := Lib.hid hacc
          clear hbx hx hB hfl2
          go_wp2_with (first | (at_builtin; refine Kd.R_append k71 (w.heap.size + 3) rfl (.tmp 31) (.tmp 35) 28 71 (.agg #[(.int .i64 0), (.int .i64 0), (.int .i64 0), (.int .i64 0), (.string ⟨#[]⟩), (.string ⟨#[]⟩)]) 64 rfl Try.underlying28 info71 rfl (by decide) (by omega) (.slice A9 acc.length c9) acc ⟨(P.length : Int), t⟩ [.int .i64 (P.length : Int), .int .i64 t.f0, .int .i64 t.f1, .int .i64 t.f2, .string t.f3, .string t.f4] (fun _ => True) (fun _ => False) (by rfl) (by go_simp) (k71_mkM _ _ _ ⟨(P.length : Int), t⟩) (fun _ hk => hk.elim) (fun _ _ => trivial) hB4.out.row (Below.refl _ _) (by simp; omega) (by omega) ?_; intro v9 w9 hR9 _ hg9 hat9; obtain ⟨A8, c8, e9, _, _⟩ := Kd.R_reads hR9; rw [List.length_append, List.length_singleton] at e9; subst e9; obtain ⟨hb9, hB9⟩ := WhB.step hB4.out hR9 hg9; have u0 := (blk_cell hb9 3).trans rfl; have f0 := blk_frozen hb9 3; replace hB9 := Lib.hid hB9; clear hb9 hR9 hg9 hat9 hB4 y3 x0 x1 x2 x3 x4 d0 d1 d2 d3 d4))
          go_roundw
          case rel => exact ⟨P2 ++ [t], R2, _, hl2.out, by simp, Lib.hid (by rw [List.map_append, ← List.append_assoc, hacc.out]; exact hB9.out)⟩
          case measure => simp [intOf]; omega
end Go.Proofs.Ytbhfcjgejnnpcaa
