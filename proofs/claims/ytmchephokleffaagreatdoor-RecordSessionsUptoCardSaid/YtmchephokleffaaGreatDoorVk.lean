/-
  Chapter 22: record.Where walked, whatever the shape that fits.
-/
import Derived.Test.YtmchephokleffaaGreatDoorVi
import Derived.StillTailTactics
set_option linter.unusedVariables false
set_option linter.unusedSimpArgs false
namespace Go.Proofs.YtmchephokleffaaGreatDoor
open Go.RowKit Go.Proofs.YtmchephokleffaaGreatDoorW.PrintWords Go.Proofs.YtmchephokleffaaGreatDoor.PRecord
theorem below_setBlock {B : Nat} {a w : World} {ib : Nat} (h : Below B a w) (hB : B ≤ ib) (o : Obj) : Below B a (ChangeMaps.setBlock w ib o) :=
  ⟨h.os, h.tape, h.output, by simpa [ChangeMaps.setBlock] using h.size, fun k hk => by
    rw [← h.block k hk]
    simp only [ChangeMaps.setBlock]
    rw [Array.getElem?_setIfInBounds_ne (by omega)]⟩
theorem at_setBlock {w : World} {ib : Nat} {o1 : Obj} (h : w.heap[ib]? = some o1) (o : Obj) : (ChangeMaps.setBlock w ib o).heap[ib]? = some o := by
  obtain ⟨hl, _⟩ := Array.getElem?_eq_some_iff.1 h
  simp [ChangeMaps.setBlock, hl]
theorem off_setBlock {w : World} {ib k : Nat} {o1 : Obj} (h : w.heap[k]? = some o1) (hne : k ≠ ib) (o : Obj) : (ChangeMaps.setBlock w ib o).heap[k]? = some o1 := by
  rw [← h]
  simp only [ChangeMaps.setBlock]
  rw [Array.getElem?_setIfInBounds_ne (Ne.symm hne)]
theorem shM_form (e : MapEntry) (h : e ∈ shM.toList) : ∃ (kd : Int) (le : List UInt8) (fp fr : FuncId) (bn : Nat), e = ⟨.int .i64 kd, shE (Bd.B le) fp fr, bn⟩ := by
  have h2 : e = ⟨.int .i64 1, sh1, 0⟩ ∨ e = ⟨.int .i64 2, sh2, 1⟩ ∨ e = ⟨.int .i64 3, sh3, 2⟩ ∨ e = ⟨.int .i64 4, sh4, 3⟩ ∨ e = ⟨.int .i64 5, sh5, 4⟩ := by simpa [shM] using h
  rcases h2 with rfl | rfl | rfl | rfl | rfl
  · exact ⟨1, [108], _, _, 0, rfl⟩
  · exact ⟨2, [115], _, _, 1, rfl⟩
  · exact ⟨3, [117], _, _, 2, rfl⟩
  · exact ⟨4, [101], _, _, 3, rfl⟩
  · exact ⟨5, [97], _, _, 4, rfl⟩
theorem shM_born : ∀ x ∈ shM.toList, x.born < 5 := by
  intro e h
  have h2 : e = ⟨.int .i64 1, sh1, 0⟩ ∨ e = ⟨.int .i64 2, sh2, 1⟩ ∨ e = ⟨.int .i64 3, sh3, 2⟩ ∨ e = ⟨.int .i64 4, sh4, 3⟩ ∨ e = ⟨.int .i64 5, sh5, 4⟩ := by simpa [shM] using h
  rcases h2 with rfl | rfl | rfl | rfl | rfl <;> simp
theorem shM_nodup : (shM.toList.map (·.born)).Nodup := by decide
theorem put6 {W : World} {g : Nat} {T : TypeId} {a b c d e f : Value} (h : W.heap[g]? = some (.cells #[a, b, c, d, e, f] T (0, 0))) (a2 b2 c2 d2 e2 f2 : Value) : ((((((W.setCell ⟨g, 0, none⟩ a2).setCell ⟨g, 1, none⟩ b2).setCell ⟨g, 2, none⟩ c2).setCell ⟨g, 3, none⟩ d2).setCell ⟨g, 4, none⟩ e2).setCell ⟨g, 5, none⟩ f2).heap[g]? = some (.cells #[a2, b2, c2, d2, e2, f2] T (0, 0)) := by
  rw [blk_set (blk_set (blk_set (blk_set (blk_set (blk_set h 0 a2) 1 b2) 2 c2) 3 d2) 4 e2) 5 f2]
  rfl
theorem put6_below {w W : World} {g : Nat} (h : Below w.heap.size w W) (hg : w.heap.size ≤ g) (a2 b2 c2 d2 e2 f2 : Value) : Below w.heap.size w ((((((W.setCell ⟨g, 0, none⟩ a2).setCell ⟨g, 1, none⟩ b2).setCell ⟨g, 2, none⟩ c2).setCell ⟨g, 3, none⟩ d2).setCell ⟨g, 4, none⟩ e2).setCell ⟨g, 5, none⟩ f2) :=
  (((((h.setCell (p := ⟨g, 0, none⟩) hg _).setCell (p := ⟨g, 1, none⟩) hg _).setCell (p := ⟨g, 2, none⟩) hg _).setCell (p := ⟨g, 3, none⟩) hg _).setCell (p := ⟨g, 4, none⟩) hg _).setCell (p := ⟨g, 5, none⟩) hg _
def whereV (b : Bool) (q : Pl) : Value := if b then .tuple #[plV q, .int .i64 0] else .tuple #[plV zPl, .int .i64 220]
theorem slice_two (A : Option Addr) (n c : Nat) (hn : 2 ≤ n) : ∃ A' : Option Addr, (∀ W : World, (Instr.slice 70 (.slice A n c) (some (.int .i64 2)) none none).run Tryz.prog W = .ok (.slice A' (n - 2) (c - 2)) W) ∧
    (∀ (W : World) (l : List Pt), n ≤ c → Kd.C kP W A n l → Kd.C kP W A' (n - 2) (l.drop 2)) ∧ (∀ b, (∀ ad, A = some ad → ad.block = b) → ∀ ad, A' = some ad → ad.block = b) := by
  obtain ⟨i, hi, hsz⟩ := Option.map_eq_some_iff.1 (show (Tryz.prog.info? 68).map (·.size) = some 3 by kernel_rfl)
  refine ⟨if c = 2 then A else A.map (·.add (2 * 3)), fun W => ?_, fun w l hc h => ?_, fun b hb ad had => ?_⟩
  · have hel : Tryz.prog.elem 70 = 68 := by simp [Program.elem, Tryz.underlying70]
    have hu : Tryz.prog.underlying 70 = some (.slice (Tryz.prog.elem 70)) := by rw [hel]; exact Tryz.underlying70
    have := run_slice_l (P := Tryz.prog) W 70 A n c hu .i64 (2 : Int) (by omega) (by omega)
    rw [this, hel]
    simp [Go.sizeOf, typeInfo, hi, hsz, sliced, Result.andThen]
  · obtain rfl : l.length = n := h.1
    have := Kd.C_drop h hn hc
    rw [List.length_drop] at this
    exact this
  · by_cases hcm : c = 2
    · rw [if_pos hcm] at had
      exact hb ad had
    · rw [if_neg hcm] at had
      cases A with
      | none => cases had
      | some a0 =>
        simp only [Option.map_some, Option.some.injEq] at had
        rw [← had]
        have := hb a0 rfl
        unfold Addr.add
        split <;> exact this
/-- What stays while the shapes are tried: the world is one of those behind the map's and its iterator's making. -/
structure WL (w2 wr : World) (mb ib : Nat) (seen : Array Nat) : Prop where
  bel : Below w2.heap.size w2 wr
  mp : wr.heap[mb]? = some (.map shM 5)
  it : ∃ c0, 5 ≤ c0 ∧ wr.heap[ib]? = some (.mapIter (some mb) 5 seen c0)
  hm : w2.heap.size ≤ mb
  hi : mb < ib
theorem WL.next {w2 wr W : World} {mb ib : Nat} {seen : Array Nat} (h : WL w2 wr mb ib seen) (hb : Below wr.heap.size wr W) : WL w2 W mb ib seen := by
  obtain ⟨c0, h5, hc⟩ := h.it
  exact ⟨h.bel.trans (hb.mono h.bel.size), (hb.block _ (Array.getElem?_eq_some_iff.1 h.mp).1).trans h.mp, ⟨c0, h5, (hb.block _ (Array.getElem?_eq_some_iff.1 hc).1).trans hc⟩, h.hm, h.hi⟩
theorem WL.next2 {w2 wr W : World} {mb ib B : Nat} {seen : Array Nat} (h : WL w2 wr mb ib seen) (hb : Below B wr W) (hB : ib < B) : WL w2 W mb ib seen := by
  obtain ⟨c0, h5, hc⟩ := h.it
  have h1 := h.hm
  have h2 := h.hi
  exact ⟨h.bel.trans (hb.mono (by omega)), (hb.block _ (by omega)).trans h.mp, ⟨c0, h5, (hb.block _ hB).trans hc⟩, h.hm, h.hi⟩
theorem WL.step {w2 wr : World} {mb ib : Nat} {seen : Array Nat} (h : WL w2 wr mb ib seen) (bn : Nat) : WL w2 (ChangeMaps.setBlock wr ib (.mapIter (some mb) 5 (seen.push bn) 5)) mb ib (seen.push bn) := by
  obtain ⟨c0, h5, hc⟩ := h.it
  exact ⟨below_setBlock h.bel (by have := h.hm; have := h.hi; omega) _, off_setBlock h.mp (by have := h.hi; omega) _, ⟨5, by omega, at_setBlock hc _⟩, h.hm, h.hi⟩
theorem WL.make {w2 : World} : WL w2 ((w2.alloc (.map shM 5)).alloc (.mapIter (some w2.heap.size) 5 #[] 5)) w2.heap.size (w2.heap.size + 1) #[] := by
  refine ⟨below_alloc (below_alloc (Below.refl _ _) _) _, ?_, ⟨5, by omega, ?_⟩, Nat.le_refl _, by omega⟩
  · exact ((below_alloc (Below.refl (w2.alloc (.map shM 5)).heap.size (w2.alloc (.map shM 5))) _).block _ (by simp)).trans (heap_alloc_new w2 _)
  · have := heap_alloc_new (w2.alloc (.map shM 5)) (.mapIter (some w2.heap.size) 5 #[] 5)
    rw [show (w2.alloc (.map shM 5)).heap.size = w2.heap.size + 1 from by simp] at this
    exact this
theorem WL.left {w2 wr : World} {mb ib : Nat} {seen : Array Nat} (h : WL w2 wr mb ib seen) : wr.rangeLeft mb ib = (leftOf shM seen).size := by
  obtain ⟨c0, _, hc⟩ := h.it
  simp only [World.rangeLeft, h.mp, hc]
theorem none_left {seen : Array Nat} (h : (leftOf shM seen).size = 0) : ∀ e ∈ shM.toList, seen.contains e.born = true := by
  intro e he
  cases hx : seen.contains e.born with
  | true => rfl
  | false =>
    have : e ∈ (leftOf shM seen).toList := by
      unfold leftOf
      simp only [Array.toList_filter, List.mem_filter, hx, Bool.not_false, and_true]
      exact he
    rw [Array.eq_empty_of_size_eq_zero h] at this
    simp at this
theorem range_sh (w2 : World) : (Instr.range 75 (.map (some w2.heap.size))).run Tryz.prog (w2.alloc (.map shM 5)) = .ok (.pointer (some ⟨w2.heap.size + 1, 0, none⟩)) ((w2.alloc (.map shM 5)).alloc (.mapIter (some w2.heap.size) 5 #[] 5)) := by
  have := run_range_map (P := Tryz.prog) (w2.alloc (.map shM 5)) 75 3 80 w2.heap.size shM 5 Tryz.underlying75 (heap_alloc_new w2 _)
  rw [this]
  simp
set_option maxHeartbeats 4000000 in
set_option maxRecDepth 100000 in
theorem where_gen (key : List UInt8) (hkey : key.length ≤ 1000000000) (te : ByteArray) (hte : te.size ≤ 1000000000) (lt : List UInt8) (rest : List Pt) (hsplit : splitL key = .ok (tP te :: tP (Bd.B lt) :: rest)) (hten : tenB te.data.toList = true) (b : Bool) (q : Pl) (j0 : Nat)
    (hm : ∀ (kd : Int) (le : List UInt8) (fp fr : FuncId) (bn : Nat), (⟨.int .i64 kd, shE (Bd.B le) fp fr, bn⟩ : MapEntry) ∈ shM.toList → le = lt → bn = j0 ∧ (∀ (args : Array Value) (W : World), (callFunc fr args).run Tryz.prog W = .ok (.enter fr args) W) ∧
      ∀ W g A c, Kd.C kP W A rest.length rest → (∀ ad, A = some ad → ad.block ≠ g) → PB W g ⟨kd, te, ⟨#[]⟩, ⟨#[]⟩, 0, 0⟩ → Calls Tryz.prog fr #[.pointer (some ⟨g, 0, none⟩), .slice A rest.length c] W (ReadP g b q W))
    (hu : ∀ (kd : Int) (le : List UInt8) (fp fr : FuncId), (⟨.int .i64 kd, shE (Bd.B le) fp fr, j0⟩ : MapEntry) ∈ shM.toList → b = true → le = lt)
    (hb : b = true → ∃ e ∈ shM.toList, e.born = j0) (w : World) :
    Calls Tryz.prog 13 #[.string (Bd.B key)] w fun e w' => e = .returned (whereV b q) ∧ Below w.heap.size w w' := by
  have hr0 := heap_alloc_new w (.cells #[.int .i64 0, .string ⟨#[]⟩, .string ⟨#[]⟩, .string ⟨#[]⟩, .int .u64 0, .int .i64 0] 24)
  have hs := Lib.hid (split_any key hkey (w.alloc (.cells #[.int .i64 0, .string ⟨#[]⟩, .string ⟨#[]⟩, .string ⟨#[]⟩, .int .u64 0, .int .i64 0] 24)))
  have hb0 := Lib.hid ((Below.refl w.heap.size w).alloc (Nat.le_refl _) (.cells #[.int .i64 0, .string ⟨#[]⟩, .string ⟨#[]⟩, .string ⟨#[]⟩, .int .u64 0, .int .i64 0] 24))
  have hten2 := Lib.hid (fun W => tenant_any te.data.toList (by rw [len_data]; omega) W)
  rw [Bd.of_data, hten] at hten2
  replace hr0 := Lib.hid hr0
  replace hten := Lib.hid hten
  replace hm := Lib.hid hm
  replace hb := Lib.hid hb
  replace hu := Lib.hid hu
  go_enter Tryz.func13, Tryz.ntmps13
  go_wp2_with (fail)
  refine hs.out.mono ?_
  rintro e w2 ⟨hb2, hx⟩
  rw [hsplit] at hx
  obtain ⟨A, c, rfl, hc, hC⟩ := hx
  have hlen : (tP te :: tP (Bd.B lt) :: rest).length = rest.length + 2 := rfl
  rw [hlen] at hc hC ⊢
  have hr2 := Lib.hid ((hb2.block _ (by simp)).trans hr0.out)
  have hB2 := Lib.hid (hb0.out.trans (hb2.mono hb0.out.size))
  have hAb := hC
  obtain ⟨ad, rfl, c0, c1, c2⟩ := at_P hC 0 (by omega)
  obtain ⟨ad', had, d0, d1, d2⟩ := at_P hC 1 (by omega)
  injection had with had
  subst had
  have hz : ad.add 0 = ad := by cases ad with | mk b o p => cases p <;> rfl
  rw [show List.getD (tP te :: tP (Bd.B lt) :: rest) 0 zP = tP te from rfl] at c0 c1 c2
  rw [show List.getD (tP te :: tP (Bd.B lt) :: rest) 1 zP = tP (Bd.B lt) from rfl] at d0 d1 d2
  simp only [Nat.zero_mul, Nat.one_mul, hz, tP] at c0 c1 c2 d0 d1 d2
  have hl2 : decide ((rest.length : Int) + 2 < 2) = false := decide_eq_false (by omega)
  have hl3 : (0 : Int) < ((rest.length + 2 : Nat) : Int) := by omega
  have hl4 : (1 : Int) < ((rest.length + 2 : Nat) : Int) := by omega
  have hab : (ad.add 3).block = ad.block ∧ (ad.add 3).off = ad.off + 3 := by
    simp [Addr.add]
  have e3 : ad.add 3 = ⟨ad.block, ad.off + 3, none⟩ := by simp [Addr.add]
  rw [hab.1, hab.2] at d1 d2
  rw [e3] at d0
  clear hab e3
  have hcell : Hid (∀ V, Below w2.heap.size w2 V → V.cell? ad = some (.string te) ∧ V.cell? ⟨ad.block, ad.off + 3, none⟩ = some (.string (Bd.B lt))) := Lib.hid (fun V hV => ⟨(hV.cell (World.block_lt_of_cell? w2 _ c0)).trans c0, (hV.cell (World.block_lt_of_cell? w2 _ d0)).trans d0⟩)
  have hCr := Lib.hid (slice_two (some ad) (rest.length + 2) c (by omega))
  have hAl : ad.block < w2.heap.size := World.block_lt_of_cell? w2 _ c0
  replace hC := Lib.hid hC
  clear hAb hb2 hb0 hr0 hs
  go_wp2_with (fail)
  refine (hten2.out _).mono ?_
  rintro e w3 ⟨rfl, n3, hw3⟩
  have h23 : Below w2.heap.size w2 w3 := by rw [hw3]; exact pw_below_drewN (Below.refl _ _) _
  have hr3 := Lib.hid ((h23.block _ (Array.getElem?_eq_some_iff.1 hr2.out).1).trans hr2.out)
  have hB3 := Lib.hid (hB2.out.trans (h23.mono hB2.out.size))
  have hC3 := Lib.hid (Kd.C_below hC.out h23)
  have hcell3 : Hid (∀ V, Below w3.heap.size w3 V → V.cell? ad = some (.string te) ∧ V.cell? ⟨ad.block, ad.off + 3, none⟩ = some (.string (Bd.B lt))) := Lib.hid (fun V hV => hcell.out V (h23.trans (hV.mono h23.size)))
  have hAl3 : ad.block < w3.heap.size := Nat.lt_of_lt_of_le hAl h23.size
  have hle3 : w.heap.size < w3.heap.size := (Array.getElem?_eq_some_iff.1 hr3.out).1
  clear hw3 h23 hr2 hB2 hC hcell hAl hten2 c0 c1 c2 d0 d1 d2 hl2 hl3
  go_wp2_with (fail)
  refine (shapes_any w3).mono ?_
  rintro e w4 ⟨rfl, rfl⟩
  have hrg := range_sh w3
  have hW0 := Lib.hid (WL.make (w2 := w3))
  go_wp2_with (fail)
  clear hrg
  go_loopw [6] (fun _ wr => ∃ seen, Hid (WL w3 wr w3.heap.size (w3.heap.size + 1) seen) ∧ Hid (b = true → seen.contains j0 = false)) (fun _ wr => wr.rangeLeft w3.heap.size (w3.heap.size + 1))
  case atStart => exact ⟨#[], hW0, Lib.hid (fun _ => by simp)⟩
  case round =>
    rename World => wr
    obtain ⟨seen, hW, hsn⟩ := hrel
    clear hW0
    obtain ⟨c0, h5, hit⟩ := hW.out.it
    rcases run_next_at (P := Tryz.prog) wr 0 (w3.heap.size + 1) w3.heap.size 5 c0 seen shM 5 hit hW.out.mp shM_born h5 with ⟨h0, hrun⟩ | ⟨e, he, w1, hw1, hrun⟩
    · have hbf : b = false := by
        cases b with
        | false => rfl
        | true =>
          obtain ⟨e, he, hej⟩ := hb.out rfl
          have h1 := none_left h0 e he
          rw [hej, hsn.out rfl] at h1
          cases h1
      have hbel := Lib.hid (hB3.out.trans (hW.out.bel.mono (by omega)))
      have hre := (hW.out.bel.block _ hle3).trans hr3.out
      have f0 := blk_frozen hre 0
      have f1 := blk_frozen hre 1
      have f2 := blk_frozen hre 2
      have f3 := blk_frozen hre 3
      have f4 := blk_frozen hre 4
      have f5 := blk_frozen hre 5
      have r0 := (blk_cell hre 0).trans rfl
      have r1 := (blk_cell hre 1).trans rfl
      have r2 := (blk_cell hre 2).trans rfl
      have r3 := (blk_cell hre 3).trans rfl
      have r4 := (blk_cell hre 4).trans rfl
      have r5 := (blk_cell hre 5).trans rfl
      have hput := Lib.hid hre
      clear h0 hit hW hsn hre
      go_wp2_with (fail)
      rw [hbf]
      exact bodyPost_ret (results_ct rfl _ _ w.heap.size _ _ _ _ rfl (put6 hput.out _ _ _ _ _ _) Tryz.underlying24 rfl (by kernel_rfl)) rfl ⟨rfl, put6_below hbel.out (Nat.le_refl _) _ _ _ _ _ _⟩
    · obtain ⟨hes, hec⟩ := mem_left he
      have hshr := left_shrinks shM seen e he
      obtain ⟨kd, le, fp, fr, bn, rfl⟩ := shM_form e hes
      simp only at hec hshr hrun
      have hW1 : WL w3 w1 w3.heap.size (w3.heap.size + 1) seen := by
        rcases hw1 with rfl | rfl
        · exact hW.out
        · exact hW.out.next (below_drew (Below.refl _ _))
      have hit1 : w1.heap[w3.heap.size + 1]? = some (.mapIter (some w3.heap.size) 5 seen c0) := by
        rcases hw1 with rfl | rfl <;> exact hit
      have hW5 := hW1.step bn
      have hent := run_entry_at (P := Tryz.prog) (ChangeMaps.setBlock w1 (w3.heap.size + 1) (.mapIter (some w3.heap.size) 5 (seen.push bn) 5)) (w3.heap.size + 1) w3.heap.size 5 seen shM 5 ⟨.int .i64 kd, shE (Bd.B le) fp fr, bn⟩ (at_setBlock hit1 _) hW5.mp hes shM_nodup
      simp only [shE] at hrun hent
      have hmL := Lib.hid (show (ChangeMaps.setBlock w1 (w3.heap.size + 1) (.mapIter (some w3.heap.size) 5 (seen.push bn) 5)).rangeLeft w3.heap.size (w3.heap.size + 1) < wr.rangeLeft w3.heap.size (w3.heap.size + 1) by rw [hW5.left, hW.out.left]; exact hshr)
      generalize ChangeMaps.setBlock w1 (w3.heap.size + 1) (.mapIter (some w3.heap.size) 5 (seen.push bn) 5) = w5 at *
      replace hW5 := Lib.hid hW5
      replace hes := Lib.hid hes
      replace hec := Lib.hid hec
      clear hshr hW hW1 hit1 hit hw1
      obtain ⟨W7, hW7⟩ : ∃ W7, W7 = (w5.alloc (.cells #[.string (Bd.B le), .func (.func fp) #[] #[], .func (.func fr) #[] #[]] 80)).alloc (.cells #[.int .i64 kd, .string te, .string ⟨#[]⟩, .string ⟨#[]⟩, .int .u64 0, .int .i64 0] 24) := ⟨_, rfl⟩
      have hb57 : Below w5.heap.size w5 W7 := by rw [hW7]; exact below_alloc (below_alloc (Below.refl _ _) _) _
      have hz7 : W7.heap.size = w5.heap.size + 1 + 1 := by rw [hW7]; simp
      obtain ⟨a0, a1⟩ := hcell3.out (w5.alloc (.cells #[.string (Bd.B le), .func (.func fp) #[] #[], .func (.func fr) #[] #[]] 80)) (below_alloc hW5.out.bel _)
      have hsb : W7.heap[w5.heap.size]? = some (.cells #[.string (Bd.B le), .func (.func fp) #[] #[], .func (.func fr) #[] #[]] 80 (0, 0)) := by
        rw [hW7]
        exact ((below_alloc (Below.refl (w5.alloc (.cells #[.string (Bd.B le), .func (.func fp) #[] #[], .func (.func fr) #[] #[]] 80)).heap.size (w5.alloc (.cells #[.string (Bd.B le), .func (.func fp) #[] #[], .func (.func fr) #[] #[]] 80))) _).block _ (by simp)).trans (heap_alloc_new w5 _)
      have hpb : PB W7 (w5.heap.size + 1) ⟨kd, te, ⟨#[]⟩, ⟨#[]⟩, 0, 0⟩ := by
        rw [hW7]
        have := heap_alloc_new (w5.alloc (.cells #[.string (Bd.B le), .func (.func fp) #[] #[], .func (.func fr) #[] #[]] 80)) (.cells #[.int .i64 kd, .string te, .string ⟨#[]⟩, .string ⟨#[]⟩, .int .u64 0, .int .i64 0] 24)
        rw [show (w5.alloc (.cells #[.string (Bd.B le), .func (.func fp) #[] #[], .func (.func fr) #[] #[]] 80)).heap.size = w5.heap.size + 1 from by simp] at this
        exact this
      have hW7L := Lib.hid (hW5.out.next hb57)
      replace hb57 := Lib.hid hb57
      replace hz7 := Lib.hid hz7
      replace hsb := Lib.hid hsb
      replace hpb := Lib.hid hpb
      go_upto_region 8 with (fail)
      rw [← hW7]
      clear a0 a1 hrun hent hW7
      obtain ⟨a0, a1⟩ := hcell3.out W7 hW7L.out.bel
      have s0 := (blk_cell hsb.out 0).trans rfl
      have s2 := (blk_cell hsb.out 2).trans rfl
      by_cases hle : le = lt
      · obtain rfl := hle
        obtain ⟨hbn, hcf, hrd⟩ := hm.out kd le fp fr bn hes.out rfl
        have hne : ((Bd.B le).toList == (Bd.B le).toList) = true := by simp
        obtain ⟨A', hcut, hdrop, hblk⟩ := hCr.out
        rw [Nat.add_sub_cancel] at hcut hdrop
        have hcall : Hid (Calls Tryz.prog fr #[.pointer (some ⟨w5.heap.size + 1, 0, none⟩), .slice A' rest.length (c - 2)] W7.drew (ReadP (w5.heap.size + 1) b q W7.drew)) := Lib.hid (by
          refine hrd W7.drew (w5.heap.size + 1) A' (c - 2) ?_ ?_ hpb.out
          · have h1 := Kd.C_below hC3.out hW7L.out.bel
            exact hdrop W7 _ hc h1
          · intro ad2 h2
            have h3 := hblk ad.block (fun a h => by injection h with h; rw [h]) ad2 h2
            have h4 := hW5.out.bel.size
            omega)
        have h5l : ad.block < w5.heap.size + 1 := by have := hW5.out.bel.size; omega
        have hall : Hid (∀ W, Below (w5.heap.size + 1) W7 W → W.cell? ⟨w5.heap.size, 0, none⟩ = some (.string (Bd.B le)) ∧ W.cell? ⟨w5.heap.size, 2, none⟩ = some (.func (.func fr) #[] #[]) ∧ W.cell? ⟨ad.block, ad.off + 3, none⟩ = some (.string (Bd.B le)) ∧ Below (w5.heap.size + 1) W7 W) := Lib.hid (fun W h => ⟨(h.cell (p := ⟨w5.heap.size, 0, none⟩) (show w5.heap.size < w5.heap.size + 1 by omega)).trans s0, (h.cell (p := ⟨w5.heap.size, 2, none⟩) (show w5.heap.size < w5.heap.size + 1 by omega)).trans s2, (h.cell (p := ⟨ad.block, ad.off + 3, none⟩) h5l).trans a1, h⟩)
        have hA0 := hall.out W7 (Below.refl _ _)
        have hres : Hid (w.heap.size < w5.heap.size + 1 ∧ W7.heap[w.heap.size]? = some (.cells #[.int .i64 0, .string ⟨#[]⟩, .string ⟨#[]⟩, .string ⟨#[]⟩, .int .u64 0, .int .i64 0] 24 (0, 0)) ∧ Below w.heap.size w W7) := Lib.hid ⟨by have := hW5.out.bel.size; omega, (hW7L.out.bel.block _ hle3).trans hr3.out, hB3.out.trans (hW7L.out.bel.mono (by omega))⟩
        have hl5 : (1 : Int) < (rest.length : Int) + 2 := by omega
        have hl6 : (0 : Int) ≤ 1 := by omega
        have hl7 : (1 : Int) < ((rest.length + 2 : Nat) : Int) := by omega
        clear hm hrd hdrop hblk hCr hu hb
        go_region_held3 (fun W => W.cell? ⟨w5.heap.size, 0, none⟩ = some (.string (Bd.B le)) ∧ W.cell? ⟨w5.heap.size, 2, none⟩ = some (.func (.func fr) #[] #[]) ∧ W.cell? ⟨ad.block, ad.off + 3, none⟩ = some (.string (Bd.B le)) ∧ Below (w5.heap.size + 1) W7 W)  (first | exact hall.out _ (Below.refl _ _) | exact hall.out _ (below_drew (Below.refl _ _)) | exact hall.out _ (Below.trans (below_drew (Below.refl _ _)) (by assumption)))  (first | ((with_reducible refine hcall.out.mono ?_); rintro e8 w8 ⟨rfl, hp8, hb8⟩) | fail)
        have hput := hres.out.2.1
        have hb78 := Below.trans (below_drew (Below.refl (w5.heap.size + 1) W7)) hb8
        have hre : w8.heap[w.heap.size]? = _ := (hb78.block _ hres.out.1).trans hput
        have hbel := Lib.hid (hres.out.2.2.trans (hb78.mono (by have := hres.out.1; omega)))
        have hW8 : Hid (WL w3 w8 w3.heap.size (w3.heap.size + 1) (seen.push bn)) := Lib.hid (hW7L.out.next2 hb78 (by
          obtain ⟨_, _, h⟩ := hW5.out.it
          have := (Array.getElem?_eq_some_iff.1 h).1
          omega))
        have hm8 : Hid (w8.rangeLeft w3.heap.size (w3.heap.size + 1) < wr.rangeLeft w3.heap.size (w3.heap.size + 1)) := Lib.hid (by rw [hW8.out.left, ← hW5.out.left]; exact hmL.out)
        clear hput hb78 hb8 hres hall hcall hA0 hcut s0 s2 a0 a1
        cases b with
        | false =>
          clear hre hp8
          go_wp2
          go_roundw
          case rel => exact ⟨seen.push bn, hW8, Lib.hid (fun h => by cases h)⟩
          case measure => exact hm8.out
        | true =>
          unfold PB at hp8
          have q0 := (blk_cell hp8 0).trans rfl
          have q1 := (blk_cell hp8 1).trans rfl
          have q2 := (blk_cell hp8 2).trans rfl
          have q3 := (blk_cell hp8 3).trans rfl
          have q4 := (blk_cell hp8 4).trans rfl
          have q5 := (blk_cell hp8 5).trans rfl
          have f0 := blk_frozen hre 0
          have f1 := blk_frozen hre 1
          have f2 := blk_frozen hre 2
          have f3 := blk_frozen hre 3
          have f4 := blk_frozen hre 4
          have f5 := blk_frozen hre 5
          have r0 := (blk_cell hre 0).trans rfl
          have r1 := (blk_cell hre 1).trans rfl
          have r2 := (blk_cell hre 2).trans rfl
          have r3 := (blk_cell hre 3).trans rfl
          have r4 := (blk_cell hre 4).trans rfl
          have r5 := (blk_cell hre 5).trans rfl
          have hput := Lib.hid hre
          clear hre hp8
          go_wp2
          exact bodyPost_ret (results_ct rfl _ _ w.heap.size _ _ _ _ rfl (put6 hput.out _ _ _ _ _ _) Tryz.underlying24 rfl (by kernel_rfl)) rfl ⟨rfl, put6_below hbel.out (Nat.le_refl _) _ _ _ _ _ _⟩
      · have hne : ((Bd.B le).toList == (Bd.B lt).toList) = false := by rw [Bd.B_toList, Bd.B_toList]; simpa using hle
        have hsn2 : Hid (b = true → (seen.push bn).contains j0 = false) := Lib.hid (fun h => by
          have h1 := hsn.out h
          have h2 : bn ≠ j0 := fun e => hle (hu.out kd le fp fr (by rw [← e]; exact hes.out) h)
          simp only [Array.contains_push, h1, Bool.or_false]
          simpa using Ne.symm h2)
        clear hle hm hu hb
        go_quiet (fail)
        have hW8 := Lib.hid (hW7L.out.next (pw_below_drewN (Below.refl W7.heap.size W7) nq))
        have hm8 : Hid ((W7.drewN nq).rangeLeft w3.heap.size (w3.heap.size + 1) < wr.rangeLeft w3.heap.size (w3.heap.size + 1)) := Lib.hid (by rw [hW8.out.left, ← hW5.out.left]; exact hmL.out)
        clear s0 s2 a0 a1 hne
        go_wp2
        go_roundw
        case rel => exact ⟨seen.push bn, hW8, hsn2⟩
        case measure => exact hm8.out
end Go.Proofs.YtmchephokleffaaGreatDoor
