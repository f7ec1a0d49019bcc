/-
  The log's writer, walked: a record that is laid.
-/
import Derived.Test.YtlmlkamgpmnmgaaDoorWlay
set_option linter.unusedVariables false
set_option linter.unusedSimpArgs false
namespace Go.Proofs.YtlmlkamgpmnmgaaDoor
open Go.RowKit Go.Proofs.YtlmlkamgpmnmgaaDoorW.PrintWords
set_option maxHeartbeats 1600000 in
set_option maxRecDepth 100000 in
theorem wlay_ok {w : World} {g size : Nat} (hW : WW w g size) (s : ByteArray) (hs : s.size ≤ 262144) (hfit : size + lenA size s.size ≤ 1048576) :
    Calls Tryd.prog 4 #[.pointer (some ⟨g, 0, none⟩), .string s] w fun e w' => ∃ v, e = .returned (.tuple #[v, .int .i64 0]) ∧ Row w' w.heap.size v (layA size s.data.toList) ∧ WW w' g (size + lenA size s.size) ∧ Kept w w' (fun k => k = g) ∧ ∀ w0 : World, Below w0.heap.size w0 w → w0.heap.size ≤ g → Below w0.heap.size w0 w' := by
  have hW0 := Lib.hid hW
  obtain ⟨hb⟩ := hW
  have hgl := blk_lt hb
  have k0 : w.cell? ⟨g, 0, none⟩ = some (.int .i64 (size : Int)) := (blk_cell hb 0).trans rfl
  have k1 : w.cell? ⟨g, 1, none⟩ = some (.bool true) := (blk_cell hb 1).trans rfl
  have hL := Lib.hid (length_ok size s.size (by omega) hs w)
  have hT2 : ¬ (1048576 : Int) < (size : Int) + ((lenA size s.size : Nat) : Int) := by omega
  have hgap := Lib.hid (gap_any size (by omega) w)
  have hT := Lib.hid (show lenA size s.size = gapN size + lenF (s.size + 2) (size + gapN size) s.size from rfl)
  have hgle : gapN size ≤ lenA size s.size := by unfold lenA; omega
  have hmk := make_bytes (gapN size) (lenA size s.size) hgle (by omega)
  have hkb := bytes_conv s
  go_enter Tryd.func4, Tryd.ntmps4
  go_wp2_with (first  | (go_at_call 11; go_must (refine hL.out.mono ?_; rintro e w2 ⟨rfl, rfl⟩))  | (go_at_call 12; go_must (refine hgap.out.mono ?_; rintro e w3 ⟨rfl, rfl⟩)))
  have hB2 := Lib.hid (bytes_below (below_alloc (Below.refl w.heap.size w) (.cells (madeCells #[.int .u8 0] (lenA size s.size)) 5)) (by simp) 5 s)
  have hrow0 := Lib.hid ((row_made w w.heap.size (gapN size) (lenA size s.size) hgle (by omega) (Nat.le_refl _)).below (bytes_below (Below.refl _ _) (Nat.le_refl _) 5 s))
  have hrd0 := rd_bytes (w.alloc (.cells (madeCells #[.int .u8 0] (lenA size s.size)) 5)) s (by omega)
  have hmk0 := Lib.bytesWorld_at_new (w.alloc (.cells (madeCells #[.int .u8 0] (lenA size s.size)) 5)) 5 s
  have hsz0 := Lib.bytesWorld_size (w.alloc (.cells (madeCells #[.int .u8 0] (lenA size s.size)) 5)) 5 s
  have hcap0 := grownCap_ge (w.alloc (.cells (madeCells #[.int .u8 0] (lenA size s.size)) 5)) s.size 0 5
  have hal : (w.alloc (.cells (madeCells #[.int .u8 0] (lenA size s.size)) 5)).heap.size = w.heap.size + 1 := by simp
  rw [hal] at hrd0 hmk0 hsz0
  generalize Lib.bytesCells (w.alloc (.cells (madeCells #[.int .u8 0] (lenA size s.size)) 5)) 5 s = bcs at hmk0
  generalize Lib.bytesWorld (w.alloc (.cells (madeCells #[.int .u8 0] (lenA size s.size)) 5)) 5 s = W2 at *
  generalize grownCap (w.alloc (.cells (madeCells #[.int .u8 0] (lenA size s.size)) 5)) s.size 0 5 = cap at *
  have hrd0 := Lib.hid hrd0
  have hmk0 := Lib.hid hmk0
  have hsz0 := Lib.hid hsz0
  clear hal hmk hkb k0 k1
  have hlen0 := Lib.hid (len_data s)
  have hgn := Lib.hid (gap_next size)
  go_loopw [8, 9, 10] (fun v r kd wr => ∃ (outl restl : List UInt8) (A : Option Addr) (n c q : Nat) (first : Bool), Row wr w.heap.size v outl ∧ r = .slice A n c ∧ n ≤ c ∧ Rd W2 A n restl ∧ (∀ ad, A = some ad → ad.block = w.heap.size + 1) ∧  kd = .int .u8 (((if first then (2 : UInt8) else 3).toNat : Nat) : Int) ∧ (size + outl.length) % 1024 ≤ 1017 ∧ Fits q (size + outl.length) n ∧ outl ++ layF q first (size + outl.length) restl = layA size s.data.toList ∧  n ≤ s.size ∧ wr.heap[w.heap.size + 1]? = W2.heap[w.heap.size + 1]? ∧ w.heap.size + 2 ≤ wr.heap.size ∧ Below w.heap.size w wr) (fun v _ _ _ => lenA size s.size - slen v)
  case atStart =>
    refine ⟨_, _, _, _, _, s.size + 2, true, hrow0.out, rfl, hcap0, hrd0.out, (fun ad had => by injection had with had; rw [← had]), rfl, ?_, ?_, ?_, Nat.le_refl _, rfl, by rw [hsz0.out]; omega, hB2.out⟩
    · rw [List.length_replicate]; exact hgn.out
    · rw [List.length_replicate]; exact fits_start _ _ hgn.out
    · rw [List.length_replicate]; unfold layA; rw [hlen0.out]
  case round =>
    obtain ⟨outl, restl, A, n, c, q, first, hrow, rfl, hnc, hrd, hA, rfl, hmod, hfits, hlay, hns, hkeep, hws, hbel⟩ := hrel
    have hTot : outl.length + lenF q (size + outl.length) n = lenA size s.size := by
      have := congrArg List.length hlay
      rw [List.length_append, layF_len, hrd.len, layA_len, hlen0.out] at this
      exact this
    obtain ⟨q, rfl⟩ : ∃ m, q = m + 1 := by
      cases q with
      | zero => exact absurd hfits id
      | succ q => exact ⟨q, rfl⟩
    obtain ⟨A1, c1, rfl, hr1, hc1⟩ := hrow.rd
    have hrm : ((1024 : Int) - ((size : Int) + (outl.length : Int)) % 1024 - 7) = ((room (size + outl.length) : Nat) : Int) := by unfold room; omega
    have hrl := room_le (size + outl.length)
    have hpos := lenF_pos (q + 1) (size + outl.length) n (by omega)
    have hll : outl.length ≤ 1048576 := by omega
    have hsl : size ≤ 1048576 := by omega
    unfold layF at hlay
    unfold Fits at hfits
    rw [hrd.len] at hlay
    have hrdr : Rd wr A n restl := hrd.kept (fun ad had => by rw [hA ad had]; exact hkeep)
    have k0r : wr.cell? ⟨g, 0, none⟩ = some (.int .i64 (size : Int)) := (blk_cell (hW0.out.below hbel).blk 0).trans rfl
    have hf := Lib.hid hfits
    have hrow := Lib.hid hrow
    have hmodH := Lib.hid hmod
    clear hfits hmod hr1
    by_cases hc : n ≤ room (size + outl.length)
    · rw [if_pos hc] at hlay
      have hmin : min (n : Int) ((room (size + outl.length) : Nat) : Int) = (n : Int) := by omega
      obtain ⟨A', hcut, hA', _⟩ := cut_any A n c n (Nat.le_refl _)
      have hcv := conv_rd n hrdr
      have hps : (⟨restl.toArray⟩ : ByteArray).size ≤ 65535 := by rw [size_mk, hrd.len]; omega
      cases first
      · simp only [Bool.false_eq_true, if_false, if_true] at hlay
        go_wp2_with (first  | (go_at_call 13; go_must (refine (ending_three _).mono ?_; rintro e w3 ⟨rfl, rfl⟩))  | (go_at_call 14; go_must (refine (fragment_at 4 _ rfl _ hps _).mono ?_; rintro e w4 ⟨rfl, hb4⟩; replace hrow := Lib.hid (hrow.out.below hb4); replace hb4 := Lib.hid hb4))  | (at_builtin; go_must (refine print_append_str w.heap.size rfl (.tmp 72) (.tmp 79) 23 9 5 rfl Tryd.underlying23 Tryd.underlying9 info_u8 _ (bi outl) _ rfl rfl hrow.out.own (hbel.trans (hb4.out.mono hbel.size)) (Nat.le_trans hbel.size hb4.out.size) (by rw [bi_len, size_mk, frag_len, hrd.len]; omega) ?_; intro v1 w5 ho1 hb5 hg5; have hw5 := hW0.out.below hb5; have k05 : w5.cell? ⟨g, 0, none⟩ = some (.int .i64 (size : Int)) := (blk_cell hw5.blk 0).trans rfl; have f05 := blk_frozen hw5.blk 0; replace hw5 := Lib.hid hw5; replace hb5 := Lib.hid hb5; replace ho1 := Lib.hid ho1; replace hg5 := Lib.hid hg5)))
        go_ret2
        have hx : bi outl ++ bytesOf (⟨(frag 4 (⟨restl.toArray⟩ : ByteArray).data.toList).toArray⟩ : ByteArray) = bi (layA size s.data.toList) := by
          rw [← hlay, bi_app, bi_of]
        refine ⟨v1, rfl, (Row.of ho1.out hx).frame (fun q hq => Below.heap_setCell _ _ _ _ (fun e => ?_)), ⟨?_⟩, Kept.setCell (S := fun k => k = g) (Kept.of_below hb5.out _) (p := ⟨g, 0, none⟩) (.inl rfl) _, fun w0 h0 hg0 => (h0.trans (hb5.out.mono h0.size)).setCell (p := ⟨g, 0, none⟩) hg0 _⟩
        · have := (Row.of ho1.out hx).ge q hq
          rw [e] at this
          exact absurd hgl (by simpa using this)
        · have := blk_set hw5.out.blk 0 (.int .i64 ((size : Int) + ((lenA size s.size : Nat) : Int)))
          simpa using this
      · simp only [Bool.false_eq_true, if_false, if_true] at hlay
        go_wp2_with (first  | (go_at_call 13; go_must (refine (ending_two _).mono ?_; rintro e w3 ⟨rfl, rfl⟩))  | (go_at_call 14; go_must (refine (fragment_at 1 _ rfl _ hps _).mono ?_; rintro e w4 ⟨rfl, hb4⟩; replace hrow := Lib.hid (hrow.out.below hb4); replace hb4 := Lib.hid hb4))  | (at_builtin; go_must (refine print_append_str w.heap.size rfl (.tmp 72) (.tmp 79) 23 9 5 rfl Tryd.underlying23 Tryd.underlying9 info_u8 _ (bi outl) _ rfl rfl hrow.out.own (hbel.trans (hb4.out.mono hbel.size)) (Nat.le_trans hbel.size hb4.out.size) (by rw [bi_len, size_mk, frag_len, hrd.len]; omega) ?_; intro v1 w5 ho1 hb5 hg5; have hw5 := hW0.out.below hb5; have k05 : w5.cell? ⟨g, 0, none⟩ = some (.int .i64 (size : Int)) := (blk_cell hw5.blk 0).trans rfl; have f05 := blk_frozen hw5.blk 0; replace hw5 := Lib.hid hw5; replace hb5 := Lib.hid hb5; replace ho1 := Lib.hid ho1; replace hg5 := Lib.hid hg5)))
        go_ret2
        have hx : bi outl ++ bytesOf (⟨(frag 1 (⟨restl.toArray⟩ : ByteArray).data.toList).toArray⟩ : ByteArray) = bi (layA size s.data.toList) := by
          rw [← hlay, bi_app, bi_of]
        refine ⟨v1, rfl, (Row.of ho1.out hx).frame (fun q hq => Below.heap_setCell _ _ _ _ (fun e => ?_)), ⟨?_⟩, Kept.setCell (S := fun k => k = g) (Kept.of_below hb5.out _) (p := ⟨g, 0, none⟩) (.inl rfl) _, fun w0 h0 hg0 => (h0.trans (hb5.out.mono h0.size)).setCell (p := ⟨g, 0, none⟩) hg0 _⟩
        · have := (Row.of ho1.out hx).ge q hq
          rw [e] at this
          exact absurd hgl (by simpa using this)
        · have := blk_set hw5.out.blk 0 (.int .i64 ((size : Int) + ((lenA size s.size : Nat) : Int)))
          simpa using this
    · rw [if_neg hc] at hlay
      have hrn : room (size + outl.length) ≤ n := by omega
      have hmin : min (n : Int) ((room (size + outl.length) : Nat) : Int) = ((room (size + outl.length) : Nat) : Int) := by omega
      have hal := Lib.hid (room_next (size + outl.length) hmodH.out)
      have hff := Lib.hid (hf.out.resolve_left hc)
      obtain ⟨A', hcut, hA2, hA3⟩ := cut_any A n c (room (size + outl.length)) hrn
      have hrd2 := Lib.hid (hA2 W2 restl hnc hrd)
      have hA4 := Lib.hid (hA3 _ hA)
      clear hA2 hA3
      have hcv := conv_rd (room (size + outl.length)) (hrdr.take _ hrn)
      have hneq : ((((room (size + outl.length) : Nat) : Int)) == (n : Int)) = false := by rw [beq_eq_false_iff_ne]; omega
      have htl : (restl.take (room (size + outl.length))).length = room (size + outl.length) := by rw [List.length_take, hrd.len]; omega
      have htl := Lib.hid htl
      have hps : (⟨(restl.take (room (size + outl.length))).toArray⟩ : ByteArray).size ≤ 65535 := by rw [size_mk, htl.out]; omega
      have hkeepH := Lib.hid hkeep
      have hAH := Lib.hid hA
      have hrdH := Lib.hid hrd
      clear hkeep hA hrd hrdr
      cases first
      · simp only [Bool.false_eq_true, if_false, if_true] at hlay
        have hlayH := Lib.hid hlay
        clear hlay
        go_wp2_with (first  | (go_at_call 14; go_must (refine (fragment_at 3 _ rfl _ hps _).mono ?_; rintro e w4 ⟨rfl, hb4⟩; replace hrow := Lib.hid (hrow.out.below hb4); replace hb4 := Lib.hid hb4))  | (at_builtin; go_must (refine print_append_str w.heap.size rfl (.tmp 72) (.tmp 79) 23 9 5 rfl Tryd.underlying23 Tryd.underlying9 info_u8 _ (bi outl) _ rfl rfl hrow.out.own (hbel.trans (hb4.out.mono hbel.size)) (Nat.le_trans hbel.size hb4.out.size) (by rw [bi_len, size_mk, frag_len, htl.out]; omega) ?_; intro v1 w5 ho1 hb5 hg5; have hw5 := hW0.out.below hb5; have k05 : w5.cell? ⟨g, 0, none⟩ = some (.int .i64 (size : Int)) := (blk_cell hw5.blk 0).trans rfl; have f05 := blk_frozen hw5.blk 0; replace hw5 := Lib.hid hw5; replace hb5 := Lib.hid hb5; replace ho1 := Lib.hid ho1; replace hg5 := Lib.hid hg5)))
        have hx : bi outl ++ bytesOf (⟨(frag 3 (⟨(restl.take (room (size + outl.length))).toArray⟩ : ByteArray).data.toList).toArray⟩ : ByteArray) = bi (outl ++ frag 3 (restl.take (room (size + outl.length)))) := by
          rw [bi_app, bi_of]
        have hrw := Row.of ho1.out hx
        have hlo : (outl ++ frag 3 (restl.take (room (size + outl.length)))).length = outl.length + (7 + room (size + outl.length)) := by rw [List.length_append, frag_len, htl.out]
        go_roundw
        case rel =>
          refine ⟨outl ++ frag 3 (restl.take (room (size + outl.length))), restl.drop (room (size + outl.length)), A', n - room (size + outl.length), c - room (size + outl.length), q, false, hrw, rfl, by omega, hrd2.out, hA4.out, rfl, ?_, ?_, ?_, by omega, ?_, ?_, hb5.out⟩
          · rw [hlo, show size + (outl.length + (7 + room (size + outl.length))) = size + outl.length + 7 + room (size + outl.length) from by omega, hal.out]; omega
          · rw [hlo, show size + (outl.length + (7 + room (size + outl.length))) = size + outl.length + 7 + room (size + outl.length) from by omega]; exact hff.out
          · rw [hlo, show size + (outl.length + (7 + room (size + outl.length))) = size + outl.length + 7 + room (size + outl.length) from by omega, List.append_assoc]; exact hlayH.out
          · have h4 : w4.heap[w.heap.size + 1]? = wr.heap[w.heap.size + 1]? := hb4.out.block _ (by omega)
            have h5 := hg5.out.block (w.heap.size + 1) (by have := hb4.out.size; omega) (fun e => hrow.out.marked (by rw [h4, hkeepH.out]; exact hmk0.out) e.symm)
            rw [h5, h4, hkeepH.out]
          · have := hb4.out.size
            have := hg5.out.size
            omega
        case measure =>
          obtain ⟨A9, c9, rfl, _, _⟩ := hrw.rd
          simp [slen, frag_len, htl.out]
          omega
      · simp only [Bool.false_eq_true, if_false, if_true] at hlay
        have hlayH := Lib.hid hlay
        clear hlay
        go_wp2_with (first  | (go_at_call 14; go_must (refine (fragment_at 2 _ rfl _ hps _).mono ?_; rintro e w4 ⟨rfl, hb4⟩; replace hrow := Lib.hid (hrow.out.below hb4); replace hb4 := Lib.hid hb4))  | (at_builtin; go_must (refine print_append_str w.heap.size rfl (.tmp 72) (.tmp 79) 23 9 5 rfl Tryd.underlying23 Tryd.underlying9 info_u8 _ (bi outl) _ rfl rfl hrow.out.own (hbel.trans (hb4.out.mono hbel.size)) (Nat.le_trans hbel.size hb4.out.size) (by rw [bi_len, size_mk, frag_len, htl.out]; omega) ?_; intro v1 w5 ho1 hb5 hg5; have hw5 := hW0.out.below hb5; have k05 : w5.cell? ⟨g, 0, none⟩ = some (.int .i64 (size : Int)) := (blk_cell hw5.blk 0).trans rfl; have f05 := blk_frozen hw5.blk 0; replace hw5 := Lib.hid hw5; replace hb5 := Lib.hid hb5; replace ho1 := Lib.hid ho1; replace hg5 := Lib.hid hg5)))
        have hx : bi outl ++ bytesOf (⟨(frag 2 (⟨(restl.take (room (size + outl.length))).toArray⟩ : ByteArray).data.toList).toArray⟩ : ByteArray) = bi (outl ++ frag 2 (restl.take (room (size + outl.length)))) := by
          rw [bi_app, bi_of]
        have hrw := Row.of ho1.out hx
        have hlo : (outl ++ frag 2 (restl.take (room (size + outl.length)))).length = outl.length + (7 + room (size + outl.length)) := by rw [List.length_append, frag_len, htl.out]
        go_roundw
        case rel =>
          refine ⟨outl ++ frag 2 (restl.take (room (size + outl.length))), restl.drop (room (size + outl.length)), A', n - room (size + outl.length), c - room (size + outl.length), q, false, hrw, rfl, by omega, hrd2.out, hA4.out, rfl, ?_, ?_, ?_, by omega, ?_, ?_, hb5.out⟩
          · rw [hlo, show size + (outl.length + (7 + room (size + outl.length))) = size + outl.length + 7 + room (size + outl.length) from by omega, hal.out]; omega
          · rw [hlo, show size + (outl.length + (7 + room (size + outl.length))) = size + outl.length + 7 + room (size + outl.length) from by omega]; exact hff.out
          · rw [hlo, show size + (outl.length + (7 + room (size + outl.length))) = size + outl.length + 7 + room (size + outl.length) from by omega, List.append_assoc]; exact hlayH.out
          · have h4 : w4.heap[w.heap.size + 1]? = wr.heap[w.heap.size + 1]? := hb4.out.block _ (by omega)
            have h5 := hg5.out.block (w.heap.size + 1) (by have := hb4.out.size; omega) (fun e => hrow.out.marked (by rw [h4, hkeepH.out]; exact hmk0.out) e.symm)
            rw [h5, h4, hkeepH.out]
          · have := hb4.out.size
            have := hg5.out.size
            omega
        case measure =>
          obtain ⟨A9, c9, rfl, _, _⟩ := hrw.rd
          simp [slen, frag_len, htl.out]
          omega
end Go.Proofs.YtlmlkamgpmnmgaaDoor
