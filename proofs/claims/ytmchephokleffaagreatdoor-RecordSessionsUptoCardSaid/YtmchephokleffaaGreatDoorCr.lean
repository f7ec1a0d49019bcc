/-
  The codec's reader: what its methods do with what is left of its bytes.
-/
import Derived.Test.YtmchephokleffaaGreatDoorCrc
set_option linter.unusedVariables false
set_option linter.unusedSimpArgs false
namespace Go.Proofs.YtmchephokleffaaGreatDoor
open Go.RowKit Go.Proofs.YtmchephokleffaaGreatDoorW.PrintWords
/-- The reader at block g: what is left, the first fault. -/
structure CR (w : World) (g : Nat) (s : ByteArray) (err : Int) : Prop where
  blk : w.heap[g]? = some (.cells #[.string s, .int .i64 err] 147 (0, 0))
theorem CR.below {w w1 : World} {g : Nat} {s : ByteArray} {err : Int} (h : CR w g s err) (hb : Below w.heap.size w w1) : CR w1 g s err := ⟨by rw [hb.block g (blk_lt h.blk)]; exact h.blk⟩
theorem CR.lt {w : World} {g : Nat} {s : ByteArray} {err : Int} (h : CR w g s err) : g < w.heap.size := blk_lt h.blk
def rawR (s : ByteArray) (err n : Int) : ByteArray × ByteArray × Int :=
  if err ≠ 0 then (⟨#[]⟩, s, err) else if n < 0 then (⟨#[]⟩, s, 1) else if (s.size : Int) < n then (⟨#[]⟩, s, 20) else (s.extract 0 n.toNat, s.extract n.toNat s.size, 0)
theorem raw_cut (s : ByteArray) (n : Nat) (h : n ≤ s.size) : rawR s 0 (n : Int) = (s.extract 0 n, s.extract n s.size, 0) := by
  unfold rawR
  rw [if_neg (by simp), if_neg (by omega), if_neg (by omega), Int.toNat_natCast]
set_option maxHeartbeats 400000 in
theorem newReader_any (s : ByteArray) (w : World) :
    Calls Tryz.prog 62 #[.string s] w fun e w' => e = .returned (.pointer (some ⟨w.heap.size, 0, none⟩)) ∧ CR w' w.heap.size s 0 ∧ Below w.heap.size w w' := by
  go_enter Tryz.func62, Tryz.ntmps62
  go_wp2
  go_ret
  exact ⟨rfl, ⟨heap_alloc_new w _⟩, (Below.refl _ _).alloc (Nat.le_refl _) _⟩
theorem rawR_size (s : ByteArray) (err : Int) (n : Nat) : (rawR s err n).1.size ≤ n := by
  have h0 : (⟨#[]⟩ : ByteArray).size ≤ n := Nat.zero_le _
  unfold rawR
  split
  · exact h0
  · split
    · exact h0
    · split
      · exact h0
      · simp; omega
set_option maxHeartbeats 400000 in
theorem fault_any {g : Nat} {s : ByteArray} {err : Int} {w : World} (x : Int) (h : CR w g s err) :
    Calls Tryz.prog 113 #[.pointer (some ⟨g, 0, none⟩), .int .i64 x] w fun e w' => e = .returned (.string ⟨#[]⟩) ∧ CR w' g s (if err = 0 then x else err) ∧ Below g w w' := by
  obtain ⟨hb⟩ := h
  have k0 := (blk_cell hb 0).trans rfl
  have k1 := (blk_cell hb 1).trans rfl
  have f1 := blk_frozen hb 1
  by_cases h0 : err = 0
  · subst h0
    go_enter Tryz.func113, Tryz.ntmps113
    go_wp2
    go_ret
    exact ⟨rfl, ⟨blk_set hb 1 _⟩, (Below.refl g w).setCell (p := ⟨g, 1, none⟩) (Nat.le_refl g) _⟩
  · have h1 : (err == 0) = false := by simp [h0]
    rw [if_neg h0]
    go_enter Tryz.func113, Tryz.ntmps113
    go_wp2
    go_ret
    exact ⟨rfl, ⟨hb⟩, Below.refl _ _⟩
set_option maxHeartbeats 400000 in
theorem Raw_rd {g : Nat} {s : ByteArray} {err : Int} {w : World} (n : Int) (h : CR w g s err) :
    Calls Tryz.prog 114 #[.pointer (some ⟨g, 0, none⟩), .int .i64 n] w fun e w' => e = .returned (.string (rawR s err n).1) ∧ CR w' g (rawR s err n).2.1 (rawR s err n).2.2 ∧ Below g w w' := by
  have H := Lib.hid h
  obtain ⟨hb⟩ := h
  have k0 := (blk_cell hb 0).trans rfl
  have k1 := (blk_cell hb 1).trans rfl
  have f0 := blk_frozen hb 0
  by_cases h0 : err = 0
  · subst h0
    by_cases hn : n < 0
    · have e1 : rawR s 0 n = (⟨#[]⟩, s, 1) := by simp [rawR, hn]
      rw [e1]
      clear e1
      go_enter Tryz.func114, Tryz.ntmps114
      go_wp2_with (go_at_call 113; go_must (refine (fault_any 1 H.out).mono ?_); rintro e w2 ⟨rfl, hc2, hb2⟩)
      go_ret
      exact ⟨rfl, hc2, hb2⟩
    · by_cases hs : (s.size : Int) < n
      · have e1 : rawR s 0 n = (⟨#[]⟩, s, 20) := by simp [rawR, hn, hs]
        rw [e1]
        clear e1
        go_enter Tryz.func114, Tryz.ntmps114
        go_wp2_with (go_at_call 113; go_must (refine (fault_any 20 H.out).mono ?_); rintro e w2 ⟨rfl, hc2, hb2⟩)
        go_ret
        exact ⟨rfl, hc2, hb2⟩
      · have e1 : rawR s 0 n = (s.extract 0 n.toNat, s.extract n.toNat s.size, 0) := by simp [rawR, hn, hs]
        rw [e1]
        clear e1
        obtain ⟨m, rfl⟩ := Int.eq_ofNat_of_zero_le (show 0 ≤ n by omega)
        rw [Int.toNat_natCast]
        have hm : m ≤ s.size := by omega
        go_enter Tryz.func114, Tryz.ntmps114
        go_wp2
        go_ret
        exact ⟨rfl, ⟨blk_set hb 0 _⟩, (Below.refl g w).setCell (p := ⟨g, 0, none⟩) (Nat.le_refl g) _⟩
  · have h1 : (err == 0) = false := by simp [h0]
    have h2 : (err != 0) = true := by simp [h0]
    have e1 : rawR s err n = (⟨#[]⟩, s, err) := by simp [rawR, h0]
    rw [e1]
    clear e1
    go_enter Tryz.func114, Tryz.ntmps114
    go_wp2
    go_ret
    exact ⟨rfl, ⟨hb⟩, Below.refl _ _⟩
/-- The number of some bytes, the highest first. -/
def beN (l : List UInt8) : Nat := l.foldl (fun a b => a * 256 + b.toNat) 0
theorem beN_snoc (l : List UInt8) (b : UInt8) : beN (l ++ [b]) = beN l * 256 + b.toNat := by simp [beN]
theorem beN_from (l : List UInt8) : ∀ a : Nat, l.foldl (fun a b => a * 256 + b.toNat) a < (a + 1) * 256 ^ l.length := by
  induction l with
  | nil => intro a; simp
  | cons b l ih =>
    intro a
    have h := ih (a * 256 + b.toNat)
    have hb := b.toNat_lt
    simp only [List.foldl_cons, List.length_cons]
    refine Nat.lt_of_lt_of_le h ?_
    rw [Nat.pow_succ, Nat.mul_comm (256 ^ l.length) 256, ← Nat.mul_assoc]
    exact Nat.mul_le_mul_right _ (by omega)
theorem beN_lt (l : List UInt8) : beN l < 256 ^ l.length := by simpa [beN] using beN_from l 0
theorem u64_step (a b : Nat) (ha : a < 72057594037927936) (hb : b < 256) : bits .or .u64 ((a : Int) * 256) (b : Int) = ((a * 256 + b : Nat) : Int) := by
  rw [show ((a : Int) * 256) = ((a * 256 : Nat) : Int) from by omega, u64_or_nat _ _ (by omega) (by omega), nat_join 8 (a * 256) b (by omega) (by omega)]
set_option maxHeartbeats 400000 in
theorem read_any {g : Nat} {s : ByteArray} {err : Int} {w : World} (n : Nat) (hn : n ≤ 8) (hs : s.size ≤ maxLen) (h : CR w g s err) :
    Calls Tryz.prog 115 #[.pointer (some ⟨g, 0, none⟩), .int .i64 (n : Int)] w fun e w' => e = .returned (.int .u64 ((beN (rawR s err n).1.data.toList : Nat) : Int)) ∧ CR w' g (rawR s err n).2.1 (rawR s err n).2.2 ∧ Below g w w' := by
  have HC := Lib.hid (Raw_rd (n : Int) h)
  have hsz := rawR_size s err n
  have hg := h.lt
  clear h
  generalize rawR s err n = R at *
  obtain ⟨t, s', err'⟩ := R
  simp only at hsz HC
  have hml : t.size ≤ 8 := by omega
  have kb := bytes_conv t
  go_enter Tryz.func115, Tryz.ntmps115
  go_wp2_with (go_at_call 114; go_must (refine HC.out.mono ?_); rintro e w2 ⟨rfl, hc2, hb2⟩)
  have HB2 := Lib.hid (bytes_below hb2 (Nat.le_trans (Nat.le_of_lt hg) hb2.size) 5 t)
  have HC2 := Lib.hid (hc2.below (bytes_below (Below.refl _ _) (Nat.le_refl _) 5 t))
  have HR := Lib.hid (rd_bytes w2 t (by omega))
  generalize Lib.bytesWorld w2 5 t = w3 at *
  generalize grownCap w2 t.size 0 5 = cap at *
  clear kb hc2 hb2 HC
  go_loop [5, 13] (fun x i => ∃ j : Nat, j ≤ t.size ∧ i = .int .i64 j ∧ x = .int .u64 ((beN (t.data.toList.take j) : Nat) : Int)) (fun _ i => t.size - (intOf i).toNat)
  case atStart => exact ⟨0, Nat.zero_le _, rfl, rfl⟩
  case round =>
    obtain ⟨j, hj, rfl, rfl⟩ := hrel
    by_cases hlt : j < t.size
    · have hx : beN (t.data.toList.take j) < 256 ^ j := by
        have := beN_lt (t.data.toList.take j)
        rwa [List.length_take, len_data, Nat.min_eq_left hj] at this
      have hx2 : beN (t.data.toList.take j) < 72057594037927936 := Nat.lt_of_lt_of_le hx (Nat.le_trans (Nat.pow_le_pow_right (by omega) (show j ≤ 7 by omega)) (by decide))
      obtain ⟨ad, had, hcell⟩ := HR.out.2.2 (by omega)
      injection had with had
      subst had
      have hc := hcell j hlt
      rw [add_plain] at hc
      have hbt : (bi t.data.toList).getD j 0 = (t[j].toNat : Int) := by
        have h' : j < t.data.toList.length := by rw [len_data]; exact hlt
        simp [bi, List.getD_eq_getElem?_getD, List.getElem?_eq_getElem h']
        rfl
      rw [hbt] at hc
      have hstep := u64_step (beN (t.data.toList.take j)) t[j].toNat hx2 t[j].toNat_lt
      have hsn := Lib.hid (beN_snoc (t.data.toList.take j) t[j])
      rw [← take_snoc t j hlt] at hsn
      have hbb := t[j].toNat_lt
      clear hx hbt hcell
      generalize beN (t.data.toList.take j) = x at *
      go_wp2
      go_round
      case rel => exact ⟨j + 1, by omega, by go_num, int_eq (by rw [hsn.out]; omega)⟩
      case measure => simp [intOf]; omega
    · have hta := take_all t j (by omega)
      rw [hta]
      clear hta
      go_wp2
      go_ret
      exact ⟨rfl, HC2.out, HB2.out⟩
end Go.Proofs.YtmchephokleffaaGreatDoor
