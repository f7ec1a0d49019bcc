/-
  Texts as UTF-8, walked: text.each at any closure, text.Valid, text.Name.
-/
import Derived.Test.YtmchephokleffaaGreatDoorYb
import Derived.Test.YtmchephokleffaaGreatDoorVc
import Derived.Test.YtmchephokleffaaGreatDoorQ7
import Derived.Lib.RuneCountTail
import Derived.Lib.TrimU
set_option linter.unusedVariables false
set_option linter.unusedSimpArgs false
namespace Go.Proofs.YtmchephokleffaaGreatDoor
open Go.RowKit Go.Proofs.YtmchephokleffaaGreatDoorW.PrintWords Go.Proofs.YtmchephokleffaaGreatDoor.PRecord
theorem dec_fit (s : ByteArray) (pos : Nat) (h : pos < s.size) : pos + (Utf8.decode s pos).2 ≤ s.size := by
  have h1 : (Utf8.decode (s.extract pos s.size) 0).2 ≤ (s.extract pos s.size).size := by
    have hz : 0 < (s.extract pos s.size).size := by rw [ByteArray.size_extract]; omega
    rw [Lib.decode_at]
    generalize hn : (s.extract pos s.size).size - 0 = n at *
    unfold Lib.decodeN
    repeat' split
    all_goals (simp only; omega)
  rw [Lib.tail_decode, ByteArray.size_extract] at h1
  simp only [Nat.add_zero] at h1
  omega
set_option maxHeartbeats 2000000 in
set_option maxRecDepth 100000 in
/-- text.each, whatever the closure does. -/
theorem each_any (s : ByteArray) (hs : s.size ≤ 1000000000) (g : Nat) (lb : Array Value) (eg : ∀ (args : Array Value) (W : World), (callFunc g args).run Tryz.prog W = .ok (.enter g args) W) (w : World) (I : Nat → World → Prop) (h0 : I 0 w)
    (hI : ∀ pos W W', I pos W → Below w.heap.size W W' → I pos W')
    (hstep : ∀ pos (W : World) it, pos < s.size → I pos W → W.heap[w.heap.size]? = some (.stringIter s it) → Calls Tryz.prog g (#[.int .i32 ((Utf8.decode s pos).1 : Nat), .int .i64 ((Utf8.decode s pos).2 : Nat)] ++ lb) W fun e w' => e = .returned (.tuple #[]) ∧ I (pos + (Utf8.decode s pos).2) w' ∧ w'.heap[w.heap.size]? = some (.stringIter s it)) :
    Calls Tryz.prog 149 #[.string s, .func (.func g) #[] lb] w fun e w' => e = .returned (.tuple #[]) ∧ I s.size w' := by
  have h0' := Lib.hid (hI 0 w (w.iter s 0) h0 ((Below.refl _ w).alloc (Nat.le_refl _) _))
  have hit0 := Lib.hid (World.iter_heap w s 0)
  replace hI := Lib.hid hI
  replace hstep := Lib.hid hstep
  clear h0
  go_enter Tryz.func149, Tryz.ntmps149
  go_wp2
  go_loopg [4, 5] s.size (fun gf la at_ wx => ∃ pos : Nat, wx.heap[w.heap.size]? = some (.stringIter s pos) ∧ s.size ≤ pos + gf ∧
    ((pos = 0 ∧ la = .int .i32 0 ∧ at_ = .int .i64 (-1) ∧ Hid (I 0 wx)) ∨ (∃ p, p < s.size ∧ pos = p + (Utf8.decode s p).2 ∧ la = .int .i32 ((Utf8.decode s p).1 : Nat) ∧ at_ = .int .i64 (p : Nat) ∧ Hid (I p wx))))
  case atStart => exact ⟨0, hit0.out, by omega, .inl ⟨rfl, rfl, rfl, h0'⟩⟩
  case round =>
    obtain ⟨pos, hit, hfu, hrel⟩ := hrel
    clear h0' hit0
    by_cases hps : pos < s.size
    · obtain ⟨g', rfl⟩ : ∃ g', gk = g' + 1 := ⟨gk - 1, by omega⟩
      have hnx : ∀ ty, (Instr.next (.pointer (some ⟨w.heap.size, 0, none⟩)) true ty).run Tryz.prog wr = _ := fun ty => Lib.run_next_any_at wr w.heap.size s pos ty hit hps
      have hwd := Lib.width_pos s pos
      have hit2 := Lib.hid (Lib.iterAt_heap wr w.heap.size s pos (pos + (Utf8.decode s pos).2) hit)
      have hb2 := Lib.below_iterAt (Below.refl w.heap.size wr) (k := w.heap.size) (Nat.le_refl _) s (pos + (Utf8.decode s pos).2)
      rcases hrel with ⟨rfl, rfl, rfl, hi⟩ | ⟨p, hp, hpos, rfl, rfl, hi⟩
      · have hi2 := Lib.hid (hI.out 0 wr _ hi.out hb2)
        clear hi hb2
        generalize wr.iterAt w.heap.size s (0 + (Utf8.decode s 0).2) = W at *
        obtain ⟨R, hR⟩ : ∃ R, (Utf8.decode s 0).1 = R := ⟨_, rfl⟩
        rw [hR] at hnx
        replace hR := Lib.hid hR
        clear hit
        go_wp2
        go_roundg g'
        case measure => omega
        case rel => exact ⟨0 + (Utf8.decode s 0).2, hit2.out, by omega, .inr ⟨0, hps, rfl, by rw [hR.out], rfl, hi2⟩⟩
      · have hi2 := hI.out p wr _ hi.out hb2
        have hc := Lib.hid (hstep.out p _ _ hp hi2 hit2.out)
        obtain ⟨K, hK⟩ : ∃ K, (Utf8.decode s p).2 = K := ⟨_, rfl⟩
        obtain ⟨Q, hQ⟩ : ∃ Q, (Utf8.decode s p).1 = Q := ⟨_, rfl⟩
        rw [hK] at hpos hc
        rw [hQ] at hc
        rw [hQ]
        rw [show ((K : Nat) : Int) = (pos : Int) - (p : Int) by omega] at hc
        have hge : decide ((0 : Int) ≤ (p : Int)) = true := decide_eq_true (by omega)
        obtain ⟨D, hD⟩ : ∃ D, Utf8.decode s pos = D := ⟨_, rfl⟩
        rw [hD] at hnx hit2 hc hwd
        clear hi hi2 hb2
        obtain ⟨R, k2⟩ := D
        simp only at hnx hit2 hc hwd
        generalize wr.iterAt w.heap.size s (pos + k2) = W at *
        replace hD := Lib.hid hD
        replace hQ := Lib.hid hQ
        replace hK := Lib.hid hK
        have hposH := Lib.hid hpos
        clear hpos hit hit2
        go_wp2_with (go_at_fn g; refine hc.out.mono ?_; rintro e W' ⟨rfl, hi3, hit3⟩; replace hi3 := Lib.hid hi3; replace hit3 := Lib.hid hit3; clear hc)
        go_roundg g'
        case measure => omega
        case rel => exact ⟨pos + k2, hit3.out, by omega, .inr ⟨pos, hps, by rw [hD.out], by rw [hD.out], rfl, by rw [← hposH.out] at hi3; exact hi3⟩⟩
    · have hnx : ∀ ty, (Instr.next (.pointer (some ⟨w.heap.size, 0, none⟩)) true ty).run Tryz.prog wr = _ := fun ty => Lib.run_next_end_at wr w.heap.size s pos ty hit hps
      rcases hrel with ⟨rfl, rfl, rfl, hi⟩ | ⟨p, hp, hpos, rfl, rfl, hi⟩
      · have hz : s.size = 0 := by omega
        have hfin : Hid (I s.size wr) := Lib.hid (by rw [hz]; exact hi.out)
        replace hz := Lib.hid hz
        clear hi
        go_wp2
        go_end0
        exact ⟨rfl, hfin.out⟩
      · have hfit := dec_fit s p hp
        have hc := Lib.hid (hstep.out p _ _ hp hi.out hit)
        rw [← hpos, show pos = s.size by omega] at hc
        obtain ⟨K, hK⟩ : ∃ K, (Utf8.decode s p).2 = K := ⟨_, rfl⟩
        obtain ⟨Q, hQ⟩ : ∃ Q, (Utf8.decode s p).1 = Q := ⟨_, rfl⟩
        rw [hK] at hpos hc hfit
        rw [hQ] at hc
        rw [hQ]
        rw [show ((K : Nat) : Int) = (s.size : Int) - (p : Int) by omega] at hc
        have hge : decide ((0 : Int) ≤ (p : Int)) = true := decide_eq_true (by omega)
        replace hQ := Lib.hid hQ
        replace hK := Lib.hid hK
        replace hpos := Lib.hid hpos
        clear hi hit hfit
        go_wp2_with (go_at_fn g; refine hc.out.mono ?_; rintro e W' ⟨rfl, hi3, hit3⟩; replace hi3 := Lib.hid hi3; clear hit3 hc)
        go_end0
        exact ⟨rfl, hi3.out⟩
/-- Is a text right UTF-8? -/
def vaF : Nat → ByteArray → Nat → Bool
  | 0, s, pos => true
  | f + 1, s, pos => if pos < s.size then (if (Utf8.decode s pos).1 = 65533 ∧ (Utf8.decode s pos).2 = 1 then false else vaF f s (pos + (Utf8.decode s pos).2)) else true
def vaB (s : ByteArray) : Bool := vaF s.size s 0
theorem vaF_end (f : Nat) (s : ByteArray) (pos : Nat) (h : ¬ pos < s.size) : vaF f s pos = true := by cases f <;> simp [vaF, h]
theorem vaF_fuel : ∀ (f k : Nat) (s : ByteArray) (pos : Nat), s.size ≤ pos + f → s.size ≤ pos + k → vaF f s pos = vaF k s pos
  | 0, k, s, pos, h, _ => by rw [vaF_end 0 s pos (by omega), vaF_end k s pos (by omega)]
  | f + 1, 0, s, pos, _, h => by rw [vaF_end (f + 1) s pos (by omega), vaF_end 0 s pos (by omega)]
  | f + 1, k + 1, s, pos, h, h2 => by
    rw [vaF, vaF]
    by_cases hp : pos < s.size
    · have := Lib.width_pos s pos
      rw [if_pos hp, if_pos hp, vaF_fuel f k s _ (by omega) (by omega)]
    · rw [if_neg hp, if_neg hp]
/-- Rune behind rune. -/
theorem vaF_step (s : ByteArray) (pos : Nat) (h : pos < s.size) : vaF s.size s pos = ((!(decide ((Utf8.decode s pos).1 = 65533) && decide ((Utf8.decode s pos).2 = 1))) && vaF s.size s (pos + (Utf8.decode s pos).2)) := by
  obtain ⟨n, hn⟩ : ∃ n, s.size = n + 1 := ⟨s.size - 1, by omega⟩
  have hw := Lib.width_pos s pos
  conv => lhs; rw [hn, vaF, if_pos h]
  rw [vaF_fuel n s.size s _ (by omega) (by omega)]
  by_cases hb : (Utf8.decode s pos).1 = 65533 ∧ (Utf8.decode s pos).2 = 1
  · rw [if_pos hb, decide_eq_true hb.1, decide_eq_true hb.2]
    rfl
  · rw [if_neg hb]
    by_cases h1 : (Utf8.decode s pos).1 = 65533
    · have h2 : (Utf8.decode s pos).2 ≠ 1 := fun e => hb ⟨h1, e⟩
      rw [decide_eq_false h2, Bool.and_false]
      rfl
    · rw [decide_eq_false h1]
      rfl
set_option maxHeartbeats 1000000 in
theorem valid1_any (r k B : Nat) (hk : 1 ≤ k) (acc : Bool) (W : World) (hb : W.heap[B]? = some (.cells #[.bool acc] 4 (0, 0))) :
    Calls Tryz.prog 150 #[.int .i32 (r : Nat), .int .i64 (k : Nat), .pointer (some ⟨B, 0, none⟩)] W fun e w' => e = .returned (.tuple #[]) ∧ w' = W.setCell ⟨B, 0, none⟩ (.bool (acc && !(decide (r = 65533) && decide (k = 1)))) := by
  have c0 := (blk_cell hb 0).trans rfl
  have f0 := blk_frozen hb 0
  clear hb
  cases acc with
  | false =>
    go_enter Tryz.func150, Tryz.ntmps150
    go_wp2
    go_end0
    exact ⟨rfl, rfl⟩
  | true =>
    by_cases hr : r = 65533
    · have d1 : ((r : Int) != 65533) = false := by rw [hr]; rfl
      by_cases h1 : k = 1
      · subst h1
        rw [decide_eq_true hr]
        replace hr := Lib.hid hr
        go_enter Tryz.func150, Tryz.ntmps150
        go_wp2
        go_end0
        exact ⟨rfl, rfl⟩
      · have d2 : decide ((1 : Int) < (k : Int)) = true := decide_eq_true (by omega)
        rw [decide_eq_false h1]
        replace hr := Lib.hid hr
        replace h1 := Lib.hid h1
        go_enter Tryz.func150, Tryz.ntmps150
        go_wp2
        go_end0
        exact ⟨rfl, by simp⟩
    · have d1 : ((r : Int) != 65533) = true := by simp; omega
      rw [decide_eq_false hr]
      replace hr := Lib.hid hr
      go_enter Tryz.func150, Tryz.ntmps150
      go_wp2
      go_end0
      exact ⟨rfl, rfl⟩
theorem cf_valid1 (args : Array Value) (W : World) : (callFunc 150 args).run Tryz.prog W = .ok (.enter 150 args) W := by go_simp
set_option maxHeartbeats 2000000 in
theorem valid_any (s : ByteArray) (hs : s.size ≤ 1000000000) (w : World) :
    Calls Tryz.prog 105 #[.string s] w fun e w' => e = .returned (.bool (vaB s)) ∧ Below w.heap.size w w' := by
  obtain ⟨W0, hW0⟩ : ∃ W0, W0 = w.alloc (.cells #[.bool true] 4) := ⟨_, rfl⟩
  have hr0 : W0.heap[w.heap.size]? = some (.cells #[.bool true] 4 (0, 0)) := by rw [hW0]; exact heap_alloc_new w _
  have hB0 : Below w.heap.size w W0 := by rw [hW0]; exact (Below.refl _ _).alloc (Nat.le_refl _) _
  have hz0 : W0.heap.size = w.heap.size + 1 := by rw [hW0]; simp
  have he := Lib.hid (each_any s hs 150 #[.pointer (some ⟨w.heap.size, 0, none⟩)] cf_valid1 W0
    (fun pos W => ∃ acc : Bool, W.heap[w.heap.size]? = some (.cells #[.bool acc] 4 (0, 0)) ∧ (acc && vaF s.size s pos) = vaB s ∧ Below w.heap.size w W)
    ⟨true, hr0, by simp [vaB], hB0⟩
    (fun pos W W' ⟨acc, h1, h2, h3⟩ hb => ⟨acc, (hb.block _ (by omega)).trans h1, h2, h3.trans (hb.mono (by omega))⟩)
    (fun pos W it hp ⟨acc, h1, h2, h3⟩ hit => by
      have hlt : w.heap.size < W.heap.size := (Array.getElem?_eq_some_iff.1 h1).1
      refine (valid1_any (Utf8.decode s pos).1 (Utf8.decode s pos).2 w.heap.size (Lib.width_pos s pos) acc W h1).mono ?_
      rintro e w' ⟨rfl, rfl⟩
      refine ⟨rfl, ⟨_, (blk_set h1 0 _).trans rfl, ?_, h3.setCell (p := ⟨w.heap.size, 0, none⟩) (Nat.le_refl _) _⟩, ?_⟩
      · rw [← h2, vaF_step s pos hp, Bool.and_assoc]
      · rw [← hit]
        exact Below.heap_setCell _ ⟨w.heap.size, 0, none⟩ _ _ (by rw [hz0]; show w.heap.size + 1 ≠ w.heap.size; omega)))
  go_enter Tryz.func105, Tryz.ntmps105
  go_wp2_with (fail)
  rw [← hW0]
  refine he.out.mono ?_
  rintro e w2 ⟨rfl, acc, h1, h2, h3⟩
  rw [vaF_end s.size s s.size (by omega), Bool.and_true] at h2
  subst h2
  have c0 := (blk_cell h1 0).trans rfl
  replace h3 := Lib.hid h3
  clear h1 he hr0 hB0 hW0
  go_wp2
  go_ret
  exact ⟨rfl, h3.out⟩
end Go.Proofs.YtmchephokleffaaGreatDoor
