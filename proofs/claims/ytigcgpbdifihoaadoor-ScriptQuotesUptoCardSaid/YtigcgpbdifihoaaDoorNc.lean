/-
  Chapter 28: Quote, walked.
-/
import Derived.Test.YtigcgpbdifihoaaDoorNb
set_option linter.unusedVariables false
set_option linter.unusedSimpArgs false
namespace Go.Proofs.YtigcgpbdifihoaaDoor
open Go.RowKit Go.Proofs.YtigcgpbdifihoaaDoorW.PrintWords Go.Proofs.YtigcgpbdifihoaaDoor.PScriptRequests
def hexN (n : Nat) : Nat := if n < 10 then 48 + n else 87 + n
def hexB (n : Nat) : UInt8 := UInt8.ofNat (hexN n)
def quB (c : UInt8) : List UInt8 :=
  if c.toNat = 34 ∨ c.toNat = 92 then [92, c] else if 32 ≤ c.toNat ∧ c.toNat ≤ 126 then [c] else [92, 120] ++ [hexB (c.toNat / 16)] ++ [hexB (c.toNat % 16)]
def quoteL (l : List UInt8) : List UInt8 := 34 :: l.flatMap quB ++ [34]
theorem quB_len (c : UInt8) : (quB c).length ≤ 4 := by
  unfold quB
  split
  · simp
  · split <;> simp
theorem qu_len : ∀ l : List UInt8, (l.flatMap quB).length ≤ 4 * l.length
  | [] => by simp
  | c :: r => by
    have h1 := qu_len r
    have h2 := quB_len c
    rw [List.flatMap_cons, List.length_append, List.length_cons]
    omega
theorem quote_len (l : List UInt8) : (quoteL l).length ≤ 4 * l.length + 2 := by
  have := qu_len l
  rw [quoteL, List.length_append, List.length_cons, List.length_singleton]
  omega
theorem hexB_nat (n : Nat) (h : n < 16) : ((hexB n).toNat : Int) = (hexN n : Nat) := by
  unfold hexB hexN
  split <;> simp <;> omega
theorem hex_get : ∀ (n : Nat) (h : n < (⟨#[48, 49, 50, 51, 52, 53, 54, 55, 56, 57, 97, 98, 99, 100, 101, 102]⟩ : ByteArray).size), (((⟨#[48, 49, 50, 51, 52, 53, 54, 55, 56, 57, 97, 98, 99, 100, 101, 102]⟩ : ByteArray)[n]'h).toNat : Int) = (hexN n : Nat)
  | 0, _ => rfl
  | 1, _ => rfl
  | 2, _ => rfl
  | 3, _ => rfl
  | 4, _ => rfl
  | 5, _ => rfl
  | 6, _ => rfl
  | 7, _ => rfl
  | 8, _ => rfl
  | 9, _ => rfl
  | 10, _ => rfl
  | 11, _ => rfl
  | 12, _ => rfl
  | 13, _ => rfl
  | 14, _ => rfl
  | 15, _ => rfl
  | n + 16, h => absurd h (by show ¬ n + 16 < 16; omega)
theorem hex_v (m : Int) (n : Nat) (hm : m = n) (hn : n < 16) : ∀ h, (((⟨#[48, 49, 50, 51, 52, 53, 54, 55, 56, 57, 97, 98, 99, 100, 101, 102]⟩ : ByteArray)[m.toNat]'h).toNat : Int) = ((hexB n).toNat : Int) := by
  subst hm
  intro h
  rw [hexB_nat n hn]
  exact hex_get _ _
theorem run_at {l P R : List UInt8} {c : UInt8} (h : l = P ++ c :: R) (w : World) : (Instr.index 9 (.string (B l)) (.int .i64 (P.length : Nat))).run Tryd.prog w = .ok (.int .u8 (c.toNat : Int)) w := by
  have hn : P.length < (B l).size := by rw [B_size, h]; simp
  rw [run_index_string w _ _ _ _ Tryd.underlying9, dif_pos ⟨by omega, by omega⟩]
  subst h
  refine congrArg (fun x => Result.ok (Value.int .u8 x) w) ?_
  rw [B_get _ _ (by simpa using hn) (by simp)]
  simp
theorem fresh_ib (w : World) : IB 61 [] w.heap.size w.heap.size [] (w.alloc (.cells #[.pointer none, .slice none 0 0] 61)) :=
  Or.inl ⟨Nat.le_refl _, .slice none 0 0, heap_alloc_new w _, World.ownsRow_nil _ _ _ _, by simp [Value.ownBlock]⟩
theorem BA.ib {T : TypeId} {r : List Value} {C b : Nat} {l : List UInt8} {w : World} (h : BA T r C b (.pointer (some ⟨b, 0, none⟩)) l w) : IB T r C b l w := Or.inr h
theorem e10 : (10 : Int) = ((10 : UInt8).toNat : Int) := rfl
theorem e32 : (32 : Int) = ((32 : UInt8).toNat : Int) := rfl
theorem e34 : (34 : Int) = ((34 : UInt8).toNat : Int) := rfl
theorem e92 : (92 : Int) = ((92 : UInt8).toNat : Int) := rfl
set_option maxHeartbeats 400000 in
set_option maxRecDepth 100000 in
theorem quote_any (l : List UInt8) (hl : l.length < 1000000000) (w : World) :
    Calls Tryd.prog 12 #[.string (B l)] w fun e w' => e = .returned (.string (B (quoteL l))) ∧ Below w.heap.size w w' := by
  have hs := B_size l
  have h0 := Lib.hid (fresh_ib w)
  have hb0 := Lib.hid (below_alloc (Below.refl w.heap.size w) (.cells #[.pointer none, .slice none 0 0] 61))
  go_enter Tryd.func12, Tryd.ntmps12
  go_wp2_with (first | (go_at_call 26; go_must (refine (wb_int okt_builder h0.out (by simp) 34 34 rfl (by simp)).mono ?_; rintro e w1 ⟨rfl, h1, hf1⟩)))
  have hf := Lib.hid (hb0.out.trans (hf1.1.mono (by simp)))
  have hi := Lib.hid (Or.inr h1 : IB 61 [] w.heap.size w.heap.size (34 :: ([] : List UInt8).flatMap quB) w1)
  clear h1 hf1 h0 hb0
  go_loopw [9] (fun i wr => ∃ P R, l = P ++ R ∧ i = .int .i64 (P.length : Nat) ∧ Hid (IB 61 [] w.heap.size w.heap.size (34 :: P.flatMap quB) wr) ∧ Hid (Below w.heap.size w wr)) (fun i _ => l.length - (intOf i).toNat)
  case atStart => exact ⟨[], l, rfl, rfl, hi, hf⟩
  case round =>
    clear hi hf
    obtain ⟨P, R, hl2, rfl, hi, hf⟩ := hrel
    have hPl := qu_len P
    have hS : Hid (IB 61 [] w.heap.size w.heap.size (34 :: P.flatMap quB) wr ∧ Below w.heap.size w wr) := Lib.hid ⟨hi.out, hf.out⟩
    clear hi hf
    cases R with
    | nil =>
      rw [List.append_nil] at hl2
      subst hl2
      have hQ : quoteL l = 34 :: l.flatMap quB ++ [34] := rfl
      generalize l.flatMap quB = Q at *
      replace hQ := Lib.hid hQ
      go_wp2_with (first | (go_at_call 26; go_must ((with_reducible refine (wb_int okt_builder hS.out.1 hS.out.2.size 34 34 e34 (by simp; omega)).mono ?_); rintro e w2 ⟨rfl, h1, hf1⟩; replace hS := Lib.hid (And.intro h1.ib (hS.out.2.trans hf1.1)); clear h1 hf1)) | (go_at_call 23; go_must (refine (str_some hS.out.1 (by simp)).mono ?_; rintro e w2 ⟨rfl, hf1⟩)))
      go_ret
      exact ⟨by rw [hQ.out]; rfl, hS.out.2.trans hf1⟩
    | cons c R =>
      have hn : P.length + 1 + R.length = l.length := by rw [hl2]; simp; omega
      have hx := fun W => run_at hl2 W
      have hQ : (P ++ [c]).flatMap quB = P.flatMap quB ++ quB c := by simp
      have hl3 : l = (P ++ [c]) ++ R := by rw [hl2]; simp
      clear hl2
      replace hl3 := Lib.hid hl3
      generalize P.flatMap quB = Q at *
      replace hQ := Lib.hid hQ
      have hend : ∀ W, IB 61 [] w.heap.size w.heap.size (34 :: Q ++ quB c) W ∧ Below w.heap.size w W → ∃ P' R', l = P' ++ R' ∧ Value.int .i64 (P.length + 1 : Nat) = .int .i64 (P'.length : Nat) ∧ Hid (IB 61 [] w.heap.size w.heap.size (34 :: P'.flatMap quB) W) ∧ Hid (Below w.heap.size w W) :=
        fun W h => ⟨P ++ [c], R, hl3.out, by simp, Lib.hid (by rw [hQ.out]; exact h.1), Lib.hid h.2⟩
      replace hend := Lib.hid hend
      obtain ⟨v, hv⟩ : ∃ v : Int, (c.toNat : Int) = v := ⟨_, rfl⟩
      rw [hv] at hx
      have v0 : 0 ≤ v ∧ v < 256 := by have := UInt8.toNat_lt c; omega
      obtain ⟨v0, v1⟩ := v0
      by_cases hc : c.toNat = 34 ∨ c.toNat = 92
      · rw [show quB c = [92] ++ [c] by rw [quB, if_pos hc]; rfl] at hend
        by_cases h3 : v = 34
        · have g1 : (v == 34) = true := beq_iff_eq.2 h3
          have e5 := Lib.hid (by omega : (34 : Int) = (c.toNat : Int))
          go_wp2_with (first | (go_at_call 26; go_must ((first | (with_reducible refine (wb_int okt_builder hS.out.1 hS.out.2.size 92 92 e92 (by simp; omega)).mono ?_) | (with_reducible refine (wb_int okt_builder hS.out.1 hS.out.2.size c 34 e5.out (by simp; omega)).mono ?_)); rintro e w2 ⟨rfl, h1, hf1⟩; replace hS := Lib.hid (And.intro h1.ib (hS.out.2.trans hf1.1)); clear h1 hf1)))
          go_roundw
          case rel =>
            exact hend.out _ (by simpa using hS.out)
          case measure => simp [intOf]; omega
        · have g1 : (v == 34) = false := beq_eq_false_iff_ne.2 h3
          have g2 : (v == 92) = true := beq_iff_eq.2 (by omega)
          go_wp2_with (first | (go_at_call 26; go_must ((first | (with_reducible refine (wb_int okt_builder hS.out.1 hS.out.2.size 92 92 e92 (by simp; omega)).mono ?_) | (with_reducible refine (wb_int okt_builder hS.out.1 hS.out.2.size c v hv.symm (by simp; omega)).mono ?_)); rintro e w2 ⟨rfl, h1, hf1⟩; replace hS := Lib.hid (And.intro h1.ib (hS.out.2.trans hf1.1)); clear h1 hf1)))
          go_roundw
          case rel =>
            exact hend.out _ (by simpa using hS.out)
          case measure => simp [intOf]; omega
      have g1 : (v == 34) = false := beq_eq_false_iff_ne.2 (by omega)
      have g2 : (v == 92) = false := beq_eq_false_iff_ne.2 (by omega)
      by_cases hc2 : 32 ≤ c.toNat ∧ c.toNat ≤ 126
      · rw [show quB c = [c] by rw [quB, if_neg hc, if_pos hc2]] at hend
        go_wp2_with (first | (go_at_call 26; go_must ((first | (with_reducible refine (wb_int okt_builder hS.out.1 hS.out.2.size c v hv.symm (by simp; omega)).mono ?_)); rintro e w2 ⟨rfl, h1, hf1⟩; replace hS := Lib.hid (And.intro h1.ib (hS.out.2.trans hf1.1)); clear h1 hf1)))
        go_roundw
        case rel =>
          exact hend.out _ (by simpa using hS.out)
        case measure => simp [intOf]; omega
      · rw [show quB c = [92, 120] ++ [hexB (c.toNat / 16)] ++ [hexB (c.toNat % 16)] by rw [quB, if_neg hc, if_neg hc2]] at hend
        have q1 := hex_v (v / 16) (c.toNat / 16) (by omega) (by have := UInt8.toNat_lt c; omega)
        have q2 := hex_v (v % 16) (c.toNat % 16) (by omega) (by have := UInt8.toNat_lt c; omega)
        obtain ⟨k1, hk1⟩ : ∃ k : Int, ((hexB (c.toNat / 16)).toNat : Int) = k := ⟨_, rfl⟩
        obtain ⟨k2, hk2⟩ : ∃ k : Int, ((hexB (c.toNat % 16)).toNat : Int) = k := ⟨_, rfl⟩
        rw [hk1] at q1
        rw [hk2] at q2
        by_cases h3 : v < 32
        · go_wp2_with (first | (go_at_call 27; go_must (refine (ws_any okt_builder hS.out.1 hS.out.2.size [92, 120] (by simp; omega)).mono ?_; rintro e w2 ⟨rfl, h1, hf1⟩; replace hS := Lib.hid (And.intro h1.ib (hS.out.2.trans hf1.1)); clear h1 hf1)) | (go_at_call 26; go_must ((first | (with_reducible refine (wb_int okt_builder hS.out.1 hS.out.2.size (hexB (c.toNat / 16)) k1 hk1.symm (by simp; omega)).mono ?_) | (with_reducible refine (wb_int okt_builder hS.out.1 hS.out.2.size (hexB (c.toNat % 16)) k2 hk2.symm (by simp; omega)).mono ?_)); rintro e w2 ⟨rfl, h1, hf1⟩; replace hS := Lib.hid (And.intro h1.ib (hS.out.2.trans hf1.1)); clear h1 hf1)))
          go_roundw
          case rel =>
            exact hend.out _ (by simpa using hS.out)
          case measure => simp [intOf]; omega
        · go_wp2_with (first | (go_at_call 27; go_must (refine (ws_any okt_builder hS.out.1 hS.out.2.size [92, 120] (by simp; omega)).mono ?_; rintro e w2 ⟨rfl, h1, hf1⟩; replace hS := Lib.hid (And.intro h1.ib (hS.out.2.trans hf1.1)); clear h1 hf1)) | (go_at_call 26; go_must ((first | (with_reducible refine (wb_int okt_builder hS.out.1 hS.out.2.size (hexB (c.toNat / 16)) k1 hk1.symm (by simp; omega)).mono ?_) | (with_reducible refine (wb_int okt_builder hS.out.1 hS.out.2.size (hexB (c.toNat % 16)) k2 hk2.symm (by simp; omega)).mono ?_)); rintro e w2 ⟨rfl, h1, hf1⟩; replace hS := Lib.hid (And.intro h1.ib (hS.out.2.trans hf1.1)); clear h1 hf1)))
          go_roundw
          case rel =>
            exact hend.out _ (by simpa using hS.out)
          case measure => simp [intOf]; omega
end Go.Proofs.YtigcgpbdifihoaaDoor
