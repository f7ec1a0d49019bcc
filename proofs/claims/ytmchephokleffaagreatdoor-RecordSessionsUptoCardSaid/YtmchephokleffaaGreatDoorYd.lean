/-
  A token, walked: mac.ungrouped at the alphabet of base64, cred.ParseToken, record.token.
-/
import Derived.Test.YtmchephokleffaaGreatDoorYc
import Derived.Test.YtmchephokleffaaGreatDoorVc
import Derived.Test.YtmchephokleffaaGreatDoorVu
set_option linter.unusedVariables false
set_option linter.unusedSimpArgs false
namespace Go.Proofs.YtmchephokleffaaGreatDoor
open Go.RowKit Go.Proofs.YtmchephokleffaaGreatDoorW.PrintWords Go.Proofs.YtmchephokleffaaGreatDoor.PRecord
theorem idx_of : ∀ (l : List UInt8) (c : UInt8), Lib.indexByte l c = if l.idxOf c < l.length then ((l.idxOf c : Nat) : Int) else -1
  | [], c => by simp [Lib.indexByte]
  | d :: l, c => by
    have ih := idx_of l c
    by_cases hd : d = c
    · subst hd
      rw [Lib.indexByte, List.idxOf_cons_self]
      simp
    · have h1 : (d == c) = false := by simpa using hd
      have hc : (d :: l).idxOf c = l.idxOf c + 1 := by rw [List.idxOf_cons, h1]; rfl
      rw [Lib.indexByte, ih, hc, h1, List.length_cons]
      by_cases hl : l.idxOf c < l.length
      · have h2 : ((((l.idxOf c : Nat) : Int)) == -1) = false := by simp
        rw [if_neg (by simp), if_pos hl, h2, if_neg (by simp), if_pos (by omega)]
        omega
      · rw [if_neg (by simp), if_neg hl, if_pos (by decide), if_neg (by omega)]
def lixI (c : UInt8) : Int := if B64.lix c < 64 then ((B64.lix c : Nat) : Int) else -1
theorem ixb_al (c : UInt8) (v : Int) (hv : (c.toNat : Int) = v) (w : World) : Calls Tryz.prog 221 #[.string ALs, .int .u8 v] w fun e w' => e = .returned (.int .i64 (lixI c)) ∧ w' = w := by
  have h := Tryz.strings_IndexByte ALs v w
  rw [ALs_is, Bd.B_data, show v.toNat.toUInt8 = c by rw [← hv]; simp, idx_of] at h
  exact h
theorem dst_lo (b d : Nat) (o : List UInt8) : B64.dst (b, 0, o) d = (b * 64 + d, 6, o) := by simp [B64.dst]
theorem dst_hi (b d k : Nat) (o : List UInt8) : B64.dst (b, k + 2, o) d = ((b * 64 + d) % 2 ^ k, k, o ++ [UInt8.ofNat ((b * 64 + d) / 2 ^ k)]) := by
  unfold B64.dst
  dsimp only
  rw [if_pos (by omega), Nat.add_sub_cancel]
def ugV : Option (List UInt8) → Value
  | none => .tuple #[.string ⟨#[]⟩, .bool false]
  | some o => .tuple #[.string (Bd.B o), .bool true]
set_option maxHeartbeats 4000000 in
set_option maxRecDepth 100000 in
theorem ungrouped_any (l : List UInt8) (hl : l.length ≤ 1000000000) (w : World) :
    Calls Tryz.prog 201 #[.string (Bd.B l), .int .i64 6, .string ALs] w fun e w' => e = .returned (ugV (B64.ub l)) ∧ Below w.heap.size w w' := by
  have hS0 : Hid (Bd.IB 167 [] w.heap.size w.heap.size [] (w.alloc (.cells #[.pointer none, .slice none 0 0] 167)) ∧ Below w.heap.size w (w.alloc (.cells #[.pointer none, .slice none 0 0] 167))) := Lib.hid ⟨fresh_ib w, (Below.refl _ _).alloc (Nat.le_refl _) _⟩
  obtain ⟨s, hsB⟩ : ∃ s, s = Bd.B l := ⟨_, rfl⟩
  have hbt : ∀ (P R : List UInt8) (c : UInt8), l = P ++ c :: R → bt s (P.length : Int) = (c.toNat : Int) := fun P R c h => by rw [hsB, h]; exact Bd.bt_mid P R c
  have hsz : l.length = s.size := by rw [hsB, Bd.B_size]
  have hsl : s.size ≤ 1000000000 := by omega
  rw [← hsB]
  replace hbt := Lib.hid hbt
  replace hsz := Lib.hid hsz
  clear hsB hl
  go_enter Tryz.func201, Tryz.ntmps201
  go_wp2
  go_loopw [9, 10, 15] (fun b n i wr => ∃ (P R : List UInt8) (bb nn : Nat) (o : List UInt8), b = .int .i64 bb ∧ n = .int .i64 nn ∧ i = .int .i64 (P.length : Nat) ∧ Hid (l = P ++ R) ∧ Hid (B64.DI (P.map B64.lix) (bb, nn, o)) ∧ Hid (B64.udG (0, 0, []) l = B64.udG (bb, nn, o) R) ∧ Hid (Bd.IB 167 [] w.heap.size w.heap.size o wr ∧ Below w.heap.size w wr)) (fun _ _ i _ => s.size - (intOf i).toNat)
  case atStart => exact ⟨[], l, 0, 0, [], rfl, rfl, rfl, Lib.hid rfl, Lib.hid B64.DI.start, Lib.hid rfl, hS0⟩
  case round =>
    rename World => wr
    obtain ⟨P, R, bb, nn, o, rfl, rfl, rfl, hl, hD, hU, hS⟩ := hrel
    clear hS0
    have hn : P.length + R.length = s.size := by rw [← hsz.out, hl.out]; simp
    cases R with
    | nil =>
      have hq : B64.ub l = if nn < 6 ∧ bb = 0 then some o else none := by
        unfold B64.ub
        rw [hU.out]
        rfl
      replace hn : ¬ (P.length < s.size) := by simp at hn; omega
      by_cases h6 : nn < 6
      · have g1 : decide ((nn : Int) < 6) = true := decide_eq_true (by omega)
        have g2 : decide ((6 : Int) ≤ (nn : Int)) = false := decide_eq_false (by omega)
        by_cases hb0 : bb = 0
        · subst hb0
          rw [if_pos ⟨h6, rfl⟩] at hq
          have hend := Lib.hid (Tryz.Builder_String_any _ _ _ wr (IB_kit hS.out.1) hS.out.2.size)
          have hB := Lib.hid hS.out.2
          replace hq := Lib.hid hq
          clear hS hU hD
          go_wp2_with (fail)
          refine hend.out.mono ?_
          rintro e w2 ⟨rfl, hb2⟩
          go_wp2_with (fail)
          go_ret2
          exact ⟨by rw [hq.out]; rfl, hB.out.trans hb2⟩
        · rw [if_neg (fun h => hb0 h.2)] at hq
          have g3 : ((bb : Int) != 0) = true := by simp [hb0]
          have hB := Lib.hid hS.out.2
          replace hq := Lib.hid hq
          clear hS hU hD
          go_wp2_with (fail)
          go_ret2
          exact ⟨by rw [hq.out]; rfl, hB.out⟩
      · rw [if_neg (fun h => h6 h.1)] at hq
        have g2 : decide ((6 : Int) ≤ (nn : Int)) = true := decide_eq_true (by omega)
        have hB := Lib.hid hS.out.2
        replace hq := Lib.hid hq
        clear hS hU hD
        go_wp2_with (fail)
        go_ret2
        exact ⟨by rw [hq.out]; rfl, hB.out⟩
    | cons c R =>
      replace hn : P.length + 1 + R.length = s.size := by simp at hn; omega
      obtain ⟨v, hv⟩ : ∃ v : Int, (c.toNat : Int) = v := ⟨_, rfl⟩
      have hx := bt_at s (P.length : Int)
      rw [hbt.out P R c hl.out, hv] at hx
      have hI := Lib.hid (ixb_al c v hv)
      obtain ⟨x, hxP⟩ : ∃ x : Int, (P.length : Int) = x := ⟨_, rfl⟩
      rw [hxP] at hx ⊢
      have p4 : (0 ≤ x) = True := eq_true (by omega)
      have q4 : (x < (s.size : Int)) = True := eq_true (by omega)
      have hw : wrap64 (x + 1) = x + 1 := IntWalk.wrap64_in _ (by omega)
      have h0 : 0 ≤ x := by omega
      have h1 : x < (s.size : Int) := by omega
      have hxs : s.size - (x + 1).toNat < s.size - x.toNat := by omega
      replace hn := Lib.hid hn
      replace hxP := Lib.hid hxP
      clear hv
      by_cases hlt : B64.lix c < 64
      · have e1 : lixI c = ((B64.lix c : Nat) : Int) := if_pos hlt
        rw [e1] at hI
        have hU2 : Hid (B64.udG (0, 0, []) l = B64.udG (B64.dst (bb, nn, o) (B64.lix c)) R) := Lib.hid (by rw [hU.out, B64.udG, if_pos hlt])
        have hD2 := hD.out.step (B64.lix c) hlt
        rw [show P.map B64.lix ++ [B64.lix c] = (P ++ [c]).map B64.lix by simp] at hD2
        replace hD2 := Lib.hid hD2
        generalize B64.lix c = d at *
        clear hU e1
        have hd0 : decide ((d : Int) < 0) = false := decide_eq_false (by omega)
        obtain ⟨V, hV⟩ : ∃ V, bb * 64 + d = V := ⟨_, rfl⟩
        have hbb : bb < 64 := by
          have h2 := hD.out.2.1
          rcases hD.out.1 with h | h | h | h <;> simp only at h h2 <;> subst h <;> simp at h2 <;> omega
        have ho : bits .or .i64 (wrap64 ((bb : Int) * 64)) (d : Int) = (V : Int) := by
          rw [IntWalk.wrap64_in _ (by omega), show ((bb : Int) * 64) = ((bb * 64 : Nat) : Int) from by omega, i64_or_nat _ _ (by omega) (by omega), nat_join 6 _ _ (by omega) (by omega), hV]
        have hV2 : V < 4096 := by omega
        have hol : o.length + 1 ≤ 140737488355328 := by
          have h2 := hD.out.2.2.1
          have h3 := hn.out
          simp only [List.length_map] at h2
          omega
        replace hV := Lib.hid hV
        replace hbb := Lib.hid hbb
        rcases hD.out.1 with h | h | h | h
        · simp only at h
          subst h
          rw [dst_lo, hV.out] at hU2 hD2
          go_wp2_with (fail)
          refine (hI.out _).mono ?_
          rintro e w2 ⟨rfl, rfl⟩
          go_wp2_with (fail)
          refine ⟨⟨P ++ [c], R, V, 6, o, rfl, rfl, ?_, Lib.hid (by rw [hl.out]; simp), hD2, hU2, hS⟩, ?_⟩
          · rw [List.length_append, List.length_singleton, ← hxP.out]; go_num
          · simp [intOf]; exact hxs
        · simp only at h
          subst h
          rw [dst_hi bb d 0, hV.out] at hU2 hD2
          have hq : V / 2 ^ 0 < 256 := by
            have h2 := hD.out.2.1
            have h3 := hV.out
            simp at h2
            omega
          have hm : bits .and .i64 (V : Int) 0 = ((V % 2 ^ 0 : Nat) : Int) := by
            rw [show (0 : Int) = ((0 : Nat) : Int) from rfl, i64_and_nat _ _ (by omega) (by omega)]
            exact congrArg _ (Nat.and_two_pow_sub_one_eq_mod V 0)
          have hwb := Bd.wb_int Bd.okt_builder hS.out.1 hS.out.2.size (UInt8.ofNat (V / 2 ^ 0)) ((V : Int) % 256) (by rw [B64.u8_nat _ hq]; omega) hol
          replace hwb := Lib.hid hwb
          generalize UInt8.ofNat (V / 2 ^ 0) = ch at *
          generalize V % 2 ^ 0 = V2 at *
          replace hq := Lib.hid hq
          go_wp2_with (fail)
          refine (hI.out _).mono ?_
          rintro e w2 ⟨rfl, rfl⟩
          go_wp2_with (fail)
          refine hwb.out.mono ?_
          rintro e w3 ⟨rfl, hi3, hf3⟩
          have hS3 := Lib.hid (And.intro (BA_ib hi3) (hS.out.2.trans hf3.1))
          clear hwb hi3 hf3 hS hI
          go_wp2_with (fail)
          refine ⟨⟨P ++ [c], R, V2, 0, o ++ [ch], rfl, rfl, ?_, Lib.hid (by rw [hl.out]; simp), hD2, hU2, hS3⟩, ?_⟩
          · rw [List.length_append, List.length_singleton, ← hxP.out]; go_num
          · simp [intOf]; exact hxs
        · simp only at h
          subst h
          rw [dst_hi bb d 2, hV.out] at hU2 hD2
          have hq : V / 2 ^ 2 < 256 := by
            have h2 := hD.out.2.1
            have h3 := hV.out
            simp at h2
            omega
          have hm : bits .and .i64 (V : Int) 3 = ((V % 2 ^ 2 : Nat) : Int) := by
            rw [show (3 : Int) = ((3 : Nat) : Int) from rfl, i64_and_nat _ _ (by omega) (by omega)]
            exact congrArg _ (Nat.and_two_pow_sub_one_eq_mod V 2)
          have hwb := Bd.wb_int Bd.okt_builder hS.out.1 hS.out.2.size (UInt8.ofNat (V / 2 ^ 2)) ((V : Int) / 4 % 256) (by rw [B64.u8_nat _ hq]; omega) hol
          replace hwb := Lib.hid hwb
          generalize UInt8.ofNat (V / 2 ^ 2) = ch at *
          generalize V % 2 ^ 2 = V2 at *
          replace hq := Lib.hid hq
          go_wp2_with (fail)
          refine (hI.out _).mono ?_
          rintro e w2 ⟨rfl, rfl⟩
          go_wp2_with (fail)
          refine hwb.out.mono ?_
          rintro e w3 ⟨rfl, hi3, hf3⟩
          have hS3 := Lib.hid (And.intro (BA_ib hi3) (hS.out.2.trans hf3.1))
          clear hwb hi3 hf3 hS hI
          go_wp2_with (fail)
          refine ⟨⟨P ++ [c], R, V2, 2, o ++ [ch], rfl, rfl, ?_, Lib.hid (by rw [hl.out]; simp), hD2, hU2, hS3⟩, ?_⟩
          · rw [List.length_append, List.length_singleton, ← hxP.out]; go_num
          · simp [intOf]; exact hxs
        · simp only at h
          subst h
          rw [dst_hi bb d 4, hV.out] at hU2 hD2
          have hq : V / 2 ^ 4 < 256 := by
            have h2 := hD.out.2.1
            have h3 := hV.out
            simp at h2
            omega
          have hm : bits .and .i64 (V : Int) 15 = ((V % 2 ^ 4 : Nat) : Int) := by
            rw [show (15 : Int) = ((15 : Nat) : Int) from rfl, i64_and_nat _ _ (by omega) (by omega)]
            exact congrArg _ (Nat.and_two_pow_sub_one_eq_mod V 4)
          have hwb := Bd.wb_int Bd.okt_builder hS.out.1 hS.out.2.size (UInt8.ofNat (V / 2 ^ 4)) ((V : Int) / 16) (by rw [B64.u8_nat _ hq]; omega) hol
          replace hwb := Lib.hid hwb
          generalize UInt8.ofNat (V / 2 ^ 4) = ch at *
          generalize V % 2 ^ 4 = V2 at *
          replace hq := Lib.hid hq
          go_wp2_with (fail)
          refine (hI.out _).mono ?_
          rintro e w2 ⟨rfl, rfl⟩
          go_wp2_with (fail)
          refine hwb.out.mono ?_
          rintro e w3 ⟨rfl, hi3, hf3⟩
          have hS3 := Lib.hid (And.intro (BA_ib hi3) (hS.out.2.trans hf3.1))
          clear hwb hi3 hf3 hS hI
          go_wp2_with (fail)
          refine ⟨⟨P ++ [c], R, V2, 4, o ++ [ch], rfl, rfl, ?_, Lib.hid (by rw [hl.out]; simp), hD2, hU2, hS3⟩, ?_⟩
          · rw [List.length_append, List.length_singleton, ← hxP.out]; go_num
          · simp [intOf]; exact hxs
      · have e1 : lixI c = -1 := if_neg hlt
        rw [e1] at hI
        have hq : Hid (B64.ub l = none) := Lib.hid (by unfold B64.ub; rw [hU.out, B64.udG, if_neg hlt])
        have hB := Lib.hid hS.out.2
        clear hU hD hS e1
        go_wp2_with (fail)
        refine (hI.out _).mono ?_
        rintro e w2 ⟨rfl, rfl⟩
        go_wp2_with (fail)
        go_ret2
        exact ⟨by rw [hq.out]; rfl, hB.out⟩
set_option maxHeartbeats 1000000 in
theorem unbase64_any (l : List UInt8) (hl : l.length ≤ 1000000000) (w : World) :
    Calls Tryz.prog 174 #[.string (Bd.B l)] w fun e w' => e = .returned (ugV (B64.ub l)) ∧ Below w.heap.size w w' := by
  have h := Lib.hid (ungrouped_any l hl w)
  generalize B64.ub l = O at *
  generalize Bd.B l = s at *
  go_enter Tryz.func174, Tryz.ntmps174
  go_wp2_with (fail)
  refine h.out.mono ?_
  rintro e w2 ⟨rfl, hb2⟩
  replace hb2 := Lib.hid hb2
  clear h
  cases O with
  | none =>
    simp only [ugV]
    go_wp2_with (fail)
    go_ret2
    exact ⟨rfl, hb2.out⟩
  | some o =>
    simp only [ugV]
    go_wp2_with (fail)
    go_ret2
    exact ⟨rfl, hb2.out⟩
set_option maxHeartbeats 2000000 in
theorem parse_any (l : List UInt8) (hl : l.length ≤ 1000000000) (w : World) :
    Calls Tryz.prog 148 #[.string (Bd.B l)] w fun e w' => (∃ a b E : Int, e = .returned (.tuple #[.int .u64 a, .int .u64 b, .int .i64 E]) ∧ (E = 0 ↔ tokB l = true)) ∧ Below w.heap.size w w' := by
  have h := Lib.hid (unbase64_any l hl w)
  have hT : tokB l = match B64.ub l with
    | some o => decide (o.length = 16)
    | none => false := rfl
  generalize B64.ub l = O at *
  generalize tokB l = T at *
  generalize Bd.B l = s at *
  cases O with
  | none =>
    simp only at hT
    subst hT
    go_enter Tryz.func148, Tryz.ntmps148
    go_wp2_with (fail)
    refine h.out.mono ?_
    rintro e w2 ⟨rfl, hb2⟩
    simp only [ugV]
    go_wp2_with (fail)
    go_ret3
    exact ⟨⟨0, 0, 211, rfl, by simp⟩, hb2⟩
  | some o =>
    simp only at hT
    by_cases h16 : o.length = 16
    · rw [decide_eq_true h16] at hT
      subst hT
      have d1 : ((((Bd.B o).size : Nat) : Int) != 16) = false := by rw [Bd.B_size, h16]; rfl
      have hsz : (Bd.B o).size = 16 := by rw [Bd.B_size, h16]
      replace h16 := Lib.hid h16
      simp only [ugV] at h
      generalize Bd.B o = b at *
      have hszH := Lib.hid hsz
      clear hsz
      go_enter Tryz.func148, Tryz.ntmps148
      go_wp2_with (fail)
      refine h.out.mono ?_
      rintro e w2 ⟨rfl, hb2⟩
      replace hb2 := Lib.hid hb2
      clear h
      go_wp2_with (fail)
      refine (newReader_any b w2).mono ?_
      rintro e w3 ⟨rfl, hc3, hb3⟩
      have hu := Lib.hid (U64_rd (show b.size ≤ maxLen by rw [hszH.out]; decide) hc3)
      have hR := Lib.hid (rawR_left b 0 8)
      generalize rawR b 0 8 = R at *
      generalize beN R.1.data.toList = x at *
      replace hb3 := Lib.hid hb3
      clear hc3
      go_wp2_with (fail)
      refine hu.out.mono ?_
      rintro e w4 ⟨rfl, hc4, hb4⟩
      have hu2 := Lib.hid (U64_rd (show R.2.1.size ≤ maxLen by have := hR.out; rw [hszH.out] at this; exact Nat.le_trans this (by decide)) hc4)
      have hB4 := Lib.hid (hb3.out.trans hb4)
      clear hu hb4 hc4 hb3
      generalize beN (rawR R.2.1 R.2.2 8).1.data.toList = y at *
      go_wp2_with (fail)
      refine hu2.out.mono ?_
      rintro e w5 ⟨rfl, _, hb5⟩
      have hB5 := Lib.hid (hb2.out.trans ((hB4.out.trans hb5).mono hb2.out.size))
      clear hu2 hb5 hB4 hb2
      go_wp2_with (fail)
      go_ret3
      exact ⟨⟨_, _, 0, rfl, by simp⟩, hB5.out⟩
    · rw [decide_eq_false h16] at hT
      subst hT
      have d1 : ((((Bd.B o).size : Nat) : Int) != 16) = true := by rw [Bd.B_size]; simp; omega
      replace h16 := Lib.hid h16
      simp only [ugV] at h
      generalize Bd.B o = b at *
      go_enter Tryz.func148, Tryz.ntmps148
      go_wp2_with (fail)
      refine h.out.mono ?_
      rintro e w2 ⟨rfl, hb2⟩
      go_wp2_with (fail)
      go_ret3
      exact ⟨⟨0, 0, 211, rfl, by simp⟩, hb2⟩
theorem tok_any (l : List UInt8) (hl : l.length ≤ 1000000000) (w : World) :
    Calls Tryz.prog 96 #[.string (Bd.B l)] w fun e w' => e = .returned (.bool (tokB l)) ∧ Below w.heap.size w w' := by
  have h := Lib.hid (parse_any l hl w)
  generalize tokB l = T at *
  generalize Bd.B l = s at *
  go_enter Tryz.func96, Tryz.ntmps96
  go_wp2_with (fail)
  refine h.out.mono ?_
  rintro e w2 ⟨⟨a, b, E, rfl, hE⟩, hb2⟩
  replace hb2 := Lib.hid hb2
  clear h
  cases T with
  | true =>
    obtain rfl := hE.mpr rfl
    clear hE
    go_wp2_with (fail)
    go_ret
    exact ⟨rfl, hb2.out⟩
  | false =>
    have hE0 : (E == 0) = false := by
      have : E ≠ 0 := fun h => by simpa using hE.mp h
      simpa using this
    clear hE
    go_wp2_with (fail)
    go_ret
    exact ⟨rfl, hb2.out⟩
end Go.Proofs.YtmchephokleffaaGreatDoor
