/-
  Chapter 15's references: Decode, Valid, Runes, Name.
-/
import Derived.Test.YtmchephokleffaaGreatDoorYe
import Derived.Test.YtmchephokleffaaGreatDoorYc
import Derived.Lib.TrimUEq
set_option linter.unusedVariables false
set_option linter.unusedSimpArgs false
namespace Go.Proofs.YtmchephokleffaaGreatDoor
open Go.RowKit Go.Proofs.YtmchephokleffaaGreatDoorW.PrintWords Go.Proofs.YtmchephokleffaaGreatDoorW.PrintMore Go.Proofs.YtmchephokleffaaGreatDoor.PRecord
theorem isRune_f (x : Int) : atriumref15_isRune.f x = some (decide (U8.isR x)) := by
  unfold atriumref15_isRune.f
  by_cases h1 : x ≥ 0
  · rw [if_pos h1]
    by_cases h2 : x ≤ 1114111
    · rw [if_pos h2]
      by_cases h3 : x < 55296
      · rw [if_pos h3, decide_eq_true (show U8.isR x from ⟨h1, h2, .inl h3⟩)]
      · rw [if_neg h3]
        by_cases h4 : x > 57343
        · rw [decide_eq_true h4, decide_eq_true (show U8.isR x from ⟨h1, h2, .inr h4⟩)]
        · rw [decide_eq_false h4, decide_eq_false (show ¬ U8.isR x from fun h => h.2.2.elim h3 h4)]
    · rw [if_neg h2, decide_eq_false (show ¬ U8.isR x from fun h => h2 h.2.1)]
  · rw [if_neg h1, decide_eq_false (show ¬ U8.isR x from fun h => h1 h.1)]
theorem str_nat (m : List Nat) (hm : ∀ x ∈ m, x < 256) : strOfNums (m.map (fun (x : Nat) => ((x : Nat) : Int) % 256)) = Bd.B (m.map UInt8.ofNat) := by
  have e2 : m.map (fun (x : Nat) => ((x : Nat) : Int) % 256) = bi (m.map UInt8.ofNat) := by
    unfold bi
    rw [List.map_map]
    exact List.map_congr_left (fun x hx => by simp only [Function.comp]; have := hm x hx; rw [B64.u8_nat _ this]; omega)
  rw [e2, str_bi]
  rfl
theorem wn (a : Nat) (h : a ≤ 100000000) : wrap64 (a : Int) = (a : Int) := IntWalk.wrap64_in _ (by omega)
theorem wadd (a b : Nat) (h : a ≤ 10000000) (h2 : b ≤ 10000000) : wrap64 ((a : Int) + (b : Int)) = ((a + b : Nat) : Int) := by rw [IntWalk.wrap64_in _ (by omega)]; omega
theorem td64 (n : Nat) : Int.tdiv (n : Int) 64 = ((n / 64 : Nat) : Int) := by rw [Int.tdiv_eq_ediv_of_nonneg (by omega)]; omega
theorem td4096 (n : Nat) : Int.tdiv (n : Int) 4096 = ((n / 4096 : Nat) : Int) := by rw [Int.tdiv_eq_ediv_of_nonneg (by omega)]; omega
theorem td262144 (n : Nat) : Int.tdiv (n : Int) 262144 = ((n / 262144 : Nat) : Int) := by rw [Int.tdiv_eq_ediv_of_nonneg (by omega)]; omega
theorem tm64 (n : Nat) : Int.tmod (n : Int) 64 = ((n % 64 : Nat) : Int) := by rw [Int.tmod_eq_emod_of_nonneg (by omega)]; omega
theorem wd (n d : Nat) (h : n ≤ 10000000) : wrap64 ((n / d : Nat) : Int) = ((n / d : Nat) : Int) := wn _ (Nat.le_trans (Nat.div_le_self n d) (Nat.le_trans h (by decide)))
theorem wad (c n : Nat) (hc : c ≤ 1000) (h : n ≤ 10000000) : wrap64 ((c : Int) + (n : Int)) = ((c + n : Nat) : Int) := wadd c n (Nat.le_trans hc (by decide)) h
theorem b64n (n : Nat) : 128 + n % 64 < 256 := by omega
theorem bytes_1 (n : Nat) (h : n < 128) : strOfNums [(n : Int) % 256] = Bd.B ((U8.bytesR n).map UInt8.ofNat) := by
  have h1 : U8.bytesR n = [n] := by unfold U8.bytesR; rw [if_pos h]
  rw [h1]
  exact str_nat [n] (by simp; omega)
theorem bytes_2 (n : Nat) (h : 128 ≤ n) (h2 : n < 2048) : strOfNums [(wrap64 (192 + (wrap64 (Int.tdiv (n : Int) 64)))) % 256, (wrap64 (128 + (Int.tmod (n : Int) 64))) % 256] = Bd.B ((U8.bytesR n).map UInt8.ofNat) := by
  have h1 : U8.bytesR n = [192 + n / 64, 128 + n % 64] := by unfold U8.bytesR; rw [if_neg (by omega), if_pos h2]
  have hm : ∀ x ∈ [192 + n / 64, 128 + n % 64], x < 256 := by simp; omega
  have hn : n ≤ 10000000 := by omega
  have a0 : wrap64 (192 + ((n / 64 : Nat) : Int)) = ((192 + n / 64 : Nat) : Int) := wad 192 (n / 64) (by decide) (Nat.le_trans (Nat.div_le_self n 64) hn)
  have a1 : wrap64 (128 + ((n % 64 : Nat) : Int)) = ((128 + n % 64 : Nat) : Int) := wad 128 (n % 64) (by decide) (Nat.le_trans (Nat.mod_le _ _) hn)
  rw [td64 n, tm64 n, wd n 64 hn, a0, a1, h1]
  exact str_nat [192 + n / 64, 128 + n % 64] hm
theorem bytes_3 (n : Nat) (h : 2048 ≤ n) (h2 : n < 65536) : strOfNums [(wrap64 (224 + (wrap64 (Int.tdiv (n : Int) 4096)))) % 256, (wrap64 (128 + (Int.tmod (wrap64 (Int.tdiv (n : Int) 64)) 64))) % 256, (wrap64 (128 + (Int.tmod (n : Int) 64))) % 256] = Bd.B ((U8.bytesR n).map UInt8.ofNat) := by
  have h1 : U8.bytesR n = [224 + n / 4096, 128 + n / 64 % 64, 128 + n % 64] := by unfold U8.bytesR; rw [if_neg (by omega), if_neg (by omega), if_pos h2]
  have hm : ∀ x ∈ [224 + n / 4096, 128 + n / 64 % 64, 128 + n % 64], x < 256 := by simp; omega
  have hn : n ≤ 10000000 := by omega
  have a0 : wrap64 (224 + ((n / 4096 : Nat) : Int)) = ((224 + n / 4096 : Nat) : Int) := wad 224 (n / 4096) (by decide) (Nat.le_trans (Nat.div_le_self n 4096) hn)
  have a1 : wrap64 (128 + ((n / 64 % 64 : Nat) : Int)) = ((128 + n / 64 % 64 : Nat) : Int) := wad 128 (n / 64 % 64) (by decide) (Nat.le_trans (Nat.mod_le _ _) (Nat.le_trans (Nat.div_le_self n 64) hn))
  have a2 : wrap64 (128 + ((n % 64 : Nat) : Int)) = ((128 + n % 64 : Nat) : Int) := wad 128 (n % 64) (by decide) (Nat.le_trans (Nat.mod_le _ _) hn)
  rw [td4096 n, td64 n, tm64 n, wd n 4096 hn, wd n 64 hn, tm64 (n / 64), a0, a1, a2, h1]
  exact str_nat [224 + n / 4096, 128 + n / 64 % 64, 128 + n % 64] hm
theorem bytes_4 (n : Nat) (h : 65536 ≤ n) (h2 : n ≤ 1114111) : strOfNums [(wrap64 (240 + (wrap64 (Int.tdiv (n : Int) 262144)))) % 256, (wrap64 (128 + (Int.tmod (wrap64 (Int.tdiv (n : Int) 4096)) 64))) % 256, (wrap64 (128 + (Int.tmod (wrap64 (Int.tdiv (n : Int) 64)) 64))) % 256, (wrap64 (128 + (Int.tmod (n : Int) 64))) % 256] = Bd.B ((U8.bytesR n).map UInt8.ofNat) := by
  have h1 : U8.bytesR n = [240 + n / 262144, 128 + n / 4096 % 64, 128 + n / 64 % 64, 128 + n % 64] := by unfold U8.bytesR; rw [if_neg (by omega), if_neg (by omega), if_neg (by omega)]
  have hm : ∀ x ∈ [240 + n / 262144, 128 + n / 4096 % 64, 128 + n / 64 % 64, 128 + n % 64], x < 256 := by simp; omega
  have hn : n ≤ 10000000 := by omega
  have a0 : wrap64 (240 + ((n / 262144 : Nat) : Int)) = ((240 + n / 262144 : Nat) : Int) := wad 240 (n / 262144) (by decide) (Nat.le_trans (Nat.div_le_self n 262144) hn)
  have a1 : wrap64 (128 + ((n / 4096 % 64 : Nat) : Int)) = ((128 + n / 4096 % 64 : Nat) : Int) := wad 128 (n / 4096 % 64) (by decide) (Nat.le_trans (Nat.mod_le _ _) (Nat.le_trans (Nat.div_le_self n 4096) hn))
  have a2 : wrap64 (128 + ((n / 64 % 64 : Nat) : Int)) = ((128 + n / 64 % 64 : Nat) : Int) := wad 128 (n / 64 % 64) (by decide) (Nat.le_trans (Nat.mod_le _ _) (Nat.le_trans (Nat.div_le_self n 64) hn))
  have a3 : wrap64 (128 + ((n % 64 : Nat) : Int)) = ((128 + n % 64 : Nat) : Int) := wad 128 (n % 64) (by decide) (Nat.le_trans (Nat.mod_le _ _) hn)
  rw [td262144 n, td4096 n, td64 n, tm64 n, wd n 262144 hn, wd n 4096 hn, wd n 64 hn, tm64 (n / 4096), tm64 (n / 64), a0, a1, a2, a3, h1]
  exact str_nat [240 + n / 262144, 128 + n / 4096 % 64, 128 + n / 64 % 64, 128 + n % 64] hm
theorem bytes_f (n : Nat) (h : n ≤ 1114111) : atriumref15_bytes.f (n : Int) = some (Bd.B ((U8.bytesR n).map UInt8.ofNat)) := by
  unfold atriumref15_bytes.f
  by_cases c1 : n < 128
  · rw [if_pos (by omega), bytes_1 n c1]
  · rw [if_neg (by omega)]
    by_cases c2 : n < 2048
    · rw [if_pos (by omega), bytes_2 n (by omega) c2]
    · rw [if_neg (by omega)]
      by_cases c3 : n < 65536
      · rw [if_pos (by omega), bytes_3 n (by omega) c3]
      · rw [if_neg (by omega), bytes_4 n (by omega) h]
theorem bytesR_lt (n : Nat) (h : n ≤ 1114111) : ∀ x ∈ U8.bytesR n, x < 256 := by
  unfold U8.bytesR
  repeat' split
  all_goals (simp; omega)
theorem map_u8 (a : List Nat) (b : List UInt8) (h : ∀ x ∈ a, x < 256) : a.map UInt8.ofNat = b ↔ a = b.map UInt8.toNat := by
  constructor
  · rintro rfl
    rw [List.map_map]
    conv => lhs; rw [← List.map_id a]
    exact List.map_congr_left (fun x hx => (B64.u8_nat x (h x hx)).symm)
  · rintro rfl
    rw [List.map_map]
    conv => rhs; rw [← List.map_id b]
    exact List.map_congr_left (fun x hx => by simp)
theorem dj2 (L : List UInt8) (m k : Nat) (x : Int) (hm : m ≤ L.length) (hl : L.length ≤ 1000000000) (hx : -100000000 ≤ x ∧ x ≤ 100000000) :
    atriumref15_Decode.j2 (k + 1) (Bd.B L) (m : Int) x = if U8.isR x ∧ U8.bytesR x.toNat = (L.take m).map UInt8.toNat then some (x, (m : Int)) else atriumref15_Decode.l0 k (Bd.B L) ((m + 1 : Nat) : Int) := by
  have hw : wrap64 ((m : Int) + 1) = ((m + 1 : Nat) : Int) := Bd.w_succ _ (by omega)
  rw [atriumref15_Decode.j2, isRune_f, Option.bind_some]
  by_cases hr : U8.isR x
  · rw [if_pos (decide_eq_true hr)]
    have hr2 := hr
    unfold U8.isR at hr2
    obtain ⟨n, rfl⟩ := Int.eq_ofNat_of_zero_le hr2.1
    have hn : n ≤ 1114111 := by omega
    rw [bytes_f n hn, Option.bind_some, if_pos (by omega), if_pos (by rw [Bd.B_size]; omega), Bd.B_toList, Int.toNat_natCast, Bd.B_take, Bd.B_toList, hw]
    have hb := map_u8 (U8.bytesR n) (L.take m) (bytesR_lt n hn)
    have hw3 : wrap32 (n : Int) = (n : Int) := by unfold wrap32; omega
    by_cases he : (U8.bytesR n).map UInt8.ofNat = L.take m
    · rw [if_pos he, if_pos ⟨hr, by simpa using hb.mp he⟩, hw3]
    · rw [if_neg he, if_neg (fun h => he (hb.mpr (by simpa using h.2)))]
  · rw [if_neg (by simp [hr]), if_neg (fun h => hr h.1), hw]
theorem bt_i (L : List UInt8) (i : Nat) (h : i < L.length) : bt (Bd.B L) (i : Int) = (((L.getD i 0).toNat : Nat) : Int) := by
  have := Bd.bt_mid (L.take i) (L.drop (i + 1)) (L[i]'h)
  rw [List.getElem_cons_drop, List.take_append_drop, List.length_take, Nat.min_eq_left (by omega)] at this
  rw [this, List.getD_eq_getElem?_getD, List.getElem?_eq_getElem h]
  rfl
theorem w64s (x : Int) (h : -100000000 ≤ x ∧ x ≤ 100000000) : wrap64 x = x := IntWalk.wrap64_in _ (by omega)
section
variable (L : List UInt8) (hl : L.length ≤ 1000000000) (k : Nat) (b0 b1 b2 b3 : Nat) (e0 : (L.getD 0 0).toNat = b0) (e1 : (L.getD 1 0).toNat = b1) (e2 : (L.getD 2 0).toNat = b2) (e3 : (L.getD 3 0).toNat = b3)
include hl e0
theorem st1 (h : 1 ≤ L.length) : atriumref15_Decode.l0 (k + 3) (Bd.B L) 1 = if U8.isR (b0 : Int) ∧ U8.bytesR b0 = (L.take 1).map UInt8.toNat then some ((b0 : Int), 1) else atriumref15_Decode.l0 k (Bd.B L) 2 := by
  have hb : b0 < 256 := by rw [← e0]; exact UInt8.toNat_lt _
  rw [atriumref15_Decode.l0, if_pos (by omega), decide_eq_true (show (1 : Int) ≤ ((Bd.B L).size : Int) by rw [Bd.B_size]; omega), atriumref15_Decode.j1, if_pos rfl, if_pos rfl, if_pos (by rw [Bd.B_size]; omega)]
  have hbt := bt_i L 0 (by omega)
  rw [show ((0 : Nat) : Int) = 0 from rfl, e0] at hbt
  rw [hbt, w64s _ (by omega)]
  exact dj2 L 1 k (b0 : Int) h hl (by omega)
include e1
theorem st2 (h : 2 ≤ L.length) : atriumref15_Decode.l0 (k + 3) (Bd.B L) 2 = if U8.isR (((b0 : Int) - 192) * 64 + (b1 : Int) - 128) ∧ U8.bytesR (((b0 : Int) - 192) * 64 + (b1 : Int) - 128).toNat = (L.take 2).map UInt8.toNat then some (((b0 : Int) - 192) * 64 + (b1 : Int) - 128, 2) else atriumref15_Decode.l0 k (Bd.B L) 3 := by
  have hb : b0 < 256 := by rw [← e0]; exact UInt8.toNat_lt _
  have hb1 : b1 < 256 := by rw [← e1]; exact UInt8.toNat_lt _
  rw [atriumref15_Decode.l0, if_pos (by omega), decide_eq_true (show (2 : Int) ≤ ((Bd.B L).size : Int) by rw [Bd.B_size]; omega), atriumref15_Decode.j1, if_pos rfl, if_neg (by omega), if_pos rfl, if_pos (by rw [Bd.B_size]; omega), if_pos (by rw [Bd.B_size]; omega)]
  have hbt := bt_i L 0 (by omega)
  rw [show ((0 : Nat) : Int) = 0 from rfl, e0] at hbt
  have hbt1 := bt_i L 1 (by omega)
  rw [show ((1 : Nat) : Int) = 1 from rfl, e1] at hbt1
  rw [hbt, hbt1, w64s (b0 : Int) (by omega), w64s (b1 : Int) (by omega), w64s ((b0 : Int) - 192) (by omega), w64s (((b0 : Int) - 192) * 64) (by omega), w64s (((b0 : Int) - 192) * 64 + (b1 : Int)) (by omega), w64s (((b0 : Int) - 192) * 64 + (b1 : Int) - 128) (by omega)]
  exact dj2 L 2 k _ h hl (by omega)
include e2
theorem st3 (h : 3 ≤ L.length) : atriumref15_Decode.l0 (k + 3) (Bd.B L) 3 = if U8.isR (((b0 : Int) - 224) * 4096 + ((b1 : Int) - 128) * 64 + (b2 : Int) - 128) ∧ U8.bytesR (((b0 : Int) - 224) * 4096 + ((b1 : Int) - 128) * 64 + (b2 : Int) - 128).toNat = (L.take 3).map UInt8.toNat then some (((b0 : Int) - 224) * 4096 + ((b1 : Int) - 128) * 64 + (b2 : Int) - 128, 3) else atriumref15_Decode.l0 k (Bd.B L) 4 := by
  have hb : b0 < 256 := by rw [← e0]; exact UInt8.toNat_lt _
  have hb1 : b1 < 256 := by rw [← e1]; exact UInt8.toNat_lt _
  have hb2 : b2 < 256 := by rw [← e2]; exact UInt8.toNat_lt _
  rw [atriumref15_Decode.l0, if_pos (by omega), decide_eq_true (show (3 : Int) ≤ ((Bd.B L).size : Int) by rw [Bd.B_size]; omega), atriumref15_Decode.j1, if_pos rfl, if_neg (by omega), if_neg (by omega), if_pos rfl, if_pos (by rw [Bd.B_size]; omega), if_pos (by rw [Bd.B_size]; omega), if_pos (by rw [Bd.B_size]; omega)]
  have hbt := bt_i L 0 (by omega)
  rw [show ((0 : Nat) : Int) = 0 from rfl, e0] at hbt
  have hbt1 := bt_i L 1 (by omega)
  rw [show ((1 : Nat) : Int) = 1 from rfl, e1] at hbt1
  have hbt2 := bt_i L 2 (by omega)
  rw [show ((2 : Nat) : Int) = 2 from rfl, e2] at hbt2
  rw [hbt, hbt1, hbt2, w64s (b0 : Int) (by omega), w64s (b1 : Int) (by omega), w64s (b2 : Int) (by omega), w64s ((b0 : Int) - 224) (by omega), w64s (((b0 : Int) - 224) * 4096) (by omega), w64s ((b1 : Int) - 128) (by omega), w64s (((b1 : Int) - 128) * 64) (by omega), w64s (((b0 : Int) - 224) * 4096 + ((b1 : Int) - 128) * 64) (by omega), w64s (((b0 : Int) - 224) * 4096 + ((b1 : Int) - 128) * 64 + (b2 : Int)) (by omega), w64s (((b0 : Int) - 224) * 4096 + ((b1 : Int) - 128) * 64 + (b2 : Int) - 128) (by omega)]
  exact dj2 L 3 k _ h hl (by omega)
include e3
theorem st4 (h : 4 ≤ L.length) : atriumref15_Decode.l0 (k + 3) (Bd.B L) 4 = if U8.isR (((b0 : Int) - 240) * 262144 + ((b1 : Int) - 128) * 4096 + ((b2 : Int) - 128) * 64 + (b3 : Int) - 128) ∧ U8.bytesR (((b0 : Int) - 240) * 262144 + ((b1 : Int) - 128) * 4096 + ((b2 : Int) - 128) * 64 + (b3 : Int) - 128).toNat = (L.take 4).map UInt8.toNat then some (((b0 : Int) - 240) * 262144 + ((b1 : Int) - 128) * 4096 + ((b2 : Int) - 128) * 64 + (b3 : Int) - 128, 4) else atriumref15_Decode.l0 k (Bd.B L) 5 := by
  have hb : b0 < 256 := by rw [← e0]; exact UInt8.toNat_lt _
  have hb1 : b1 < 256 := by rw [← e1]; exact UInt8.toNat_lt _
  have hb2 : b2 < 256 := by rw [← e2]; exact UInt8.toNat_lt _
  have hb3 : b3 < 256 := by rw [← e3]; exact UInt8.toNat_lt _
  rw [atriumref15_Decode.l0, if_pos (by omega), decide_eq_true (show (4 : Int) ≤ ((Bd.B L).size : Int) by rw [Bd.B_size]; omega), atriumref15_Decode.j1, if_pos rfl, if_neg (by omega), if_neg (by omega), if_neg (by omega), if_pos rfl, if_pos (by rw [Bd.B_size]; omega), if_pos (by rw [Bd.B_size]; omega), if_pos (by rw [Bd.B_size]; omega), if_pos (by rw [Bd.B_size]; omega)]
  have hbt := bt_i L 0 (by omega)
  rw [show ((0 : Nat) : Int) = 0 from rfl, e0] at hbt
  have hbt1 := bt_i L 1 (by omega)
  rw [show ((1 : Nat) : Int) = 1 from rfl, e1] at hbt1
  have hbt2 := bt_i L 2 (by omega)
  rw [show ((2 : Nat) : Int) = 2 from rfl, e2] at hbt2
  have hbt3 := bt_i L 3 (by omega)
  rw [show ((3 : Nat) : Int) = 3 from rfl, e3] at hbt3
  rw [hbt, hbt1, hbt2, hbt3, w64s (b0 : Int) (by omega), w64s (b1 : Int) (by omega), w64s (b2 : Int) (by omega), w64s (b3 : Int) (by omega), w64s ((b0 : Int) - 240) (by omega), w64s (((b0 : Int) - 240) * 262144) (by omega), w64s ((b1 : Int) - 128) (by omega), w64s (((b1 : Int) - 128) * 4096) (by omega), w64s (((b0 : Int) - 240) * 262144 + ((b1 : Int) - 128) * 4096) (by omega), w64s ((b2 : Int) - 128) (by omega), w64s (((b2 : Int) - 128) * 64) (by omega), w64s (((b0 : Int) - 240) * 262144 + ((b1 : Int) - 128) * 4096 + ((b2 : Int) - 128) * 64) (by omega), w64s (((b0 : Int) - 240) * 262144 + ((b1 : Int) - 128) * 4096 + ((b2 : Int) - 128) * 64 + (b3 : Int)) (by omega), w64s (((b0 : Int) - 240) * 262144 + ((b1 : Int) - 128) * 4096 + ((b2 : Int) - 128) * 64 + (b3 : Int) - 128) (by omega)]
  exact dj2 L 4 k _ h hl (by omega)
end
theorem st_no (L : List UInt8) (k m : Nat) (h : L.length < m ∨ 4 < m) : atriumref15_Decode.l0 (k + 2) (Bd.B L) (m : Int) = some (65533, 1) := by
  rw [atriumref15_Decode.l0]
  by_cases h4 : (m : Int) ≤ 4
  · rw [if_pos h4, decide_eq_false (show ¬ (m : Int) ≤ ((Bd.B L).size : Int) by rw [Bd.B_size]; omega), atriumref15_Decode.j1, if_neg (by simp)]
  · rw [if_neg h4, atriumref15_Decode.j1, if_neg (by simp)]
theorem rdec_f (L : List UInt8) (hl : L.length ≤ 1000000000) (h0 : L ≠ []) (k : Nat) (hk : 20 ≤ k) : atriumref15_Decode.f k (Bd.B L) = some (((Utf8.decode (Bd.B L) 0).1 : Int), ((Utf8.decode (Bd.B L) 0).2 : Int)) := by
  have hlen : 1 ≤ L.length := by
    cases L with
    | nil => exact absurd rfl h0
    | cons a r => simp
  have hD : Utf8.decode (Bd.B L) 0 = U8.rdN L.length (L.getD 0 0).toNat (L.getD 1 0).toNat (L.getD 2 0).toNat (L.getD 3 0).toNat := by
    rw [Lib.decode_N, U8.rdN_is _ _ _ _ _ (UInt8.toNat_lt _) (UInt8.toNat_lt _) (UInt8.toNat_lt _) (UInt8.toNat_lt _), Bd.B_data]
    rfl
  rw [hD]
  obtain ⟨b0, e0⟩ : ∃ b, (L.getD 0 0).toNat = b := ⟨_, rfl⟩
  obtain ⟨b1, e1⟩ : ∃ b, (L.getD 1 0).toNat = b := ⟨_, rfl⟩
  obtain ⟨b2, e2⟩ : ∃ b, (L.getD 2 0).toNat = b := ⟨_, rfl⟩
  obtain ⟨b3, e3⟩ : ∃ b, (L.getD 3 0).toNat = b := ⟨_, rfl⟩
  have s1 := st1 L hl 11 b0 e0
  have s2 := st2 L hl 8 b0 b1 e0 e1
  have s3 := st3 L hl 5 b0 b1 b2 e0 e1 e2
  have s4 := st4 L hl 2 b0 b1 b2 b3 e0 e1 e2 e3
  rw [e0, e1, e2, e3]
  have tk : ∀ m, m ≤ L.length → ∀ a : List Nat, a = (List.range m).map (fun i => (L.getD i 0).toNat) → (L.take m).map UInt8.toNat = a := fun m hm a ha => by
    rw [ha]
    apply List.ext_getElem
    · simp; omega
    · intro i h1 h2
      simp only [List.length_map, List.length_range] at h2
      simp only [List.getElem_map, List.getElem_take, List.getElem_range]
      rw [List.getD_eq_getElem?_getD, List.getElem?_eq_getElem (by omega)]
      rfl
  have key : atriumref15_Decode.l0 14 (Bd.B L) 1 = some (((U8.rdN L.length b0 b1 b2 b3).1 : Int), ((U8.rdN L.length b0 b1 b2 b3).2 : Int)) := by
    unfold U8.rdN
    rw [show (14 : Nat) = 11 + 3 from rfl, s1 hlen, tk 1 hlen [b0] (by rw [← e0]; rfl)]
    by_cases c1 : U8.isR (b0 : Int) ∧ U8.bytesR b0 = [b0]
    · rw [if_pos c1, if_pos c1]
      rfl
    · rw [if_neg c1, if_neg c1]
      by_cases l2 : 2 ≤ L.length
      · rw [show (11 : Nat) = 8 + 3 from rfl, s2 l2, tk 2 l2 [b0, b1] (by rw [← e0, ← e1]; rfl)]
        by_cases c2 : U8.isR (((b0 : Int) - 192) * 64 + (b1 : Int) - 128) ∧ U8.bytesR (((b0 : Int) - 192) * 64 + (b1 : Int) - 128).toNat = [b0, b1]
        · rw [if_pos c2, if_pos ⟨l2, c2⟩]
          have h := c2.1.1
          simp only [Int.toNat_of_nonneg h]
          rfl
        · rw [if_neg c2, if_neg (fun h => c2 h.2)]
          by_cases l3 : 3 ≤ L.length
          · rw [show (8 : Nat) = 5 + 3 from rfl, s3 l3, tk 3 l3 [b0, b1, b2] (by rw [← e0, ← e1, ← e2]; rfl)]
            by_cases c3 : U8.isR (((b0 : Int) - 224) * 4096 + ((b1 : Int) - 128) * 64 + (b2 : Int) - 128) ∧ U8.bytesR (((b0 : Int) - 224) * 4096 + ((b1 : Int) - 128) * 64 + (b2 : Int) - 128).toNat = [b0, b1, b2]
            · rw [if_pos c3, if_pos ⟨l3, c3⟩]
              have h := c3.1.1
              simp only [Int.toNat_of_nonneg h]
              rfl
            · rw [if_neg c3, if_neg (fun h => c3 h.2)]
              by_cases l4 : 4 ≤ L.length
              · rw [show (5 : Nat) = 2 + 3 from rfl, s4 l4, tk 4 l4 [b0, b1, b2, b3] (by rw [← e0, ← e1, ← e2, ← e3]; rfl)]
                by_cases c4 : U8.isR (((b0 : Int) - 240) * 262144 + ((b1 : Int) - 128) * 4096 + ((b2 : Int) - 128) * 64 + (b3 : Int) - 128) ∧ U8.bytesR (((b0 : Int) - 240) * 262144 + ((b1 : Int) - 128) * 4096 + ((b2 : Int) - 128) * 64 + (b3 : Int) - 128).toNat = [b0, b1, b2, b3]
                · rw [if_pos c4, if_pos ⟨l4, c4⟩]
                  have h := c4.1.1
                  simp only [Int.toNat_of_nonneg h]
                  rfl
                · rw [if_neg c4, if_neg (fun h => c4 h.2)]
                  exact st_no L 0 5 (by omega)
              · rw [if_neg (fun h => l4 h.1)]
                exact st_no L 3 4 (by omega)
          · rw [if_neg (fun h => l3 h.1), if_neg (fun h => l3 (by omega))]
            exact st_no L 6 3 (by omega)
      · rw [if_neg (fun h => l2 h.1), if_neg (fun h => l2 (by omega)), if_neg (fun h => l2 (by omega))]
        exact st_no L 9 2 (by omega)
  unfold atriumref15_Decode.f
  rw [if_neg (by rw [Bd.B_toList]; exact h0)]
  exact leo_up (f := fun k => atriumref15_Decode.l0 k (Bd.B L) 1) (fun k => (atriumref15_Decode.mono_l k).1 (Bd.B L) 1) key (by omega)
theorem vaF_tail : ∀ (f : Nat) (s : ByteArray) (p q : Nat), vaF f (s.extract p s.size) q = vaF f s (p + q)
  | 0, s, p, q => rfl
  | f + 1, s, p, q => by
    have hz : (s.extract p s.size).size = s.size - p := by rw [ByteArray.size_extract]; omega
    rw [vaF, vaF, Lib.tail_decode, hz]
    by_cases h : q < s.size - p
    · rw [if_pos h, if_pos (show p + q < s.size by omega), vaF_tail f s p _, Nat.add_assoc]
    · rw [if_neg h, if_neg (show ¬ p + q < s.size by omega)]
theorem rval_l0 : ∀ (f : Nat) (L : List UInt8), L.length ≤ f → L.length ≤ 1000000000 → atriumref15_Valid.l0 (f + 22) (Bd.B L) = some (vaF f (Bd.B L) 0)
  | f, [], _, _ => by
    rw [show f + 22 = (f + 21) + 1 from rfl, atriumref15_Valid.l0, if_pos (by rw [Bd.B_toList]), vaF_end _ _ _ (by rw [Bd.B_size]; simp)]
  | 0, a :: r, h, _ => by simp at h
  | f + 1, a :: r, h, hl => by
    have hp : 0 < (Bd.B (a :: r)).size := by rw [Bd.B_size]; simp
    have hd := rdec_f (a :: r) hl (by simp) (f + 22) (by omega)
    have hfit := dec_fit (Bd.B (a :: r)) 0 hp
    have hw := Lib.width_pos (Bd.B (a :: r)) 0
    have hs := Bd.B_size (a :: r)
    have htl := fun n => vaF_tail f (Bd.B (a :: r)) n 0
    have hdr := fun n => Bd.B_drop (a :: r) n
    have ih := fun n (hn : 1 ≤ n) => rval_l0 f ((a :: r).drop n) (by simp at h ⊢; omega) (by simp at hl ⊢; omega)
    rw [show f + 1 + 22 = (f + 22) + 1 from rfl, atriumref15_Valid.l0, if_neg (by rw [Bd.B_toList]; simp), hd, Option.bind_some, vaF, if_pos hp]
    generalize Utf8.decode (Bd.B (a :: r)) 0 = D at *
    obtain ⟨R, n⟩ := D
    simp only at hfit hw ⊢
    have hgo : atriumref15_Valid.l0 (f + 22) ((Bd.B (a :: r)).extract n (Bd.B (a :: r)).size) = some (vaF f (Bd.B (a :: r)) (0 + n)) := by
      rw [hdr n, ih n hw, ← hdr n, htl n, Nat.add_comm]
    by_cases h1 : R = 65533
    · rw [if_pos (by omega)]
      by_cases h2 : n = 1
      · rw [if_pos (by omega), if_pos ⟨h1, h2⟩]
      · rw [if_neg (by omega), if_pos (by omega), if_pos (by omega), if_neg (fun h => h2 h.2), Int.toNat_natCast]
        exact hgo
    · rw [if_neg (by omega), if_pos (by omega), if_pos (by omega), if_neg (fun h => h1 h.1), Int.toNat_natCast]
      exact hgo
theorem rval_f (s : ByteArray) (hs : s.size ≤ 1000000000) (k : Nat) (hk : s.size + 22 ≤ k) : atriumref15_Valid.f k s = some (vaB s) := by
  have h := rval_l0 s.size s.data.toList (by rw [Bd.len_data']; exact Nat.le_refl _) (by rw [Bd.len_data']; exact hs)
  rw [Bd.of_data] at h
  exact leo_up (f := fun k => atriumref15_Valid.l0 k s) (fun k => atriumref15_Valid.mono_l k s) h hk
/-- A text's runes. -/
def ruF : Nat → ByteArray → Nat → List Nat
  | 0, s, pos => []
  | f + 1, s, pos => if pos < s.size then (Utf8.decode s pos).1 :: ruF f s (pos + (Utf8.decode s pos).2) else []
theorem ruF_end (f : Nat) (s : ByteArray) (pos : Nat) (h : ¬ pos < s.size) : ruF f s pos = [] := by cases f <;> simp [ruF, h]
theorem ruF_len : ∀ (f : Nat) (s : ByteArray) (pos : Nat), (ruF f s pos).length ≤ f
  | 0, s, pos => by simp [ruF]
  | f + 1, s, pos => by
    rw [ruF]
    split
    · have := ruF_len f s (pos + (Utf8.decode s pos).2)
      simp
      omega
    · simp
theorem ruF_tail : ∀ (f : Nat) (s : ByteArray) (p q : Nat), ruF f (s.extract p s.size) q = ruF f s (p + q)
  | 0, s, p, q => rfl
  | f + 1, s, p, q => by
    have hz : (s.extract p s.size).size = s.size - p := by rw [ByteArray.size_extract]; omega
    rw [ruF, ruF, Lib.tail_decode, hz]
    by_cases h : q < s.size - p
    · rw [if_pos h, if_pos (by omega), ruF_tail f s p _, Nat.add_assoc]
    · rw [if_neg h, if_neg (show ¬ p + q < s.size by omega)]
def nI (l : List Nat) : List Int := l.map (fun (x : Nat) => (x : Int))
theorem rrun_l0 : ∀ (f : Nat) (L : List UInt8) (acc : List Int), L.length ≤ f → acc.length + L.length ≤ 1000000000 → atriumref15_Runes.l0 (f + 22) (Bd.B L) acc = some (acc ++ nI (ruF f (Bd.B L) 0))
  | f, [], acc, _, _ => by
    rw [show f + 22 = (f + 21) + 1 from rfl, atriumref15_Runes.l0, if_pos (by rw [Bd.B_toList]), ruF_end _ _ _ (by rw [Bd.B_size]; simp)]
    simp [nI]
  | 0, a :: r, acc, h, _ => by simp at h
  | f + 1, a :: r, acc, h, hl => by
    have hp : 0 < (Bd.B (a :: r)).size := by rw [Bd.B_size]; simp
    have hd := rdec_f (a :: r) (by omega) (by simp) (f + 22) (by omega)
    have hfit := dec_fit (Bd.B (a :: r)) 0 hp
    have hw := Lib.width_pos (Bd.B (a :: r)) 0
    have hs := Bd.B_size (a :: r)
    have htl := fun n => ruF_tail f (Bd.B (a :: r)) n 0
    have hdr := fun n => Bd.B_drop (a :: r) n
    have ih := fun n (hn : 1 ≤ n) (x : Int) => rrun_l0 f ((a :: r).drop n) (acc ++ [x]) (by simp at h ⊢; omega) (by simp at hl ⊢; omega)
    rw [show f + 1 + 22 = (f + 22) + 1 from rfl, atriumref15_Runes.l0, if_neg (by rw [Bd.B_toList]; simp), hd, Option.bind_some, ruF, if_pos hp]
    generalize Utf8.decode (Bd.B (a :: r)) 0 = D at *
    obtain ⟨R, n⟩ := D
    simp only at hfit hw ⊢
    rw [if_pos (by omega), if_pos (by omega), if_pos (by omega), Int.toNat_natCast, hdr n, ih n hw, ← hdr n, htl n, Nat.add_comm 0 n]
    simp [nI]
theorem rrun_f (s : ByteArray) (hs : s.size ≤ 1000000000) (k : Nat) (hk : s.size + 22 ≤ k) : atriumref15_Runes.f k s = some (nI (ruF s.size s 0)) := by
  have h := rrun_l0 s.size s.data.toList [] (by rw [Bd.len_data']; exact Nat.le_refl _) (by rw [Bd.len_data']; simpa using hs)
  rw [Bd.of_data, List.nil_append] at h
  exact leo_up (f := fun k => atriumref15_Runes.l0 k s []) (fun k => atriumref15_Runes.mono_l k s []) h hk
/-- May a rune not stand in a name? -/
def hidR (r : Nat) : Bool := decide (r < 32) || (decide (127 ≤ r) && decide (r ≤ 159)) || decide (r = 8232) || decide (r = 8233) || decide (r = 65279)
theorem hid_f (r : Nat) : text_hidden.f (r : Int) = some (hidR r) := by
  unfold text_hidden.f hidR
  by_cases h1 : r < 32
  · rw [if_pos (by omega), decide_eq_true h1]; rfl
  · rw [if_neg (by omega), decide_eq_false h1]
    by_cases h2 : 127 ≤ r
    · rw [if_pos (by omega), decide_eq_true h2]
      by_cases h3 : r ≤ 159
      · rw [if_pos (by omega), decide_eq_true h3]; rfl
      · rw [if_neg (by omega), decide_eq_false h3]
        by_cases h4 : r = 8232
        · rw [if_pos (by omega), decide_eq_true h4]; rfl
        · rw [if_neg (by omega), decide_eq_false h4]
          by_cases h5 : r = 8233
          · rw [if_pos (by omega), decide_eq_true h5]; rfl
          · rw [if_neg (by omega), decide_eq_false h5]
            by_cases h6 : r = 65279
            · subst h6; rfl
            · rw [decide_eq_false h6, show ((r : Int) == 65279) = false by simp; omega]; rfl
    · rw [if_neg (by omega), decide_eq_false h2]
      by_cases h4 : r = 8232
      · rw [if_pos (by omega), decide_eq_true h4]; rfl
      · rw [if_neg (by omega), decide_eq_false h4]
        by_cases h5 : r = 8233
        · rw [if_pos (by omega), decide_eq_true h5]; rfl
        · rw [if_neg (by omega), decide_eq_false h5]
          by_cases h6 : r = 65279
          · subst h6; rfl
          · rw [decide_eq_false h6, show ((r : Int) == 65279) = false by simp; omega]; rfl
end Go.Proofs.YtmchephokleffaaGreatDoor
