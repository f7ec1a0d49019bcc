/-
  Base64: what the reference's printed functions say.
-/
import Derived.Test.YtmchephokleffaaGreatDoorYa
import Derived.Test.YtmchephokleffaaGreatDoorQ5
import Derived.Test.YtmchephokleffaaGreatDoorVq
set_option linter.unusedVariables false
set_option linter.unusedSimpArgs false
namespace Go.Proofs.YtmchephokleffaaGreatDoor
open Go.RowKit Go.Proofs.YtmchephokleffaaGreatDoorW.PrintWords Go.Proofs.YtmchephokleffaaGreatDoorW.PrintMore Go.Proofs.YtmchephokleffaaGreatDoor.PRecord
theorem leo_up {α : Type} {f : Nat → Option α} (hm : ∀ k, LeO (f k) (f (k + 1))) {k d : Nat} {r : α} (h : f k = some r) (hk : k ≤ d) : f d = some r := by
  obtain ⟨m, rfl⟩ : ∃ m, d = k + m := ⟨d - k, by omega⟩
  clear hk
  induction m with
  | zero => exact h
  | succ m ih => exact hm (k + m) r ih
theorem ofInt_i64 (a : Nat) (ha : a < 9223372036854775808) : (BitVec.ofInt 64 (a : Int)).toNat = a := by
  rw [BitVec.ofInt_natCast, BitVec.toNat_ofNat]; exact Nat.mod_eq_of_lt (by omega)
theorem i64_and_nat (a b : Nat) (ha : a < 9223372036854775808) (hb : b < 9223372036854775808) : Go.bits .and .i64 (a : Int) (b : Int) = ((a &&& b : Nat) : Int) := by
  have hx : a &&& b < 2 ^ 63 := Nat.and_lt_two_pow _ (by omega)
  show IntKind.i64.wrap ((BitVec.ofInt 64 (a : Int) &&& BitVec.ofInt 64 (b : Int)).toNat : Int) = _
  rw [BitVec.toNat_and, ofInt_i64 a ha, ofInt_i64 b hb, IntKind.wrap_i64]
  omega
theorem i64_or_nat (a b : Nat) (ha : a < 9223372036854775808) (hb : b < 9223372036854775808) : Go.bits .or .i64 (a : Int) (b : Int) = ((a ||| b : Nat) : Int) := by
  have hx : a ||| b < 2 ^ 63 := Nat.or_lt_two_pow (by omega) (by omega)
  show IntKind.i64.wrap ((BitVec.ofInt 64 (a : Int) ||| BitVec.ofInt 64 (b : Int)).toNat : Int) = _
  rw [BitVec.toNat_or, ofInt_i64 a ha, ofInt_i64 b hb, IntKind.wrap_i64]
  omega
theorem i64_shr (v k : Nat) (hk : k ≤ 60) : shr .i64 (v : Int) (k : Int) = ((v / 2 ^ k : Nat) : Int) := by
  unfold shr
  rw [Int.toNat_natCast, Nat.min_eq_left (by show k ≤ 64; omega)]
  simp
theorem pow_le20 {k : Nat} (hk : k ≤ 20) : 2 ^ k ≤ 1048576 := Nat.le_trans (Nat.pow_le_pow_right (by omega) hk) (by decide)
theorem i64_shl (v k : Nat) (hk : k ≤ 20) (hv : v < 1048576) : shl .i64 (v : Int) (k : Int) = ((v * 2 ^ k : Nat) : Int) := by
  have h1 := pow_le20 hk
  have h2 : v * 2 ^ k ≤ 1048576 * 1048576 := Nat.mul_le_mul (by omega) h1
  unfold shl
  rw [Int.toNat_natCast, Nat.min_eq_left (by show k ≤ 64; omega), show ((v : Int) * 2 ^ k) = ((v * 2 ^ k : Nat) : Int) from by simp]
  exact IntWalk.i64_in _ (by omega)
theorem i64_mask (v k : Nat) (hk : k ≤ 20) (hv : v < 1099511627776) : Go.bits .and .i64 (v : Int) (wrap64 ((shl .i64 1 (k : Int)) - 1)) = ((v % 2 ^ k : Nat) : Int) := by
  have h1 := pow_le20 hk
  have h0 : 1 ≤ 2 ^ k := Nat.pow_pos (by omega)
  have e := i64_shl 1 k hk (by omega)
  rw [show ((1 : Nat) : Int) = (1 : Int) from rfl, Nat.one_mul] at e
  rw [e, IntWalk.wrap64_in _ (by omega), show (((2 ^ k : Nat) : Int) - 1) = ((2 ^ k - 1 : Nat) : Int) from by omega, i64_and_nat _ _ (by omega) (by omega), Nat.and_two_pow_sub_one_eq_mod]
/-- The alphabet, as the programs hold it. -/
def ALs : ByteArray := ⟨#[65, 66, 67, 68, 69, 70, 71, 72, 73, 74, 75, 76, 77, 78, 79, 80, 81, 82, 83, 84, 85, 86, 87, 88, 89, 90, 97, 98, 99, 100, 101, 102, 103, 104, 105, 106, 107, 108, 109, 110, 111, 112, 113, 114, 115, 116, 117, 118, 119, 120, 121, 122, 48, 49, 50, 51, 52, 53, 54, 55, 56, 57, 45, 95]⟩
theorem ALs_is : ALs = Bd.B B64.AL := rfl
theorem find_l0 : ∀ (R P : List UInt8) (c : UInt8), (P ++ R).length ≤ 1000 → atriumref04_find.l0 (R.length + 1) (Bd.B (P ++ R)) (c.toNat : Int) (P.length : Nat) = some (if R.idxOf c < R.length then ((P.length + R.idxOf c : Nat) : Int) else -1)
  | [], P, c, h => by
    rw [show ([] : List UInt8).length + 1 = 0 + 1 from rfl, atriumref04_find.l0, if_neg (by rw [Bd.B_size]; simp)]
    simp
  | d :: R, P, c, h => by
    have hl : (P ++ d :: R).length = P.length + 1 + R.length := by simp; omega
    have ih := find_l0 R (P ++ [d]) c (by simpa using h)
    simp only [List.append_assoc, List.singleton_append, List.length_append, List.length_cons, List.length_nil] at ih
    rw [List.length_cons, atriumref04_find.l0, if_pos (by rw [Bd.B_size]; omega), if_pos (by omega), Bd.bt_mid]
    by_cases hd : d = c
    · subst hd
      rw [if_pos rfl, List.idxOf_cons_self, if_pos (by omega)]
      rfl
    · have hn : ¬ ((d.toNat : Int) = (c.toNat : Int)) := fun e => hd (UInt8.toNat_inj.mp (by omega))
      have hi : (d :: R).idxOf c = R.idxOf c + 1 := by
        rw [List.idxOf_cons, show (d == c) = false from by simpa using hd]
        rfl
      rw [if_neg hn, Bd.w_succ _ (by omega), hi]
      have e0 : P.length + (0 + 1) = P.length + 1 := by omega
      rw [e0] at ih
      rw [ih]
      by_cases hlt : R.idxOf c < R.length
      · rw [if_pos hlt, if_pos (by omega)]
        congr 2
        omega
      · rw [if_neg hlt, if_neg (by omega)]
theorem find_f (c : UInt8) (k : Nat) (hk : 65 ≤ k) : atriumref04_find.f k ALs (c.toNat : Int) = some (if B64.lix c < 64 then ((B64.lix c : Nat) : Int) else -1) := by
  have h := find_l0 B64.AL [] c (by decide)
  rw [List.nil_append, ← ALs_is] at h
  have h2 : atriumref04_find.f 65 ALs (c.toNat : Int) = some (if B64.lix c < 64 then ((B64.lix c : Nat) : Int) else -1) := by
    refine h.trans ?_
    show some (if B64.lix c < 64 then ((0 + B64.lix c : Nat) : Int) else -1) = _
    rw [Nat.zero_add]
  exact leo_up (f := fun k => atriumref04_find.f k ALs (c.toNat : Int)) (fun k => atriumref04_find.mono _ _ k) h2 hk
theorem bt_al (d : Nat) (hd : d < 64) : bt ALs (d : Int) = ((B64.alc d).toNat : Int) := by
  have hlt : d < B64.AL.length := hd
  have := Bd.bt_mid (B64.AL.take d) (B64.AL.drop (d + 1)) (B64.AL[d]'hlt)
  rw [List.getElem_cons_drop, List.take_append_drop, List.length_take, Nat.min_eq_left (by omega), ← ALs_is] at this
  rw [this]
  unfold B64.alc
  rw [List.getD_eq_getElem?_getD, List.getElem?_eq_getElem hlt]
  rfl
def dl (ds : List Nat) : List Int := bi (ds.map B64.alc)
theorem dl_snoc (ds : List Nat) (d : Nat) : dl (ds ++ [d]) = dl ds ++ [((B64.alc d).toNat : Int)] := by simp [dl, bi]
theorem dl_len (ds : List Nat) : (dl ds).length = ds.length := by simp [dl, bi]
theorem str_dl (ds : List Nat) : strOfNums (dl ds) = Bd.B (ds.map B64.alc) := by unfold dl; rw [str_bi]; rfl
theorem b64_up {s : ByteArray} {x3 : List Int} {x4 x5 x6 : Int} {k d : Nat} {r : ByteArray} (h : atriumref04_Base64.l0 k s x3 x4 x5 x6 = some r) (hk : k ≤ d) : atriumref04_Base64.l0 d s x3 x4 x5 x6 = some r :=
  leo_up (f := fun k => atriumref04_Base64.l0 k s x3 x4 x5 x6) (fun k => (atriumref04_Base64.mono_l k).1 s x3 x4 x5 x6) h hk
/-- A letter given out. -/
theorem b64_emit (k : Nat) (s : ByteArray) (ds : List Nat) (v n : Nat) (x6 : Int) (hn : n ≤ 6) (hv : v < 64 * 2 ^ n) (hl : ds.length ≤ 100000000000) :
    atriumref04_Base64.l1 (k + 1) s (dl ds) (v : Int) ((n + 6 : Nat) : Int) x6 = atriumref04_Base64.l1 k s (dl (ds ++ [v / 2 ^ n])) ((v % 2 ^ n : Nat) : Int) (n : Int) x6 := by
  have h1 := pow_le20 (show n ≤ 20 by omega)
  have hp : 0 < 2 ^ n := Nat.pow_pos (by omega)
  have hd : v / 2 ^ n < 64 := by rw [Nat.div_lt_iff_lt_mul hp]; exact hv
  have hv2 : v < 1099511627776 := by
    have : 64 * 2 ^ n ≤ 64 * 1048576 := Nat.mul_le_mul_left _ h1
    omega
  have e1 : wrap64 (((n + 6 : Nat) : Int) - 6) = (n : Int) := by rw [IntWalk.wrap64_in _ (by omega)]; omega
  have e2 := i64_shr v n (by omega)
  have e3 := i64_mask v n (by omega) hv2
  generalize v / 2 ^ n = q at *
  generalize v % 2 ^ n = m at *
  rw [atriumref04_Base64.l1, if_pos (by omega), e1, if_pos (by omega), e2, if_pos (by omega), if_pos (by omega), if_pos (by rw [dl_len]; omega), e3, dl_snoc]
  show atriumref04_Base64.l1 k s (dl ds ++ [bt ALs (q : Int)]) _ _ _ = _
  rw [bt_al _ hd]
theorem b64_done (k : Nat) (s : ByteArray) (ds : List Nat) (v n p : Nat) (hn : n < 6) (hp : p + 1 < 9223372036854775808) :
    atriumref04_Base64.l1 (k + 1) s (dl ds) (v : Int) (n : Int) (p : Int) = atriumref04_Base64.l0 k s (dl ds) (v : Int) (n : Int) ((p + 1 : Nat) : Int) := by
  rw [atriumref04_Base64.l1, if_neg (by omega), Bd.w_succ _ hp]
theorem b64_l0 : ∀ (R P : List UInt8) (v n : Nat) (ds : List Nat), (n = 0 ∨ n = 2 ∨ n = 4) → v < 2 ^ n → ds.length ≤ 2 * P.length → (P ++ R).length ≤ 1000000000 →
    atriumref04_Base64.l0 (5 * R.length + 1) (Bd.B (P ++ R)) (dl ds) (v : Int) (n : Int) (P.length : Nat) = some (Bd.B ((B64.fin (R.foldl B64.est (v, n, ds))).map B64.alc))
  | [], P, v, n, ds, hn, hv, hl, hs => by
    have hlp : P.length ≤ 1000000000 := by simpa using hs
    rw [show 5 * ([] : List UInt8).length + 1 = 0 + 1 from rfl, atriumref04_Base64.l0, if_neg (by rw [Bd.B_size]; simp)]
    rw [List.foldl_nil, show B64.fin (v, n, ds) = if n > 0 then ds ++ [v * 2 ^ (6 - n)] else ds from rfl]
    by_cases h0 : n = 0
    · subst h0
      rw [if_neg (by omega), if_neg (by simp), str_dl]
    · have e1 : wrap64 (6 - (n : Int)) = ((6 - n : Nat) : Int) := by rw [IntWalk.wrap64_in _ (by omega)]; omega
      have hp : v * 2 ^ (6 - n) < 64 := by rcases hn with rfl | rfl | rfl <;> simp at hv ⊢ <;> omega
      have hv2 : v < 1048576 := by rcases hn with rfl | rfl | rfl <;> simp at hv <;> omega
      rw [if_pos (by omega), e1, if_pos (by omega), i64_shl v (6 - n) (by omega) hv2, if_pos (by omega), if_pos (by omega), if_pos (by rw [dl_len]; omega), if_pos (by omega)]
      show some (strOfNums (dl ds ++ [bt ALs _])) = _
      rw [bt_al _ hp, ← dl_snoc, str_dl]
  | c :: R, P, v, n, ds, hn, hv, hl, hs => by
    have hll : (P ++ c :: R).length = P.length + 1 + R.length := by simp; omega
    have hc := c.toNat_lt
    have e1 : wrap64 (wrap64 ((v : Int) * 256) + wrap64 ((c.toNat : Nat) : Int)) = ((v * 256 + c.toNat : Nat) : Int) := by
      have : v < 16 := by rcases hn with rfl | rfl | rfl <;> simp at hv <;> omega
      rw [IntWalk.wrap64_in ((v : Int) * 256) (by omega), IntWalk.wrap64_in ((c.toNat : Nat) : Int) (by omega), IntWalk.wrap64_in _ (by omega)]
      omega
    have e2 : wrap64 ((n : Int) + 8) = ((n + 8 : Nat) : Int) := by rw [IntWalk.wrap64_in _ (by omega)]; omega
    have ih := fun v n ds h1 h2 h3 => b64_l0 R (P ++ [c]) v n ds h1 h2 h3 (by simpa using hs)
    simp only [List.append_assoc, List.singleton_append, List.length_append, List.length_cons, List.length_nil, Nat.zero_add] at ih
    rw [List.foldl_cons]
    rw [show 5 * (c :: R).length + 1 = (5 * R.length + 1 + 4) + 1 from by simp; omega, atriumref04_Base64.l0, if_pos (by rw [Bd.B_size]; omega), if_pos (by omega), Bd.bt_mid, e1, e2]
    rcases hn with rfl | rfl | rfl
    · simp at hv
      subst hv
      rw [show (0 + 8 : Nat) = 2 + 6 from rfl, b64_emit _ _ _ _ 2 _ (by omega) (by omega) (by omega), b64_done _ _ _ _ 2 _ (by omega) (by omega)]
      refine b64_up (ih ((0 * 256 + c.toNat) % 2 ^ 2) 2 (ds ++ [(0 * 256 + c.toNat) / 2 ^ 2]) (by omega) (Nat.mod_lt _ (by decide)) (by simp; omega)) (by omega)
    · simp at hv
      rw [show (2 + 8 : Nat) = 4 + 6 from rfl, b64_emit _ _ _ _ 4 _ (by omega) (by omega) (by omega), b64_done _ _ _ _ 4 _ (by omega) (by omega)]
      refine b64_up (ih ((v * 256 + c.toNat) % 2 ^ 4) 4 (ds ++ [(v * 256 + c.toNat) / 2 ^ 4]) (by omega) (Nat.mod_lt _ (by decide)) (by simp; omega)) (by omega)
    · simp at hv
      rw [show (4 + 8 : Nat) = 6 + 6 from rfl, b64_emit _ _ _ _ 6 _ (by omega) (by omega) (by omega), b64_emit _ _ _ _ 0 _ (by omega) (by have := Nat.mod_lt (v * 256 + c.toNat) (show 0 < 2 ^ 6 by decide); omega) (by simp; omega), b64_done _ _ _ _ 0 _ (by omega) (by omega)]
      refine b64_up (ih ((v * 256 + c.toNat) % 2 ^ 6 % 2 ^ 0) 0 (ds ++ [(v * 256 + c.toNat) / 2 ^ 6] ++ [(v * 256 + c.toNat) % 2 ^ 6 / 2 ^ 0]) (by omega) (Nat.mod_lt _ (by decide)) (by simp; omega)) (by omega)
theorem b64_f (o : List UInt8) (h : o.length ≤ 1000000000) (k : Nat) (hk : 5 * o.length + 1 ≤ k) : atriumref04_Base64.f k (Bd.B o) = some (Bd.B (B64.b64 o)) := by
  have h1 := b64_l0 o [] 0 0 [] (by omega) (by decide) (by simp) (by simpa using h)
  rw [List.nil_append] at h1
  exact b64_up h1 hk
def unbR (s : List UInt8) : Option (Nat × Nat × List UInt8) → ByteArray × Bool
  | none => (⟨#[]⟩, false)
  | some (_, _, o) => if B64.b64 o = s then (Bd.B o, true) else (⟨#[]⟩, false)
set_option maxHeartbeats 1000000 in
theorem unb_l0 : ∀ (R P : List UInt8) (b n : Nat) (o : List UInt8) (F : Nat), 80 + 5 * (P ++ R).length + R.length ≤ F → (P ++ R).length ≤ 1000000000 → (n = 0 ∨ n = 2 ∨ n = 4 ∨ n = 6) → b < 2 ^ n → o.length ≤ P.length →
    atriumref04_Unbase64.l0 (F + 1) (Bd.B (P ++ R)) (bi o) (b : Int) (n : Int) (P.length : Nat) = some (unbR (P ++ R) (B64.udG (b, n, o) R))
  | [], P, b, n, o, F, hF, hs, hn, hb, ho => by
    have hs2 : P.length ≤ 1000000000 := by simpa using hs
    have hF2 : 80 + 5 * P.length ≤ F := by simpa using hF
    rw [atriumref04_Unbase64.l0, if_neg (by rw [Bd.B_size]; simp), str_bi]
    show (atriumref04_Base64.f F (Bd.B o)).bind _ = _
    rw [b64_f o (by omega) F (by omega), Option.bind_some, Bd.B_toList, Bd.B_toList]
    simp only [B64.udG, unbR]
    split <;> rfl
  | c :: R, P, b, n, o, F, hF, hs, hn, hb, ho => by
    have hll : (P ++ c :: R).length = P.length + 1 + R.length := by simp; omega
    have hP9 : P.length ≤ 1000000000 := by omega
    obtain ⟨F, rfl⟩ : ∃ F0, F = F0 + 1 := ⟨F - 1, by omega⟩
    have ih := fun b n o h1 h2 h3 => unb_l0 R (P ++ [c]) b n o F (by rw [List.append_assoc]; simp only [List.singleton_append, List.length_cons] at hF ⊢; omega) (by simpa using hs) h1 h2 h3
    simp only [List.append_assoc, List.singleton_append, List.length_append, List.length_cons, List.length_nil, Nat.zero_add] at ih
    rw [atriumref04_Unbase64.l0, if_pos (by rw [Bd.B_size]; omega), if_pos (by omega), Bd.bt_mid]
    show (atriumref04_find.f (F + 1) ALs (c.toNat : Int)).bind _ = _
    rw [find_f c (F + 1) (by omega), Option.bind_some, B64.udG]
    by_cases hx : B64.lix c < 64
    · rw [if_pos hx, if_pos hx, if_neg (by omega)]
      have hb2 : b < 64 := by rcases hn with rfl | rfl | rfl | rfl <;> simp at hb <;> omega
      have e1 : wrap64 (wrap64 ((b : Int) * 64) + ((B64.lix c : Nat) : Int)) = ((b * 64 + B64.lix c : Nat) : Int) := by
        rw [IntWalk.wrap64_in ((b : Int) * 64) (by omega), IntWalk.wrap64_in _ (by omega)]
        omega
      have e2 : wrap64 ((n : Int) + 6) = ((n + 6 : Nat) : Int) := by rw [IntWalk.wrap64_in _ (by omega)]; omega
      have e3 : wrap64 (((P.length : Nat) : Int) + 1) = ((P.length + 1 : Nat) : Int) := Bd.w_succ _ (by omega)
      rw [e1, e2, e3]
      unfold B64.dst
      dsimp only
      by_cases h8 : n + 6 ≥ 8
      · have e4 : wrap64 (((n + 6 : Nat) : Int) - 8) = ((n - 2 : Nat) : Int) := by rw [IntWalk.wrap64_in _ (by omega)]; omega
        have hd : (b * 64 + B64.lix c) / 2 ^ (n - 2) < 256 := by
          rw [Nat.div_lt_iff_lt_mul (Nat.pow_pos (by omega))]
          rcases hn with rfl | rfl | rfl | rfl <;> simp at hb ⊢ <;> omega
        have hbl : (bi o).length < 140737488355328 := by
          rw [show (bi o).length = o.length from by simp [bi]]
          exact Nat.lt_of_le_of_lt (Nat.le_trans ho hP9) (by decide)
        have g0 : (0 : Int) ≤ ((n - 2 : Nat) : Int) := Int.natCast_nonneg _
        have g1 : ((n + 6 : Nat) : Int) ≥ 8 := by omega
        have e6 := i64_shr (b * 64 + B64.lix c) (n - 2) (by omega)
        have e7 := i64_mask (b * 64 + B64.lix c) (n - 2) (by omega) (by omega)
        rw [if_pos h8, if_pos g1, e4, if_pos g0, if_pos hbl, e6, e7]
        have e5 : ∀ q : Nat, q < 256 → bi o ++ [(q : Int) % 256] = bi (o ++ [UInt8.ofNat q]) := fun q hq => by
          simp only [bi, List.map_append, List.map_cons, List.map_nil]
          rw [B64.u8_nat _ hq]
          congr 2
          omega
        rw [e5 _ hd]
        exact ih _ (n - 2) _ (by omega) (Nat.mod_lt _ (Nat.pow_pos (by omega))) (by simp; omega)
      · have h0 : n = 0 := by omega
        subst h0
        rw [if_neg h8, if_neg (by omega)]
        exact ih (b * 64 + B64.lix c) 6 o (by omega) (by simp at hb ⊢; omega) (by omega)
    · rw [if_neg hx, if_neg hx, if_pos (by omega)]
      rfl
/-- May a text be a token? -/
def tokB (s : List UInt8) : Bool := match B64.ub s with
  | some o => decide (o.length = 16)
  | none => false
theorem rtok_f (s : List UInt8) (h : s.length ≤ 1000000000) : ∃ k, atriumref22_Token.f k (Bd.B s) = some (tokB s) := by
  refine ⟨80 + 6 * s.length + 1, ?_⟩
  have h1 := unb_l0 s [] 0 0 [] (80 + 6 * s.length) (by simp; omega) (by simpa using h) (by omega) (by decide) (by simp)
  rw [List.nil_append] at h1
  have h2 : atriumref04_Unbase64.f (80 + 6 * s.length + 1) (Bd.B s) = some (unbR s (B64.udG (0, 0, []) s)) := h1
  unfold atriumref22_Token.f
  unfold tokB B64.ub
  cases hu : B64.udG (0, 0, []) s with
  | none =>
    rw [hu] at h2
    rw [h2]
    rfl
  | some r =>
    obtain ⟨b, n, o⟩ := r
    have hb := B64.ub_back s b n o hu
    rw [hu] at h2
    by_cases hc : B64.b64 o = s
    · have hr : unbR s (some (b, n, o)) = (Bd.B o, true) := if_pos hc
      rw [hr] at h2
      rw [h2, Option.bind_some, if_pos rfl]
      simp only
      rw [if_pos (hb.mpr hc), Bd.B_size]
      simp only [Option.some.injEq]
      by_cases h16 : o.length = 16
      · simp [h16]
      · rw [decide_eq_false h16]
        simp
        omega
    · have hr : unbR s (some (b, n, o)) = (⟨#[]⟩, false) := if_neg hc
      rw [hr] at h2
      rw [h2, Option.bind_some, if_neg (by simp)]
      simp only
      rw [if_neg (fun h => hc (hb.mp h))]
theorem rtok_any (s : List UInt8) (h : s.length ≤ 1000000000) (w : World) : Calls Tryz.prog 42 #[.string (Bd.B s)] w fun e w' => e = .returned (.bool (tokB s)) ∧ Below w.heap.size w w' := by
  obtain ⟨k, hk⟩ := rtok_f s h
  exact atriumref22_Token.calls k _ _ w hk
end Go.Proofs.YtmchephokleffaaGreatDoor
