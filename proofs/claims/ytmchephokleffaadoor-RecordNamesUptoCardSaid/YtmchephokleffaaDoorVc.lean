/-
  Chapter 22: parts of keys, and codec.Key walked at parts whose texts have no byte 0.
-/
import Derived.Test.YtmchephokleffaaDoorVb
import Derived.Test.YtmchephokleffaaDoorNumu8
import Derived.Test.YtmchephokleffaaDoorNumu64
import Derived.Deep.CutBlock
import Derived.Outline
set_option linter.unusedVariables false
set_option linter.unusedSimpArgs false
namespace Go.Proofs.YtmchephokleffaaDoor
open Go.RowKit Go.Proofs.YtmchephokleffaaDoorW.PrintWords Go.Proofs.YtmchephokleffaaDoor.PRecord
/-- A part of a key. -/
structure Pt where
  t : ByteArray
  n : Nat
  b : Bool
def zP : Pt := ⟨⟨#[]⟩, 0, false⟩
def kP : Kd Pt := Kd.iso (Kd.pair Kd.string (Kd.pair (Kd.int .u64) Kd.bool)) (fun x : Pt => (x.t, (x.n : Int), x.b))
def cellsP (x : Pt) : List Value := [.string x.t, .int .u64 (x.n : Int), .bool x.b]
theorem kP_open {w : World} {x : Pt} {cs : List Value} (h : kP.K w x cs) : cs = cellsP x := by
  obtain ⟨_, _, rfl, rfl, ⟨_, _, rfl, rfl, rfl⟩⟩ := h
  exact rfl
theorem kP_openM {w : World} {base : Nat} {ok : Nat → Prop} {x : Pt} {cs : List Value} (h : kP.M w base ok x cs) : cs = cellsP x := by
  obtain ⟨_, _, rfl, rfl, ⟨_, _, rfl, rfl, rfl⟩⟩ := h
  exact rfl
theorem kP_mk (w : World) (x : Pt) : kP.K w x (cellsP x) := ⟨[.string x.t], [.int .u64 (x.n : Int), .bool x.b], rfl, rfl, ⟨[.int .u64 (x.n : Int)], [.bool x.b], rfl, rfl, rfl⟩⟩
theorem kP_mkM (w : World) (base : Nat) (ok : Nat → Prop) (x : Pt) : kP.M w base ok x (cellsP x) := ⟨[.string x.t], [.int .u64 (x.n : Int), .bool x.b], rfl, rfl, ⟨[.int .u64 (x.n : Int)], [.bool x.b], rfl, rfl, rfl⟩⟩
theorem at_P {w : World} {A : Option Addr} {n : Nat} {xs : List Pt} (h : Kd.C kP w A n xs) (i : Nat) (h1 : i < n) : ∃ ad, A = some ad ∧ w.cell? (ad.add (i * 3)) = some (.string (xs.getD i zP).t) ∧
    w.cell? ⟨(ad.add (i * 3)).block, (ad.add (i * 3)).off + 1, none⟩ = some (.int .u64 ((xs.getD i zP).n : Int)) ∧ w.cell? ⟨(ad.add (i * 3)).block, (ad.add (i * 3)).off + 2, none⟩ = some (.bool (xs.getD i zP).b) := by
  obtain ⟨ad, c, e, _, hK, hc0⟩ := Kd.C_get h zP (i : Int) (by omega) (by omega)
  rw [Int.toNat_natCast] at hK hc0
  have hc : ∀ j u, c[j]? = some u → w.cell? (ad.add (i * 3 + j)) = some u := hc0
  obtain rfl := kP_open hK
  exact ⟨ad, e, hc 0 _ rfl, by rw [← add_field _ _ 1 (by omega)]; exact hc 1 _ rfl, by rw [← add_field _ _ 2 (by omega)]; exact hc 2 _ rfl⟩
/-- May a part stand in a key, and has its text no byte 0? -/
def OkP (x : Pt) : Prop := (x.b = true ∧ x.t.data.toList = [] ∧ x.n < 18446744073709551616) ∨ (x.b = false ∧ x.n = 0 ∧ x.t.data.toList.count 0 = 0)
def encP (x : Pt) : List UInt8 := if x.b then 1 :: be 8 x.n else 2 :: x.t.data.toList ++ [0]
def keyL (l : List Pt) : List UInt8 := l.flatMap encP
theorem keyL_snoc (l : List Pt) (x : Pt) : keyL (l ++ [x]) = keyL l ++ encP x := by simp [keyL]
theorem keyL_take (l : List Pt) (k : Nat) : (keyL (l.take k)).length ≤ (keyL l).length := by
  have h : keyL l = keyL (l.take k) ++ keyL (l.drop k) := by rw [← show keyL (l.take k ++ l.drop k) = keyL (l.take k) ++ keyL (l.drop k) from List.flatMap_append, List.take_append_drop]
  rw [h, List.length_append]
  omega
theorem ba_nil {s : ByteArray} (h : s.data.toList = []) : s = ⟨#[]⟩ := by
  rw [← str_mk s, h]
theorem fresh_ib (w : World) : Bd.IB 99 [] w.heap.size w.heap.size [] (w.alloc (.cells #[.pointer none, .slice none 0 0] 99)) :=
  Or.inl ⟨Nat.le_refl _, .slice none 0 0, heap_alloc_new w _, World.ownsRow_nil _ _ _ _, by simp [Value.ownBlock]⟩
theorem BA_ib {T : TypeId} {r : List Value} {C b : Nat} {l : List UInt8} {w : World} (h : Bd.BA T r C b (.pointer (some ⟨b, 0, none⟩)) l w) : Bd.IB T r C b l w := Or.inr h
theorem IB_below {T : TypeId} {r : List Value} {C b : Nat} {l : List UInt8} {w w' : World} (h : Bd.IB T r C b l w) (hb : Below w.heap.size w w') : Bd.IB T r C b l w' := h.elim (fun x => .inl (x.below hb)) fun x => .inr (x.below hb)
theorem IB_kit {C b : Nat} {l : List UInt8} {w : World} (h : Bd.IB 99 [] C b l w) : Lib.IsBuilder 99 5 C b (Lib.byteCells l) w := by
  have hl : (Lib.byteCells l).length = l.length := by simp [Lib.byteCells]
  rcases h with ⟨h1, v, h2, h3, h4⟩ | ⟨h1, v, h2, h3, h4⟩
  · exact .inl ⟨h1, v, h2, by rw [hl]; exact h3, h4⟩
  · exact .inr ⟨h1, v, h2, by rw [hl]; exact h3, h4⟩
set_option maxHeartbeats 400000 in
/-- strings.Replace where the byte 0 does not stand. -/
theorem replace_absent (s : ByteArray) (h0 : s.data.toList.count 0 = 0) (w : World) :
    Calls Tryd.prog 86 #[.string s, .string ⟨#[0]⟩, .string ⟨#[0, 255]⟩, .int .i64 (-1)] w fun e w' => e = .returned (.string s) ∧ w = w' := by
  have hc := Tryd.strings_Count_one s 0 w
  rw [show Lib.countByte s.data.toList 0 = 0 from h0] at hc
  replace hc := Lib.hid hc
  clear h0
  go_enter Tryd.func86, Tryd.ntmps86
  go_wp2_with (go_at_call 94; go_must (refine hc.out.mono ?_); rintro e w' ⟨rfl, rfl⟩)
  go_ret
  exact ⟨rfl, rfl⟩
set_option maxHeartbeats 400000 in
theorem replaceAll_absent (s : ByteArray) (h0 : s.data.toList.count 0 = 0) (w : World) :
    Calls Tryd.prog 74 #[.string s, .string ⟨#[0]⟩, .string ⟨#[0, 255]⟩] w fun e w' => e = .returned (.string s) ∧ w = w' := by
  have hc := Lib.hid (replace_absent s h0 w)
  clear h0
  go_enter Tryd.func74, Tryd.ntmps74
  go_wp2_with (go_at_call 86; go_must (refine hc.out.mono ?_); rintro e w' ⟨rfl, rfl⟩)
  go_ret
  exact ⟨rfl, rfl⟩
set_option maxHeartbeats 2000000 in
set_option maxRecDepth 100000 in
theorem key_any (ps : List Pt) (hn : ps.length ≤ 8) (hok : ∀ p ∈ ps, OkP p) (hsz : (keyL ps).length ≤ 1000000000) (A : Option Addr) (c : Nat) (w : World) (hr : Kd.C kP w A ps.length ps) (hc : ps.length ≤ c) :
    Calls Tryd.prog 50 #[.slice A ps.length c] w fun e w' => e = .returned (.tuple #[.string (Bd.B (keyL ps)), .int .i64 0]) ∧ Below w.heap.size w w' := by
  have hS0 : Hid (Bd.IB 99 [] w.heap.size w.heap.size [] (w.alloc (.cells #[.pointer none, .slice none 0 0] 99)) ∧ Below w.heap.size w (w.alloc (.cells #[.pointer none, .slice none 0 0] 99))) := Lib.hid ⟨fresh_ib w, (Below.refl _ _).alloc (Nat.le_refl _) _⟩
  have hr := Lib.hid hr
  have hok := Lib.hid hok
  have hsz := Lib.hid hsz
  have b0 : ((8 : Int) < (ps.length : Int)) = False := by simp; omega
  go_enter Tryd.func50, Tryd.ntmps50
  go_wp2
  clear b0
  go_loopw [15] (fun i wr => ∃ k : Nat, k ≤ ps.length ∧ i = .int .i64 k ∧ Hid (Bd.IB 99 [] w.heap.size w.heap.size (keyL (ps.take k)) wr ∧ Below w.heap.size w wr)) (fun i _ => ps.length - (intOf i).toNat)
  case atStart => exact ⟨0, Nat.zero_le _, rfl, hS0⟩
  case round =>
    rename World => wr
    obtain ⟨k, hk, rfl, hS⟩ := hrel
    clear hS0
    by_cases hlt : k < ps.length
    · obtain ⟨ad, rfl, c0, c1, c2⟩ := at_P (Kd.C_below hr.out hS.out.2) k hlt
      have hx := hok.out _ (show ps.getD k zP ∈ ps by rw [List.getD_eq_getElem?_getD, List.getElem?_eq_getElem hlt]; exact List.getElem_mem hlt)
      have hts : keyL (ps.take (k + 1)) = keyL (ps.take k) ++ encP (ps.getD k zP) := by
        rw [List.take_succ_eq_append_getElem hlt, keyL_snoc, List.getD_eq_getElem?_getD, List.getElem?_eq_getElem hlt]; rfl
      have hlen : (keyL (ps.take k)).length + (encP (ps.getD k zP)).length ≤ 1000000000 := by
        rw [← List.length_append, ← hts]
        exact Nat.le_trans (keyL_take ps (k + 1)) hsz.out
      replace hts := Lib.hid hts
      generalize ps.getD k zP = x at *
      obtain ⟨xt, xn, xb⟩ := x
      simp only at c0 c1 c2
      have hbx := Lib.hid (heap_alloc_new wr (.cells #[.string xt, .int .u64 (xn : Int), .bool xb] 70))
      have hS1 : Hid (Bd.IB 99 [] w.heap.size w.heap.size (keyL (ps.take k)) (wr.alloc (.cells #[.string xt, .int .u64 (xn : Int), .bool xb] 70)) ∧ Below w.heap.size w (wr.alloc (.cells #[.string xt, .int .u64 (xn : Int), .bool xb] 70))) :=
        Lib.hid ⟨IB_below hS.out.1 ((Below.refl _ _).alloc (Nat.le_refl _) _), hS.out.2.alloc hS.out.2.size _⟩
      rcases hx with ⟨hb, ht, hn64⟩ | ⟨hb, hn0, ht⟩
      · simp only at hb ht hn64
        subst hb
        obtain rfl := ba_nil ht
        clear ht
        go_wp2_with (fail)
        obtain ⟨W1, hW1⟩ : ∃ W1, W1 = wr.alloc (.cells #[.string ⟨#[]⟩, .int .u64 (xn : Int), .bool true] 70) := ⟨_, rfl⟩
        have hwr : wr.heap.size + 1 = W1.heap.size := by rw [hW1]; simp
        have hle := hS.out.2.size
        rw [← hW1] at hS1 hbx ⊢
        clear hW1 hS c0 c1 c2
        refine (NewWriter_any 9 _).mono ?_
        rintro e w2 ⟨rfl, hcw2, hb2⟩
        rw [show max (9 : Int) 0 = 9 from rfl] at hcw2
        have hB2 := Lib.hid hb2
        replace hcw2 := Lib.hid hcw2
        clear hb2
        go_wp2_with (fail)
        refine (U8_any 1 hcw2.out (by omega) (by omega) (by omega) (by simp)).mono ?_
        rintro e w3 ⟨rfl, hcw3, hb3⟩
        replace hcw3 := hcw3.fit (by simp [be_len])
        have hB3 := Lib.hid (hB2.out.trans hb3)
        have m1 := (blk_cell ((hB3.out.block _ (by omega)).trans hbx.out) 1).trans rfl
        clear hB2 hcw2 hb3
        go_wp2_with (fail)
        clear m1
        refine (U64_any xn hcw3.out hn64 (by omega) (by omega) (by simp [be_len])).mono ?_
        rintro e w4 ⟨rfl, hcw4, hb4⟩
        replace hcw4 := hcw4.fit (by simp [be_len])
        have hB4 := Lib.hid (hB3.out.trans hb4)
        clear hb4 hcw3 hB3
        go_wp2_with (fail)
        refine (Done_any hcw4.out).mono ?_
        rintro e w5 ⟨rfl, rfl⟩
        rw [show doneS ([] ++ be 1 1 ++ be 8 xn) false = Bd.B (be 1 1 ++ be 8 xn) from rfl, show doneE false = 0 from rfl]
        have hS4 := Lib.hid (And.intro (IB_below hS1.out.1 hB4.out) (hS1.out.2.trans (hB4.out.mono (by omega))))
        clear hcw4 hB4 hS1
        go_wp2_with (fail)
        refine (Bd.ws_any Bd.okt_builder hS4.out.1 hS4.out.2.size (be 1 1 ++ be 8 xn) (by simp [encP, be_len] at hlen ⊢; omega)).mono ?_
        rintro e w6 ⟨rfl, hi6, hf6⟩
        have hS6 : Hid (Bd.IB 99 [] w.heap.size w.heap.size (keyL (ps.take (k + 1))) w6 ∧ Below w.heap.size w w6) := Lib.hid ⟨by rw [hts.out]; exact BA_ib hi6, hS4.out.2.trans hf6.1⟩
        clear hi6 hf6 hS4 hbx
        go_wp2_with (fail)
        go_roundw
        case rel => exact ⟨k + 1, by omega, by go_num, hS6⟩
        case measure => simp [intOf]; omega
      · simp only at hb hn0 ht
        subst hb
        subst hn0
        have hra := Lib.hid (fun W => replaceAll_absent xt ht W)
        have hbl : w.heap.size < wr.heap.size := by
          obtain ⟨_, h⟩ := hS.out.1.ba
          exact h.lt
        clear ht
        go_wp2_with (fail)
        refine (Bd.wb_int Bd.okt_builder hS1.out.1 hS1.out.2.size 2 2 rfl (by simp [encP, be_len] at hlen ⊢; omega)).mono ?_
        rintro e w2 ⟨rfl, hi2, hf2⟩
        have hbx2 : w2.heap[wr.heap.size]? = some (.cells #[.string xt, .int .u64 ((0 : Nat) : Int), .bool false] 70 (0, 0)) := hf2.2 _ _ hbx.out (fun e => by injection e with e; rw [e] at hbl; omega) (by intro c fz h; injection h with _ h; exact absurd h (by decide))
        have m0 := (blk_cell hbx2 0).trans rfl
        have hS2 := Lib.hid (And.intro (BA_ib hi2) (hS1.out.2.trans hf2.1))
        clear hbx hbx2 hS1 hi2 hf2 c0 c1 c2
        go_wp2_with (fail)
        clear m0
        refine (hra.out _).mono ?_
        rintro e w3 ⟨rfl, rfl⟩
        clear hra
        rw [← Bd.of_data xt]
        go_wp2_with (fail)
        refine (Bd.ws_any Bd.okt_builder hS2.out.1 hS2.out.2.size xt.data.toList (by simp [encP] at hlen ⊢; omega)).mono ?_
        rintro e w4 ⟨rfl, hi4, hf4⟩
        have hS4 := Lib.hid (And.intro (BA_ib hi4) (hS2.out.2.trans hf4.1))
        clear hS2 hi4 hf4
        go_wp2_with (fail)
        refine (Bd.ws_any Bd.okt_builder hS4.out.1 hS4.out.2.size [0] (by simp [encP] at hlen ⊢; omega)).mono ?_
        rintro e w6 ⟨rfl, hi6, hf6⟩
        have hS6 : Hid (Bd.IB 99 [] w.heap.size w.heap.size (keyL (ps.take (k + 1))) w6 ∧ Below w.heap.size w w6) := Lib.hid ⟨by rw [hts.out, show encP ⟨xt, 0, false⟩ = [2] ++ xt.data.toList ++ [0] from rfl, ← List.append_assoc, ← List.append_assoc]; exact BA_ib hi6, hS4.out.2.trans hf6.1⟩
        clear hi6 hf6 hS4 hS hbl
        go_wp2_with (fail)
        go_roundw
        case rel => exact ⟨k + 1, by omega, by go_num, hS6⟩
        case measure => simp [intOf]; omega
    · have hfin : keyL (ps.take k) = keyL ps := by rw [List.take_of_length_le (by omega)]
      rw [hfin] at hS
      clear hfin
      have hend := Lib.hid (Tryd.Builder_String_any _ _ _ wr (IB_kit hS.out.1) hS.out.2.size)
      have hB := Lib.hid hS.out.2
      clear hS
      go_wp2_with (fail)
      refine hend.out.mono ?_
      rintro e w2 ⟨rfl, hb2⟩
      go_wp2_with (fail)
      go_ret2
      exact ⟨rfl, hB.out.trans hb2⟩
end Go.Proofs.YtmchephokleffaaDoor
