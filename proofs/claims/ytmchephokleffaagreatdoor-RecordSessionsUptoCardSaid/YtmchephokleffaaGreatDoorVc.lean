/-
  Chapter 22: parts of keys, and codec.Key walked at parts whose texts have no byte 0.
-/
import Derived.Test.YtmchephokleffaaGreatDoorRdu64
import Derived.Deep.RegionHeld3
import Derived.IntWalk
import Derived.Test.YtmchephokleffaaGreatDoorVb
import Derived.Test.YtmchephokleffaaGreatDoorNumu8
import Derived.Test.YtmchephokleffaaGreatDoorNumu64
import Derived.Deep.CutBlock
set_option linter.unusedVariables false
set_option linter.unusedSimpArgs false
namespace Go.Proofs.YtmchephokleffaaGreatDoor
open Go.RowKit Go.Proofs.YtmchephokleffaaGreatDoorW.PrintWords Go.Proofs.YtmchephokleffaaGreatDoor.PRecord
/-- A part of a key. -/
structure Pt where
  t : ByteArray
  n : Nat
  b : Bool
def zP : Pt := ⟨⟨#[]⟩, 0, false⟩
def kP : Kd Pt := Kd.iso (Kd.pair Kd.string (Kd.pair (Kd.int .u64) Kd.bool)) (fun x : Pt => (x.t, (x.n : Int), x.b))
def cellsP (x : Pt) : List Value := [.string x.t, .int .u64 (x.n : Int), .bool x.b]
theorem kP_open {w : World} {x : Pt} {cs : List Value} (h : kP.K w x cs) : cs = cellsP x := by
  obtain ⟨_, _, rfl, rfl, ⟨_, _, rfl, rfl, rfl⟩⟩ := h
  exact rfl
theorem kP_openM {w : World} {base : Nat} {ok : Nat → Prop} {x : Pt} {cs : List Value} (h : kP.M w base ok x cs) : cs = cellsP x := by
  obtain ⟨_, _, rfl, rfl, ⟨_, _, rfl, rfl, rfl⟩⟩ := h
  exact rfl
theorem kP_mk (w : World) (x : Pt) : kP.K w x (cellsP x) := ⟨[.string x.t], [.int .u64 (x.n : Int), .bool x.b], rfl, rfl, ⟨[.int .u64 (x.n : Int)], [.bool x.b], rfl, rfl, rfl⟩⟩
theorem kP_mkM (w : World) (base : Nat) (ok : Nat → Prop) (x : Pt) : kP.M w base ok x (cellsP x) := ⟨[.string x.t], [.int .u64 (x.n : Int), .bool x.b], rfl, rfl, ⟨[.int .u64 (x.n : Int)], [.bool x.b], rfl, rfl, rfl⟩⟩
theorem at_P {w : World} {A : Option Addr} {n : Nat} {xs : List Pt} (h : Kd.C kP w A n xs) (i : Nat) (h1 : i < n) : ∃ ad, A = some ad ∧ w.cell? (ad.add (i * 3)) = some (.string (xs.getD i zP).t) ∧
    w.cell? ⟨(ad.add (i * 3)).block, (ad.add (i * 3)).off + 1, none⟩ = some (.int .u64 ((xs.getD i zP).n : Int)) ∧ w.cell? ⟨(ad.add (i * 3)).block, (ad.add (i * 3)).off + 2, none⟩ = some (.bool (xs.getD i zP).b) := by
  obtain ⟨ad, c, e, _, hK, hc0⟩ := Kd.C_get h zP (i : Int) (by omega) (by omega)
  rw [Int.toNat_natCast] at hK hc0
  have hc : ∀ j u, c[j]? = some u → w.cell? (ad.add (i * 3 + j)) = some u := hc0
  obtain rfl := kP_open hK
  exact ⟨ad, e, hc 0 _ rfl, by rw [← add_field _ _ 1 (by omega)]; exact hc 1 _ rfl, by rw [← add_field _ _ 2 (by omega)]; exact hc 2 _ rfl⟩
/-- May a part stand in a key, and has its text no byte 0? -/
def OkP (x : Pt) : Prop := (x.b = true ∧ x.t.data.toList = [] ∧ x.n < 18446744073709551616) ∨ (x.b = false ∧ x.n = 0 ∧ x.t.data.toList.count 0 = 0)
def encP (x : Pt) : List UInt8 := if x.b then 1 :: be 8 x.n else 2 :: x.t.data.toList ++ [0]
def keyL (l : List Pt) : List UInt8 := l.flatMap encP
theorem keyL_snoc (l : List Pt) (x : Pt) : keyL (l ++ [x]) = keyL l ++ encP x := by simp [keyL]
theorem keyL_take (l : List Pt) (k : Nat) : (keyL (l.take k)).length ≤ (keyL l).length := by
  have h : keyL l = keyL (l.take k) ++ keyL (l.drop k) := by rw [← show keyL (l.take k ++ l.drop k) = keyL (l.take k) ++ keyL (l.drop k) from List.flatMap_append, List.take_append_drop]
  rw [h, List.length_append]
  omega
theorem ba_nil {s : ByteArray} (h : s.data.toList = []) : s = ⟨#[]⟩ := by
  rw [← str_mk s, h]
theorem fresh_ib (w : World) : Bd.IB 167 [] w.heap.size w.heap.size [] (w.alloc (.cells #[.pointer none, .slice none 0 0] 167)) :=
  Or.inl ⟨Nat.le_refl _, .slice none 0 0, heap_alloc_new w _, World.ownsRow_nil _ _ _ _, by simp [Value.ownBlock]⟩
theorem BA_ib {T : TypeId} {r : List Value} {C b : Nat} {l : List UInt8} {w : World} (h : Bd.BA T r C b (.pointer (some ⟨b, 0, none⟩)) l w) : Bd.IB T r C b l w := Or.inr h
theorem IB_below {T : TypeId} {r : List Value} {C b : Nat} {l : List UInt8} {w w' : World} (h : Bd.IB T r C b l w) (hb : Below w.heap.size w w') : Bd.IB T r C b l w' := h.elim (fun x => .inl (x.below hb)) fun x => .inr (x.below hb)
theorem IB_kit {C b : Nat} {l : List UInt8} {w : World} (h : Bd.IB 167 [] C b l w) : Lib.IsBuilder 167 5 C b (Lib.byteCells l) w := by
  have hl : (Lib.byteCells l).length = l.length := by simp [Lib.byteCells]
  rcases h with ⟨h1, v, h2, h3, h4⟩ | ⟨h1, v, h2, h3, h4⟩
  · exact .inl ⟨h1, v, h2, by rw [hl]; exact h3, h4⟩
  · exact .inr ⟨h1, v, h2, by rw [hl]; exact h3, h4⟩
set_option maxHeartbeats 400000 in
/-- strings.Replace where the byte 0 does not stand. -/
theorem replace_absent (s : ByteArray) (h0 : s.data.toList.count 0 = 0) (w : World) :
    Calls Tryz.prog 196 #[.string s, .string ⟨#[0]⟩, .string ⟨#[0, 255]⟩, .int .i64 (-1)] w fun e w' => e = .returned (.string s) ∧ w = w' := by
  have hc := Tryz.strings_Count_one s 0 w
  rw [show Lib.countByte s.data.toList 0 = 0 from h0] at hc
  replace hc := Lib.hid hc
  clear h0
  go_enter Tryz.func196, Tryz.ntmps196
  go_wp2_with (go_at_call 217; go_must (refine hc.out.mono ?_); rintro e w' ⟨rfl, rfl⟩)
  go_ret
  exact ⟨rfl, rfl⟩
set_option maxHeartbeats 400000 in
theorem replaceAll_absent (s : ByteArray) (h0 : s.data.toList.count 0 = 0) (w : World) :
    Calls Tryz.prog 167 #[.string s, .string ⟨#[0]⟩, .string ⟨#[0, 255]⟩] w fun e w' => e = .returned (.string s) ∧ w = w' := by
  have hc := Lib.hid (replace_absent s h0 w)
  clear h0
  go_enter Tryz.func167, Tryz.ntmps167
  go_wp2_with (go_at_call 196; go_must (refine hc.out.mono ?_); rintro e w' ⟨rfl, rfl⟩)
  go_ret
  exact ⟨rfl, rfl⟩
set_option maxHeartbeats 2000000 in
set_option maxRecDepth 100000 in
theorem key_any (ps : List Pt) (hn : ps.length ≤ 8) (hok : ∀ p ∈ ps, OkP p) (hsz : (keyL ps).length ≤ 1000000000) (A : Option Addr) (c : Nat) (w : World) (hr : Kd.C kP w A ps.length ps) (hc : ps.length ≤ c) :
    Calls Tryz.prog 140 #[.slice A ps.length c] w fun e w' => e = .returned (.tuple #[.string (Bd.B (keyL ps)), .int .i64 0]) ∧ Below w.heap.size w w' := by
  have hS0 : Hid (Bd.IB 167 [] w.heap.size w.heap.size [] (w.alloc (.cells #[.pointer none, .slice none 0 0] 167)) ∧ Below w.heap.size w (w.alloc (.cells #[.pointer none, .slice none 0 0] 167))) := Lib.hid ⟨fresh_ib w, (Below.refl _ _).alloc (Nat.le_refl _) _⟩
  have hr := Lib.hid hr
  have hok := Lib.hid hok
  have hsz := Lib.hid hsz
  have b0 : ((8 : Int) < (ps.length : Int)) = False := by simp; omega
  go_enter Tryz.func140, Tryz.ntmps140
  go_wp2
  clear b0
  go_loopw [15] (fun i wr => ∃ k : Nat, k ≤ ps.length ∧ i = .int .i64 k ∧ Hid (Bd.IB 167 [] w.heap.size w.heap.size (keyL (ps.take k)) wr ∧ Below w.heap.size w wr)) (fun i _ => ps.length - (intOf i).toNat)
  case atStart => exact ⟨0, Nat.zero_le _, rfl, hS0⟩
  case round =>
    rename World => wr
    obtain ⟨k, hk, rfl, hS⟩ := hrel
    clear hS0
    by_cases hlt : k < ps.length
    · obtain ⟨ad, rfl, c0, c1, c2⟩ := at_P (Kd.C_below hr.out hS.out.2) k hlt
      have hx := hok.out _ (show ps.getD k zP ∈ ps by rw [List.getD_eq_getElem?_getD, List.getElem?_eq_getElem hlt]; exact List.getElem_mem hlt)
      have hts : keyL (ps.take (k + 1)) = keyL (ps.take k) ++ encP (ps.getD k zP) := by
        rw [List.take_succ_eq_append_getElem hlt, keyL_snoc, List.getD_eq_getElem?_getD, List.getElem?_eq_getElem hlt]; rfl
      have hlen : (keyL (ps.take k)).length + (encP (ps.getD k zP)).length ≤ 1000000000 := by
        rw [← List.length_append, ← hts]
        exact Nat.le_trans (keyL_take ps (k + 1)) hsz.out
      replace hts := Lib.hid hts
      generalize ps.getD k zP = x at *
      obtain ⟨xt, xn, xb⟩ := x
      simp only at c0 c1 c2
      have hbx := Lib.hid (heap_alloc_new wr (.cells #[.string xt, .int .u64 (xn : Int), .bool xb] 68))
      have hS1 : Hid (Bd.IB 167 [] w.heap.size w.heap.size (keyL (ps.take k)) (wr.alloc (.cells #[.string xt, .int .u64 (xn : Int), .bool xb] 68)) ∧ Below w.heap.size w (wr.alloc (.cells #[.string xt, .int .u64 (xn : Int), .bool xb] 68))) :=
        Lib.hid ⟨IB_below hS.out.1 ((Below.refl _ _).alloc (Nat.le_refl _) _), hS.out.2.alloc hS.out.2.size _⟩
      rcases hx with ⟨hb, ht, hn64⟩ | ⟨hb, hn0, ht⟩
      · simp only at hb ht hn64
        subst hb
        obtain rfl := ba_nil ht
        clear ht
        go_wp2_with (fail)
        obtain ⟨W1, hW1⟩ : ∃ W1, W1 = wr.alloc (.cells #[.string ⟨#[]⟩, .int .u64 (xn : Int), .bool true] 68) := ⟨_, rfl⟩
        have hwr : wr.heap.size + 1 = W1.heap.size := by rw [hW1]; simp
        have hle := hS.out.2.size
        rw [← hW1] at hS1 hbx ⊢
        clear hW1 hS c0 c1 c2
        refine (NewWriter_any 9 _).mono ?_
        rintro e w2 ⟨rfl, hcw2, hb2⟩
        rw [show max (9 : Int) 0 = 9 from rfl] at hcw2
        have hB2 := Lib.hid hb2
        replace hcw2 := Lib.hid hcw2
        clear hb2
        go_wp2_with (fail)
        refine (U8_any 1 hcw2.out (by omega) (by omega) (by omega) (by simp)).mono ?_
        rintro e w3 ⟨rfl, hcw3, hb3⟩
        replace hcw3 := hcw3.fit (by simp [be_len])
        have hB3 := Lib.hid (hB2.out.trans hb3)
        have m1 := (blk_cell ((hB3.out.block _ (by omega)).trans hbx.out) 1).trans rfl
        clear hB2 hcw2 hb3
        go_wp2_with (fail)
        clear m1
        refine (U64_any xn hcw3.out hn64 (by omega) (by omega) (by simp [be_len])).mono ?_
        rintro e w4 ⟨rfl, hcw4, hb4⟩
        replace hcw4 := hcw4.fit (by simp [be_len])
        have hB4 := Lib.hid (hB3.out.trans hb4)
        clear hb4 hcw3 hB3
        go_wp2_with (fail)
        refine (Done_any hcw4.out).mono ?_
        rintro e w5 ⟨rfl, rfl⟩
        rw [show doneS ([] ++ be 1 1 ++ be 8 xn) false = Bd.B (be 1 1 ++ be 8 xn) from rfl, show doneE false = 0 from rfl]
        have hS4 := Lib.hid (And.intro (IB_below hS1.out.1 hB4.out) (hS1.out.2.trans (hB4.out.mono (by omega))))
        clear hcw4 hB4 hS1
        go_wp2_with (fail)
        refine (Bd.ws_any Bd.okt_builder hS4.out.1 hS4.out.2.size (be 1 1 ++ be 8 xn) (by simp [encP, be_len] at hlen ⊢; omega)).mono ?_
        rintro e w6 ⟨rfl, hi6, hf6⟩
        have hS6 : Hid (Bd.IB 167 [] w.heap.size w.heap.size (keyL (ps.take (k + 1))) w6 ∧ Below w.heap.size w w6) := Lib.hid ⟨by rw [hts.out]; exact BA_ib hi6, hS4.out.2.trans hf6.1⟩
        clear hi6 hf6 hS4 hbx
        go_wp2_with (fail)
        go_roundw
        case rel => exact ⟨k + 1, by omega, by go_num, hS6⟩
        case measure => simp [intOf]; omega
      · simp only at hb hn0 ht
        subst hb
        subst hn0
        have hra := Lib.hid (fun W => replaceAll_absent xt ht W)
        have hbl : w.heap.size < wr.heap.size := by
          obtain ⟨_, h⟩ := hS.out.1.ba
          exact h.lt
        clear ht
        go_wp2_with (fail)
        refine (Bd.wb_int Bd.okt_builder hS1.out.1 hS1.out.2.size 2 2 rfl (by simp [encP, be_len] at hlen ⊢; omega)).mono ?_
        rintro e w2 ⟨rfl, hi2, hf2⟩
        have hbx2 : w2.heap[wr.heap.size]? = some (.cells #[.string xt, .int .u64 ((0 : Nat) : Int), .bool false] 68 (0, 0)) := hf2.2 _ _ hbx.out (fun e => by injection e with e; rw [e] at hbl; omega) (by intro c fz h; injection h with _ h; exact absurd h (by decide))
        have m0 := (blk_cell hbx2 0).trans rfl
        have hS2 := Lib.hid (And.intro (BA_ib hi2) (hS1.out.2.trans hf2.1))
        clear hbx hbx2 hS1 hi2 hf2 c0 c1 c2
        go_wp2_with (fail)
        clear m0
        refine (hra.out _).mono ?_
        rintro e w3 ⟨rfl, rfl⟩
        clear hra
        rw [← Bd.of_data xt]
        go_wp2_with (fail)
        refine (Bd.ws_any Bd.okt_builder hS2.out.1 hS2.out.2.size xt.data.toList (by simp [encP] at hlen ⊢; omega)).mono ?_
        rintro e w4 ⟨rfl, hi4, hf4⟩
        have hS4 := Lib.hid (And.intro (BA_ib hi4) (hS2.out.2.trans hf4.1))
        clear hS2 hi4 hf4
        go_wp2_with (fail)
        refine (Bd.ws_any Bd.okt_builder hS4.out.1 hS4.out.2.size [0] (by simp [encP] at hlen ⊢; omega)).mono ?_
        rintro e w6 ⟨rfl, hi6, hf6⟩
        have hS6 : Hid (Bd.IB 167 [] w.heap.size w.heap.size (keyL (ps.take (k + 1))) w6 ∧ Below w.heap.size w w6) := Lib.hid ⟨by rw [hts.out, show encP ⟨xt, 0, false⟩ = [2] ++ xt.data.toList ++ [0] from rfl, ← List.append_assoc, ← List.append_assoc]; exact BA_ib hi6, hS4.out.2.trans hf6.1⟩
        clear hi6 hf6 hS4 hS hbl
        go_wp2_with (fail)
        go_roundw
        case rel => exact ⟨k + 1, by omega, by go_num, hS6⟩
        case measure => simp [intOf]; omega
    · have hfin : keyL (ps.take k) = keyL ps := by rw [List.take_of_length_le (by omega)]
      rw [hfin] at hS
      clear hfin
      have hend := Lib.hid (Tryz.Builder_String_any _ _ _ wr (IB_kit hS.out.1) hS.out.2.size)
      have hB := Lib.hid hS.out.2
      clear hS
      go_wp2_with (fail)
      refine hend.out.mono ?_
      rintro e w2 ⟨rfl, hb2⟩
      go_wp2_with (fail)
      go_ret2
      exact ⟨rfl, hB.out.trans hb2⟩
end Go.Proofs.YtmchephokleffaaGreatDoor
/-
  Chapter 22: codec.text walked: the text with which a key's rest begins.
-/
set_option linter.unusedVariables false
set_option linter.unusedSimpArgs false
namespace Go.Proofs.YtmchephokleffaaGreatDoor
open Go.RowKit Go.Proofs.YtmchephokleffaaGreatDoorW.PrintWords Go.Proofs.YtmchephokleffaaGreatDoor.PRecord
/-- The text with which bytes begin (0 0xff is a byte 0 of it, a byte 0 alone ends it), and what is behind it. -/
def txt : List UInt8 → Option (List UInt8 × List UInt8)
  | [] => none
  | [c] => if c = 0 then some ([], []) else none
  | c :: d :: r => if c = 0 then if d = 255 then (txt r).map (fun p => (0 :: p.1, p.2)) else some ([], d :: r) else (txt (d :: r)).map (fun p => (c :: p.1, p.2))
theorem txt_other {c : UInt8} (h : c ≠ 0) (r : List UInt8) : txt (c :: r) = (txt r).map (fun p => (c :: p.1, p.2)) := by
  cases r with
  | nil => simp [txt, h]
  | cons d r => rw [txt, if_neg h]
theorem txt_esc (r : List UInt8) : txt (0 :: 255 :: r) = (txt r).map (fun p => (0 :: p.1, p.2)) := by simp [txt]
theorem txt_end (r : List UInt8) (h : Lib.hasPrefix (0 :: r) [0, 255] = false) : txt (0 :: r) = some ([], r) := by
  cases r with
  | nil => simp [txt]
  | cons d r =>
    have hd : d ≠ 255 := by
      rintro rfl
      simp [Lib.hasPrefix] at h
    simp [txt, hd]
theorem map_map {α : Type} (o : Option (List α × List α)) (f g : List α → List α) : (o.map (fun p => (f p.1, p.2))).map (fun p => (g p.1, p.2)) = o.map (fun p => (g (f p.1), p.2)) := by cases o <;> rfl
theorem txt_pre (p r : List UInt8) (h : p.all (fun c => c != 0) = true) : txt (p ++ r) = (txt r).map (fun q => (p ++ q.1, q.2)) := by
  induction p with
  | nil => rw [List.nil_append]; cases txt r <;> simp
  | cons c p ih =>
    simp only [List.all_cons, Bool.and_eq_true, bne_iff_ne] at h
    rw [List.cons_append, txt_other h.1, ih h.2]
    cases txt r <;> simp
theorem txt_none (p : List UInt8) (h : p.all (fun c => c != 0) = true) : txt p = none := by
  have h2 := txt_pre p [] h
  rw [List.append_nil] at h2
  rw [h2]
  rfl
theorem txt_len : ∀ (l : List UInt8) {t q : List UInt8}, txt l = some (t, q) → t.length + q.length < l.length
  | [], _, _, h => by simp [txt] at h
  | [c], t, q, h => by
    by_cases hc : c = 0
    · simp [txt, hc] at h
      rw [h.1, h.2]
      simp
    · simp [txt, hc] at h
  | c :: d :: r, t, q, h => by
    by_cases hc : c = 0
    · by_cases hd : d = 255
      · rw [txt, if_pos hc, if_pos hd] at h
        cases hr : txt r with
        | none => rw [hr] at h; simp at h
        | some p =>
          rw [hr] at h
          simp at h
          have := txt_len r (t := p.1) (q := p.2) (by rw [hr])
          rw [← h.1, ← h.2]
          simp
          omega
      · rw [txt, if_pos hc, if_neg hd] at h
        simp at h
        rw [h.1, ← h.2]
        simp
    · rw [txt, if_neg hc] at h
      cases hr : txt (d :: r) with
      | none => rw [hr] at h; simp at h
      | some p =>
        rw [hr] at h
        simp at h
        have := txt_len (d :: r) (t := p.1) (q := p.2) (by rw [hr])
        rw [← h.1, ← h.2]
        simp at this ⊢
        omega
/-- Where the byte 0 stands first. -/
theorem zero_at (l : List UInt8) : (Lib.indexByte l 0 = -1 ∧ l.all (fun c => c != 0) = true) ∨ ∃ p q, l = p ++ 0 :: q ∧ p.all (fun c => c != 0) = true ∧ Lib.indexByte l 0 = (p.length : Nat) := by
  induction l with
  | nil => exact .inl ⟨rfl, rfl⟩
  | cons c l ih =>
    by_cases hc : c = 0
    · subst hc
      exact .inr ⟨[], l, rfl, rfl, by simp [Lib.indexByte]⟩
    · have hc1 : (c == 0) = false := by simpa using hc
      rcases ih with ⟨h1, h2⟩ | ⟨p, q, rfl, h2, h3⟩
      · refine .inl ⟨by simp [Lib.indexByte, hc, h1], ?_⟩
        rw [List.all_cons, h2, Bool.and_true]
        simpa using hc
      · refine .inr ⟨c :: p, q, rfl, by rw [List.all_cons, h2, Bool.and_true]; simpa using hc, ?_⟩
        have h4 : ((p.length : Int) == -1) = false := by simp
        simp [Lib.indexByte, hc, h3, h4]
def txtV : Option (List UInt8 × List UInt8) → Value
  | none => .tuple #[.string ⟨#[]⟩, .string ⟨#[]⟩, .bool false]
  | some (t, q) => .tuple #[.string (Bd.B t), .string (Bd.B q), .bool true]
set_option maxHeartbeats 2000000 in
set_option maxRecDepth 100000 in
theorem text_any (l0 : List UInt8) (hl0 : l0.length ≤ 1000000000) (w : World) :
    Calls Tryz.prog 91 #[.string (Bd.B l0)] w fun e w' => e = .returned (txtV (txt l0)) ∧ Below w.heap.size w w' := by
  have hS0 : Hid (Bd.IB 167 [] w.heap.size w.heap.size [] (w.alloc (.cells #[.pointer none, .slice none 0 0] 167)) ∧ Below w.heap.size w (w.alloc (.cells #[.pointer none, .slice none 0 0] 167))) := Lib.hid ⟨fresh_ib w, (Below.refl _ _).alloc (Nat.le_refl _) _⟩
  go_enter Tryz.func91, Tryz.ntmps91
  go_wp2
  go_loopw [0] (fun s wr => ∃ t l : List UInt8, s = .string (Bd.B l) ∧ t.length + l.length ≤ 1000000000 ∧ Hid (txt l0 = (txt l).map (fun p => (t ++ p.1, p.2))) ∧ Hid (Bd.IB 167 [] w.heap.size w.heap.size t wr ∧ Below w.heap.size w wr)) (fun s _ => match s with | .string b => b.size | _ => 0)
  case atStart => exact ⟨[], l0, rfl, by simpa using hl0, Lib.hid (by cases txt l0 <;> rfl), hS0⟩
  case round =>
    rename World => wr
    obtain ⟨t, l, rfl, hlen, hT, hS⟩ := hrel
    clear hS0
    have hi := Tryz.strings_Index_one (Bd.B l) 0 wr
    rw [Bd.B_data] at hi
    rcases zero_at l with ⟨h1, h2⟩ | ⟨p, q, rfl, h2, h3⟩
    · rw [h1] at hi
      have hN : Hid (txt l0 = none) := Lib.hid (by rw [hT.out, txt_none l h2]; rfl)
      have hB := Lib.hid hS.out.2
      replace hi := Lib.hid hi
      clear h1 h2 hT hS
      go_wp2_with (fail)
      refine hi.out.mono ?_
      rintro e w2 ⟨rfl, rfl⟩
      go_wp2_with (fail)
      go_ret3
      exact ⟨by rw [hN.out]; rfl, hB.out⟩
    · rw [h3] at hi
      obtain ⟨s, hs⟩ : ∃ s, s = Bd.B (p ++ 0 :: q) := ⟨_, rfl⟩
      have e1 : s.extract 0 p.length = Bd.B p := by rw [hs, Bd.B_take]; simp
      have e2 : s.extract p.length s.size = Bd.B (0 :: q) := by rw [hs, Bd.B_drop]; simp
      have e3 : s.extract (p.length + 1) s.size = Bd.B q := by rw [hs, Bd.B_drop, ← List.drop_drop]; simp
      have e4 : s.extract (p.length + 2) s.size = Bd.B (q.drop 1) := by rw [hs, Bd.B_drop, ← List.drop_drop]; simp
      have hsz : s.size = p.length + 1 + q.length := by rw [hs, Bd.B_size]; simp; omega
      rw [← hs] at hi ⊢
      have hi := Lib.hid hi
      have hp := Tryz.strings_HasPrefix (Bd.B (0 :: q)) ⟨#[0, 255]⟩
      rw [Bd.B_data] at hp
      have hT2 : Hid (txt l0 = (txt (0 :: q)).map (fun u => (t ++ p ++ u.1, u.2))) := Lib.hid (by
        rw [hT.out, txt_pre p _ h2]
        cases txt (0 :: q) <;> simp)
      have hz1 : p.length ≤ s.size := by omega
      have hz2 : p.length + 1 ≤ s.size := by omega
      have hz3 : s.size ≤ 2000000000 := by simp at hlen; omega
      have hl2 : t.length + p.length + 1 + q.length ≤ 1000000000 := by simp at hlen; omega
      have hszH := Lib.hid hsz
      have he1 := Lib.hid e1
      have he2 := Lib.hid e2
      have he3 := Lib.hid e3
      have he4 := Lib.hid e4
      clear h2 h3 hT hs hsz hlen e1 e2 e3 e4
      go_wp2_with (fail)
      refine hi.out.mono ?_
      rintro e w2 ⟨rfl, rfl⟩
      clear hi
      have e1 := he1.out
      go_wp2_with (fail)
      clear e1
      refine (Bd.ws_any Bd.okt_builder hS.out.1 hS.out.2.size p (by omega)).mono ?_
      rintro e w3 ⟨rfl, hi3, hf3⟩
      have hS3 := Lib.hid (And.intro (BA_ib hi3) (hS.out.2.trans hf3.1))
      clear hS hi3 hf3
      have e2 := he2.out
      cases hpr : Lib.hasPrefix (0 :: q) [0, 255] with
      | false =>
        have hN : Hid (txt l0 = some (t ++ p, q)) := Lib.hid (by rw [hT2.out, txt_end q hpr]; simp)
        have hp := Lib.hid hp
        replace hpr := Lib.hid hpr
        clear hT2
        have hend : Hid (∀ W, Below w3.heap.size w3 W → Calls Tryz.prog 127 #[.pointer (some ⟨w.heap.size, 0, none⟩)] W fun e w' => e = .returned (.string (Bd.B (t ++ p))) ∧ Below w.heap.size w w') := Lib.hid (fun W h => (Tryz.Builder_String_any _ _ _ W (IB_kit (IB_below hS3.out.1 h)) (hS3.out.2.trans (h.mono hS3.out.2.size)).size).mono (fun e w' hx => ⟨hx.1, (hS3.out.2.trans (h.mono hS3.out.2.size)).trans hx.2⟩))
        clear hS3
        go_wp2_with (fail)
        refine (hp.out _).mono ?_
        rw [hpr.out]
        rintro e w4 ⟨rfl, rfl⟩
        clear hp e2 hpr
        have e3 := he3.out
        have hi5 : IntKind.i64.wrap ((p.length : Int) + 1) = (p.length : Int) + 1 := IntWalk.i64_in _ (by omega)
        have hi6 : ((p.length : Int) + 1).toNat = p.length + 1 := by omega
        have hi7 : (0 : Int) ≤ (p.length : Int) + 1 := by omega
        go_wp2_with (fail)
        go_region_with ((go_at_call 127; go_must (refine (hend.out _ (by first | exact Below.refl _ _ | exact Below.drew (Below.refl _ _))).mono ?_); rintro e w5 ⟨rfl, hb5⟩))
        all_goals
          go_wp2
          go_ret3
          exact ⟨by rw [hN.out]; rfl, hb5⟩
      | true =>
        obtain ⟨q2, rfl⟩ : ∃ q2, q = 255 :: q2 := by
          cases q with
          | nil => simp [Lib.hasPrefix] at hpr
          | cons d r =>
            have : d = 255 := by simp [Lib.hasPrefix] at hpr; exact hpr.symm
            exact ⟨r, by rw [this]⟩
        have hN : Hid (txt l0 = (txt q2).map (fun u => (t ++ p ++ [0] ++ u.1, u.2))) := Lib.hid (by
          rw [hT2.out, txt_esc]
          cases txt q2 <;> simp)
        have hp := Lib.hid hp
        replace hpr := Lib.hid hpr
        clear hT2
        go_wp2_with (fail)
        refine (hp.out _).mono ?_
        rw [hpr.out]
        rintro e w4 ⟨rfl, rfl⟩
        clear hp e2 hpr
        have e4 := he4.out
        rw [show List.drop 1 (255 :: q2) = q2 from rfl] at e4
        have hz4 : p.length + 2 ≤ s.size := by have := hszH.out; simp at this; omega
        go_wp2_with (fail)
        refine (Bd.ws_any Bd.okt_builder hS3.out.1 hS3.out.2.size [0] (by simp; omega)).mono ?_
        rintro e w5 ⟨rfl, hi5, hf5⟩
        have hS5 := Lib.hid (And.intro (BA_ib hi5) (hS3.out.2.trans hf5.1))
        clear hS3 hi5 hf5
        go_wp2_with (fail)
        go_roundw
        case rel => exact ⟨t ++ p ++ [0], q2, by first | rfl | rw [e4], by simp at hl2 ⊢; omega, hN, hS5⟩
        case measure => have := hszH.out; simp [Bd.B_size] at this ⊢; omega
end Go.Proofs.YtmchephokleffaaGreatDoor
/-
  Chapter 22: codec.Split walked: the parts of a key.
-/
set_option linter.unusedVariables false
set_option linter.unusedSimpArgs false
namespace Go.Proofs.YtmchephokleffaaGreatDoor
open Go.RowKit Go.Proofs.YtmchephokleffaaGreatDoorW.PrintWords Go.Proofs.YtmchephokleffaaGreatDoor.PRecord
/-- A key's parts, or why it has none (n: how many there are already). -/
def spl : Nat → Nat → List UInt8 → Except Int (List Pt)
  | _, _, [] => .ok []
  | 0, _, _ => .ok []
  | k + 1, n, c :: r => if n = 8 then .error 3 else if c = 1 then (if r.length < 8 then .error 20 else (spl k (n + 1) (r.drop 8)).map (⟨⟨#[]⟩, beN (r.take 8), true⟩ :: ·))
      else if c = 2 then (match txt r with | none => .error 20 | some (t, q) => (spl k (n + 1) q).map (⟨Bd.B t, 0, false⟩ :: ·)) else .error 21
def splitL (l : List UInt8) : Except Int (List Pt) := spl l.length 0 l
theorem spl_fuel : ∀ (k j n : Nat) (l : List UInt8), l.length ≤ k → l.length ≤ j → spl k n l = spl j n l
  | 0, j, n, l, h, _ => by
    obtain rfl : l = [] := List.eq_nil_of_length_eq_zero (by omega)
    cases j <;> rfl
  | k + 1, 0, n, l, _, h => by
    obtain rfl : l = [] := List.eq_nil_of_length_eq_zero (by omega)
    rfl
  | k + 1, j + 1, n, [], _, _ => rfl
  | k + 1, j + 1, n, c :: r, h, h2 => by
    simp only [List.length_cons] at h h2
    rw [spl, spl, spl_fuel k j (n + 1) (r.drop 8) (by simp; omega) (by simp; omega)]
    cases ht : txt r with
    | none => rfl
    | some p =>
      obtain ⟨t, q⟩ := p
      have := txt_len r ht
      simp only
      rw [spl_fuel k j (n + 1) q (by omega) (by omega)]
theorem map_ok {l : List Pt} {x : Except Int (List Pt)} {ps : List Pt} (h : x = .ok ps) : x.map (l ++ ·) = .ok (l ++ ps) := by rw [h]; rfl
theorem map_err {l : List Pt} {x : Except Int (List Pt)} {e : Int} (h : x = .error e) : x.map (l ++ ·) = .error e := by rw [h]; rfl
theorem map_cons (l : List Pt) (p : Pt) (x : Except Int (List Pt)) : (x.map (p :: ·)).map (l ++ ·) = x.map ((l ++ [p]) ++ ·) := by cases x <;> simp [Except.map]
theorem infoP : (Tryz.prog.info? 68).map (fun i => (i.zero, i.size, i.bytes)) = some (some (.agg #[.string ⟨#[]⟩, .int .u64 0, .bool false]), 3, 32) := by kernel_rfl
/-- The parts taken so far, a row of the call's own. -/
structure PR (w w' : World) (v : Value) (ps : List Pt) : Prop where
  row : Kd.R kP 68 w' w.heap.size (fun _ => True) v ps
  bel : Below w.heap.size w w'
theorem PR.next {w w' w2 : World} {v : Value} {ps : List Pt} (h : PR w w' v ps) (hb : Below w'.heap.size w' w2) : PR w w2 v ps := ⟨Kd.R_below h.row hb, h.bel.trans (hb.mono h.bel.size)⟩
def SplitP (l : List UInt8) (w : World) (e : Ending) (w' : World) : Prop := Below w.heap.size w w' ∧
  match splitL l with
  | .ok ps => ∃ A c, e = .returned (.tuple #[.slice A ps.length c, .int .i64 0]) ∧ ps.length ≤ c ∧ Kd.C kP w' A ps.length ps
  | .error x => e = .returned (.tuple #[.slice none 0 0, .int .i64 x])
theorem splitP_err {l : List UInt8} {w w' : World} {e : Ending} {x : Int} (h : splitL l = .error x) (he : e = .returned (.tuple #[.slice none 0 0, .int .i64 x])) (hb : Below w.heap.size w w') : SplitP l w e w' := ⟨hb, by rw [h]; exact he⟩
theorem splitP_ok {l : List UInt8} {w w' : World} {e : Ending} {ps : List Pt} {A : Option Addr} {c : Nat} (h : splitL l = .ok ps) (he : e = .returned (.tuple #[.slice A ps.length c, .int .i64 0])) (hc : ps.length ≤ c) (hC : Kd.C kP w' A ps.length ps) (hb : Below w.heap.size w w') : SplitP l w e w' := ⟨hb, by rw [h]; exact ⟨A, c, he, hc, hC⟩⟩
set_option maxHeartbeats 2000000 in
set_option maxRecDepth 100000 in
theorem err_rd {g : Nat} {s : ByteArray} {err : Int} {w : World} (h : CR w g s err) :
    Calls Tryz.prog 90 #[.pointer (some ⟨g, 0, none⟩)] w fun e w' => e = .returned (.int .i64 err) ∧ w = w' := by
  obtain ⟨hb⟩ := h
  have k1 := (blk_cell hb 1).trans rfl
  go_enter Tryz.func90, Tryz.ntmps90
  go_wp2
  go_ret
  exact ⟨rfl, rfl⟩
set_option maxHeartbeats 2000000 in
set_option maxRecDepth 100000 in
theorem split_any (l0 : List UInt8) (hl0 : l0.length ≤ 1000000000) (w : World) : Calls Tryz.prog 46 #[.string (Bd.B l0)] w (SplitP l0 w) := by
  have hS0 : Hid (PR w w (.slice none 0 0) []) := Lib.hid ⟨Kd.R_nil _ _ _ _ _, Below.refl _ _⟩
  go_enter Tryz.func46, Tryz.ntmps46
  go_wp2
  go_loopw [0, 4] (fun s v wr => ∃ (ps : List Pt) (l : List UInt8), s = .string (Bd.B l) ∧ l.length ≤ 1000000000 ∧ ps.length ≤ 8 ∧ Hid (splitL l0 = (spl l.length ps.length l).map (ps ++ ·)) ∧ Hid (PR w wr v ps)) (fun s _ _ => match s with | .string b => b.size | _ => 0)
  case atStart => exact ⟨[], l0, rfl, hl0, Nat.zero_le _, Lib.hid (by unfold splitL; cases spl l0.length 0 l0 <;> rfl), hS0⟩
  case round =>
    rename World => wr
    obtain ⟨ps, l, rfl, hl, hps, hT, hS⟩ := hrel
    clear hS0
    obtain ⟨A, c, rfl, hc, hC⟩ := Kd.R_reads hS.out.row
    replace hC := Lib.hid hC
    cases l with
    | nil =>
      have hN : Hid (splitL l0 = .ok ps) := Lib.hid (by rw [hT.out]; simp [spl, Except.map])
      have hB := Lib.hid hS.out.bel
      have hem : Bd.B [] = ⟨#[]⟩ := rfl
      rw [hem]
      clear hT hS
      go_wp2
      go_ret2
      exact splitP_ok hN.out rfl hc hC.out hB.out
    | cons m r =>
      obtain ⟨s, hs⟩ : ∃ s, s = Bd.B (m :: r) := ⟨_, rfl⟩
      have e1 : s.extract 1 s.size = Bd.B r := by rw [hs, Bd.B_drop]; rfl
      have hsz : s.size = r.length + 1 := by rw [hs, Bd.B_size]; rfl
      have hz0 : 0 < s.size := by omega
      have hz1 : 1 ≤ s.size := hz0
      have hne : s.toList.isEmpty = false := by rw [hs, Bd.B_toList]; rfl
      have hget : s[0]'hz0 = m := by subst hs; rw [Bd.B_get _ _ _ (by simp)]; rfl
      rw [← hs]
      have hszH := Lib.hid hsz
      have he1 := Lib.hid e1
      have hsH := Lib.hid hs
      clear hsz e1 hs
      by_cases h8 : ps.length = 8
      · have hN : Hid (splitL l0 = .error 3) := Lib.hid (by rw [hT.out]; simp [spl, h8, Except.map])
        have hB := Lib.hid hS.out.bel
        replace h8 := Lib.hid h8
        have b8 : ((ps.length : Int) == 8) = true := by rw [h8.out]; rfl
        clear hT hS
        go_wp2
        go_ret2
        exact splitP_err hN.out rfl hB.out
      · have b8 : ((ps.length : Int) == 8) = false := by simp; omega
        have hps8 : ps.length < 8 := by omega
        have hlr : r.length + 1 ≤ 1000000000 := hl
        have hspl : ∀ x, spl (m :: r).length ps.length (m :: r) = x → splitL l0 = x.map (ps ++ ·) := fun x h => by rw [hT.out, h]
        have hn8 : ¬ ps.length = 8 := h8
        by_cases hm1 : m = 1
        · have b1 : ((m.toNat : Int) == 1) = true := by rw [hm1]; rfl
          have e1 := he1.out
          by_cases hr8 : r.length < 8
          · have hN : Hid (splitL l0 = .error 20) := Lib.hid (by rw [hspl (.error 20) (by simp [spl, hn8, hm1, hr8])]; rfl)
            replace hm1 := Lib.hid hm1
            clear hT hspl hn8 h8
            go_wp2_with (fail)
            refine (newReader_any (Bd.B r) wr).mono ?_
            rintro e w2 ⟨rfl, hcr, hb2⟩
            have hu := U64_rd (show (Bd.B r).size ≤ maxLen by rw [Bd.B_size]; unfold maxLen; omega) hcr
            have er : rawR (Bd.B r) 0 8 = (⟨#[]⟩, Bd.B r, 20) := by unfold rawR; rw [if_neg (by simp), if_neg (by decide), if_pos (by rw [Bd.B_size]; omega)]
            rw [er] at hu
            have hB2 := Lib.hid (hS.out.bel.trans (hb2.mono hS.out.bel.size))
            have hle := hS.out.bel.size
            replace hu := Lib.hid hu
            clear er hcr hb2 hS e1
            go_wp2_with (fail)
            refine hu.out.mono ?_
            rintro e w3 ⟨rfl, hcr3, hb3⟩
            have hB3 := Lib.hid (hB2.out.trans (hb3.mono (by omega)))
            replace hcr3 := Lib.hid hcr3
            clear hu hB2 hb3
            go_wp2_with (fail)
            refine (err_rd hcr3.out).mono ?_
            rintro e w4 ⟨rfl, rfl⟩
            clear hcr3
            go_wp2
            go_ret2
            exact splitP_err hN.out rfl hB3.out
          · obtain ⟨x, hx⟩ : ∃ x, beN (r.take 8) = x := ⟨_, rfl⟩
            have hlen8 : (r.drop 8).length + 8 = r.length := by simp; omega
            have hT2 : Hid (splitL l0 = (spl (r.drop 8).length (ps ++ [(⟨⟨#[]⟩, x, true⟩ : Pt)]).length (r.drop 8)).map ((ps ++ [(⟨⟨#[]⟩, x, true⟩ : Pt)]) ++ ·)) := Lib.hid (by
              rw [hspl ((spl r.length (ps.length + 1) (r.drop 8)).map ((⟨⟨#[]⟩, x, true⟩ : Pt) :: ·)) (by simp [spl, hn8, hm1, hr8, hx]), map_cons, spl_fuel r.length (r.drop 8).length _ _ (by omega) (Nat.le_refl _), List.length_append]
              rfl)
            have e5 : (Bd.B r).extract 8 (Bd.B r).size = Bd.B (r.drop 8) := Bd.B_drop r 8
            have hzb : 8 ≤ (Bd.B r).size := by rw [Bd.B_size]; omega
            replace hm1 := Lib.hid hm1
            replace hx := Lib.hid hx
            clear hT hspl hn8 h8
            go_wp2_with (fail)
            refine (newReader_any (Bd.B r) wr).mono ?_
            rintro e w2 ⟨rfl, hcr, hb2⟩
            have hu := U64_at (show (Bd.B r).size ≤ maxLen by rw [Bd.B_size]; unfold maxLen; omega) hcr hzb x (by rw [Bd.B_data]; exact hx.out)
            have hb2H := Lib.hid hb2
            replace hu := Lib.hid hu
            clear hcr hb2 e1
            go_wp2_with (fail)
            refine hu.out.mono ?_
            rintro e w3 ⟨rfl, hcr3, hb3⟩
            have hP := Lib.hid (hS.out.next (hb2H.out.trans hb3))
            replace hcr3 := Lib.hid hcr3
            clear hu hb2H hb3 hS
            go_wp2_with (fail)
            refine (err_rd hcr3.out).mono ?_
            rintro e w4 ⟨rfl, rfl⟩
            clear hcr3
            go_wp2_with (first | ((with_reducible refine gate_builtin (b := .append) (xs := #[.tmp 30, .tmp 33]) rfl ?_); at_builtin; go_must (refine Kd.R_append kP (w0 := w) w.heap.size rfl (.tmp 30) (.tmp 33) 70 68 (.agg #[.string ⟨#[]⟩, .int .u64 0, .bool false]) 32 rfl Tryz.underlying70 infoP rfl (by decide) (by omega) _ ps (⟨⟨#[]⟩, x, true⟩ : Pt) [.string ⟨#[]⟩, .int .u64 (x : Int), .bool true] (fun _ => True) (fun _ => False) rfl rfl (kP_mkM _ _ _ _) (fun _ hk => hk.elim) (fun _ _ => trivial) hP.out.row hP.out.bel hP.out.bel.size (by omega) ?_; intro v1 w12 ho hbb hg hat; have hP2 := Lib.hid (PR.mk ho hbb); clear ho hbb hg hat hP)))
            go_roundw
            case rel => exact ⟨ps ++ [(⟨⟨#[]⟩, x, true⟩ : Pt)], r.drop 8, by first | rfl | rw [e5], by omega, by simp; omega, hT2, hP2⟩
            case measure => have := hszH.out; simp [Bd.B_size] at this ⊢; omega
        · have b1 : ((m.toNat : Int) == 1) = false := by
            have : m.toNat ≠ 1 := fun h => hm1 (UInt8.toNat_inj.mp (by rw [h]; rfl))
            simp; omega
          have e1 := he1.out
          by_cases hm2 : m = 2
          · have b2 : ((m.toNat : Int) == 2) = true := by rw [hm2]; rfl
            have ht := Lib.hid (text_any r (by omega))
            cases htx : txt r with
            | none =>
              rw [htx] at ht
              have hN : Hid (splitL l0 = .error 20) := Lib.hid (by rw [hspl (.error 20) (by simp [spl, hn8, hm2, htx])]; rfl)
              have hB := Lib.hid hS.out.bel
              replace hm2 := Lib.hid hm2
              replace htx := Lib.hid htx
              clear hT hspl hn8 h8 hS hm1
              go_wp2_with (fail)
              refine (ht.out _).mono ?_
              rintro e w2 ⟨rfl, hb2⟩
              rw [show txtV none = .tuple #[.string ⟨#[]⟩, .string ⟨#[]⟩, .bool false] from rfl]
              go_wp2
              go_ret2
              exact splitP_err hN.out rfl (hB.out.trans (hb2.mono hB.out.size))
            | some p =>
              obtain ⟨t, q⟩ := p
              rw [htx] at ht
              have htl := txt_len r htx
              have hT2 : Hid (splitL l0 = (spl q.length (ps ++ [(⟨Bd.B t, 0, false⟩ : Pt)]).length q).map ((ps ++ [(⟨Bd.B t, 0, false⟩ : Pt)]) ++ ·)) := Lib.hid (by
                rw [hspl ((spl r.length (ps.length + 1) q).map ((⟨Bd.B t, 0, false⟩ : Pt) :: ·)) (by simp [spl, hn8, hm2, htx]), map_cons, spl_fuel r.length q.length _ _ (by omega) (Nat.le_refl _), List.length_append]
                rfl)
              replace hm2 := Lib.hid hm2
              replace htx := Lib.hid htx
              clear hT hspl hn8 h8 hm1
              go_wp2_with (fail)
              refine (ht.out _).mono ?_
              rintro e w2 ⟨rfl, hb2⟩
              rw [show txtV (some (t, q)) = .tuple #[.string (Bd.B t), .string (Bd.B q), .bool true] from rfl]
              have hP := Lib.hid (hS.out.next hb2)
              clear hb2 hS ht
              go_wp2_with (first | ((with_reducible refine gate_builtin (b := .append) (xs := #[.tmp 47, .tmp 50]) rfl ?_); at_builtin; go_must (refine Kd.R_append kP (w0 := w) w.heap.size rfl (.tmp 47) (.tmp 50) 70 68 (.agg #[.string ⟨#[]⟩, .int .u64 0, .bool false]) 32 rfl Tryz.underlying70 infoP rfl (by decide) (by omega) _ ps (⟨Bd.B t, 0, false⟩ : Pt) [.string (Bd.B t), .int .u64 0, .bool false] (fun _ => True) (fun _ => False) rfl rfl (kP_mkM _ _ _ _) (fun _ hk => hk.elim) (fun _ _ => trivial) hP.out.row hP.out.bel hP.out.bel.size (by omega) ?_; intro v1 w12 ho hbb hg hat; have hP2 := Lib.hid (PR.mk ho hbb); clear ho hbb hg hat hP)))
              go_roundw
              case rel => exact ⟨ps ++ [(⟨Bd.B t, 0, false⟩ : Pt)], q, rfl, by omega, by simp; omega, hT2, hP2⟩
              case measure => have := hszH.out; simp [Bd.B_size] at this ⊢; omega
          · have b2 : ((m.toNat : Int) == 2) = false := by
              have : m.toNat ≠ 2 := fun h => hm2 (UInt8.toNat_inj.mp (by rw [h]; rfl))
              simp; omega
            have hN : Hid (splitL l0 = .error 21) := Lib.hid (by rw [hspl (.error 21) (by simp [spl, hn8, hm1, hm2])]; rfl)
            have hB := Lib.hid hS.out.bel
            clear hT hspl hn8 h8 hS hm1 hm2
            go_wp2
            go_ret2
            exact splitP_err hN.out rfl hB.out
end Go.Proofs.YtmchephokleffaaGreatDoor
