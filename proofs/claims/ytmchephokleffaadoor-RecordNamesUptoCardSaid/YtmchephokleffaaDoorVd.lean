/-
  Chapter 22: codec.text walked: the text with which a key's rest begins.
-/
import Derived.Test.YtmchephokleffaaDoorVc
import Derived.IntWalk
import Derived.Deep.RegionHeld3
set_option linter.unusedVariables false
set_option linter.unusedSimpArgs false
namespace Go.Proofs.YtmchephokleffaaDoor
open Go.RowKit Go.Proofs.YtmchephokleffaaDoorW.PrintWords Go.Proofs.YtmchephokleffaaDoor.PRecord
/-- The text with which bytes begin (0 0xff is a byte 0 of it, a byte 0 alone ends it), and what is behind it. -/
def txt : List UInt8 → Option (List UInt8 × List UInt8)
  | [] => none
  | [c] => if c = 0 then some ([], []) else none
  | c :: d :: r => if c = 0 then if d = 255 then (txt r).map (fun p => (0 :: p.1, p.2)) else some ([], d :: r) else (txt (d :: r)).map (fun p => (c :: p.1, p.2))
theorem txt_other {c : UInt8} (h : c ≠ 0) (r : List UInt8) : txt (c :: r) = (txt r).map (fun p => (c :: p.1, p.2)) := by
  cases r with
  | nil => simp [txt, h]
  | cons d r => rw [txt, if_neg h]
theorem txt_esc (r : List UInt8) : txt (0 :: 255 :: r) = (txt r).map (fun p => (0 :: p.1, p.2)) := by simp [txt]
theorem txt_end (r : List UInt8) (h : Lib.hasPrefix (0 :: r) [0, 255] = false) : txt (0 :: r) = some ([], r) := by
  cases r with
  | nil => simp [txt]
  | cons d r =>
    have hd : d ≠ 255 := by
      rintro rfl
      simp [Lib.hasPrefix] at h
    simp [txt, hd]
theorem map_map {α : Type} (o : Option (List α × List α)) (f g : List α → List α) : (o.map (fun p => (f p.1, p.2))).map (fun p => (g p.1, p.2)) = o.map (fun p => (g (f p.1), p.2)) := by cases o <;> rfl
theorem txt_pre (p r : List UInt8) (h : p.all (fun c => c != 0) = true) : txt (p ++ r) = (txt r).map (fun q => (p ++ q.1, q.2)) := by
  induction p with
  | nil => rw [List.nil_append]; cases txt r <;> simp
  | cons c p ih =>
    simp only [List.all_cons, Bool.and_eq_true, bne_iff_ne] at h
    rw [List.cons_append, txt_other h.1, ih h.2]
    cases txt r <;> simp
theorem txt_none (p : List UInt8) (h : p.all (fun c => c != 0) = true) : txt p = none := by
  have h2 := txt_pre p [] h
  rw [List.append_nil] at h2
  rw [h2]
  rfl
theorem txt_len : ∀ (l : List UInt8) {t q : List UInt8}, txt l = some (t, q) → t.length + q.length < l.length
  | [], _, _, h => by simp [txt] at h
  | [c], t, q, h => by
    by_cases hc : c = 0
    · simp [txt, hc] at h
      rw [h.1, h.2]
      simp
    · simp [txt, hc] at h
  | c :: d :: r, t, q, h => by
    by_cases hc : c = 0
    · by_cases hd : d = 255
      · rw [txt, if_pos hc, if_pos hd] at h
        cases hr : txt r with
        | none => rw [hr] at h; simp at h
        | some p =>
          rw [hr] at h
          simp at h
          have := txt_len r (t := p.1) (q := p.2) (by rw [hr])
          rw [← h.1, ← h.2]
          simp
          omega
      · rw [txt, if_pos hc, if_neg hd] at h
        simp at h
        rw [h.1, ← h.2]
        simp
    · rw [txt, if_neg hc] at h
      cases hr : txt (d :: r) with
      | none => rw [hr] at h; simp at h
      | some p =>
        rw [hr] at h
        simp at h
        have := txt_len (d :: r) (t := p.1) (q := p.2) (by rw [hr])
        rw [← h.1, ← h.2]
        simp at this ⊢
        omega
/-- Where the byte 0 stands first. -/
theorem zero_at (l : List UInt8) : (Lib.indexByte l 0 = -1 ∧ l.all (fun c => c != 0) = true) ∨ ∃ p q, l = p ++ 0 :: q ∧ p.all (fun c => c != 0) = true ∧ Lib.indexByte l 0 = (p.length : Nat) := by
  induction l with
  | nil => exact .inl ⟨rfl, rfl⟩
  | cons c l ih =>
    by_cases hc : c = 0
    · subst hc
      exact .inr ⟨[], l, rfl, rfl, by simp [Lib.indexByte]⟩
    · have hc1 : (c == 0) = false := by simpa using hc
      rcases ih with ⟨h1, h2⟩ | ⟨p, q, rfl, h2, h3⟩
      · refine .inl ⟨by simp [Lib.indexByte, hc, h1], ?_⟩
        rw [List.all_cons, h2, Bool.and_true]
        simpa using hc
      · refine .inr ⟨c :: p, q, rfl, by rw [List.all_cons, h2, Bool.and_true]; simpa using hc, ?_⟩
        have h4 : ((p.length : Int) == -1) = false := by simp
        simp [Lib.indexByte, hc, h3, h4]
def txtV : Option (List UInt8 × List UInt8) → Value
  | none => .tuple #[.string ⟨#[]⟩, .string ⟨#[]⟩, .bool false]
  | some (t, q) => .tuple #[.string (Bd.B t), .string (Bd.B q), .bool true]
set_option maxHeartbeats 2000000 in
set_option maxRecDepth 100000 in
theorem text_any (l0 : List UInt8) (hl0 : l0.length ≤ 1000000000) (w : World) :
    Calls Tryd.prog 52 #[.string (Bd.B l0)] w fun e w' => e = .returned (txtV (txt l0)) ∧ Below w.heap.size w w' := by
  have hS0 : Hid (Bd.IB 99 [] w.heap.size w.heap.size [] (w.alloc (.cells #[.pointer none, .slice none 0 0] 99)) ∧ Below w.heap.size w (w.alloc (.cells #[.pointer none, .slice none 0 0] 99))) := Lib.hid ⟨fresh_ib w, (Below.refl _ _).alloc (Nat.le_refl _) _⟩
  go_enter Tryd.func52, Tryd.ntmps52
  go_wp2
  go_loopw [0] (fun s wr => ∃ t l : List UInt8, s = .string (Bd.B l) ∧ t.length + l.length ≤ 1000000000 ∧ Hid (txt l0 = (txt l).map (fun p => (t ++ p.1, p.2))) ∧ Hid (Bd.IB 99 [] w.heap.size w.heap.size t wr ∧ Below w.heap.size w wr)) (fun s _ => match s with | .string b => b.size | _ => 0)
  case atStart => exact ⟨[], l0, rfl, by simpa using hl0, Lib.hid (by cases txt l0 <;> rfl), hS0⟩
  case round =>
    rename World => wr
    obtain ⟨t, l, rfl, hlen, hT, hS⟩ := hrel
    clear hS0
    have hi := Tryd.strings_Index_one (Bd.B l) 0 wr
    rw [Bd.B_data] at hi
    rcases zero_at l with ⟨h1, h2⟩ | ⟨p, q, rfl, h2, h3⟩
    · rw [h1] at hi
      have hN : Hid (txt l0 = none) := Lib.hid (by rw [hT.out, txt_none l h2]; rfl)
      have hB := Lib.hid hS.out.2
      replace hi := Lib.hid hi
      clear h1 h2 hT hS
      go_wp2_with (fail)
      refine hi.out.mono ?_
      rintro e w2 ⟨rfl, rfl⟩
      go_wp2_with (fail)
      go_ret3
      exact ⟨by rw [hN.out]; rfl, hB.out⟩
    · rw [h3] at hi
      obtain ⟨s, hs⟩ : ∃ s, s = Bd.B (p ++ 0 :: q) := ⟨_, rfl⟩
      have e1 : s.extract 0 p.length = Bd.B p := by rw [hs, Bd.B_take]; simp
      have e2 : s.extract p.length s.size = Bd.B (0 :: q) := by rw [hs, Bd.B_drop]; simp
      have e3 : s.extract (p.length + 1) s.size = Bd.B q := by rw [hs, Bd.B_drop, ← List.drop_drop]; simp
      have e4 : s.extract (p.length + 2) s.size = Bd.B (q.drop 1) := by rw [hs, Bd.B_drop, ← List.drop_drop]; simp
      have hsz : s.size = p.length + 1 + q.length := by rw [hs, Bd.B_size]; simp; omega
      rw [← hs] at hi ⊢
      have hi := Lib.hid hi
      have hp := Tryd.strings_HasPrefix (Bd.B (0 :: q)) ⟨#[0, 255]⟩
      rw [Bd.B_data] at hp
      have hT2 : Hid (txt l0 = (txt (0 :: q)).map (fun u => (t ++ p ++ u.1, u.2))) := Lib.hid (by
        rw [hT.out, txt_pre p _ h2]
        cases txt (0 :: q) <;> simp)
      have hz1 : p.length ≤ s.size := by omega
      have hz2 : p.length + 1 ≤ s.size := by omega
      have hz3 : s.size ≤ 2000000000 := by simp at hlen; omega
      have hl2 : t.length + p.length + 1 + q.length ≤ 1000000000 := by simp at hlen; omega
      have hszH := Lib.hid hsz
      have he1 := Lib.hid e1
      have he2 := Lib.hid e2
      have he3 := Lib.hid e3
      have he4 := Lib.hid e4
      clear h2 h3 hT hs hsz hlen e1 e2 e3 e4
      go_wp2_with (fail)
      refine hi.out.mono ?_
      rintro e w2 ⟨rfl, rfl⟩
      clear hi
      have e1 := he1.out
      go_wp2_with (fail)
      clear e1
      refine (Bd.ws_any Bd.okt_builder hS.out.1 hS.out.2.size p (by omega)).mono ?_
      rintro e w3 ⟨rfl, hi3, hf3⟩
      have hS3 := Lib.hid (And.intro (BA_ib hi3) (hS.out.2.trans hf3.1))
      clear hS hi3 hf3
      have e2 := he2.out
      cases hpr : Lib.hasPrefix (0 :: q) [0, 255] with
      | false =>
        have hN : Hid (txt l0 = some (t ++ p, q)) := Lib.hid (by rw [hT2.out, txt_end q hpr]; simp)
        have hp := Lib.hid hp
        replace hpr := Lib.hid hpr
        clear hT2
        have hend : Hid (∀ W, Below w3.heap.size w3 W → Calls Tryd.prog 71 #[.pointer (some ⟨w.heap.size, 0, none⟩)] W fun e w' => e = .returned (.string (Bd.B (t ++ p))) ∧ Below w.heap.size w w') := Lib.hid (fun W h => (Tryd.Builder_String_any _ _ _ W (IB_kit (IB_below hS3.out.1 h)) (hS3.out.2.trans (h.mono hS3.out.2.size)).size).mono (fun e w' hx => ⟨hx.1, (hS3.out.2.trans (h.mono hS3.out.2.size)).trans hx.2⟩))
        clear hS3
        go_wp2_with (fail)
        refine (hp.out _).mono ?_
        rw [hpr.out]
        rintro e w4 ⟨rfl, rfl⟩
        clear hp e2 hpr
        have e3 := he3.out
        have hi5 : IntKind.i64.wrap ((p.length : Int) + 1) = (p.length : Int) + 1 := IntWalk.i64_in _ (by omega)
        have hi6 : ((p.length : Int) + 1).toNat = p.length + 1 := by omega
        have hi7 : (0 : Int) ≤ (p.length : Int) + 1 := by omega
        go_wp2_with (fail)
        go_region_with ((go_at_call 71; go_must (refine (hend.out _ (by first | exact Below.refl _ _ | exact Below.drew (Below.refl _ _))).mono ?_); rintro e w5 ⟨rfl, hb5⟩))
        all_goals
          go_wp2
          go_ret3
          exact ⟨by rw [hN.out]; rfl, hb5⟩
      | true =>
        obtain ⟨q2, rfl⟩ : ∃ q2, q = 255 :: q2 := by
          cases q with
          | nil => simp [Lib.hasPrefix] at hpr
          | cons d r =>
            have : d = 255 := by simp [Lib.hasPrefix] at hpr; exact hpr.symm
            exact ⟨r, by rw [this]⟩
        have hN : Hid (txt l0 = (txt q2).map (fun u => (t ++ p ++ [0] ++ u.1, u.2))) := Lib.hid (by
          rw [hT2.out, txt_esc]
          cases txt q2 <;> simp)
        have hp := Lib.hid hp
        replace hpr := Lib.hid hpr
        clear hT2
        go_wp2_with (fail)
        refine (hp.out _).mono ?_
        rw [hpr.out]
        rintro e w4 ⟨rfl, rfl⟩
        clear hp e2 hpr
        have e4 := he4.out
        rw [show List.drop 1 (255 :: q2) = q2 from rfl] at e4
        have hz4 : p.length + 2 ≤ s.size := by have := hszH.out; simp at this; omega
        go_wp2_with (fail)
        refine (Bd.ws_any Bd.okt_builder hS3.out.1 hS3.out.2.size [0] (by simp; omega)).mono ?_
        rintro e w5 ⟨rfl, hi5, hf5⟩
        have hS5 := Lib.hid (And.intro (BA_ib hi5) (hS3.out.2.trans hf5.1))
        clear hS3 hi5 hf5
        go_wp2_with (fail)
        go_roundw
        case rel => exact ⟨t ++ p ++ [0], q2, by first | rfl | rw [e4], by simp at hl2 ⊢; omega, hN, hS5⟩
        case measure => have := hszH.out; simp [Bd.B_size] at this ⊢; omega
end Go.Proofs.YtmchephokleffaaDoor
