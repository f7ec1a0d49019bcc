/-
  Chapter 28: Unquote, walked; the law ScriptQuotes.
-/
import Derived.Test.YtigcgpbdifihoaaDoorNv
import Derived.Test.YtigcgpbdifihoaaDoorNl
set_option linter.unusedVariables false
set_option linter.unusedSimpArgs false
namespace Go.Proofs.YtigcgpbdifihoaaDoor
open Go.RowKit Go.Proofs.YtigcgpbdifihoaaDoorW.PrintWords Go.Proofs.YtigcgpbdifihoaaDoor.PScriptQuotes Go.Proofs.YtigcgpbdifihoaaDoor.Hd
set_option maxHeartbeats 1000000 in
set_option maxRecDepth 100000 in
theorem unquote_any (s : List UInt8) (hs : s.length < 100000000) (o : Option (List UInt8)) (ho : UQ s o) (w : World) :
    Calls Tryd.prog 13 #[.string (B s)] w fun e w' => e = .returned (.tuple #[.string (B (o.getD [])), .bool o.isSome]) ∧ Below w.heap.size w w' := by
  have hT : Calls Tryd.prog 28 #[.string (B s)] w fun e w' => ((e = .returned (.tuple #[.string ⟨#[]⟩, .string (B s), .bool false]) ∧ o = none) ∨ (∃ b, e = .returned (.tuple #[.string (B b), .string ⟨#[]⟩, .bool true]) ∧ o = some b) ∨ (∃ b c r, e = .returned (.tuple #[.string (B b), .string (B (c :: r)), .bool true]) ∧ o = none)) ∧ Below w.heap.size w w' := by
    refine (take_any s hs w).mono fun e w' ⟨p, hp, he, hb⟩ => ⟨?_, hb⟩
    rcases p with _ | ⟨b, _ | ⟨c, r⟩⟩
    · exact Or.inl ⟨he, ho.one (uq_none (not_qd hp))⟩
    · have e1 : s = quoteL b := by rw [show s = quoteL b ++ [] from hp, List.append_nil]
      exact Or.inr (Or.inl ⟨b, he, ho.2 b e1⟩)
    · refine Or.inr (Or.inr ⟨b, c, r, he, ho.one (uq_none ?_)⟩)
      rintro ⟨b2, e2⟩
      have := (quote_inj (a := b2) (b := b) (r := c :: r) (by rw [← e2]; exact hp)).2
      cases this
  replace hT := Lib.hid hT
  have k0 : ((⟨#[]⟩ : ByteArray).toList != ([] : List UInt8)) = false := by rw [show (⟨#[]⟩ : ByteArray) = B [] from rfl, B_toList]; rfl
  have k4 : (⟨#[]⟩ : ByteArray).toList.isEmpty = true := by rw [show (⟨#[]⟩ : ByteArray) = B [] from rfl, B_toList]; rfl
  have k1 : ∀ c r, ((B (c :: r)).toList != ([] : List UInt8)) = true := fun c r => by rw [B_toList]; rfl
  have k2 : ∀ c r, (!(B (c :: r)).toList.isEmpty) = true := fun c r => by rw [B_toList]; rfl
  have k3 : ∀ c r, (B (c :: r)).toList.isEmpty = false := fun c r => by rw [B_toList]; rfl
  go_enter Tryd.func13, Tryd.ntmps13
  go_wp2_with (first | (go_at_call 28; go_must (refine hT.out.mono ?_; rintro e w1 ⟨⟨rfl, ho2⟩ | ⟨b, rfl, ho2⟩ | ⟨b, c, r, rfl, ho2⟩, hb1⟩ <;> replace ho2 := Lib.hid ho2)))
  all_goals go_ret2
  all_goals exact ⟨by rw [ho2.out]; rfl, hb1⟩
theorem rquote_any (s : List UInt8) (hl : s.length < 1000000000) (w : World) : Calls Tryd.prog 15 #[.string (B s)] w fun e w' => e = .returned (.string (B (quoteL s))) ∧ Below w.heap.size w w' := by
  have := atriumref28_Quote.calls _ (B s) _ w (rquote_f s hl (2 * s.length + 1) (Nat.le_refl _))
  exact this
theorem runquote_any (s : List UInt8) (hl : s.length < 10000000) (w : World) : ∃ o, UQ s o ∧ Calls Tryd.prog 14 #[.string (B s)] w fun e w' => e = .returned (.tuple #[.string (B (o.getD [])), .bool o.isSome]) ∧ Below w.heap.size w w' := by
  obtain ⟨o, h1, h2⟩ := un_f s hl _ (Nat.le_refl _)
  exact ⟨o, h2, atriumref28_Unquote.calls _ (B s) _ _ w h1⟩
theorem quB_pos (c : UInt8) : 1 ≤ (quB c).length := by
  unfold quB
  split
  · simp
  · split <;> simp
theorem quB_ge : ∀ l : List UInt8, l.length ≤ (l.flatMap quB).length
  | [] => by simp
  | c :: r => by
    have h1 := quB_ge r
    have h2 := quB_pos c
    rw [List.flatMap_cons, List.length_append, List.length_cons]
    omega
theorem quote_ge (l : List UInt8) : l.length ≤ (quoteL l).length := by
  have := quB_ge l
  rw [quoteL, List.length_append, List.length_cons, List.length_singleton]
  omega
set_option maxHeartbeats 1000000 in
set_option maxRecDepth 100000 in
theorem quotes_walk (W : World) (ht : Tab W) (a0 : ByteArray) (z0 : a0.size ≤ 1048576) : Calls Tryd.prog 6 #[.string a0] W fun e w' => e = .returned (.bool true) ∧ Below W.heap.size W w' := by
  obtain ⟨s, rfl⟩ : ∃ s, a0 = B s := ⟨_, (of_data a0).symm⟩
  rw [B_size] at z0
  have hql := quote_len s
  obtain ⟨o, ho, hR0⟩ := runquote_any s (by omega) W
  have hA := Lib.hid (fun w (hb : Below W.heap.size W w) => (awake_any w (ht.below hb)).mono fun e w' h => And.intro h.1 (hb.trans (h.2.mono hb.size)))
  have hQ := Lib.hid (fun w (hb : Below W.heap.size W w) => (quote_any s (by omega) w).mono fun e w' h => And.intro h.1 (hb.trans (h.2.mono hb.size)))
  have hRQ := Lib.hid (fun w (hb : Below W.heap.size W w) => (rquote_any s (by omega) w).mono fun e w' h => And.intro h.1 (hb.trans (h.2.mono hb.size)))
  have hU1 := Lib.hid (fun w (hb : Below W.heap.size W w) => (unquote_any (quoteL s) (by omega) (some s) ⟨fun b hb => by cases hb; rfl, fun b hb => congrArg some (quote_inj (r := []) (by rw [hb, List.append_nil])).1⟩ w).mono fun e w' h => And.intro (show e = .returned (.tuple #[.string (B s), .bool true]) from h.1) (hb.trans (h.2.mono hb.size)))
  have hU2 := Lib.hid (fun w (hb : Below W.heap.size W w) => (unquote_any s (by omega) o ho w).mono fun e w' h => And.intro h.1 (hb.trans (h.2.mono hb.size)))
  have hRU := Lib.hid (fun w (hb : Below W.heap.size W w) => by
    obtain ⟨o2, ho2, hR⟩ := runquote_any s (by omega) w
    rw [← ho.one ho2] at hR
    exact hR.mono fun e w' h => And.intro h.1 (hb.trans (h.2.mono hb.size)))
  have k1 : ((B (quoteL s)).toList == (B (quoteL s)).toList) = true := beq_self_eq_true _
  have k2 : ((B s).toList == (B s).toList) = true := beq_self_eq_true _
  have k3 : ((B []).toList == (B []).toList) = true := beq_self_eq_true _
  cases o with
  | none =>
    clear hR0 ho
    simp only [Option.getD_none, Option.isSome_none] at hU2 hRU
    go_enter Tryd.func6, Tryd.ntmps6
    go_wp2_with (first  | (go_at_call 12; go_must ((with_reducible refine (hQ.out _ (by first | exact Below.refl _ _ | exact hb.out)).mono ?_); rintro e w1 ⟨rfl, hb1⟩; (try clear hb); have hb := Lib.hid hb1; clear hb1))  | (go_at_call 13; go_must ((first | (with_reducible refine (hU1.out _ hb.out).mono ?_) | (with_reducible refine (hU2.out _ hb.out).mono ?_)); rintro e w1 ⟨rfl, hb1⟩; replace hb := Lib.hid hb1; clear hb1))  | (go_at_call 14; go_must ((with_reducible refine (hRU.out _ hb.out).mono ?_); rintro e w1 ⟨rfl, hb1⟩; replace hb := Lib.hid hb1; clear hb1))  | (go_at_call 15; go_must ((with_reducible refine (hRQ.out _ hb.out).mono ?_); rintro e w1 ⟨rfl, hb1⟩; replace hb := Lib.hid hb1; clear hb1))  | (go_at_call 8; go_must ((with_reducible refine (hA.out _ hb.out).mono ?_); rintro e w1 ⟨rfl, hb1⟩; replace hb := Lib.hid hb1; clear hb1)))
    go_ret
    exact ⟨rfl, hb.out⟩
  | some b =>
    have hb0 : quoteL b = s := ho.1 b rfl
    have hQb := Lib.hid (fun w (hb : Below W.heap.size W w) => (quote_any b (by have := congrArg List.length hb0; have := quote_ge b; omega) w).mono fun e w' h => And.intro (show e = .returned (.string (B s)) by rw [h.1, hb0]) (hb.trans (h.2.mono hb.size)))
    clear hR0 ho hb0
    have k4 : ((B b).toList == (B b).toList) = true := beq_self_eq_true _
    simp only [Option.getD_some, Option.isSome_some] at hU2 hRU
    go_enter Tryd.func6, Tryd.ntmps6
    go_wp2_with (first  | (go_at_call 12; go_must ((first | (with_reducible refine (hQ.out _ (by first | exact Below.refl _ _ | exact hb.out)).mono ?_) | (with_reducible refine (hQb.out _ hb.out).mono ?_)); rintro e w1 ⟨rfl, hb1⟩; (try clear hb); have hb := Lib.hid hb1; clear hb1))  | (go_at_call 13; go_must ((first | (with_reducible refine (hU1.out _ hb.out).mono ?_) | (with_reducible refine (hU2.out _ hb.out).mono ?_)); rintro e w1 ⟨rfl, hb1⟩; replace hb := Lib.hid hb1; clear hb1))  | (go_at_call 14; go_must ((with_reducible refine (hRU.out _ hb.out).mono ?_); rintro e w1 ⟨rfl, hb1⟩; replace hb := Lib.hid hb1; clear hb1))  | (go_at_call 15; go_must ((with_reducible refine (hRQ.out _ hb.out).mono ?_); rintro e w1 ⟨rfl, hb1⟩; replace hb := Lib.hid hb1; clear hb1))  | (go_at_call 8; go_must ((with_reducible refine (hA.out _ hb.out).mono ?_); rintro e w1 ⟨rfl, hb1⟩; replace hb := Lib.hid hb1; clear hb1)))
    go_ret
    exact ⟨rfl, hb.out⟩
end Go.Proofs.YtigcgpbdifihoaaDoor
