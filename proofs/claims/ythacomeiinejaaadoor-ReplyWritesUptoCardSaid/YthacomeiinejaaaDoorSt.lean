/-
  Chapter 18: the reader's two small steps, walked: take and must.
-/
import Derived.Test.YthacomeiinejaaaDoorSp
import Derived.Test.YthacomeiinejaaaDoorShelf
import Derived.Test.YthacomeiinejaaaDoorQ1
set_option linter.unusedVariables false
set_option linter.unusedSimpArgs false
namespace Go.Proofs.YthacomeiinejaaaDoor
open Go.RowKit Go.Proofs.YthacomeiinejaaaDoorW.PrintWords Go.Proofs.YthacomeiinejaaaDoor.PReplyWrites
def B (l : List UInt8) : ByteArray := ⟨l.toArray⟩
theorem B_size (l : List UInt8) : (B l).size = l.length := by simp [B, ByteArray.size]
theorem B_data (l : List UInt8) : (B l).data.toList = l := by simp [B]
theorem B_toList (l : List UInt8) : (B l).toList = l := by rw [ByteArray.toList_eq, B_data]
theorem of_data (s : ByteArray) : B s.data.toList = s := by simp [B]
theorem B_ext (l : List UInt8) (m n : Nat) : (B l).extract m n = B ((l.drop m).take (n - m)) := by
  rw [← of_data ((B l).extract m n), Lib.extract_data, B_data]
theorem B_take (l : List UInt8) (n : Nat) : (B l).extract 0 n = B (l.take n) := by rw [B_ext, List.drop_zero, Nat.sub_zero]
theorem B_drop (l : List UInt8) (n : Nat) : (B l).extract n (B l).size = B (l.drop n) := by
  rw [B_ext, B_size, List.take_of_length_le (by rw [List.length_drop]; omega)]
theorem pre_len {p x : List UInt8} (h : p.isPrefixOf x = true) : p.length ≤ x.length := (List.isPrefixOf_iff_prefix.1 h).length_le
set_option maxHeartbeats 400000 in
set_option maxRecDepth 100000 in
theorem take_any (g : Nat) (t l : List UInt8) (sh bd : Bool) (w0 w : World) (hI : IsS47 w0 w g (B l) sh bd) (hB : Below w0.heap.size w0 w) :
    Calls Tryd.prog 32 #[.pointer (some ⟨g, 0, none⟩), .string (B t)] w fun e w' => e = .returned (.bool (takeL t (l, sh, bd)).1) ∧ IsS47 w0 w' g (B (takeL t (l, sh, bd)).2.1) (takeL t (l, sh, bd)).2.2.1 (takeL t (l, sh, bd)).2.2.2 ∧ Below w0.heap.size w0 w' ∧ KeepBut w w' g none := by
  obtain ⟨hg, hge⟩ := hI
  have c0 := cellS47_0 hg
  have c1 := cellS47_1 hg
  have c2 := cellS47_2 hg
  have f0 := blk_frozen hg 0
  have f1 := blk_frozen hg 1
  have f2 := blk_frozen hg 2
  have hI : IsS47 w0 w g (B l) sh bd := ⟨hg, hge⟩
  replace hI := Lib.hid hI
  replace hB := Lib.hid hB
  clear hg
  have hh : ∀ (x p : List UInt8) (w : World), Calls Tryd.prog 41 #[.string (B x), .string (B p)] w fun e w' => e = .returned (.bool (p.isPrefixOf x)) ∧ w' = w := fun x p w => by
    have := Tryd.strings_HasPrefix (B x) (B p) w
    rw [B_data, B_data] at this
    exact this
  replace hh := Lib.hid hh
  have hs1 := B_size l
  have hs2 := B_size t
  have hdr := B_drop l t.length
  rw [hs1] at hdr
  by_cases hsh : sh = true
  · subst hsh
    have e : takeL t (l, true, bd) = (false, l, true, bd) := take_dead t l bd
    rw [e]
    go_enter Tryd.func32, Tryd.ntmps32
    go_wp2
    go_ret
    exact ⟨rfl, hI.out, hB.out, KeepBut.refl _ _ _⟩
  · replace hsh := Bool.eq_false_iff.2 hsh
    subst hsh
    by_cases hbd : bd = true
    · subst hbd
      have e : takeL t (l, false, true) = (false, l, false, true) := by simp [takeL]
      rw [e]
      go_enter Tryd.func32, Tryd.ntmps32
      go_wp2
      go_ret
      exact ⟨rfl, hI.out, hB.out, KeepBut.refl _ _ _⟩
    · replace hbd := Bool.eq_false_iff.2 hbd
      subst hbd
      by_cases hp : t.isPrefixOf l = true
      · have e : takeL t (l, false, false) = (true, l.drop t.length, false, false) := by simp [takeL, hp]
        have hle := pre_len hp
        have h1 := hh.out l t w
        rw [hp] at h1
        replace h1 := Lib.hid h1
        clear hh hp
        rw [e]
        clear e
        go_enter Tryd.func32, Tryd.ntmps32
        go_wp2_with (first | (go_at_call 41; go_must (refine h1.out.mono ?_; rintro e w1 ⟨rfl, rfl⟩)))
        go_ret
        exact ⟨rfl, hI.out.set_0 _, hB.out.setCell hge _, (KeepBut.refl _ _ _).set_ 0 _⟩
      · replace hp := Bool.eq_false_iff.2 hp
        have h1 := hh.out l t w
        rw [hp] at h1
        replace h1 := Lib.hid h1
        by_cases hlt : l.length < t.length
        · have h2 := hh.out t l w
          clear hh
          by_cases hp2 : l.isPrefixOf t = true
          · have e : takeL t (l, false, false) = (false, l, true, false) := by simp [takeL, hp, hp2, hlt]
            rw [hp2] at h2
            replace h2 := Lib.hid h2
            rw [e]
            clear e hp hp2
            go_enter Tryd.func32, Tryd.ntmps32
            go_wp2_with (first | (go_at_call 41; have _t := h1; go_must (refine h1.out.mono ?_; rintro e w1 ⟨rfl, rfl⟩; clear h1)) | (go_at_call 41; go_must (refine h2.out.mono ?_; rintro e w1 ⟨rfl, rfl⟩)))
            go_ret
            exact ⟨rfl, hI.out.set_1 _, hB.out.setCell hge _, (KeepBut.refl _ _ _).set_ 1 _⟩
          · replace hp2 := Bool.eq_false_iff.2 hp2
            have e : takeL t (l, false, false) = (false, l, false, false) := by simp [takeL, hp, hp2, hlt]
            rw [hp2] at h2
            replace h2 := Lib.hid h2
            rw [e]
            clear e hp hp2
            go_enter Tryd.func32, Tryd.ntmps32
            go_wp2_with (first | (go_at_call 41; have _t := h1; go_must (refine h1.out.mono ?_; rintro e w1 ⟨rfl, rfl⟩; clear h1)) | (go_at_call 41; go_must (refine h2.out.mono ?_; rintro e w1 ⟨rfl, rfl⟩)))
            go_ret
            exact ⟨rfl, hI.out, hB.out, KeepBut.refl _ _ _⟩
        · clear hh
          have e : takeL t (l, false, false) = (false, l, false, false) := by simp [takeL, hp, hlt]
          rw [e]
          clear e hp
          go_enter Tryd.func32, Tryd.ntmps32
          go_wp2_with (first | (go_at_call 41; go_must (refine h1.out.mono ?_; rintro e w1 ⟨rfl, rfl⟩)))
          go_ret
          exact ⟨rfl, hI.out, hB.out, KeepBut.refl _ _ _⟩
set_option maxHeartbeats 400000 in
set_option maxRecDepth 100000 in
theorem must_any (g : Nat) (t l : List UInt8) (sh bd : Bool) (w0 w : World) (hI : IsS47 w0 w g (B l) sh bd) (hB : Below w0.heap.size w0 w) :
    Calls Tryd.prog 33 #[.pointer (some ⟨g, 0, none⟩), .string (B t)] w fun e w' => e = .returned (.tuple #[]) ∧ IsS47 w0 w' g (B (mustL t (l, sh, bd)).1) (mustL t (l, sh, bd)).2.1 (mustL t (l, sh, bd)).2.2 ∧ Below w0.heap.size w0 w' ∧ KeepBut w w' g none := by
  have hT := Lib.hid (take_any g t l sh bd w0 w hI hB)
  have hge := hI.2
  clear hI hB
  unfold mustL
  generalize takeL t (l, sh, bd) = r at *
  obtain ⟨b, l2, s2, d2⟩ := r
  dsimp only at hT ⊢
  cases b with
  | true =>
    rw [if_pos rfl]
    go_enter Tryd.func33, Tryd.ntmps33
    go_wp2_with (first | (go_at_call 32; go_must (refine hT.out.mono ?_; rintro e w1 ⟨rfl, hI1, hB1, hK1⟩; replace hI1 := Lib.hid hI1; replace hB1 := Lib.hid hB1; replace hK1 := Lib.hid hK1)))
    go_end0
    exact ⟨rfl, hI1.out, hB1.out, hK1.out⟩
  | false =>
    rw [if_neg (by simp)]
    cases s2 with
    | true =>
      rw [if_pos rfl]
      go_enter Tryd.func33, Tryd.ntmps33
      go_wp2_with (first | (go_at_call 32; go_must (refine hT.out.mono ?_; rintro e w1 ⟨rfl, hI1, hB1, hK1⟩; have c1 := cellS47_1 hI1.1; replace hI1 := Lib.hid hI1; replace hB1 := Lib.hid hB1; replace hK1 := Lib.hid hK1)))
      go_end0
      exact ⟨rfl, hI1.out, hB1.out, hK1.out⟩
    | false =>
      rw [if_neg (by simp)]
      go_enter Tryd.func33, Tryd.ntmps33
      go_wp2_with (first | (go_at_call 32; go_must (refine hT.out.mono ?_; rintro e w1 ⟨rfl, hI1, hB1, hK1⟩; have c1 := cellS47_1 hI1.1; have c2 := cellS47_2 hI1.1; have f2 := blk_frozen hI1.1 2; replace hI1 := Lib.hid hI1; replace hB1 := Lib.hid hB1; replace hK1 := Lib.hid hK1)))
      go_end0
      exact ⟨rfl, hI1.out.set_2 _, hB1.out.setCell hge _, hK1.out.set_ 2 _⟩
/-! What the printed texts of the reader's other steps lean on. -/
def PReplyWrites.reply_reader_must.f (_k : Nat) (s : ByteArray) (b c : Bool) (t : ByteArray) : Option (ByteArray × Bool × Bool) :=
  some (B (mustL t.data.toList (s.data.toList, b, c)).1, (mustL t.data.toList (s.data.toList, b, c)).2.1, (mustL t.data.toList (s.data.toList, b, c)).2.2)
theorem PReplyWrites.reply_reader_must.mono : ∀ a0 a1 a2 a3 k, LeO (reply_reader_must.f k a0 a1 a2 a3) (reply_reader_must.f (k + 1) a0 a1 a2 a3) := fun _ _ _ _ _ => LeO.refl _
theorem PReplyWrites.reply_reader_must.calls (k : Nat) (g : Nat) (s0_0 : ByteArray) (s0_1 : Bool) (s0_2 : Bool) (a1 : ByteArray) (r1 : ByteArray) (r2 : Bool) (r3 : Bool) (w0 w : World) (hI : IsS47 w0 w g s0_0 s0_1 s0_2) (hB : Below w0.heap.size w0 w) (h : reply_reader_must.f k s0_0 s0_1 s0_2 a1 = some (r1, r2, r3)) :
    Calls Tryd.prog 33 #[.pointer (some ⟨g, 0, none⟩), .string a1] w fun e w' => e = .returned (.tuple #[]) ∧ IsS47 w0 w' g r1 r2 r3 ∧ Below w0.heap.size w0 w' ∧ KeepBut w w' g none := by
  simp only [PReplyWrites.reply_reader_must.f, Option.some.injEq, Prod.mk.injEq] at h
  obtain ⟨rfl, rfl, rfl⟩ := h
  have := must_any g a1.data.toList s0_0.data.toList s0_1 s0_2 w0 w (by rw [of_data]; exact hI) hB
  rw [of_data] at this
  exact this
end Go.Proofs.YthacomeiinejaaaDoor
