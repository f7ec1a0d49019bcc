/-
  Chapter 18: Check, walked.
-/
import Derived.Test.YthacomeiinejaaaDoorSf
import Derived.Lib.TrimUEq
set_option linter.unusedVariables false
set_option linter.unusedSimpArgs false
namespace Go.Proofs.YthacomeiinejaaaDoor
open Go.RowKit Go.Proofs.YthacomeiinejaaaDoorW.PrintWords Go.Proofs.YthacomeiinejaaaDoor.PReplyWrites
theorem decodeN_hi (n b0 b1 b2 b3 : Nat) (h : 128 ≤ b0) : 128 ≤ (Lib.decodeN n b0 b1 b2 b3).1 := by
  unfold Lib.decodeN
  repeat' split
  all_goals (try dsimp only)
  all_goals omega
theorem len_data' (s : ByteArray) : s.data.toList.length = s.size := by rw [Array.length_toList]; rfl
def odd (c : Nat) : Bool := decide ((c : Int) < 32) || decide ((126 : Int) < (c : Int))
theorem odd_pl (c : UInt8) : odd c.toNat = !isPl c := by
  unfold odd isPl
  have h1 : decide ((c.toNat : Int) < 32) = !decide (32 ≤ c.toNat) := by
    rw [← decide_not]
    apply decide_eq_decide.2
    omega
  have h2 : decide ((126 : Int) < (c.toNat : Int)) = !decide (c.toNat ≤ 126) := by
    rw [← decide_not]
    apply decide_eq_decide.2
    omega
  rw [h1, h2, Bool.not_and]
theorem idx_none (s : ByteArray) : ∀ (f pos : Nat), s.size - pos ≤ f → (Lib.idxFuncFrom odd true s f pos = -1 ↔ ∀ c ∈ s.data.toList.drop pos, isPl c = true)
  | 0, pos, h => by
    have : s.data.toList.drop pos = [] := List.drop_eq_nil_of_le (by rw [len_data']; omega)
    rw [this]
    simp [Lib.idxFuncFrom]
  | f + 1, pos, h => by
    by_cases hp : pos < s.size
    · have hl : pos < s.data.toList.length := by rw [len_data']; exact hp
      have hd : s.data.toList.drop pos = s.data.toList[pos] :: s.data.toList.drop (pos + 1) := List.drop_eq_getElem_cons hl
      have hg : s.data.toList.getD pos 0 = s.data.toList[pos] := by rw [List.getD_eq_getElem?_getD, List.getElem?_eq_getElem hl]; rfl
      unfold Lib.idxFuncFrom
      rw [if_pos hp, hd]
      by_cases h8 : s.data.toList[pos].toNat < 128
      · have hdec : Utf8.decode s pos = (s.data.toList[pos].toNat, 1) := by
          rw [Lib.decode_N, hg, Lib.decodeN_ascii _ _ _ _ _ h8]
        rw [hdec]
        dsimp only
        rw [odd_pl]
        by_cases hpl : isPl s.data.toList[pos] = true
        · rw [hpl, if_neg (by simp), idx_none s f (pos + 1) (by omega)]
          constructor
          · intro h c hc
            rcases List.mem_cons.1 hc with rfl | hc
            · exact hpl
            · exact h c hc
          · intro h c hc
            exact h c (List.mem_cons_of_mem _ hc)
        · have hpl2 := Bool.eq_false_iff.2 hpl
          rw [hpl2, if_pos (by simp)]
          constructor
          · intro h
            omega
          · intro h
            have := h _ List.mem_cons_self
            rw [hpl2] at this
            exact absurd this (by simp)
      · have h1 := decodeN_hi (s.data.toList.length - pos) (s.data.toList.getD pos 0).toNat (s.data.toList.getD (pos + 1) 0).toNat (s.data.toList.getD (pos + 2) 0).toNat (s.data.toList.getD (pos + 3) 0).toNat (by rw [hg]; omega)
        rw [← Lib.decode_N] at h1
        have h2 : odd (Utf8.decode s pos).1 = true := by
          unfold odd
          rw [decide_eq_true (show (126 : Int) < ((Utf8.decode s pos).1 : Int) by omega), Bool.or_true]
        have h3 : isPl s.data.toList[pos] = false := by
          unfold isPl
          rw [decide_eq_false (show ¬ s.data.toList[pos].toNat ≤ 126 by omega), Bool.and_false]
        rw [if_pos h2]
        constructor
        · intro h
          omega
        · intro h
          have := h _ List.mem_cons_self
          rw [h3] at this
          exact absurd this (by simp)
    · have : s.data.toList.drop pos = [] := List.drop_eq_nil_of_le (by rw [len_data']; omega)
      rw [this, Lib.idxFuncFrom_end _ _ _ _ _ hp]
      simp
theorem pred_ok (w : World) : PredAt Tryd.prog 22 #[] encR odd w := fun W r _ => by
  unfold FnGives
  by_cases h1 : (r : Int) < 32
  · have e : odd r = true := by unfold odd; rw [decide_eq_true h1]; rfl
    rw [e]
    go_enter Tryd.func22, Tryd.ntmps22
    go_wp2
    go_ret
    exact ⟨rfl, 0, rfl⟩
  · by_cases h2 : (126 : Int) < (r : Int)
    · have e : odd r = true := by unfold odd; rw [decide_eq_true h2, Bool.or_true]
      rw [e]
      go_enter Tryd.func22, Tryd.ntmps22
      go_wp2
      go_ret
      exact ⟨rfl, 0, rfl⟩
    · have e : odd r = false := by unfold odd; rw [decide_eq_false h1, decide_eq_false h2]; rfl
      rw [e]
      go_enter Tryd.func22, Tryd.ntmps22
      go_wp2
      go_ret
      exact ⟨rfl, 0, rfl⟩
theorem index_any (ck : List UInt8) (w : World) :
    Calls Tryd.prog 23 #[.string (B ck), .func (.func 22) #[] #[]] w fun e w' => (∃ i : Int, e = .returned (.int .i64 i) ∧ (0 ≤ i ↔ ck.all isPl = false)) ∧ Below w.heap.size w w' := by
  refine (Tryd.strings_IndexFunc _ #[] (fun args w => enters_of Tryd.func22 (by kernel_rfl) rfl args w) odd (B ck) w (pred_ok w)).mono ?_
  rintro e w' ⟨rfl, hb⟩
  refine ⟨⟨_, rfl, ?_⟩, hb⟩
  have h1 := idx_none (B ck) (B ck).size 0 (by omega)
  have h2 := Lib.idxFunc_range odd true (B ck)
  unfold Lib.idxFunc at h2 ⊢
  rw [List.drop_zero, B_data] at h1
  rw [Bool.eq_false_iff, Ne, List.all_eq_true, ← h1]
  omega
/-- May a reply be? -/
def chkB (st : Int) (body ck : List UInt8) : Bool :=
  !(wordsB st).toList.isEmpty && decide (body.length ≤ 65536) && !(decide (st = 204) && !body.isEmpty) && decide (ck.length ≤ 256) && ck.all isPl
def repV (st : Int) (body ck : List UInt8) (cl : Bool) : Value := .agg #[.int .i64 st, .string (B body), .string (B ck), .bool cl]
set_option maxHeartbeats 4000000 in
set_option maxRecDepth 100000 in
theorem check_any (st : Int) (hst : (Lit.int .i64 st).wf = true) (body ck : List UInt8) (cl : Bool) (w : World) :
    Calls Tryd.prog 10 #[repV st body ck cl] w fun e w' => e = .returned (.int .i64 (if chkB st body ck = true then 0 else 180)) ∧ Below w.heap.size w w' := by
  have hW := Lib.hid (fun W => words_any W st hst)
  have hX := Lib.hid (index_any ck)
  have hs1 := B_size body
  have hs2 := B_size ck
  have hs3 := B_toList body
  unfold repV
  have hc : chkB st body ck = (!(wordsB st).toList.isEmpty && decide (body.length ≤ 65536) && !(decide (st = 204) && !body.isEmpty) && decide (ck.length ≤ 256) && ck.all isPl) := rfl
  obtain ⟨b1, h1⟩ : ∃ b, (wordsB st).toList.isEmpty = b := ⟨_, rfl⟩
  rw [h1] at hc
  cases b1 with
  | true =>
    rw [show chkB st body ck = false from hc, if_neg (by simp)]
    clear hc
    go_enter Tryd.func10, Tryd.ntmps10
    go_wp2_with (first | (go_at_call 18; go_must (refine (hW.out _).mono ?_; rintro e w1 ⟨rfl, hb1⟩; have hq := hb1.block w.heap.size (by simp); have hblk := hq.trans (heap_alloc_new w _); have q0 := (blk_cell hblk 0).trans rfl; have q1 := (blk_cell hblk 1).trans rfl; have q2 := (blk_cell hblk 2).trans rfl; replace hb1 := Lib.hid ((below_alloc (Below.refl w.heap.size w) _).trans (hb1.mono (by simp))); replace hblk := Lib.hid hblk; clear hq)))
    go_ret
    exact ⟨rfl, hb1.out⟩
  | false =>
    by_cases h2 : body.length ≤ 65536
    · rw [decide_eq_true h2] at hc
      by_cases h3 : st = 204
      · subst h3
        obtain ⟨b4, h4⟩ : ∃ b, body.isEmpty = b := ⟨_, rfl⟩
        rw [h4] at hc
        cases b4 with
        | false =>
          rw [show chkB 204 body ck = false from hc, if_neg (by simp)]
          clear hc
          go_enter Tryd.func10, Tryd.ntmps10
          go_wp2_with (first | (go_at_call 18; go_must (refine (hW.out _).mono ?_; rintro e w1 ⟨rfl, hb1⟩; have hq := hb1.block w.heap.size (by simp); have hblk := hq.trans (heap_alloc_new w _); have q0 := (blk_cell hblk 0).trans rfl; have q1 := (blk_cell hblk 1).trans rfl; have q2 := (blk_cell hblk 2).trans rfl; replace hb1 := Lib.hid ((below_alloc (Below.refl w.heap.size w) _).trans (hb1.mono (by simp))); replace hblk := Lib.hid hblk; clear hq)))
          go_ret
          exact ⟨rfl, hb1.out⟩
        | true =>
          by_cases h5 : ck.length ≤ 256
          · rw [decide_eq_true h5] at hc
            obtain ⟨b6, hall⟩ : ∃ b, ck.all isPl = b := ⟨_, rfl⟩
            rw [hall] at hc
            cases b6 with
            | true =>
              rw [show chkB 204 body ck = true from hc, if_pos rfl]
              clear hc
              go_enter Tryd.func10, Tryd.ntmps10
              go_wp2_with (first | (go_at_call 18; go_must (refine (hW.out _).mono ?_; rintro e w1 ⟨rfl, hb1⟩; have hq := hb1.block w.heap.size (by simp); have hblk := hq.trans (heap_alloc_new w _); have q0 := (blk_cell hblk 0).trans rfl; have q1 := (blk_cell hblk 1).trans rfl; have q2 := (blk_cell hblk 2).trans rfl; replace hb1 := Lib.hid ((below_alloc (Below.refl w.heap.size w) _).trans (hb1.mono (by simp))); replace hblk := Lib.hid hblk; clear hq)) | (go_at_call 23; go_must (refine (hX.out _).mono ?_; rintro e w2 ⟨⟨i, rfl, hi⟩, hb2⟩; rw [hall] at hi; have hi2 : i < 0 := (by simpa using hi); clear hi; replace hb1 := Lib.hid (hb1.out.trans (hb2.mono hb1.out.size)); clear hb2)))
              go_ret
              exact ⟨rfl, hb1.out⟩
            | false =>
              rw [show chkB 204 body ck = false from hc, if_neg (by simp)]
              clear hc
              go_enter Tryd.func10, Tryd.ntmps10
              go_wp2_with (first | (go_at_call 18; go_must (refine (hW.out _).mono ?_; rintro e w1 ⟨rfl, hb1⟩; have hq := hb1.block w.heap.size (by simp); have hblk := hq.trans (heap_alloc_new w _); have q0 := (blk_cell hblk 0).trans rfl; have q1 := (blk_cell hblk 1).trans rfl; have q2 := (blk_cell hblk 2).trans rfl; replace hb1 := Lib.hid ((below_alloc (Below.refl w.heap.size w) _).trans (hb1.mono (by simp))); replace hblk := Lib.hid hblk; clear hq)) | (go_at_call 23; go_must (refine (hX.out _).mono ?_; rintro e w2 ⟨⟨i, rfl, hi⟩, hb2⟩; rw [hall] at hi; have hi2 : 0 ≤ i := (by simpa using hi); clear hi; replace hb1 := Lib.hid (hb1.out.trans (hb2.mono hb1.out.size)); clear hb2)))
              go_ret
              exact ⟨rfl, hb1.out⟩
          · rw [decide_eq_false h5] at hc
            have hc2 : chkB 204 body ck = false := by rw [hc]; rfl
            rw [hc2, if_neg (by simp)]
            clear hc hc2
            go_enter Tryd.func10, Tryd.ntmps10
            go_wp2_with (first | (go_at_call 18; go_must (refine (hW.out _).mono ?_; rintro e w1 ⟨rfl, hb1⟩; have hq := hb1.block w.heap.size (by simp); have hblk := hq.trans (heap_alloc_new w _); have q0 := (blk_cell hblk 0).trans rfl; have q1 := (blk_cell hblk 1).trans rfl; have q2 := (blk_cell hblk 2).trans rfl; replace hb1 := Lib.hid ((below_alloc (Below.refl w.heap.size w) _).trans (hb1.mono (by simp))); replace hblk := Lib.hid hblk; clear hq)))
            go_ret
            exact ⟨rfl, hb1.out⟩
      · rw [decide_eq_false h3] at hc
        by_cases h5 : ck.length ≤ 256
        · rw [decide_eq_true h5] at hc
          obtain ⟨b6, hall⟩ : ∃ b, ck.all isPl = b := ⟨_, rfl⟩
          rw [hall] at hc
          cases b6 with
          | true =>
            rw [show chkB st body ck = true from hc, if_pos rfl]
            clear hc
            go_enter Tryd.func10, Tryd.ntmps10
            go_wp2_with (first | (go_at_call 18; go_must (refine (hW.out _).mono ?_; rintro e w1 ⟨rfl, hb1⟩; have hq := hb1.block w.heap.size (by simp); have hblk := hq.trans (heap_alloc_new w _); have q0 := (blk_cell hblk 0).trans rfl; have q1 := (blk_cell hblk 1).trans rfl; have q2 := (blk_cell hblk 2).trans rfl; replace hb1 := Lib.hid ((below_alloc (Below.refl w.heap.size w) _).trans (hb1.mono (by simp))); replace hblk := Lib.hid hblk; clear hq)) | (go_at_call 23; go_must (refine (hX.out _).mono ?_; rintro e w2 ⟨⟨i, rfl, hi⟩, hb2⟩; rw [hall] at hi; have hi2 : i < 0 := (by simpa using hi); clear hi; replace hb1 := Lib.hid (hb1.out.trans (hb2.mono hb1.out.size)); clear hb2)))
            go_ret
            exact ⟨rfl, hb1.out⟩
          | false =>
            rw [show chkB st body ck = false from hc, if_neg (by simp)]
            clear hc
            go_enter Tryd.func10, Tryd.ntmps10
            go_wp2_with (first | (go_at_call 18; go_must (refine (hW.out _).mono ?_; rintro e w1 ⟨rfl, hb1⟩; have hq := hb1.block w.heap.size (by simp); have hblk := hq.trans (heap_alloc_new w _); have q0 := (blk_cell hblk 0).trans rfl; have q1 := (blk_cell hblk 1).trans rfl; have q2 := (blk_cell hblk 2).trans rfl; replace hb1 := Lib.hid ((below_alloc (Below.refl w.heap.size w) _).trans (hb1.mono (by simp))); replace hblk := Lib.hid hblk; clear hq)) | (go_at_call 23; go_must (refine (hX.out _).mono ?_; rintro e w2 ⟨⟨i, rfl, hi⟩, hb2⟩; rw [hall] at hi; have hi2 : 0 ≤ i := (by simpa using hi); clear hi; replace hb1 := Lib.hid (hb1.out.trans (hb2.mono hb1.out.size)); clear hb2)))
            go_ret
            exact ⟨rfl, hb1.out⟩
        · rw [decide_eq_false h5] at hc
          have hc2 : chkB st body ck = false := by rw [hc]; rfl
          rw [hc2, if_neg (by simp)]
          clear hc hc2
          go_enter Tryd.func10, Tryd.ntmps10
          go_wp2_with (first | (go_at_call 18; go_must (refine (hW.out _).mono ?_; rintro e w1 ⟨rfl, hb1⟩; have hq := hb1.block w.heap.size (by simp); have hblk := hq.trans (heap_alloc_new w _); have q0 := (blk_cell hblk 0).trans rfl; have q1 := (blk_cell hblk 1).trans rfl; have q2 := (blk_cell hblk 2).trans rfl; replace hb1 := Lib.hid ((below_alloc (Below.refl w.heap.size w) _).trans (hb1.mono (by simp))); replace hblk := Lib.hid hblk; clear hq)))
          go_ret
          exact ⟨rfl, hb1.out⟩
    · rw [decide_eq_false h2] at hc
      rw [show chkB st body ck = false from hc, if_neg (by simp)]
      clear hc
      go_enter Tryd.func10, Tryd.ntmps10
      go_wp2_with (first | (go_at_call 18; go_must (refine (hW.out _).mono ?_; rintro e w1 ⟨rfl, hb1⟩; have hq := hb1.block w.heap.size (by simp); have hblk := hq.trans (heap_alloc_new w _); have q0 := (blk_cell hblk 0).trans rfl; have q1 := (blk_cell hblk 1).trans rfl; have q2 := (blk_cell hblk 2).trans rfl; replace hb1 := Lib.hid ((below_alloc (Below.refl w.heap.size w) _).trans (hb1.mono (by simp))); replace hblk := Lib.hid hblk; clear hq)))
      go_ret
      exact ⟨rfl, hb1.out⟩
end Go.Proofs.YthacomeiinejaaaDoor
