/-
  Chapter 18: what the printed summaries of the reader's steps say, in lists.
-/
import Derived.Test.YthacomeiinejaaaDoorSt
import Derived.Test.YthacomeiinejaaaDoorQ2
set_option linter.unusedVariables false
set_option linter.unusedSimpArgs false
namespace Go.Proofs.YthacomeiinejaaaDoor
open Go.RowKit Go.Proofs.YthacomeiinejaaaDoorW.PrintWords Go.Proofs.YthacomeiinejaaaDoor.PReplyWrites
theorem B_get (l : List UInt8) (i : Nat) (h : i < (B l).size) (h2 : i < l.length) : (B l)[i]'h = l[i]'h2 := by
  show (l.toArray)[i]'_ = _
  exact List.getElem_toArray _
theorem bt_mid (P R : List UInt8) (c : UInt8) : bt (B (P ++ c :: R)) (P.length : Int) = (c.toNat : Int) := by
  have h : ((P.length : Int)).toNat < (B (P ++ c :: R)).size := by rw [B_size]; simp
  rw [← bt_at _ _ h, B_get _ _ h (by simp)]
  simp
theorem bt_zero (c : UInt8) (R : List UInt8) : bt (B (c :: R)) 0 = (c.toNat : Int) := bt_mid [] R c
theorem pre_eq (x p : List UInt8) (h : p.length ≤ x.length) : (x.take p.length == p) = p.isPrefixOf x := by
  rw [Bool.eq_iff_iff, beq_iff_eq, List.isPrefixOf_iff_prefix, List.prefix_iff_eq_take]
  exact eq_comm
theorem must_f (k : Nat) (t l : List UInt8) (sh bd : Bool) : reply_reader_must.f k (B l) sh bd (B t) = some (B (mustL t (l, sh, bd)).1, (mustL t (l, sh, bd)).2.1, (mustL t (l, sh, bd)).2.2) := by
  unfold reply_reader_must.f
  rw [B_data, B_data]
def numEnd (n k : Nat) (R : List UInt8) : Option (Int × ByteArray × Bool × Bool) :=
  if k = 0 then (if R = [] then some ((n : Int), B R, true, false) else some ((n : Int), B R, false, true)) else some ((n : Int), B (mustL crlfL (R, false, false)).1, (mustL crlfL (R, false, false)).2.1, (mustL crlfL (R, false, false)).2.2)
theorem num_end (l P R : List UInt8) (n K : Nat) (hl : l = P ++ R) : reply_reader_number.j1 (3 + K) (n : Int) (P.length : Int) false (B l) false false = numEnd n P.length R := by
  subst hl
  have e : (B (P ++ R)).extract P.length (B (P ++ R)).size = B R := by rw [B_drop, List.drop_left]
  have hsz : ((B (P ++ R)).size : Int) = (P.length : Int) + (R.length : Int) := by rw [B_size, List.length_append]; omega
  rw [show 3 + K = (2 + K) + 1 by omega, reply_reader_number.j1]
  simp only [Bool.false_eq_true, if_false]
  rw [if_pos (by omega), if_pos (by omega), Int.toNat_natCast, e, B_toList]
  rw [show 2 + K = (1 + K) + 1 by omega, show 1 + K = K + 1 by omega]
  unfold numEnd
  by_cases h0 : P.length = 0
  · rw [if_pos (by omega), if_pos h0, reply_reader_number.j2]
    by_cases hR : R = []
    · rw [if_pos (by simp [hR]), if_pos hR]
    · rw [if_neg (by simp [hR]), if_neg hR, if_pos (by omega)]
  · rw [if_neg (by omega), if_neg h0, reply_reader_number.j2, if_neg (by simp), if_neg (by omega)]
    change (reply_reader_must.f K (B R) false false (B crlfL)).bind _ = _
    rw [must_f, Option.bind_some]
theorem num_l0 (l : List UInt8) (hlen : l.length ≤ 4611686018427387904) : ∀ (R P : List UInt8) (n K : Nat), l = P ++ R → n ≤ 65536 →
    reply_reader_number.l0 (2 * R.length + 4 + K) (n : Int) (P.length : Int) (B l) false false = (match numGo (l.head? == some 48) P.length n R with | none => some (0, B l, false, true) | some (n', k', R') => numEnd n' k' R')
  | [], P, n, K, hl, hn => by
    rw [show 2 * ([] : List UInt8).length + 4 + K = (3 + K) + 1 by simp; omega, reply_reader_number.l0]
    have hsz : ((B l).size : Int) = (P.length : Int) := by rw [B_size, hl, List.append_nil]
    rw [if_neg (by omega), num_end l P [] n K hl]
    rfl
  | c :: R, P, n, K, hl, hn => by
    have hsz : ((B l).size : Int) = (P.length : Int) + 1 + (R.length : Int) := by rw [B_size, hl, List.length_append, List.length_cons]; omega
    have hbt : bt (B l) (P.length : Int) = (c.toNat : Int) := by rw [hl]; exact bt_mid P R c
    have hcl := c.toNat_lt
    have hlen2 : P.length + 1 + R.length ≤ 4611686018427387904 := by rw [hl, List.length_append, List.length_cons] at hlen; omega
    rw [show 2 * (c :: R).length + 4 + K = (2 * R.length + 4 + K + 1) + 1 by simp; omega, reply_reader_number.l0, if_pos (by omega), if_pos (by omega), hbt]
    have hgo : numGo (l.head? == some 48) P.length n (c :: R) = if isDig c then (if 65536 < 10 * n + (c.toNat - 48) then none else if 1 < P.length + 1 ∧ (l.head? == some 48) = true then none else numGo (l.head? == some 48) (P.length + 1) (10 * n + (c.toNat - 48)) R) else some (n, P.length, c :: R) := rfl
    rw [hgo]
    by_cases hd : isDig c = true
    · have hd2 := hd
      simp only [isDig, Bool.and_eq_true, decide_eq_true_eq] at hd2
      rw [if_pos (by omega), if_pos hd, reply_reader_number.j1, if_pos (by simp; omega), if_pos (by omega), if_pos (by omega), hbt]
      have hv : wrap64 (wrap64 (10 * (n : Int)) + ((c.toNat : Int) - 48) % 256) = ((10 * n + (c.toNat - 48) : Nat) : Int) := by
        rw [IntWalk.wrap64_in (10 * (n : Int)) (by omega), IntWalk.wrap64_in _ (by omega)]
        omega
      have hp : wrap64 ((P.length : Int) + 1) = ((P.length + 1 : Nat) : Int) := by rw [IntWalk.wrap64_in _ (by omega)]; omega
      rw [hv, hp]
      have hrec := num_l0 l hlen R (P ++ [c]) (10 * n + (c.toNat - 48)) K (by rw [hl]; simp)
      rw [List.length_append, List.length_singleton] at hrec
      by_cases hbig : 65536 < 10 * n + (c.toNat - 48)
      · rw [if_pos (by omega), if_pos hbig]
      · rw [if_neg (by omega), if_neg hbig]
        by_cases h1 : 1 < P.length + 1
        · rw [if_pos (by omega), if_pos (by omega)]
          have hh : (bt (B l) 0 = 48) ↔ (l.head? == some 48) = true := by
            cases P with
            | nil => simp at h1
            | cons a P =>
              have e0 : bt (B l) 0 = (a.toNat : Int) := by rw [hl]; exact bt_zero a _
              rw [e0, hl]
              simp
              constructor
              · intro h
                have h3 : a.toNat = (48 : UInt8).toNat := by
                  rw [show (48 : UInt8).toNat = 48 from rfl]
                  omega
                exact UInt8.toNat_inj.1 h3
              · intro h
                rw [h]
                rfl
          by_cases hz : (l.head? == some 48) = true
          · rw [if_pos (hh.2 hz), if_pos ⟨h1, hz⟩]
          · rw [if_neg (fun h => hz (hh.1 h)), if_neg (fun h => hz h.2)]
            exact hrec (by omega)
        · rw [if_neg (by omega), if_neg (fun h => h1 h.1)]
          exact hrec (by omega)
    · have hend : reply_reader_number.j1 (2 * R.length + 4 + K + 1) (n : Int) (P.length : Int) false (B l) false false = numEnd n P.length (c :: R) := by
        rw [show 2 * R.length + 4 + K + 1 = 3 + (2 * R.length + 2 + K) by omega]
        exact num_end l P (c :: R) n _ hl
      rw [if_neg hd]
      dsimp only
      rw [← hend]
      by_cases h48 : 48 ≤ (c.toNat : Int)
      · rw [if_pos h48]
        have : ¬ ((c.toNat : Int) ≤ 57) := by
          intro h
          apply hd
          simp [isDig]
          omega
        rw [decide_eq_false this]
      · rw [if_neg h48]
theorem number_f (l : List UInt8) (hlen : l.length ≤ 4611686018427387904) : reply_reader_number.f (2 * l.length + 4) (B l) false false = some (((numberL l).1 : Int), B (numberL l).2.1, (numberL l).2.2.1, (numberL l).2.2.2) := by
  have h := num_l0 l hlen l [] 0 0 rfl (by omega)
  unfold reply_reader_number.f numberL
  change reply_reader_number.l0 (2 * l.length + 4) 0 0 (B l) false false = _ at h
  rw [h]
  simp only [List.length_nil]
  cases hg : numGo (l.head? == some 48) 0 0 l with
  | none => rfl
  | some x =>
    obtain ⟨n, k, R⟩ := x
    dsimp only
    unfold numEnd
    split
    · split <;> rfl
    · rfl
theorem number_any (g : Nat) (l : List UInt8) (hlen : l.length ≤ 4611686018427387904) (w0 w : World) (hI : IsS47 w0 w g (B l) false false) (hB : Below w0.heap.size w0 w) :
    Calls Tryd.prog 34 #[.pointer (some ⟨g, 0, none⟩)] w fun e w' => e = .returned (.int .i64 ((numberL l).1 : Int)) ∧ IsS47 w0 w' g (B (numberL l).2.1) (numberL l).2.2.1 (numberL l).2.2.2 ∧ Below w0.heap.size w0 w' ∧ KeepBut w w' g none :=
  reply_reader_number.calls _ g _ _ _ _ _ _ _ w0 w hI hB (number_f l hlen)
end Go.Proofs.YthacomeiinejaaaDoor
