/-
  Chapter 18: Parse.
-/
import Derived.Test.YthacomeiinejaaaDoorSh
set_option linter.unusedVariables false
set_option linter.unusedSimpArgs false
namespace Go.Proofs.YthacomeiinejaaaDoor
open Go.RowKit Go.Proofs.YthacomeiinejaaaDoorW.PrintWords Go.Proofs.YthacomeiinejaaaDoor.PReplyWrites
def toldV : Told → Value
  | .ok st body ck cl n => .tuple #[.agg #[.int .i64 st, .string (B body), .string (B ck), .bool cl], .int .i64 (n : Int), .int .i64 0]
  | .short => .tuple #[.agg #[.int .i64 0, .string ⟨#[]⟩, .string ⟨#[]⟩, .bool false], .int .i64 0, .int .i64 20]
  | .bad => .tuple #[.agg #[.int .i64 0, .string ⟨#[]⟩, .string ⟨#[]⟩, .bool false], .int .i64 0, .int .i64 180]
theorem toldV_ok (st : Int) (body ck : List UInt8) (cl : Bool) (n : Nat) : toldV (.ok st body ck cl n) = .tuple #[.agg #[.int .i64 st, .string (B body), .string (B ck), .bool cl], .int .i64 (n : Int), .int .i64 0] := rfl
theorem results_ctt {P : Program} {fn : Func} {tmps : Array Value} {w : World} {p u v : Tmp} {tp : TypeId} {a : Addr} {va : Value} (h : fn.results = #[.cell p tp, .tmp u, .tmp v]) (hp : tmps.getD p undef = .pointer (some a))
    (ha : (loadVar tp a).run P w = .ok va w) : (results fn tmps).run P w = .ok (.tuple #[va, tmps.getD u undef, tmps.getD v undef]) w := by
  have hp' : tmps[p]?.getD undef = .pointer (some a) := by simpa using hp
  simp [results, h, hp', asAddr, ha]
theorem len_tail3 (l : List UInt8) (s d : Bool) : (tail3 (l, s, d)).2.1.length ≤ l.length := by
  unfold tail3
  exact Nat.le_trans (len_must crlfL _ _ _) (len_take closeL l s d)
theorem len_cookie (l : List UInt8) : (cookieL l).2.1.length ≤ l.length := by
  have hd : (l.drop (plGo 0 l)).length ≤ l.length := by rw [List.length_drop]; omega
  unfold cookieL
  split
  · exact Nat.le_refl _
  · split
    · exact hd
    · exact Nat.le_trans (len_must crlfL _ _ _) hd
theorem len_tail2 (l : List UInt8) (s d : Bool) : (tail2 (l, s, d)).2.2.1.length ≤ l.length := by
  have h1 := len_take cookL l s d
  unfold tail2
  split
  · exact Nat.le_trans (len_tail3 _ _ _) (Nat.le_trans (len_cookie _) h1)
  · exact Nat.le_trans (len_tail3 _ _ _) h1
theorem len_size (st : Int) (l : List UInt8) (s d : Bool) : (sizeL st (l, s, d)).2.1.length ≤ l.length := by
  have h1 := len_must lenL l s d
  unfold sizeL
  split
  · exact Nat.le_refl _
  · split
    · exact h1
    · split
      · exact h1
      · exact Nat.le_trans (len_number _) h1
theorem len_mark (ty : Bool) (z : Nat) (l : List UInt8) (s d : Bool) : (mark ty z (l, s, d)).1.length ≤ l.length := by
  unfold mark
  split <;> exact Nat.le_refl _
theorem len_head (l : List UInt8) : (headL l).2.2.2.2.1.length ≤ l.length := by
  unfold headL
  exact Nat.le_trans (len_tail2 _ _ _) (Nat.le_trans (len_mark _ _ _ _ _) (Nat.le_trans (len_size _ _ _ _) (Nat.le_trans (len_take typeL _ _ _) (len_status l))))
theorem numGo_le (z : Bool) : ∀ (l : List UInt8) (k n : Nat) (r : Nat × Nat × List UInt8), n ≤ 65536 → numGo z k n l = some r → r.1 ≤ 65536
  | [], k, n, r, hn, h => by
    simp [numGo] at h
    subst h
    exact hn
  | c :: l, k, n, r, hn, h => by
    have e : numGo z k n (c :: l) = if isDig c then (if 65536 < 10 * n + (c.toNat - 48) then none else if 1 < k + 1 ∧ z = true then none else numGo z (k + 1) (10 * n + (c.toNat - 48)) l) else some (n, k, c :: l) := rfl
    rw [e] at h
    by_cases h1 : isDig c = true
    · rw [if_pos h1] at h
      by_cases h2 : 65536 < 10 * n + (c.toNat - 48)
      · rw [if_pos h2] at h; simp at h
      · rw [if_neg h2] at h
        by_cases h3 : 1 < k + 1 ∧ z = true
        · rw [if_pos h3] at h; simp at h
        · rw [if_neg h3] at h
          exact numGo_le z l _ _ r (by omega) h
    · rw [if_neg h1] at h
      injection h with h
      subst h
      exact hn
theorem number_le (l : List UInt8) : (numberL l).1 ≤ 65536 := by
  unfold numberL
  cases h : numGo (l.head? == some 48) 0 0 l with
  | none => exact Nat.zero_le _
  | some r =>
    have := numGo_le _ l 0 0 r (by omega) h
    obtain ⟨n, k, R⟩ := r
    dsimp only at this ⊢
    split
    · split <;> exact this
    · exact this
theorem head_le (l : List UInt8) : (headL l).2.2.2.1 ≤ 65536 := by
  show (sizeL _ _).1 ≤ 65536
  unfold sizeL
  split
  · exact Nat.zero_le _
  · split
    · exact Nat.zero_le _
    · split
      · exact Nat.zero_le _
      · exact number_le _
theorem put4_below {w W : World} {B p : Nat} (h : Below B w W) (hB : B ≤ p) (a b c d : Value) : Below B w (put4 W p a b c d) :=
  (((h.setCell (p := ⟨p, 0, none⟩) hB a).setCell (p := ⟨p, 1, none⟩) hB b).setCell (p := ⟨p, 2, none⟩) hB c).setCell (p := ⟨p, 3, none⟩) hB d
set_option maxHeartbeats 4000000 in
set_option maxRecDepth 100000 in
theorem parse_any (l : List UInt8) (hlen : l.length ≤ 4611686018427387904) (w : World) (htab : Tab w) :
    Calls Tryd.prog 14 #[.string (B l)] w fun e w' => e = .returned (toldV (parseL l)) ∧ Below w.heap.size w w' := by
  have hH := Lib.hid (fun W h1 h2 => head_any (w.heap.size + 1) l hlen w W htab h1 h2)
  have hp : parseL l = if (headL l).2.2.2.2.2.2 = true then .bad else if (headL l).2.2.2.2.2.1 = true then .short else if (headL l).2.2.2.2.1.length < (headL l).2.2.2.1 then .short else .ok (headL l).1 ((headL l).2.2.2.2.1.take (headL l).2.2.2.1) (headL l).2.1 (headL l).2.2.1 (l.length - (headL l).2.2.2.2.1.length + (headL l).2.2.2.1) := rfl
  have hl1 := len_head l
  have hz1 := head_le l
  generalize parseL l = P at *
  generalize headL l = H at *
  obtain ⟨st, ck, cl, z, l2, s2, d2⟩ := H
  dsimp only at hH hp hl1 hz1
  have hsl := B_size l
  have hsl2 := B_size l2
  have hnew : IsS47 w ((w.alloc (.cells #[.int .i64 0, .string ⟨#[]⟩, .string ⟨#[]⟩, .bool false] 23)).alloc (.cells #[.string (B l), .bool false, .bool false] 47)) (w.heap.size + 1) (B l) false false := by
    have := heap_alloc_new (w.alloc (.cells #[.int .i64 0, .string ⟨#[]⟩, .string ⟨#[]⟩, .bool false] 23)) (.cells #[.string (B l), .bool false, .bool false] 47)
    exact ⟨by simpa using this, by omega⟩
  have hk20 : ((w.alloc (.cells #[.int .i64 0, .string ⟨#[]⟩, .string ⟨#[]⟩, .bool false] 23)).alloc (.cells #[.string (B l), .bool false, .bool false] 47)).heap[w.heap.size]? = some (.cells #[.int .i64 0, .string ⟨#[]⟩, .string ⟨#[]⟩, .bool false] 23 (0, 0)) :=
    (heap_alloc_old _ _ (by simp)).trans (heap_alloc_new w _)
  have hbl0 : Below w.heap.size w ((w.alloc (.cells #[.int .i64 0, .string ⟨#[]⟩, .string ⟨#[]⟩, .bool false] 23)).alloc (.cells #[.string (B l), .bool false, .bool false] 47)) := ((Below.refl w.heap.size w).alloc (Nat.le_refl _) _).alloc (by simp) _
  replace hnew := Lib.hid hnew
  replace hk20 := Lib.hid hk20
  replace hbl0 := Lib.hid hbl0
  by_cases hd : d2 = true
  · subst hd
    rw [if_pos rfl] at hp
    replace hp := Lib.hid hp
    go_enter Tryd.func14, Tryd.ntmps14
    go_wp2_with (first  | (go_at_call 26; go_must (refine (hH.out _ hnew.out hbl0.out).mono ?_; rintro e w3 ⟨rfl, hI3, hB3, hK3⟩; have k2 := (hK3.2 _ (by first | (simp; done) | (simp; omega)) (by omega) (by simp)).trans hk20.out; have hlt3 : w.heap.size + 2 ≤ w3.heap.size := (by have := hK3.1; simpa using this); have hk2o := fun o => (heap_alloc_old w3 o (by omega)).trans k2; have c0 := fun o => cellS47_0 (hI3.alloc o).1; have c1 := fun o => cellS47_1 (hI3.alloc o).1; have c2 := fun o => cellS47_2 (hI3.alloc o).1; have z0 := fun o => (blk_cell (hk2o o) 0).trans rfl; have z1 := fun o => (blk_cell (hk2o o) 1).trans rfl; have z2 := fun o => (blk_cell (hk2o o) 2).trans rfl; have z3 := fun o => (blk_cell (hk2o o) 3).trans rfl; have x0 := fun o => blk_frozen (hk2o o) 0; have x1 := fun o => blk_frozen (hk2o o) 1; have x2 := fun o => blk_frozen (hk2o o) 2; have x3 := fun o => blk_frozen (hk2o o) 3; replace hk2o := Lib.hid hk2o; replace hI3 := Lib.hid hI3; replace hB3 := Lib.hid hB3; replace hK3 := Lib.hid hK3; replace k2 := Lib.hid k2; clear hH)))
    rw [hp.out]
    exact bodyPost_ret (results_ctt rfl rfl (load_reply (put4_blk (hk2o.out _) _ _ _ _))) rfl ⟨rfl, put4_below (hB3.out.alloc (by omega) _) (Nat.le_refl _) _ _ _ _⟩
  · replace hd := Bool.eq_false_iff.2 hd
    subst hd
    rw [if_neg (by simp)] at hp
    by_cases hs : s2 = true
    · subst hs
      rw [if_pos rfl] at hp
      replace hp := Lib.hid hp
      go_enter Tryd.func14, Tryd.ntmps14
      go_wp2_with (first  | (go_at_call 26; go_must (refine (hH.out _ hnew.out hbl0.out).mono ?_; rintro e w3 ⟨rfl, hI3, hB3, hK3⟩; have k2 := (hK3.2 _ (by first | (simp; done) | (simp; omega)) (by omega) (by simp)).trans hk20.out; have hlt3 : w.heap.size + 2 ≤ w3.heap.size := (by have := hK3.1; simpa using this); have hk2o := fun o => (heap_alloc_old w3 o (by omega)).trans k2; have c0 := fun o => cellS47_0 (hI3.alloc o).1; have c1 := fun o => cellS47_1 (hI3.alloc o).1; have c2 := fun o => cellS47_2 (hI3.alloc o).1; have z0 := fun o => (blk_cell (hk2o o) 0).trans rfl; have z1 := fun o => (blk_cell (hk2o o) 1).trans rfl; have z2 := fun o => (blk_cell (hk2o o) 2).trans rfl; have z3 := fun o => (blk_cell (hk2o o) 3).trans rfl; have x0 := fun o => blk_frozen (hk2o o) 0; have x1 := fun o => blk_frozen (hk2o o) 1; have x2 := fun o => blk_frozen (hk2o o) 2; have x3 := fun o => blk_frozen (hk2o o) 3; replace hk2o := Lib.hid hk2o; replace hI3 := Lib.hid hI3; replace hB3 := Lib.hid hB3; replace hK3 := Lib.hid hK3; replace k2 := Lib.hid k2; clear hH)))
      rw [hp.out]
      exact bodyPost_ret (results_ctt rfl rfl (load_reply (put4_blk (hk2o.out _) _ _ _ _))) rfl ⟨rfl, put4_below (hB3.out.alloc (by omega) _) (Nat.le_refl _) _ _ _ _⟩
    · replace hs := Bool.eq_false_iff.2 hs
      subst hs
      rw [if_neg (by simp)] at hp
      by_cases hlt : l2.length < z
      · rw [if_pos hlt] at hp
        replace hp := Lib.hid hp
        go_enter Tryd.func14, Tryd.ntmps14
        go_wp2_with (first  | (go_at_call 26; go_must (refine (hH.out _ hnew.out hbl0.out).mono ?_; rintro e w3 ⟨rfl, hI3, hB3, hK3⟩; have k2 := (hK3.2 _ (by first | (simp; done) | (simp; omega)) (by omega) (by simp)).trans hk20.out; have hlt3 : w.heap.size + 2 ≤ w3.heap.size := (by have := hK3.1; simpa using this); have hk2o := fun o => (heap_alloc_old w3 o (by omega)).trans k2; have c0 := fun o => cellS47_0 (hI3.alloc o).1; have c1 := fun o => cellS47_1 (hI3.alloc o).1; have c2 := fun o => cellS47_2 (hI3.alloc o).1; have z0 := fun o => (blk_cell (hk2o o) 0).trans rfl; have z1 := fun o => (blk_cell (hk2o o) 1).trans rfl; have z2 := fun o => (blk_cell (hk2o o) 2).trans rfl; have z3 := fun o => (blk_cell (hk2o o) 3).trans rfl; have x0 := fun o => blk_frozen (hk2o o) 0; have x1 := fun o => blk_frozen (hk2o o) 1; have x2 := fun o => blk_frozen (hk2o o) 2; have x3 := fun o => blk_frozen (hk2o o) 3; replace hk2o := Lib.hid hk2o; replace hI3 := Lib.hid hI3; replace hB3 := Lib.hid hB3; replace hK3 := Lib.hid hK3; replace k2 := Lib.hid k2; clear hH)))
        rw [hp.out]
        exact bodyPost_ret (results_ctt rfl rfl (load_reply (put4_blk (hk2o.out _) _ _ _ _))) rfl ⟨rfl, put4_below (hB3.out.alloc (by omega) _) (Nat.le_refl _) _ _ _ _⟩
      · rw [if_neg hlt] at hp
        have hx := B_take l2 z
        have hn : ((l.length - l2.length + z : Nat) : Int) = (l.length : Int) - (l2.length : Int) + (z : Int) := by omega
        replace hp := Lib.hid hp
        replace hn := Lib.hid hn
        go_enter Tryd.func14, Tryd.ntmps14
        go_upto_region 8 with (first  | (go_at_call 26; go_must (refine (hH.out _ hnew.out hbl0.out).mono ?_; rintro e w3 ⟨rfl, hI3, hB3, hK3⟩; have k2 := (hK3.2 _ (by first | (simp; done) | (simp; omega)) (by omega) (by simp)).trans hk20.out; have hlt3 : w.heap.size + 2 ≤ w3.heap.size := (by have := hK3.1; simpa using this); have hk2o := fun o => (heap_alloc_old w3 o (by omega)).trans k2; have c0 := fun o => cellS47_0 (hI3.alloc o).1; have c1 := fun o => cellS47_1 (hI3.alloc o).1; have c2 := fun o => cellS47_2 (hI3.alloc o).1; have z0 := fun o => (blk_cell (hk2o o) 0).trans rfl; have z1 := fun o => (blk_cell (hk2o o) 1).trans rfl; have z2 := fun o => (blk_cell (hk2o o) 2).trans rfl; have z3 := fun o => (blk_cell (hk2o o) 3).trans rfl; have x0 := fun o => blk_frozen (hk2o o) 0; have x1 := fun o => blk_frozen (hk2o o) 1; have x2 := fun o => blk_frozen (hk2o o) 2; have x3 := fun o => blk_frozen (hk2o o) 3; replace hk2o := Lib.hid hk2o; replace hI3 := Lib.hid hI3; replace hB3 := Lib.hid hB3; replace hK3 := Lib.hid hK3; replace k2 := Lib.hid k2; clear hH)))
        go_region
        all_goals (try go_wp2)
        all_goals
          rw [hp.out]
          rw [toldV_ok, hn.out]
          exact bodyPost_ret (results_ctt rfl rfl (load_reply (put4_blk (hk2o.out _) _ _ _ _))) rfl ⟨rfl, (put4_below (hB3.out.alloc (by omega) _) (Nat.le_refl _) _ _ _ _).drew⟩
end Go.Proofs.YthacomeiinejaaaDoor
