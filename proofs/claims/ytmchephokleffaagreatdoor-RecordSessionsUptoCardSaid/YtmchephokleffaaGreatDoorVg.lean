/-
  Chapter 22: the map of shapes, walked.
-/
import Derived.Test.YtmchephokleffaaGreatDoorVf
import Derived.Maps.RangeRun
import Derived.Maps.RangeWalk
set_option linter.unusedVariables false
set_option linter.unusedSimpArgs false
namespace Go.Proofs.YtmchephokleffaaGreatDoor
open Go.RowKit Go.Proofs.YtmchephokleffaaGreatDoorW.PrintWords Go.Proofs.YtmchephokleffaaGreatDoor.PRecord
theorem push_set (h : Array Obj) (o o' : Obj) : (h.push o).setIfInBounds h.size o' = h.push o' := by
  apply Array.ext'
  rw [Array.toList_setIfInBounds, Array.toList_push, Array.toList_push, List.set_append_right _ _ (by simp)]
  simp
theorem check_int (kt : TypeId) (hk : Tryz.prog.underlying kt = some (.int .i64)) (w : World) (x : Int) (n : Nat) : (Instr.checkKey false (n + 1) kt (.int .i64 x)).run Tryz.prog w = .ok () w := by
  simp [Instr.checkKey, run_underlying hk, Result.andThen]
/-- A store of a new key into a map that lies in the heap's last block. -/
theorem ins_at (t kt et : TypeId) (ht : Tryz.prog.underlying t = some (.map kt et)) (hk : Tryz.prog.underlying kt = some (.int .i64)) (w : World) (es : Array MapEntry) (clock : Nat) (x : Int) (v : Value)
    (hf : Instr.findNow (.int .i64) (.int .i64 x) es.toList 0 = some none) :
    (Instr.mapUpdate t (.map (some w.heap.size)) (.int .i64 x) v).run Tryz.prog (w.alloc (.map es clock)) = .ok () (w.alloc (.map (es.push ⟨.int .i64 x, v, clock⟩) (clock + 1))) := by
  have hb : (w.alloc (.map es clock)).heap[w.heap.size]? = some (.map es clock) := heap_alloc_new w _
  have hck := check_int kt hk (w.alloc (.map es clock)) x 9999
  rw [show 9999 + 1 = 10000 from rfl] at hck
  simp only [Instr.mapUpdate, Instr.findKey, Sem.run_bind, run_underlying ht, run_underlying hk, MapKept.run_getObj_map hb, MapKept.run_setObj_map _ hb, hck, hf, Result.andThen_ok, Sem.run_pure]
  unfold World.alloc
  simp [push_set]
def shE (letter : ByteArray) (p r : FuncId) : Value := .agg #[.string letter, .func (.func p) #[] #[], .func (.func r) #[] #[]]
def sh1 : Value := shE ⟨#[108]⟩ 92 93
def sh2 : Value := shE ⟨#[115]⟩ 94 95
def sh3 : Value := shE ⟨#[117]⟩ 97 98
def sh4 : Value := shE ⟨#[101]⟩ 99 100
def sh5 : Value := shE ⟨#[97]⟩ 101 102
def shM : Array MapEntry := #[⟨.int .i64 1, sh1, 0⟩, ⟨.int .i64 2, sh2, 1⟩, ⟨.int .i64 3, sh3, 2⟩, ⟨.int .i64 4, sh4, 3⟩, ⟨.int .i64 5, sh5, 4⟩]
set_option maxHeartbeats 2000000 in
theorem shapes_any (w : World) : Calls Tryz.prog 48 #[] w fun e w' => e = .returned (.map (some w.heap.size)) ∧ w' = w.alloc (.map shM 5) := by
  have hi1 := ins_at 75 3 80 Tryz.underlying75 Tryz.underlying3 w #[] 0 1 sh1 rfl
  have hi2 := ins_at 75 3 80 Tryz.underlying75 Tryz.underlying3 w #[⟨.int .i64 1, sh1, 0⟩] 1 2 sh2 rfl
  have hi3 := ins_at 75 3 80 Tryz.underlying75 Tryz.underlying3 w #[⟨.int .i64 1, sh1, 0⟩, ⟨.int .i64 2, sh2, 1⟩] 2 3 sh3 rfl
  have hi4 := ins_at 75 3 80 Tryz.underlying75 Tryz.underlying3 w #[⟨.int .i64 1, sh1, 0⟩, ⟨.int .i64 2, sh2, 1⟩, ⟨.int .i64 3, sh3, 2⟩] 3 4 sh4 rfl
  have hi5 := ins_at 75 3 80 Tryz.underlying75 Tryz.underlying3 w #[⟨.int .i64 1, sh1, 0⟩, ⟨.int .i64 2, sh2, 1⟩, ⟨.int .i64 3, sh3, 2⟩, ⟨.int .i64 4, sh4, 3⟩] 4 5 sh5 rfl
  simp only [List.push_toArray, List.nil_append, List.cons_append, sh1, sh2, sh3, sh4, sh5, shE, Nat.reduceAdd] at hi1 hi2 hi3 hi4 hi5
  have hmm := @run_makeMap Tryz.prog
  go_enter Tryz.func48, Tryz.ntmps48
  go_wp2_with (fail)
  go_ret
  exact ⟨rfl, rfl⟩
theorem shapes_at (w : World) (b : Nat) (hb : w.heap.size = b) : Calls Tryz.prog 48 #[] w fun e w' => e = .returned (.map (some b)) ∧ w' = w.alloc (.map shM 5) := by
  subst hb
  exact shapes_any w
end Go.Proofs.YtmchephokleffaaGreatDoor
/-
  Chapter 22: places; the functions of the shapes of ledgers and of audit entries.
-/
set_option linter.unusedVariables false
set_option linter.unusedSimpArgs false
namespace Go.Proofs.YtmchephokleffaaGreatDoor
open Go.RowKit Go.Proofs.YtmchephokleffaaGreatDoorW.PrintWords Go.Proofs.YtmchephokleffaaGreatDoor.PRecord
/-- A place: its kind, tenant, token, user, expiry, number. -/
structure Pl where
  k : Int
  te : ByteArray
  tk : ByteArray
  us : ByteArray
  ex : Nat
  nu : Int
def plC (p : Pl) : List Value := [.int .i64 p.k, .string p.te, .string p.tk, .string p.us, .int .u64 (p.ex : Int), .int .i64 p.nu]
/-- A place in memory. -/
def PB (w : World) (g : Nat) (p : Pl) : Prop := w.heap[g]? = some (.cells #[.int .i64 p.k, .string p.te, .string p.tk, .string p.us, .int .u64 (p.ex : Int), .int .i64 p.nu] 24 (0, 0))
def plV (p : Pl) : Value := .agg #[.int .i64 p.k, .string p.te, .string p.tk, .string p.us, .int .u64 (p.ex : Int), .int .i64 p.nu]
def zPl : Pl := ⟨0, ⟨#[]⟩, ⟨#[]⟩, ⟨#[]⟩, 0, 0⟩
def tP (t : ByteArray) : Pt := ⟨t, 0, false⟩
def nP (n : Nat) : Pt := ⟨⟨#[]⟩, n, true⟩
theorem cellsP_at : ∀ (ps : List Pt) (j : Nat) (p : Pt), ps[j]? = some p → ((ps.flatMap cellsP).drop (j * 3)).take 3 = cellsP p
  | [], j, p, h => by simp at h
  | x :: ps, 0, p, h => by
    simp at h
    subst h
    simp [cellsP]
  | x :: ps, j + 1, p, h => by
    have h2 := cellsP_at ps j p (by simpa using h)
    rw [← h2, List.flatMap_cons, show (j + 1) * 3 = 3 + j * 3 from by omega, ← List.drop_drop]
    rfl
/-- Parts laid into a block of their own are a row of one's own. -/
theorem R_built (W : World) (base : Nat) (hb : base ≤ W.heap.size) (ps : List Pt) (hl : ps.length ≤ 1000) :
    Kd.R kP 68 (W.alloc (.cells (ps.flatMap cellsP).toArray 68)) base (fun _ => True) (.slice (some ⟨W.heap.size, 0, none⟩) ps.length ps.length) ps := by
  have hlen : ∀ l : List Pt, (l.flatMap cellsP).length = l.length * 3 := fun l => by
    induction l with
    | nil => rfl
    | cons x l ih => rw [List.flatMap_cons, List.length_append, ih]; simp [cellsP]; omega
  refine ⟨fun _ _ => trivial, ps.flatMap cellsP, ⟨hlen ps, .inr ⟨W.heap.size, ps.length, (ps.flatMap cellsP).toArray, rfl, hb, heap_alloc_new W _, Nat.le_refl _, by unfold maxLen; omega, by simp only [List.size_toArray, hlen]; rfl, ?_⟩⟩, ?_⟩
  · show List.take _ (ps.flatMap cellsP) = _
    exact List.take_of_length_le (by rw [hlen]; exact Nat.le_refl _)
  · refine ⟨hlen ps, fun j p hj => ?_⟩
    show kP.M _ _ _ p (((ps.flatMap cellsP).drop (j * 3)).take 3)
    rw [cellsP_at ps j p hj]
    exact kP_mkM _ _ _ p
set_option maxHeartbeats 1000000 in
theorem asText_any (s : ByteArray) (w : World) : Calls Tryz.prog 51 #[.string s] w fun e w' => e = .returned (.agg #[.string s, .int .u64 0, .bool false]) ∧ Below w.heap.size w w' :=
  record_asText.calls s s 0 false w rfl
set_option maxHeartbeats 1000000 in
theorem asNumber_any (n : Nat) (w : World) : Calls Tryz.prog 53 #[.int .u64 (n : Int)] w fun e w' => e = .returned (.agg #[.string ⟨#[]⟩, .int .u64 (n : Int), .bool true]) ∧ Below w.heap.size w w' := by
  go_enter Tryz.func53, Tryz.ntmps53
  go_wp2
  exact bodyPost_ret (results_cell_row rfl _ _ w.heap.size _ _ _ _ rfl (heap_alloc_new w _) Tryz.underlying68 rfl (by kernel_rfl)) rfl ⟨rfl, (Below.refl _ _).alloc (Nat.le_refl _) _⟩
/-- What a shape's first function says of a place. -/
def PartsP (p : Pl) (l : List Pt) (w : World) (e : Ending) (w' : World) : Prop := ∃ A c, e = .returned (.slice A l.length c) ∧ l.length ≤ c ∧ Kd.C kP w' A l.length l ∧ (∀ ad, A = some ad → ad.block < w'.heap.size) ∧ Below w.heap.size w w'
set_option maxHeartbeats 1000000 in
theorem parts1 (p : Pl) (w : World) : Calls Tryz.prog 92 #[plV p] w (PartsP p [] w) := by
  unfold plV
  go_enter Tryz.func92, Tryz.ntmps92
  go_wp2
  go_ret
  exact ⟨none, 0, rfl, Nat.le_refl _, ⟨rfl, by simp, fun h => absurd h (by simp)⟩, (fun ad h => by cases h), (Below.refl _ _).alloc (Nat.le_refl _) _⟩
set_option maxHeartbeats 1000000 in
theorem parts9 (p : Pl) (n : Nat) (hn : p.nu = (n : Int)) (hn63 : n < 9223372036854775808) (w : World) : Calls Tryz.prog 101 #[plV p] w (PartsP p [nP n] w) := by
  obtain ⟨pk, pte, ptk, pus, pex, pnu⟩ := p
  simp only at hn
  subst hn
  unfold plV
  have hB0 := Lib.hid ((Below.refl w.heap.size w).alloc (Nat.le_refl _) (.cells #[.int .i64 pk, .string pte, .string ptk, .string pus, .int .u64 (pex : Int), .int .i64 (n : Int)] 24))
  go_enter Tryz.func101, Tryz.ntmps101
  go_wp2_with (fail)
  refine (asNumber_any n _).mono ?_
  rintro e w2 ⟨rfl, hb2⟩
  have hB2 := Lib.hid (hB0.out.trans (hb2.mono hB0.out.size))
  clear hb2 hB0
  have hR := Lib.hid (R_built w2 w.heap.size hB2.out.size [nP n] (by simp))
  go_wp2
  go_ret
  obtain ⟨A, c, h1, h2, h3⟩ := Kd.R_reads hR.out
  injection h1 with h1 h4 h5
  subst h1
  exact ⟨_, _, rfl, Nat.le_refl _, h3, (fun ad h => by injection h with h; subst h; simp), hB2.out.alloc hB2.out.size _⟩
/-- What a shape's second function does: the place at block g. -/
def ReadP (g : Nat) (b : Bool) (q : Pl) (w : World) (e : Ending) (w' : World) : Prop := e = .returned (.bool b) ∧ PB w' g q ∧ Below g w w'
set_option maxHeartbeats 1000000 in
theorem read2 (A : Option Addr) (n c g : Nat) (hn : n ≤ 1000) (q : Pl) (w : World) (hq : PB w g q) : Calls Tryz.prog 93 #[.pointer (some ⟨g, 0, none⟩), .slice A n c] w (ReadP g (decide (n = 0)) q w) := by
  have hq := Lib.hid hq
  by_cases h0 : n = 0
  · subst h0
    go_enter Tryz.func93, Tryz.ntmps93
    go_wp2
    go_ret
    exact ⟨rfl, hq.out, Below.refl _ _⟩
  · have e1 : decide (n = 0) = false := decide_eq_false h0
    have e2 : ((n : Int) == 0) = false := by simp [h0]
    rw [e1]
    go_enter Tryz.func93, Tryz.ntmps93
    go_wp2
    go_ret
    exact ⟨rfl, hq.out, Below.refl _ _⟩
def rd10 (l : List Pt) (q : Pl) : Bool × Pl :=
  match l with
  | [x] => if x.n < 1 ∨ 9223372036854775807 < x.n then (false, q) else (x.b, { q with nu := (x.n : Int) })
  | _ => (false, q)
set_option maxHeartbeats 2000000 in
theorem read10 (l : List Pt) (hl : l.length ≤ 1000) (A : Option Addr) (c g : Nat) (q : Pl) (w : World) (hC : Kd.C kP w A l.length l) (hA : ∀ ad, A = some ad → ad.block ≠ g) (hq : PB w g q) :
    Calls Tryz.prog 102 #[.pointer (some ⟨g, 0, none⟩), .slice A l.length c] w (ReadP g (rd10 l q).1 (rd10 l q).2 w) := by
  match l, hl, hC with
  | [], hl, hC =>
    have hq := Lib.hid hq
    clear hC
    go_enter Tryz.func102, Tryz.ntmps102
    go_wp2
    go_ret
    exact ⟨rfl, hq.out, Below.refl _ _⟩
  | x :: y :: r, hl, hC =>
    have hq := Lib.hid hq
    have e2 : (((x :: y :: r).length : Int) != 1) = true := by simp; omega
    clear hC
    generalize hz : (x :: y :: r).length = z at *
    have hd : rd10 (x :: y :: r) q = (false, q) := rfl
    rw [hd]
    clear hz hd
    go_enter Tryz.func102, Tryz.ntmps102
    go_wp2
    go_ret
    exact ⟨rfl, hq.out, Below.refl _ _⟩
  | [x], hl, hC =>
    obtain ⟨ad, rfl, c0, c1, c2⟩ := at_P hC 0 (by simp)
    have hne := hA ad rfl
    rw [show List.getD [x] 0 zP = x from rfl] at c0 c1 c2
    obtain ⟨xt, xn, xb⟩ := x
    obtain ⟨pk, pte, ptk, pus, pex, pnu⟩ := q
    simp only at c1 c2
    simp only [Nat.zero_mul] at c0 c1 c2
    have hz : ad.add 0 = ad := by cases ad with | mk b o p => cases p <;> rfl
    rw [hz] at c0 c1 c2
    rw [show ([⟨xt, xn, xb⟩] : List Pt).length = 1 from rfl]
    unfold PB at hq
    have hqH := Lib.hid hq
    have f5 := blk_frozen hq 5
    have k5 := (blk_cell hq 5).trans rfl
    clear hC hA hq c0
    by_cases hlo : xn < 1
    · have hd : rd10 [⟨xt, xn, xb⟩] ⟨pk, pte, ptk, pus, pex, pnu⟩ = (false, ⟨pk, pte, ptk, pus, pex, pnu⟩) := by simp only [rd10]; rw [if_pos (Or.inl hlo)]
      rw [hd]
      clear hd
      have d1 : decide ((xn : Int) < 1) = true := decide_eq_true (by omega)
      go_enter Tryz.func102, Tryz.ntmps102
      go_wp2
      go_ret
      exact ⟨rfl, hqH.out, Below.refl _ _⟩
    · have d1 : decide ((xn : Int) < 1) = false := decide_eq_false (by omega)
      by_cases hhi : 9223372036854775807 < xn
      · have hd : rd10 [⟨xt, xn, xb⟩] ⟨pk, pte, ptk, pus, pex, pnu⟩ = (false, ⟨pk, pte, ptk, pus, pex, pnu⟩) := by simp only [rd10]; rw [if_pos (Or.inr hhi)]
        rw [hd]
        clear hd
        have d2 : decide ((9223372036854775807 : Int) < (xn : Int)) = true := decide_eq_true (by omega)
        go_enter Tryz.func102, Tryz.ntmps102
        go_wp2
        go_ret
        exact ⟨rfl, hqH.out, Below.refl _ _⟩
      · have hd : rd10 [⟨xt, xn, xb⟩] ⟨pk, pte, ptk, pus, pex, pnu⟩ = (xb, ⟨pk, pte, ptk, pus, pex, (xn : Int)⟩) := by simp only [rd10]; rw [if_neg (by omega)]
        rw [hd]
        clear hd
        have d2 : decide ((9223372036854775807 : Int) < (xn : Int)) = false := decide_eq_false (by omega)
        have hx0 : (0 : Int) ≤ (xn : Int) := by omega
        have hx1 : (xn : Int) ≤ 9223372036854775807 := by omega
        have hset := Lib.hid (blk_set hqH.out 5 (.int .i64 (xn : Int)))
        have c2b : (w.setCell ⟨g, 5, none⟩ (.int .i64 (xn : Int))).cell? ⟨ad.block, ad.off + 2, none⟩ = some (.bool xb) := by
          rw [← c2]
          exact World.cell?_of_block (Below.heap_setCell _ ⟨g, 5, none⟩ _ _ hne)
        go_enter Tryz.func102, Tryz.ntmps102
        go_wp2
        go_ret
        exact ⟨rfl, hset.out, (Below.refl g w).setCell (p := ⟨g, 5, none⟩) (Nat.le_refl g) _⟩
end Go.Proofs.YtmchephokleffaaGreatDoor
