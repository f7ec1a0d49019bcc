/-
  Chapter 28, plain: how long a text is.
-/
import Derived.Test.YtigcgpbdifihoaaDoorOpT
import Derived.Lib.ItoaLen
set_option linter.unusedVariables false
set_option linter.unusedSimpArgs false
namespace Go.Proofs.YtigcgpbdifihoaaDoor
theorem num_len (n : Int) (h : i64 n) : (Lib.itoa n).length ≤ 21 := Lib.itoa_length_le n h.1 h.2
theorem great_len (n : Nat) (h : n < 18446744073709551616) : (Lib.decDigits n).length ≤ 20 := by
  rw [Lib.decDigits_length]
  exact Lib.nDigits_le20 n (by omega)
theorem tail_le : ∀ ws : List Wd, (∀ y ∈ ws, y.txt.length ≤ 21) → (tailW ws).length ≤ 22 * ws.length
  | [], _ => by simp [tailW]
  | a :: r, h => by
    have h1 := tail_le r fun y hy => h y (List.mem_cons_of_mem _ hy)
    have h2 := h a List.mem_cons_self
    simp only [tailW, List.flatMap_cons, List.length_append, List.length_cons] at h1 ⊢
    omega
theorem line_str (m : List UInt8) (ws : List Wd) (h : ∀ y ∈ ws, y.txt.length ≤ 21) : (lineL (.str m :: ws)).length ≤ m.length + 22 * ws.length + 1 := by
  have h1 := tail_le ws h
  rw [lineL, List.length_append, wordsL, List.length_append, List.length_singleton]
  show m.length + _ + 1 ≤ _
  omega
theorem listI_len (m : List UInt8) (xs : List Int) (h : ∀ x ∈ xs, i64 x) : (txtL (listI m xs)).length ≤ m.length + 1 + 22 * xs.length := by
  unfold listI
  split
  · simp [txtL]
  · rw [txt_one]
    have := line_str m (xs.map .num) fun y hy => by
      obtain ⟨x, hx, rfl⟩ := List.mem_map.1 hy
      exact num_len x (h x hx)
    rw [List.length_map] at this
    omega
theorem listU_len (m : List UInt8) (xs : List Nat) (h : ∀ x ∈ xs, x < 18446744073709551616) : (txtL (listU m xs)).length ≤ m.length + 1 + 22 * xs.length := by
  unfold listU
  split
  · simp [txtL]
  · rw [txt_one]
    have := line_str m (xs.map .great) fun y hy => by
      obtain ⟨x, hx, rfl⟩ := List.mem_map.1 hy
      exact Nat.le_succ_of_le (great_len x (h x hx))
    rw [List.length_map] at this
    omega
theorem txt_cons (a : List Wd) (r : List (List Wd)) : (txtL (a :: r)).length = (lineL a).length + (txtL r).length := by
  simp [txtL]
theorem flt_len (x : Flt) (h : x.ok) : (lineL (fltW x)).length ≤ 80 := by
  have h0 := num_len _ h.1
  have h1 := num_len _ h.2.1
  have h2 := num_len _ h.2.2
  simp [lineL, wordsL, tailW, fltW, Wd.txt, sFault]
  omega
theorem flts_len : ∀ xs : List Flt, (∀ x ∈ xs, x.ok) → (txtL (xs.map fltW)).length ≤ 80 * xs.length
  | [], _ => by simp [txtL]
  | a :: r, h => by
    have h1 := flts_len r fun y hy => h y (List.mem_cons_of_mem _ hy)
    have h2 := flt_len a (h a List.mem_cons_self)
    rw [List.map_cons, txt_cons, List.length_cons]
    omega
theorem arr_len (x : Arr) (h0 : i64 x.step) (h1 : i64 x.conn) : (lineL (arrW x)).length ≤ 60 * mArr x := by
  have h0 := num_len _ h0
  have h1 := num_len _ h1
  have h2 := quote_len x.bytes
  simp [lineL, wordsL, tailW, arrW, Wd.txt, sAt, mArr]
  omega
theorem arrs_len : ∀ xs : List Arr, (∀ x ∈ xs, i64 x.step ∧ i64 x.conn) → (txtL (xs.map arrW)).length ≤ 60 * (xs.map mArr).sum
  | [], _ => by simp [txtL]
  | a :: r, h => by
    have h1 := arrs_len r fun y hy => h y (List.mem_cons_of_mem _ hy)
    have h2 := h a List.mem_cons_self
    have h3 := arr_len a h2.1 h2.2
    rw [List.map_cons, txt_cons, List.map_cons, List.sum_cons]
    omega
theorem ten_len (x : Ten) (h : i64 x.quota) : (lineL (tenW x)).length ≤ 60 * mTen x := by
  have h0 := num_len _ h
  have h1 := quote_len x.nm
  have h2 := quote_len x.key
  simp [lineL, wordsL, tailW, tenW, Wd.txt, sTenant, mTen]
  omega
theorem tens_len : ∀ xs : List Ten, (∀ x ∈ xs, i64 x.quota) → (txtL (xs.map tenW)).length ≤ 60 * (xs.map mTen).sum
  | [], _ => by simp [txtL]
  | a :: r, h => by
    have h1 := tens_len r fun y hy => h y (List.mem_cons_of_mem _ hy)
    have h3 := ten_len a (h a List.mem_cons_self)
    rw [List.map_cons, txt_cons, List.map_cons, List.sum_cons]
    omega
theorem crash_len (t : Tm) (h : t.rng) : (txtL (crashL t)).length ≤ 40 + 22 * t.keep.length := by
  unfold crashL
  split
  · rw [txt_one]
    have := line_str sCrash ((t.dir :: t.keep).map .num) fun y hy => by
      obtain ⟨x, hx, rfl⟩ := List.mem_map.1 hy
      rcases List.mem_cons.1 hx with rfl | hx
      · exact num_len _ h.dir
      · exact num_len x (h.keep x hx)
    rw [List.length_map, List.length_cons, show sCrash.length = 5 from rfl] at this
    omega
  · simp [txtL]
theorem term_len (t : Tm) (h : t.rng) : (txtL (termLs t)).length ≤ 200 * mTm t := by
  have h0 := num_len _ h.steps
  have h1 := num_len _ h.stop
  have hl : (lineL (trmW t)).length ≤ 60 := by
    simp [lineL, wordsL, tailW, trmW, Wd.txt, sTerm]
    omega
  have a1 := listI_len sPicks t.picks h.picks
  have a2 := listI_len sTicks t.ticks h.ticks
  have a3 := listU_len sDraws t.draws h.draws
  have a4 := flts_len t.flts h.flts
  have a5 := arrs_len t.arr h.arr
  have a6 := crash_len t h
  rw [show sPicks.length = 5 from rfl] at a1
  rw [show sTicks.length = 5 from rfl] at a2
  rw [show sDraws.length = 5 from rfl] at a3
  simp only [termLs, txt_app, txt_one, List.length_append, mTm]
  omega
theorem terms_len : ∀ ts : List Tm, (∀ t ∈ ts, t.rng) → (txtL (ts.flatMap termLs)).length ≤ 200 * (ts.map mTm).sum
  | [], _ => by simp [txtL]
  | a :: r, h => by
    have h1 := terms_len r fun y hy => h y (List.mem_cons_of_mem _ hy)
    have h3 := term_len a (h a List.mem_cons_self)
    rw [List.flatMap_cons, txt_app, List.length_append, List.map_cons, List.sum_cons]
    omega
structure Cfg.rng (c : Cfg) : Prop where
  tens : ∀ x ∈ c.tens, i64 x.quota
  o0 : i64 c.o0
  o1 : i64 c.o1
  o2 : i64 c.o2
  o3 : i64 c.o3
  o4 : i64 c.o4
  o5 : i64 c.o5
  o6 : i64 c.o6
  cap : i64 c.cap
theorem all_len (c : Cfg) (ts : List Tm) (hc : c.rng) (hts : ∀ t ∈ ts, t.rng) : (txtL (allLs c ts)).length ≤ 60 * (c.tens.map mTen).sum + 200 * (ts.map mTm).sum + 400 := by
  have h0 := tens_len c.tens hc.tens
  have h1 := terms_len ts hts
  have e : (lineL (engW c)).length ≤ 200 := by
    have := line_str sEngine [.num c.o0, .num c.o1, .num c.o2, .num c.o3, .num c.o4, .num c.o5, .num c.o6] fun y hy => by
      simp only [List.mem_cons, List.not_mem_nil, or_false] at hy
      rcases hy with rfl | rfl | rfl | rfl | rfl | rfl | rfl
      · exact num_len _ hc.o0
      · exact num_len _ hc.o1
      · exact num_len _ hc.o2
      · exact num_len _ hc.o3
      · exact num_len _ hc.o4
      · exact num_len _ hc.o5
      · exact num_len _ hc.o6
    exact Nat.le_trans this (by simp [sEngine])
  have d : (lineL (dskW c)).length ≤ 100 := by
    have := line_str sDisk [.num c.cap] fun y hy => by
      simp only [List.mem_cons, List.not_mem_nil, or_false] at hy
      subst hy
      exact num_len _ hc.cap
    exact Nat.le_trans this (by simp [sDisk])
  simp only [allLs, cfgLs, txt_app, txt_one, List.length_append]
  omega
end Go.Proofs.YtigcgpbdifihoaaDoor
