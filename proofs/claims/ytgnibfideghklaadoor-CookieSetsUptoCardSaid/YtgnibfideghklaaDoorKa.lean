/-
  Chapter 19, plain: cookies as lists of bytes.
-/
import Derived.Lib.Split
import Derived.Lib.CountLaws
import Derived.Lib.SplitLaws
import Derived.Lib.IndexLaws
import Derived.Lib.IndexBytes
import Derived.Lib.IndexMore
import Derived.Lib.CutLaws
import Derived.Lib.ItoaNum
set_option linter.unusedVariables false
set_option linter.unusedSimpArgs false
namespace Go.Proofs.YtgnibfideghklaaDoor
open Go.Lib (index indexByte count splitK decDigits)
def octB (c : UInt8) : Bool := decide (33 ≤ c.toNat) && decide (c.toNat ≤ 126) && !(c == 34) && !(c == 44) && !(c == 59) && !(c == 92)
def octL (l : List UInt8) : Bool := l.all octB
def quoB (l : List UInt8) : Bool := decide (2 ≤ l.length) && (l.head? == some 34) && (l.getLast? == some 34)
def bareL (l : List UInt8) : List UInt8 := if quoB l = true then (l.drop 1).take (l.length - 2) else l
def letB (c : UInt8) : Bool := (decide (97 ≤ c.toNat) && decide (c.toNat ≤ 122)) || (decide (65 ≤ c.toNat) && decide (c.toNat ≤ 90)) || (decide (48 ≤ c.toNat) && decide (c.toNat ≤ 57))
def marksL : List UInt8 := [33, 35, 36, 37, 38, 39, 42, 43, 45, 46, 94, 95, 96, 124, 126]
def tokB (c : UInt8) : Bool := letB c || marksL.contains c
def tokL (l : List UInt8) : Bool := l.all tokB && !l.isEmpty
def consH (a : UInt8) : List (List UInt8) → List (List UInt8)
  | [] => [[a]]
  | h :: t => (a :: h) :: t
def splitR : List UInt8 → List (List UInt8)
  | [] => [[]]
  | [c] => [[c]]
  | a :: b :: r => if a = 59 ∧ b = 32 then [] :: splitR r else consH a (splitR (b :: r))
def joinR : List (List UInt8) → List UInt8
  | [] => []
  | [x] => x
  | x :: y :: r => x ++ 59 :: 32 :: joinR (y :: r)
def cutE : List UInt8 → List UInt8 × List UInt8 × Bool
  | [] => ([], [], false)
  | c :: r => if c = 61 then ([], r, true) else (c :: (cutE r).1, (cutE r).2.1, (cutE r).2.2)
def pairRt (p : List UInt8 × List UInt8) : Bool := tokL p.1 && octL (bareL p.2)
def pairOf (s : List UInt8) : Option (List UInt8 × List UInt8) :=
  if ((cutE s).2.2 && pairRt ((cutE s).1, (cutE s).2.1)) = true then some ((cutE s).1, (cutE s).2.1) else none
def pairsOf : List (List UInt8) → Option (List (List UInt8 × List UInt8))
  | [] => some []
  | s :: r => match pairOf s with
    | none => none
    | some p => (pairsOf r).map (p :: ·)
def parseC (l : List UInt8) : Option (List (List UInt8 × List UInt8)) := if (splitR l).length ≤ 16 then pairsOf (splitR l) else none
def glue (p : List UInt8 × List UInt8) : List UInt8 := p.1 ++ 61 :: p.2
def printC (l : List (List UInt8 × List UInt8)) : Option (List UInt8) :=
  if 1 ≤ l.length ∧ l.length ≤ 16 ∧ l.all pairRt = true then some (joinR (l.map glue)) else none
def findP (name : List UInt8) (l : List (List UInt8 × List UInt8)) : Option (List UInt8) := (l.find? (fun p => p.1 == name)).map (fun p => bareL p.2)
def findC (name : List UInt8) : List (List UInt8) → Option (List UInt8)
  | [] => none
  | v :: r => match parseC v with
    | none => findC name r
    | some l => match findP name l with
      | some x => some x
      | none => findC name r

theorem splitR_ne : ∀ l, splitR l ≠ []
  | [] => by simp [splitR]
  | [c] => by simp [splitR]
  | a :: b :: r => by
    unfold splitR
    split
    · simp
    · cases h : splitR (b :: r) with
      | nil => exact absurd h (splitR_ne (b :: r))
      | cons x y => simp [consH]
theorem splitR_index : ∀ s : List UInt8, (index s [59, 32] = -1 → splitR s = [s]) ∧ (∀ i : Nat, index s [59, 32] = i → splitR s = s.take i :: splitR (s.drop (i + 2)))
  | [] => ⟨fun _ => rfl, fun i h => by simp [index] at h⟩
  | [c] => by
    have e : index [c] [59, 32] = -1 := by simp [index, List.isPrefixOf]
    exact ⟨fun _ => rfl, fun i h => by rw [e] at h; omega⟩
  | a :: b :: r => by
    have ih := splitR_index (b :: r)
    have hge := Go.Lib.index_ge (b :: r) [59, 32]
    by_cases hp : a = 59 ∧ b = 32
    · obtain ⟨rfl, rfl⟩ := hp
      have e : index ((59 : UInt8) :: 32 :: r) [59, 32] = 0 := by rw [index]; simp [List.isPrefixOf]
      refine ⟨fun h => by rw [e] at h; omega, fun i h => ?_⟩
      rw [e] at h
      obtain rfl : i = 0 := by omega
      simp [splitR]
    · have hpf : [59, 32].isPrefixOf (a :: b :: r) = false := by
        rw [Bool.eq_false_iff]
        intro h
        simp [List.isPrefixOf] at h
        exact hp ⟨h.1.symm, h.2.symm⟩
      have e : index (a :: b :: r) [59, 32] = if index (b :: r) [59, 32] == -1 then -1 else index (b :: r) [59, 32] + 1 := by
        rw [index, hpf]
        rfl
      have es : splitR (a :: b :: r) = consH a (splitR (b :: r)) := by rw [splitR, if_neg hp]
      rw [es]
      by_cases hm : index (b :: r) [59, 32] = -1
      · have e2 : index (a :: b :: r) [59, 32] = -1 := by rw [e, hm]; rfl
        refine ⟨fun _ => by rw [ih.1 hm]; rfl, fun i h => by rw [e2] at h; omega⟩
      · have e2 : index (a :: b :: r) [59, 32] = index (b :: r) [59, 32] + 1 := by
          rw [e, if_neg (by simpa using hm)]
        refine ⟨fun h => by rw [e2] at h; omega, fun i h => ?_⟩
        obtain ⟨j, rfl⟩ : ∃ j, i = j + 1 := ⟨i - 1, by omega⟩
        rw [ih.2 j (by omega)]
        rw [show j + 1 + 2 = (j + 2) + 1 by omega, List.drop_succ_cons, List.take_succ_cons]
        rfl
theorem split_R : ∀ (n : Nat) (s : List UInt8), s.length ≤ n → splitK [59, 32] 0 (count s [59, 32]) s = splitR s
  | n, s, hn => by
    rcases Go.Lib.index_spec s [59, 32] with ⟨h, _⟩ | ⟨i, h, hi, ho, _⟩
    · rw [Go.Lib.count_miss h, (splitR_index s).1 h]
      rfl
    · have hroom := Go.Lib.index_room s [59, 32] (by omega)
      simp only [List.length_cons, List.length_nil] at hroom
      rw [Go.Lib.count_hit (by simp) h, (splitR_index s).2 i h, Nat.add_comm, splitK, if_neg (by rw [h]; simp), h]
      cases n with
      | zero => omega
      | succ n =>
        have := split_R n (s.drop (i + 2)) (by rw [List.length_drop]; omega)
        simp only [List.length_cons, List.length_nil, Int.toNat_natCast, Nat.add_zero]
        rw [← this]
theorem join_split : ∀ s, joinR (splitR s) = s
  | [] => rfl
  | [c] => rfl
  | a :: b :: r => by
    unfold splitR
    split
    · rename_i h
      have ih := join_split r
      cases hs : splitR r with
      | nil => exact absurd hs (splitR_ne r)
      | cons x y =>
        rw [hs] at ih
        rw [joinR, ih, h.1, h.2]
        rfl
    · have ih := join_split (b :: r)
      cases hs : splitR (b :: r) with
      | nil => exact absurd hs (splitR_ne _)
      | cons x y =>
        rw [hs] at ih
        cases y with
        | nil =>
          rw [joinR] at ih
          rw [ih]
          rfl
        | cons y z =>
          rw [joinR] at ih
          simp only [consH, joinR, List.cons_append]
          rw [ih]
theorem splitR_one : ∀ p : List UInt8, (59 : UInt8) ∉ p → splitR p = [p]
  | [], _ => rfl
  | [c], _ => rfl
  | a :: b :: r, h => by
    simp only [List.mem_cons, not_or] at h
    rw [splitR, if_neg (fun e => h.1 e.1.symm), splitR_one (b :: r) (by simp [h])]
    rfl
theorem splitR_app : ∀ (p r : List UInt8), (59 : UInt8) ∉ p → splitR (p ++ 59 :: 32 :: r) = p :: splitR r
  | [], r, _ => by simp [splitR]
  | [c], r, h => by
    simp only [List.mem_cons, List.not_mem_nil, or_false] at h
    rw [List.singleton_append, splitR, if_neg (fun e => h e.1.symm), show (59 : UInt8) :: 32 :: r = [] ++ 59 :: 32 :: r from rfl, splitR_app [] r (by simp)]
    rfl
  | a :: b :: q, r, h => by
    simp only [List.mem_cons, not_or] at h
    have := splitR_app (b :: q) r (by simp [h])
    rw [List.cons_append, List.cons_append, splitR, if_neg (fun e => h.1 e.1.symm)]
    rw [List.cons_append] at this
    rw [this]
    rfl
theorem split_join : ∀ ps : List (List UInt8), ps ≠ [] → (∀ p ∈ ps, (59 : UInt8) ∉ p) → splitR (joinR ps) = ps
  | [], h, _ => absurd rfl h
  | [x], _, h => splitR_one x (h x (by simp))
  | x :: y :: r, _, h => by
    rw [joinR, splitR_app x _ (h x (by simp)), split_join (y :: r) (by simp) (fun p hp => h p (by simp [hp]))]
theorem cut_E : ∀ l, Go.Lib.cut l [61] = cutE l
  | [] => by simp [Go.Lib.cut, index, cutE]
  | c :: r => by
    have ih := cut_E r
    have hge := Go.Lib.index_ge r [61]
    by_cases hc : c = 61
    · subst hc
      have e : index ((61 : UInt8) :: r) [61] = 0 := by rw [index]; simp [List.isPrefixOf]
      rw [cutE, if_pos rfl]
      simp [Go.Lib.cut, e]
    · have hpf : [61].isPrefixOf (c :: r) = false := by
        rw [Bool.eq_false_iff]
        intro h
        simp [List.isPrefixOf] at h
        exact hc h.symm
      have e : index (c :: r) [61] = if index r [61] == -1 then -1 else index r [61] + 1 := by
        rw [index, hpf]
        rfl
      rw [cutE, if_neg hc, ← ih]
      by_cases hm : index r [61] = -1
      · simp [Go.Lib.cut, e, hm]
      · have e2 : index (c :: r) [61] = index r [61] + 1 := by
          rw [e, if_neg (by simpa using hm)]
        unfold Go.Lib.cut
        rw [e2, if_pos (by omega), if_pos (by omega)]
        have e3 : (index r [61] + 1).toNat = (index r [61]).toNat + 1 := by omega
        have e4 : (index r [61]).toNat + 1 + [61].length = ((index r [61]).toNat + [(61 : UInt8)].length) + 1 := by simp
        rw [e3, List.take_succ_cons]
        simp only [List.length_cons, List.length_nil, Nat.zero_add]
        rw [List.drop_succ_cons]
theorem cut_glue : ∀ l : List UInt8, (cutE l).2.2 = true → l = (cutE l).1 ++ 61 :: (cutE l).2.1
  | [], h => by simp [cutE] at h
  | c :: r, h => by
    by_cases hc : c = 61
    · simp [cutE, hc]
    · rw [cutE, if_neg hc] at h ⊢
      rw [List.cons_append, ← cut_glue r h]
theorem cut_make : ∀ (n v : List UInt8), (61 : UInt8) ∉ n → cutE (n ++ 61 :: v) = (n, v, true)
  | [], v, _ => by simp [cutE]
  | c :: n, v, h => by
    simp only [List.mem_cons, not_or] at h
    rw [List.cons_append, cutE, if_neg (fun e => h.1 e.symm), cut_make n v h.2]
theorem cut_none : ∀ l : List UInt8, (cutE l).2.2 = false → (cutE l).1 = l ∧ (cutE l).2.1 = []
  | [], _ => by simp [cutE]
  | c :: r, h => by
    by_cases hc : c = 61
    · simp [cutE, hc] at h
    · rw [cutE, if_neg hc] at h ⊢
      have := cut_none r h
      simp [this]
theorem tok_no {l : List UInt8} (h : tokL l = true) (c : UInt8) (hc : tokB c = false) : c ∉ l := fun hm => by
  simp only [tokL, Bool.and_eq_true, List.all_eq_true] at h
  rw [h.1 c hm] at hc
  cases hc
theorem oct_no {l : List UInt8} (h : octL l = true) (c : UInt8) (hc : octB c = false) : c ∉ l := fun hm => by
  simp only [octL, List.all_eq_true] at h
  rw [h c hm] at hc
  cases hc
theorem bare_mem (l : List UInt8) (c : UInt8) (hc : c ≠ 34) (hm : c ∈ l) : c ∈ bareL l := by
  unfold bareL
  split
  · rename_i h
    simp only [quoB, Bool.and_eq_true, decide_eq_true_eq, beq_iff_eq] at h
    obtain ⟨⟨h1, h2⟩, h3⟩ := h
    cases l with
    | nil => simp at h1
    | cons a t =>
      simp only [List.head?_cons, Option.some.injEq] at h2
      subst h2
      have ht : t ≠ [] := by rintro rfl; simp at h1
      have h4 : t.getLast? = some 34 := by rw [List.getLast?_cons] at h3; cases hq : t.getLast? with
        | none => rw [List.getLast?_eq_none_iff] at hq; exact absurd hq ht
        | some q => rw [hq] at h3; simpa using h3
      have h5 : c ∈ t := by
        rcases List.mem_cons.1 hm with rfl | h
        · exact absurd rfl hc
        · exact h
      have h6 : t = t.dropLast ++ [34] := by
        have h7 := List.getLast?_eq_some_getLast ht
        rw [h4] at h7
        injection h7 with h7
        rw [h7]
        exact (List.dropLast_concat_getLast ht).symm
      rw [h6] at h5
      rcases List.mem_append.1 h5 with h | h
      · simpa [List.dropLast_eq_take] using h
      · simp at h; exact absurd h hc
  · exact hm
theorem rt_no {p : List UInt8 × List UInt8} (h : pairRt p = true) : (61 : UInt8) ∉ p.1 ∧ (59 : UInt8) ∉ p.1 ∧ (59 : UInt8) ∉ p.2 := by
  simp only [pairRt, Bool.and_eq_true] at h
  refine ⟨tok_no h.1 _ (by decide), tok_no h.1 _ (by decide), fun hm => ?_⟩
  exact oct_no h.2 59 (by decide) (bare_mem p.2 59 (by decide) hm)
theorem pair_glue {s : List UInt8} {p} (h : pairOf s = some p) : s = glue p ∧ pairRt p = true := by
  unfold pairOf at h
  split at h
  · rename_i hc
    injection h with h
    subst h
    simp only [Bool.and_eq_true] at hc
    exact ⟨cut_glue s hc.1, hc.2⟩
  · cases h
theorem pair_make {p : List UInt8 × List UInt8} (h : pairRt p = true) : pairOf (glue p) = some p := by
  unfold pairOf glue
  rw [cut_make _ _ (rt_no h).1]
  simp [h]
theorem pairs_glue : ∀ {l : List (List UInt8)} {ps}, pairsOf l = some ps → l = ps.map glue ∧ ps.all pairRt = true
  | [], ps, h => by simp [pairsOf] at h; subst h; simp
  | s :: r, ps, h => by
    unfold pairsOf at h
    cases hp : pairOf s with
    | none => rw [hp] at h; cases h
    | some p =>
      rw [hp] at h
      simp only [Option.map_eq_some_iff] at h
      obtain ⟨q, hq, rfl⟩ := h
      have h1 := pair_glue hp
      have h2 := pairs_glue hq
      rw [List.map_cons, List.all_cons, ← h1.1, ← h2.1]
      exact ⟨rfl, by rw [h1.2, h2.2]; rfl⟩
theorem pairs_make : ∀ (ps : List (List UInt8 × List UInt8)), ps.all pairRt = true → pairsOf (ps.map glue) = some ps
  | [], _ => rfl
  | p :: r, h => by
    rw [List.all_cons, Bool.and_eq_true] at h
    rw [List.map_cons, pairsOf, pair_make h.1, pairs_make r h.2]
    rfl
theorem parse_print {l : List UInt8} {ps} (h : parseC l = some ps) : printC ps = some l := by
  unfold parseC at h
  split at h
  · rename_i hl
    have h1 := pairs_glue h
    unfold printC
    have hn := splitR_ne l
    have hlen : (splitR l).length = ps.length := by rw [h1.1, List.length_map]
    have hpos : 0 < (splitR l).length := List.length_pos_iff.2 hn
    rw [if_pos ⟨by omega, by omega, h1.2⟩, ← h1.1, join_split]
  · cases h
theorem print_parse {ps : List (List UInt8 × List UInt8)} {l} (h : printC ps = some l) : parseC l = some ps := by
  unfold printC at h
  split at h
  · rename_i hc
    injection h with h
    subst h
    have hs : splitR (joinR (ps.map glue)) = ps.map glue := by
      refine split_join _ (by intro e; rw [List.map_eq_nil_iff] at e; rw [e] at hc; simp at hc) (fun p hp => ?_)
      obtain ⟨q, hq, rfl⟩ := List.mem_map.1 hp
      have := rt_no (List.all_eq_true.1 hc.2.2 q hq)
      simp [glue, this]
    unfold parseC
    rw [hs, if_pos (by rw [List.length_map]; exact hc.2.1), pairs_make ps hc.2.2]
  · cases h
theorem pairs_len : ∀ {l : List (List UInt8)} {ps}, pairsOf l = some ps → ps.length = l.length := fun h => by
  rw [(pairs_glue h).1, List.length_map]
end Go.Proofs.YtgnibfideghklaaDoor
