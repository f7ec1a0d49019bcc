/-
  Chapter 18: the status line, read: a range over the statuses' map.
-/
import Derived.Test.YthacomeiinejaaaDoorSf
import Derived.Test.YthacomeiinejaaaDoorSq
import Derived.Maps.RangeRun
import Derived.Laws.IdiomRangeMap
import Derived.Lib.SmallJoins
import Derived.Lib.AppendIntMem
import Derived.Lib.ItoaLen
set_option linter.unusedVariables false
set_option linter.unusedSimpArgs false
namespace Go.Proofs.YthacomeiinejaaaDoor
open Go.RowKit Go.Proofs.YthacomeiinejaaaDoorW.PrintWords Go.Proofs.YthacomeiinejaaaDoor.PReplyWrites
open Go.ChangeMaps (setBlock)
/-- The library's table of powers stands as its initialiser lays it. -/
def Tab (w : World) : Prop := Lib.TabIs Tryd.prog w "internal/strconv.uint64pow10" .u64 Lib.pow10Tab
theorem Tab.below {w w1 : World} (h : Tab w) (hb : Below w.heap.size w w1) : Tab w1 :=
  Go.Joins.var_stays (g := (Tryd.prog.globalNamed "internal/strconv.uint64pow10").getD 0) (by kernel_rfl) h hb (Nat.le_refl _)
theorem itoa_any (n : Int) (h0 : -9223372036854775808 ≤ n) (h1 : n ≤ 9223372036854775807) (w : World) (htab : Tab w) :
    Calls Tryd.prog 24 #[.int .i64 n] w fun e w' => e = .returned (.string (B (Lib.itoa n))) ∧ Below w.heap.size w w' := by
  refine (Tryd.strconv_Itoa n h0 h1 w htab).mono ?_
  rintro e w' ⟨rfl, k, os, rfl⟩
  exact ⟨rfl, Lib.below_grow _ w (Nat.le_refl _) k os⟩
theorem B_app (l m : List UInt8) : B l ++ B m = B (l ++ m) := by
  rw [← of_data (B l ++ B m), ByteArray.data_append]
  congr 1
  rw [Array.toList_append, B_data, B_data]
theorem stM_st : (stM 13).toList.length = 13 ∧ ((stM 13).toList.map (·.born)).Nodup ∧ ∀ x ∈ (stM 13).toList, x.born < 13 := by
  refine ⟨by kernel_rfl, ?_, ?_⟩
  · have : (stM 13).toList.map (·.born) = [0, 1, 2, 3, 4, 5, 6, 7, 8, 9, 10, 11, 12] := by kernel_rfl
    rw [this]
    decide
  · have h : ((stM 13).toList.all fun x => decide (x.born < 13)) = true := by kernel_rfl
    intro x hx
    simpa using List.all_eq_true.1 h x hx
theorem stM_mem {e : MapEntry} (h : e ∈ (stM 13).toList) : ∃ p ∈ stats, e.key = .int .i64 p.1 ∧ e.val = .string p.2 := by
  obtain ⟨p, hp, h2⟩ := stA_keys 13 0 stats e (by simpa [stM] using h)
  exact ⟨p, List.mem_of_mem_take hp, h2⟩
theorem stM_has {p : Int × ByteArray} (h : p ∈ stats) : ∃ e ∈ (stM 13).toList, e.key = .int .i64 p.1 ∧ e.val = .string p.2 := by
  simp only [stats, List.mem_cons, List.not_mem_nil, or_false] at h
  rcases h with rfl | rfl | rfl | rfl | rfl | rfl | rfl | rfl | rfl | rfl | rfl | rfl | rfl <;> simp [stM, stA, stats]
theorem st_small : ∀ p ∈ stats, p.2.size ≤ 64 ∧ 0 ≤ p.1 ∧ p.1 ≤ 1000 := by decide
/-- What has been seen of the statuses. -/
structure Seen (l : List UInt8) (seen : Array Nat) (o : Bool) : Prop where
  not : ∀ e ∈ (stM 13).toList, seen.contains e.born = true → ∀ p ∈ stats, e.key = .int .i64 p.1 → (lineL p).isPrefixOf l = false
  yes : ∀ e ∈ (stM 13).toList, seen.contains e.born = true → ∀ p ∈ stats, e.key = .int .i64 p.1 → l.isPrefixOf (lineL p) = true → o = true
  why : o = true → ∃ p ∈ stats, l.isPrefixOf (lineL p) = true
theorem st_inj {p q : Int × ByteArray} (hp : p ∈ stats) (hq : q ∈ stats) (h : p.1 = q.1) : p = q := by
  have hall : (stats.all fun p => stats.all fun q => !(p.1 == q.1) || (p.2.data.toList == q.2.data.toList)) = true := by kernel_rfl
  have h2 := List.all_eq_true.1 (List.all_eq_true.1 hall p hp) q hq
  obtain ⟨a, b⟩ := p
  obtain ⟨c, d⟩ := q
  dsimp only at h h2
  subst h
  simp at h2
  have : b = d := by
    cases b; cases d
    simp at h2
    rw [h2]
  rw [this]
theorem Seen.push {l : List UInt8} {seen : Array Nat} {o : Bool} (h : Seen l seen o) {e : MapEntry} (he : e ∈ (stM 13).toList) {p : Int × ByteArray} (hp : p ∈ stats) (hk : e.key = .int .i64 p.1) (hn : (lineL p).isPrefixOf l = false) : Seen l (seen.push e.born) (o || l.isPrefixOf (lineL p)) := by
  have hsame : ∀ e2 ∈ (stM 13).toList, e2.born = e.born → e2.key = e.key := by
    have hall : ((stM 13).toList.all fun x => (stM 13).toList.all fun y => !(x.born == y.born) || (match x.key, y.key with | .int _ a, .int _ b => a == b | _, _ => false)) = true := by kernel_rfl
    intro e2 h2 hb
    have h3 := List.all_eq_true.1 (List.all_eq_true.1 hall e2 h2) e he
    obtain ⟨q, hq, hq1, _⟩ := stM_mem h2
    rw [hb, hq1, hk] at h3
    simp at h3
    rw [hq1, hk, h3]
  constructor
  · intro e2 h2 hs q hq hkq
    rw [contains_push, Bool.or_eq_true] at hs
    rcases hs with hs | hs
    · exact h.not e2 h2 hs q hq hkq
    · have h3 := hsame e2 h2 (by simpa using hs)
      rw [hkq, hk] at h3
      injection h3 with _ h3
      rw [st_inj hq hp h3]
      exact hn
  · intro e2 h2 hs q hq hkq hl
    rw [contains_push, Bool.or_eq_true] at hs
    rcases hs with hs | hs
    · rw [h.yes e2 h2 hs q hq hkq hl]; rfl
    · have h3 := hsame e2 h2 (by simpa using hs)
      rw [hkq, hk] at h3
      injection h3 with _ h3
      rw [← st_inj hq hp h3, hl, Bool.or_true]
  · intro ho
    rw [Bool.or_eq_true] at ho
    rcases ho with ho | ho
    · exact h.why ho
    · exact ⟨p, hp, ho⟩
theorem Seen.start (l : List UInt8) : Seen l #[] false := ⟨fun e _ h => by simp at h, fun e _ h => by simp at h, fun h => by simp at h⟩
/-- All are seen: none stands there; and what 'open' says. -/
theorem Seen.all {l : List UInt8} {seen : Array Nat} {o : Bool} (h : Seen l seen o) (hall : (leftOf (stM 13) seen).size = 0) : stats.find? (fun p => (lineL p).isPrefixOf l) = none ∧ stats.any (fun p => l.isPrefixOf (lineL p)) = o := by
  constructor
  · rw [List.find?_eq_none]
    intro p hp h2
    obtain ⟨e, he, hk, _⟩ := stM_has hp
    rw [h.not e he (all_seen _ seen hall e he) p hp hk] at h2
    exact absurd h2 (by simp)
  · rw [Bool.eq_iff_iff, List.any_eq_true]
    constructor
    · rintro ⟨p, hp, hl⟩
      obtain ⟨e, he, hk, _⟩ := stM_has hp
      exact h.yes e he (all_seen _ seen hall e he) p hp hk hl
    · exact h.why
theorem find_line {l : List UInt8} {p : Int × ByteArray} (hp : p ∈ stats) (h : (lineL p).isPrefixOf l = true) : stats.find? (fun q => (lineL q).isPrefixOf l) = some p := by
  cases hq : stats.find? (fun q => (lineL q).isPrefixOf l) with
  | none =>
    rw [List.find?_eq_none] at hq
    exact absurd h (hq p hp)
  | some q =>
    have h3 := List.find?_some hq
    have h4 := List.mem_of_find?_eq_some hq
    simp only [List.isPrefixOf_iff_prefix] at h3 h
    rcases List.prefix_or_prefix_of_prefix h3 h with h5 | h5
    · rw [line_eq hp h4 h5]
    · rw [line_eq h4 hp h5]
theorem iter_set {w w1 : World} (hw : w1 = w ∨ w1 = w.drew) {r : Nat} {m : Option Nat} {s c : Nat} {seen : Array Nat} (hr : w.heap[r]? = some (.mapIter m s seen c)) (o : Obj) {w2 : World} (h2 : setBlock w1 r o = w2) :
    w2.heap[r]? = some o ∧ (∀ i, i ≠ r → w2.heap[i]? = w.heap[i]?) ∧ w2.heap.size = w.heap.size ∧ ∀ B, B ≤ r → Below B w w2 := by
  have hlt : r < w.heap.size := (Array.getElem?_eq_some_iff.1 hr).1
  subst h2
  have key : ∀ w1 : World, w1.heap = w.heap → w1.os = w.os → w1.tape = w.tape → w1.output = w.output → (setBlock w1 r o).heap[r]? = some o ∧ (∀ i, i ≠ r → (setBlock w1 r o).heap[i]? = w.heap[i]?) ∧ (setBlock w1 r o).heap.size = w.heap.size ∧ ∀ B, B ≤ r → Below B w (setBlock w1 r o) := by
    intro w1 e1 e2 e3 e4
    have a1 : ∀ i, i ≠ r → (setBlock w1 r o).heap[i]? = w.heap[i]? := fun i hi => by
      show (w1.heap.setIfInBounds r o)[i]? = _
      rw [e1, Array.getElem?_setIfInBounds_ne (fun h => hi h.symm)]
    have a2 : (setBlock w1 r o).heap.size = w.heap.size := by
      show (w1.heap.setIfInBounds r o).size = _
      rw [Array.size_setIfInBounds, e1]
    refine ⟨?_, a1, a2, fun B hB => ⟨e2, e3, e4, by rw [a2]; exact Nat.le_refl _, fun i hi => a1 i (by omega)⟩⟩
    show (w1.heap.setIfInBounds r o)[r]? = _
    rw [e1, Array.getElem?_setIfInBounds_self_of_lt hlt]
  rcases hw with rfl | rfl
  · exact key _ rfl rfl rfl rfl
  · exact key _ rfl rfl rfl rfl
theorem iterSeen_at {w : World} {r : Nat} {m : Option Nat} {s c : Nat} {seen : Array Nat} (h : w.heap[r]? = some (.mapIter m s seen c)) : w.iterSeen r = seen := by
  unfold World.iterSeen
  rw [h]
theorem hp_any (x p : List UInt8) (w : World) : Calls Tryd.prog 41 #[.string (B x), .string (B p)] w fun e w' => e = .returned (.bool (p.isPrefixOf x)) ∧ w' = w := by
  have := Tryd.strings_HasPrefix (B x) (B p) w
  rw [B_data, B_data] at this
  exact this
set_option maxHeartbeats 1500000 in
set_option maxRecDepth 100000 in
theorem status_any (g : Nat) (l : List UInt8) (hlen : l.length ≤ 4611686018427387904) (w0 w : World) (htab : Tab w0) (hI : IsS47 w0 w g (B l) false false) (hB : Below w0.heap.size w0 w) :
    Calls Tryd.prog 31 #[.pointer (some ⟨g, 0, none⟩)] w fun e w' => e = .returned (.int .i64 (statusL l).1) ∧ IsS47 w0 w' g (B (statusL l).2.1) (statusL l).2.2.1 (statusL l).2.2.2 ∧ Below w0.heap.size w0 w' ∧ KeepBut w w' g none := by
  have hM := Lib.hid (must_any g verL l false false w0 w hI hB)
  have hge := hI.2
  have hgl : g < w.heap.size := hI.lt
  have hml : (mustL verL (l, false, false)).1.length ≤ l.length := by
    unfold mustL
    have : (takeL verL (l, false, false)).2.1.length ≤ l.length := by
      unfold takeL
      simp only [Bool.false_eq_true, if_false]
      split
      · rw [List.length_drop]; omega
      · split
        · split <;> exact Nat.le_refl _
        · exact Nat.le_refl _
    split
    · exact this
    · split <;> exact this
  have hst : statusL l = if (mustL verL (l, false, false)).2.1 = true then (0, mustL verL (l, false, false)) else if (mustL verL (l, false, false)).2.2 = true then (0, mustL verL (l, false, false))
      else match stats.find? (fun p => (lineL p).isPrefixOf (mustL verL (l, false, false)).1) with
        | some p => (p.1, (mustL verL (l, false, false)).1.drop (lineL p).length, false, false)
        | none => (0, (mustL verL (l, false, false)).1, stats.any (fun p => (mustL verL (l, false, false)).1.isPrefixOf (lineL p)), !stats.any (fun p => (mustL verL (l, false, false)).1.isPrefixOf (lineL p))) := rfl
  generalize mustL verL (l, false, false) = r at *
  obtain ⟨l1, s1, d1⟩ := r
  dsimp only at hM hst hml
  clear hI hB
  cases s1 with
  | true =>
    rw [if_pos rfl] at hst
    rw [hst]
    clear hst
    go_enter Tryd.func31, Tryd.ntmps31
    go_wp2_with (first | (go_at_call 33; go_must (refine hM.out.mono ?_; rintro e w1 ⟨rfl, hI1, hB1, hK1⟩; have c1 := cellS47_1 hI1.1; replace hI1 := Lib.hid hI1; replace hB1 := Lib.hid hB1; replace hK1 := Lib.hid hK1)))
    go_ret
    exact ⟨rfl, hI1.out, hB1.out, hK1.out⟩
  | false =>
    rw [if_neg (by simp)] at hst
    cases d1 with
    | true =>
      rw [if_pos rfl] at hst
      rw [hst]
      clear hst
      go_enter Tryd.func31, Tryd.ntmps31
      go_wp2_with (first | (go_at_call 33; go_must (refine hM.out.mono ?_; rintro e w1 ⟨rfl, hI1, hB1, hK1⟩; have c1 := cellS47_1 hI1.1; have c2 := cellS47_2 hI1.1; replace hI1 := Lib.hid hI1; replace hB1 := Lib.hid hB1; replace hK1 := Lib.hid hK1)))
      go_ret
      exact ⟨rfl, hI1.out, hB1.out, hK1.out⟩
    | false =>
      rw [if_neg (by simp)] at hst
      replace hst := Lib.hid hst
      have hrg : ∀ w1 : World, (Instr.range 52 (.map (some w1.heap.size))).run Tryd.prog (w1.alloc (.map (stM 13) 13)) = .ok (.pointer (some ⟨w1.heap.size + 1, 0, none⟩)) ((w1.alloc (.map (stM 13) 13)).alloc (.mapIter (some w1.heap.size) 13 #[] 13)) := fun w1 => by
        have := run_range_map (P := Tryd.prog) (w1.alloc (.map (stM 13) 13)) 52 _ _ w1.heap.size (stM 13) 13 Tryd.underlying52 (heap_alloc_new w1 _)
        simpa using this
      go_enter Tryd.func31, Tryd.ntmps31
      go_wp2_with (first  | (go_at_call 33; go_must (refine hM.out.mono ?_; rintro e w1 ⟨rfl, hI1, hB1, hK1⟩; have c1 := cellS47_1 hI1.1; have c2 := cellS47_2 hI1.1; have hrg1 := hrg w1; have hgl1 := hI1.lt; replace hI1 := Lib.hid hI1; replace hB1 := Lib.hid hB1; replace hK1 := Lib.hid hK1))  | (go_at_call 28; go_must (refine (all_ok w1).mono ?_; rintro e w2 ⟨rfl, rfl⟩)))
      have hm0 : ((w1.alloc (.map (stM 13) 13)).alloc (.mapIter (some w1.heap.size) 13 #[] 13)).heap[w1.heap.size]? = some (.map (stM 13) 13) := by
        rw [heap_alloc_old _ _ (by simp)]
        exact heap_alloc_new w1 _
      have hr0 : ((w1.alloc (.map (stM 13) 13)).alloc (.mapIter (some w1.heap.size) 13 #[] 13)).heap[w1.heap.size + 1]? = some (.mapIter (some w1.heap.size) 13 #[] 13) := by
        have := heap_alloc_new (w1.alloc (.map (stM 13) 13)) (.mapIter (some w1.heap.size) 13 #[] 13)
        simpa using this
      have hw1s := hB1.out.size
      have hww : w.heap.size ≤ w1.heap.size := keep_size hK1.out
      replace hm0 := Lib.hid hm0
      replace hr0 := Lib.hid hr0
      replace hrg1 := Lib.hid hrg1
      clear hrg c1 c2
      go_loopw [3] (fun u wr => ∃ (seen : Array Nat) (o : Bool), u = .bool o ∧ wr.heap[w1.heap.size]? = some (.map (stM 13) 13) ∧ wr.heap[w1.heap.size + 1]? = some (.mapIter (some w1.heap.size) 13 seen 13) ∧ Seen l1 seen o ∧ IsS47 w0 wr g (B l1) false false ∧ Below w0.heap.size w0 wr ∧ KeepBut w wr g none) (fun _ wr => (leftOf (stM 13) (wr.iterSeen (w1.heap.size + 1))).size)
      case atStart => exact ⟨#[], false, rfl, hm0.out, hr0.out, Seen.start l1, (hI1.out.alloc _).alloc _, (hB1.out.alloc hw1s _).alloc (by simp; omega) _, keep_alloc (keep_alloc hK1.out _) _⟩
      case round =>
        obtain ⟨seen, o, rfl, hm, hr, hS, hI, hB, hK⟩ := hrel
        have law := run_next_at (P := Tryd.prog) wr 0 (w1.heap.size + 1) w1.heap.size 13 13 seen (stM 13) 13 hr hm stM_st.2.2 (Nat.le_refl _)
        have c0 := cellS47_0 hI.1
        have c1 := cellS47_1 hI.1
        have c2 := cellS47_2 hI.1
        have f0 := blk_frozen hI.1 0
        have f1 := blk_frozen hI.1 1
        have f2 := blk_frozen hI.1 2
        rcases law with ⟨h0, hrun⟩ | ⟨e, he, w2, hal, hrun⟩
        · have hnx : ∀ ty, (Instr.next (.pointer (some ⟨w1.heap.size + 1, 0, none⟩)) false ty).run Tryd.prog wr = _ := fun _ => hrun
          obtain ⟨hf1, hf2⟩ := hS.all h0
          rw [hf1, hf2] at hst
          replace hI := Lib.hid hI
          replace hB := Lib.hid hB
          replace hK := Lib.hid hK
          clear hrun hf1 hf2 h0 hm hr
          go_wp2
          go_ret
          rw [hst.out]
          exact ⟨rfl, (hI.out.set_1 _).set_2 _, (hB.out.setCell hge _).setCell hge _, (hK.out.set_ 1 _).set_ 2 _⟩
        · obtain ⟨hem, hnot⟩ := mem_left he
          obtain ⟨p, hp, hk, hv⟩ := stM_mem hem
          have hlen2 := left_shrinks _ _ _ he
          rw [hk, hv] at hrun
          obtain ⟨w3, hw3⟩ : ∃ w3, setBlock w2 (w1.heap.size + 1) (.mapIter (some w1.heap.size) 13 (seen.push e.born) 13) = w3 := ⟨_, rfl⟩
          obtain ⟨hr3, ho3, hz3, hb3⟩ := iter_set hal hr (.mapIter (some w1.heap.size) 13 (seen.push e.born) 13) hw3
          rw [hw3] at hrun
          have hnx : ∀ ty, (Instr.next (.pointer (some ⟨w1.heap.size + 1, 0, none⟩)) false ty).run Tryd.prog wr = _ := fun _ => hrun
          have hm3 : w3.heap[w1.heap.size]? = some (.map (stM 13) 13) := (ho3 _ (by omega)).trans hm
          have hen := run_entry_at (P := Tryd.prog) w3 (w1.heap.size + 1) w1.heap.size 13 seen (stM 13) 13 e hr3 hm3 hem stM_st.2.1
          rw [hk, hv] at hen
          have hI3 : IsS47 w0 w3 g (B l1) false false := ⟨(ho3 g (by omega)).trans hI.1, hge⟩
          have hB3 : Below w0.heap.size w0 w3 := hB.trans (hb3 _ (by omega))
          have hK3 : KeepBut w w3 g none := ⟨by rw [hz3]; exact hK.1, fun i hi h1 h2 => (ho3 i (by omega)).trans (hK.2 i hi h1 h2)⟩
          obtain ⟨hs1, hs2, hs3⟩ := st_small p hp
          have hA := Lib.hid (itoa_any p.1 (by omega) (by omega) w3 (htab.below hB3))
          have hl : B (Lib.itoa p.1) ++ ⟨#[32]⟩ ++ p.2 ++ ⟨#[13, 10]⟩ = B (lineL p) := by
            have e1 : (⟨#[32]⟩ : ByteArray) = B [32] := rfl
            have e2 : (⟨#[13, 10]⟩ : ByteArray) = B crlfL := rfl
            have e3 : p.2 = B p.2.data.toList := (of_data _).symm
            rw [e1, e2, e3, B_app, B_app, B_app]
            rfl
          have hs4 : (B (Lib.itoa p.1)).size ≤ 21 := by
            rw [B_size]
            exact Lib.itoa_length_le p.1 (by omega) (by omega)
          have hh1 := Lib.hid (hp_any l1 (lineL p))
          have hh2 := Lib.hid (hp_any (lineL p) l1)
          have hS2 := fun h => hS.push hem hp hk h
          replace hI3 := Lib.hid hI3
          replace hB3 := Lib.hid hB3
          replace hK3 := Lib.hid hK3
          replace hm3 := Lib.hid hm3
          replace hr3 := Lib.hid hr3
          have hz3b : w1.heap.size + 1 < w3.heap.size := by
            rw [hz3]
            exact (Array.getElem?_eq_some_iff.1 hr).1
          have hit := iterSeen_at hr
          replace hit := Lib.hid hit
          replace hlen2 := Lib.hid hlen2
          clear hrun hw3 ho3 hz3 hb3 hm hr hI hB hK hS c0 c1 c2 f0 f1 f2 hal
          clear he hem hnot hk hv
          by_cases hp1 : (lineL p).isPrefixOf l1 = true
          · have hle := pre_len hp1
            have hfl := find_line hp hp1
            rw [hfl] at hst
            have hdr := B_drop l1 (lineL p).length
            have hsz1 := B_size l1
            have hsz2 := B_size (lineL p)
            rw [hsz1] at hdr
            have hh3 := fun w => hh1.out w
            rw [hp1] at hh3
            replace hh3 := Lib.hid hh3
            clear hS2 hh1 hh2 hfl hp1
            go_wp2_with (first  | (go_at_call 24; go_must (refine hA.out.mono ?_; rintro e4 w4 ⟨rfl, hb4⟩; have hI4 := hI3.out.below hb4; have hB4 := Lib.hid (hB3.out.trans (hb4.mono hB3.out.size)); have c0 := cellS47_0 hI4.1; have f0 := blk_frozen hI4.1 0; replace hI4 := Lib.hid hI4; have hK4 := Lib.hid (hK3.out.trans (KeepBut.of_below hb4 g none) (Or.inl rfl)); replace hb4 := Lib.hid hb4))  | (go_at_call 41; go_must (refine (hh3.out _).mono ?_; rintro e5 w5 ⟨rfl, rfl⟩)))
            go_ret
            rw [hst.out]
            exact ⟨rfl, hI4.out.set_0 _, hB4.out.setCell hge _, hK4.out.set_ 0 _⟩
          · replace hp1 := Bool.eq_false_iff.2 hp1
            have hh3 := fun w => hh1.out w
            rw [hp1] at hh3
            replace hh3 := Lib.hid hh3
            have hS3 := hS2 hp1
            clear hh1 hS2 hp1
            cases o with
            | true =>
              rw [Bool.true_or] at hS3
              replace hS3 := Lib.hid hS3
              clear hh2
              go_wp2_with (first  | (go_at_call 24; go_must (refine hA.out.mono ?_; rintro e4 w4 ⟨rfl, hb4⟩; have hI4 := hI3.out.below hb4; have hB4 := Lib.hid (hB3.out.trans (hb4.mono hB3.out.size)); have c0 := cellS47_0 hI4.1; have f0 := blk_frozen hI4.1 0; replace hI4 := Lib.hid hI4; have hK4 := Lib.hid (hK3.out.trans (KeepBut.of_below hb4 g none) (Or.inl rfl)); have hm4 := Lib.hid ((hb4.block _ (by omega)).trans hm3.out); have hr4 := Lib.hid ((hb4.block _ (by omega)).trans hr3.out); replace hb4 := Lib.hid hb4))  | (go_at_call 41; go_must (refine (hh3.out _).mono ?_; rintro e5 w5 ⟨rfl, rfl⟩)))
              go_roundw
              case rel => exact ⟨seen.push e.born, true, rfl, hm4.out, hr4.out, hS3.out, hI4.out, hB4.out, hK4.out⟩
              case measure =>
                rw [iterSeen_at hr4.out, hit.out]
                exact hlen2.out
            | false =>
              rw [Bool.false_or] at hS3
              replace hS3 := Lib.hid hS3
              go_wp2_with (first  | (go_at_call 24; go_must (refine hA.out.mono ?_; rintro e4 w4 ⟨rfl, hb4⟩; have hI4 := hI3.out.below hb4; have hB4 := Lib.hid (hB3.out.trans (hb4.mono hB3.out.size)); have c0 := cellS47_0 hI4.1; have f0 := blk_frozen hI4.1 0; replace hI4 := Lib.hid hI4; have hK4 := Lib.hid (hK3.out.trans (KeepBut.of_below hb4 g none) (Or.inl rfl)); have hm4 := Lib.hid ((hb4.block _ (by omega)).trans hm3.out); have hr4 := Lib.hid ((hb4.block _ (by omega)).trans hr3.out); replace hb4 := Lib.hid hb4))  | (go_at_call 41; have _t := hh3; go_must (refine (hh3.out _).mono ?_; rintro e5 w5 ⟨rfl, rfl⟩; clear hh3))  | (go_at_call 41; go_must (refine (hh2.out _).mono ?_; rintro e5 w5 ⟨rfl, rfl⟩)))
              go_roundw
              case rel => exact ⟨seen.push e.born, l1.isPrefixOf (lineL p), rfl, hm4.out, hr4.out, hS3.out, hI4.out, hB4.out, hK4.out⟩
              case measure =>
                rw [iterSeen_at hr4.out, hit.out]
                exact hlen2.out
end Go.Proofs.YthacomeiinejaaaDoor
