/-
  Chapter 11, plain: what may be (a file, a level, a state), out of the printed references.
-/
import Derived.Test.YtbhfcjgejnnpcaaQ2
import Derived.Test.YtbhfcjgejnnpcaaQ4
import Derived.Lib.Hide
set_option linter.unusedVariables false
set_option linter.unusedSimpArgs false
namespace Go.Proofs.Ytbhfcjgejnnpcaa
open Go.RowKit Go.Proofs.YtbhfcjgejnnpcaaW.PrintWords Go.Proofs.Ytbhfcjgejnnpcaa.PManifest
def lessB (a b : ByteArray) : Bool := Op.bytesLess a.toList b.toList
def fileB (t : S44) : Bool :=
  decide (1 ≤ t.f0 ∧ t.f0 ≤ 2147483647 ∧ 1 ≤ t.f1 ∧ t.f1 ≤ 1048576 ∧ 1 ≤ t.f2 ∧ t.f2 ≤ 65536 ∧ 1 ≤ t.f3.size ∧ t.f3.size ≤ 128 ∧ 1 ≤ t.f4.size ∧ t.f4.size ≤ 128) && !lessB t.f4 t.f3
theorem fileRight_f (t : S44) : manifest_fileRight.f t.f0 t.f1 t.f2 t.f3 t.f4 = some (fileB t) := by
  simp only [manifest_fileRight.f, manifest_keyRight.f, fileB, lessB]
  repeat' split
  all_goals (try simp only [Option.bind_some, decide_eq_true_eq])
  all_goals repeat' split
  all_goals first | contradiction | (rw [decide_eq_true (by omega), Bool.true_and]) | (rw [decide_eq_false (by omega), Bool.false_and])
theorem file_f (t : S44) : atriumref11_file.f t.f0 t.f1 t.f2 t.f3 t.f4 = some (fileB t) := by
  simp only [atriumref11_file.f, fileB, lessB]
  repeat' split
  all_goals first | (rw [decide_eq_true (by omega), Bool.true_and]) | (rw [decide_eq_false (by omega), Bool.false_and])
def apartB (n : Int) (x y : S44) : Bool := if n = 0 then decide (x.f0 < y.f0) else lessB x.f4 y.f3
def ordB (n : Int) : List S44 → Bool
  | x :: y :: r => apartB n x y && ordB n (y :: r)
  | _ => true
theorem ordB_two (n : Int) (x y : S44) (r : List S44) : ordB n (x :: y :: r) = (apartB n x y && ordB n (y :: r)) := rfl
theorem rd_mid (P R : List S44) (x : S44) (i : Int) (hi : i = P.length) : rd_T44 (P ++ x :: R) i = x := by
  subst hi
  simp [rd_T44]
theorem rdL_mid (P R : List (List S44)) (x : List S44) (i : Int) (hi : i = P.length) : rd_L3 (P ++ x :: R) i = x := by
  subst hi
  simp [rd_L3]
theorem w64 (x : Int) (h0 : -1 ≤ x) (h1 : x < 1000000000000) : wrap64 x = x := IntWalk.wrap64_in _ (by omega)
theorem ordered_l (n : Int) (hn : 0 ≤ n) (l : List S44) (hl : l.length < 1000000000) : ∀ (R P : List S44) (x : S44), l = P ++ x :: R → manifest_ordered.l0 (R.length + 1) n l ((P.length : Int) + 1) = some (ordB n (x :: R))
  | [], P, x, h => by
    have hs : l.length = P.length + 1 := by rw [h]; simp
    rw [manifest_ordered.l0, if_neg (by omega)]
    rfl
  | y :: R, P, x, h => by
    have hs : l.length = P.length + R.length + 2 := by rw [h]; simp; omega
    have ih := ordered_l n hn l hl R (P ++ [x]) y (by rw [h]; simp)
    have e1 : rd_T44 l (P.length : Int) = x := by rw [h]; exact rd_mid _ _ _ _ rfl
    have e2 : rd_T44 l ((P.length : Int) + 1) = y := by rw [h, show P ++ x :: y :: R = (P ++ [x]) ++ y :: R by simp]; exact rd_mid _ _ _ _ (by simp)
    have e3 : ((P ++ [x]).length : Int) + 1 = (P.length : Int) + 1 + 1 := by simp
    rw [e3] at ih
    rw [List.length_cons, manifest_ordered.l0, if_pos (by omega), w64 _ (by omega) (by omega), w64 _ (by omega) (by omega), Int.add_sub_cancel, e1, e2, ih]
    rw [ordB_two]
    unfold apartB lessB
    by_cases h0 : n = 0
    · rw [if_pos h0, if_pos (by omega), if_pos (by omega), if_pos (by omega), if_pos h0]
      by_cases h1 : x.f0 < y.f0
      · rw [if_neg (by omega), if_neg (by omega), decide_eq_true h1, Bool.true_and]
      · rw [if_pos (by omega), decide_eq_false h1, Bool.false_and]
    · rw [if_neg h0, if_pos (by omega), if_pos (by omega), if_pos (by omega), if_pos (by omega), if_neg h0]
      cases Op.bytesLess x.f4.toList y.f3.toList
      · rw [if_neg (by decide), Bool.false_and]
      · rw [if_pos rfl, Bool.true_and]
theorem ordered_f (n : Int) (hn : 0 ≤ n) (l : List S44) (hl : l.length < 1000000000) : manifest_ordered.f (l.length + 1) n l = some (ordB n l) := by
  rw [manifest_ordered.f]
  cases l with
  | nil =>
    rw [manifest_ordered.l0, if_neg (by simp)]
    rfl
  | cons x R =>
    have := ordered_l n hn (x :: R) hl R [] x rfl
    exact at_rounds (fun k => manifest_ordered.mono n (x :: R) k) (k := R.length + 1) (by simp) this
/-- The tables, one behind the other; ns: the numbers that were. -/
def allOk (next : Int) : List Int → List S44 → Bool
  | _, [] => true
  | ns, t :: r => fileB t && (decide (t.f0 < next) && (decide (ns.length < 1024) && (!ns.contains t.f0 && allOk next (ns ++ [t.f0]) r)))
def ordFrom : Nat → List (List S44) → Bool
  | _, [] => true
  | n, l :: r => ordB n l && ordFrom (n + 1) r
def w0 (L : List (List S44)) : Bool := decide (L.length > 7) || (decide (L.length > 0) && (L.getLast?.getD []).isEmpty)
def w1 (log next seq : Int) : Bool := decide (log < 0 ∨ log > 2147483647 ∨ next < 1 ∨ next > 2147483648 ∨ log ≥ next ∨ seq > 72057594037927935)
def chkB (L : List (List S44)) (log next seq : Int) : Bool := !w0 L && (ordFrom 0 L && (allOk next [] L.flatten && !w1 log next seq))
theorem allOk_app (next : Int) : ∀ (a b : List S44) (ns : List Int), allOk next ns (a ++ b) = (allOk next ns a && allOk next (ns ++ a.map (·.f0)) b)
  | [], b, ns => by simp [allOk]
  | t :: a, b, ns => by
    rw [List.cons_append, allOk, allOk, allOk_app next a b]
    simp [Bool.and_assoc]
/-- What the reference does behind a table of a level. -/
def ordP (n : Int) : Option S44 → List S44 → Bool
  | _, [] => true
  | some x, y :: r => apartB n x y && ordP n (some y) r
  | none, y :: r => ordP n (some y) r
theorem ordP_none (n : Int) : ∀ l : List S44, ordP n none l = ordB n l := by
  have h : ∀ (l : List S44) (x : S44), ordP n (some x) l = ordB n (x :: l) := by
    intro l
    induction l with
    | nil => intro x; rfl
    | cons y r ih => intro x; rw [ordP, ordB, ih]
  intro l
  cases l with
  | nil => rfl
  | cons y r => rw [ordP, h]
def c110 (b : Bool) : Int := if b = true then 0 else 110
section
variable (L : List (List S44)) (log next seq : Int)
theorem chk_dup (ns : List Int) (hns : ns.length < 1000000000) (n i : Int) (t : S44) (r : Int) (l : List S44) (hx : Ev (fun k => atriumref11_Check.l2 k L ns n i (ns.length : Int) L log next seq t.f0 t.f1 t.f2 t.f3 t.f4) r) : ∀ (R P : List Int), ns = P ++ R → Ev (fun k => atriumref11_Check.l2 k L ns n i (P.length : Int) L log next seq t.f0 t.f1 t.f2 t.f3 t.f4) (if R.contains t.f0 = true then 110 else r)
  | [], P, h => by
    rw [List.append_nil] at h
    subst h
    exact hx
  | c :: R, P, h => by
    have hs : ns.length = P.length + R.length + 1 := by rw [h]; simp; omega
    have e1 : rd ns (P.length : Int) = c := by rw [h]; simp [rd]
    have ih := chk_dup ns hns n i t r l hx R (P ++ [c]) (by rw [h]; simp)
    have e2 : ((P ++ [c]).length : Int) = (P.length : Int) + 1 := by simp
    rw [e2] at ih
    by_cases hc : c = t.f0
    · refine Ev.step (f := fun _ => some 110) (fun k => ?_) ?_
      · rw [atriumref11_Check.l2, if_pos (by omega), if_pos (by omega), e1, if_pos hc]
      · rw [if_pos (by rw [hc]; simp)]
        exact Ev.now 110
    · have e3 : (c :: R).contains t.f0 = R.contains t.f0 := by
        rw [List.contains_cons]
        have : (t.f0 == c) = false := beq_eq_false_iff_ne.2 fun e => hc e.symm
        rw [this, Bool.false_or]
      rw [e3]
      refine Ev.step (fun k => ?_) ih
      rw [atriumref11_Check.l2, if_pos (by omega), if_pos (by omega), e1, if_neg hc, w64 _ (by omega) (by omega)]
theorem chk_level (hL : L.length < 1000000000) (n : Nat) (P L2 : List (List S44)) (l : List S44) (hl : l.length < 100000000) (hLn : L = P ++ l :: L2) (hPn : P.length = n)
    (hnx : ∀ ns : List Int, ns.length + L2.flatten.length < 1000000000 → Ev (fun k => atriumref11_Check.l0 k L ns ((n + 1 : Nat) : Int) L log next seq) (c110 (ordFrom (n + 1) L2 && (allOk next ns L2.flatten && !w1 log next seq)))) :
    ∀ (R Q : List S44) (ns : List Int), l = Q ++ R → ns.length + R.length + L2.flatten.length < 1000000000 → Ev (fun k => atriumref11_Check.l1 k L ns (n : Int) (Q.length : Int) L log next seq) (c110 (ordP n Q.getLast? R && (ordFrom (n + 1) L2 && (allOk next ns (R ++ L2.flatten) && !w1 log next seq))))
  | [], Q, ns, h, hB => by
    rw [List.append_nil] at h
    subst h
    have e1 : rd_L3 L (n : Int) = l := by rw [hLn]; exact rdL_mid _ _ _ _ (by omega)
    have hLl : L.length = n + 1 + L2.length := by rw [hLn]; simp; omega
    have e0 : ordP n l.getLast? [] = true := by cases l.getLast? <;> rfl
    rw [e0, Bool.true_and, List.nil_append]
    refine Ev.step (fun k => ?_) (hnx ns (by simpa using hB))
    rw [atriumref11_Check.l1, if_pos (by omega), if_pos (by omega), e1, if_neg (by omega), w64 _ (by omega) (by omega)]
    rfl
  | t :: R, Q, ns, h, hB => by
    rw [List.length_cons] at hB
    have hs : l.length = Q.length + R.length + 1 := by rw [h]; simp; omega
    have e1 : rd_L3 L (n : Int) = l := by rw [hLn]; exact rdL_mid _ _ _ _ (by omega)
    have hLl : L.length = n + 1 + L2.length := by rw [hLn]; simp; omega
    have e2 : rd_T44 l (Q.length : Int) = t := by rw [h]; exact rd_mid _ _ _ _ rfl
    have ih := chk_level hL n P L2 l hl hLn hPn hnx R (Q ++ [t]) (ns ++ [t.f0]) (by rw [h]; simp) (by rw [List.length_append, List.length_singleton]; omega)
    have e3 : ((Q ++ [t]).length : Int) = (Q.length : Int) + 1 := by simp
    rw [e3, List.getLast?_concat] at ih
    have hns : ns.length < 1000000000 := by omega
    -- behind the numbers
    have hdup : Ev (fun k => atriumref11_Check.l2 k L ns (n : Int) (Q.length : Int) (ns.length : Int) L log next seq t.f0 t.f1 t.f2 t.f3 t.f4) (c110 (ordP n Q.getLast? (t :: R) && (ordFrom (n + 1) L2 && (allOk next (ns ++ [t.f0]) (R ++ L2.flatten) && !w1 log next seq)))) := by
      rcases List.eq_nil_or_concat Q with hQ | ⟨Q0, x, hQ⟩
      · subst hQ
        refine Ev.step (fun k => ?_) ih
        rw [atriumref11_Check.l2, if_neg (by omega), if_pos (by omega), Option.bind_some, if_neg (by simp), w64 _ (by omega) (by omega)]
      · rw [List.concat_eq_append] at hQ
        subst hQ
        rw [List.getLast?_concat]
        have hq1 : ((Q0 ++ [x]).length : Int) = (Q0.length : Int) + 1 := by simp
        have e4 : rd_T44 l ((Q0 ++ [x]).length - 1 : Int) = x := by rw [h, show Q0 ++ [x] ++ t :: R = Q0 ++ x :: (t :: R) by simp]; exact rd_mid _ _ _ _ (by rw [hq1]; omega)
        by_cases hap : apartB n x t = true
        · have e5 : ordP n (some x) (t :: R) = ordP n (some t) R := by rw [ordP, hap, Bool.true_and]
          rw [e5]
          refine Ev.step (fun k => ?_) ih
          unfold apartB lessB at hap
          rw [atriumref11_Check.l2, if_neg (by omega), if_pos (by omega), Option.bind_some, if_pos (by rw [hq1]; omega), w64 ((Q0 ++ [x]).length - 1 : Int) (by omega) (by omega), w64 _ (by omega) (by omega), e1, e4]
          by_cases h0 : (n : Int) = 0
          · rw [if_pos h0] at hap
            have := of_decide_eq_true hap
            rw [if_pos h0, if_pos (by omega), if_pos (by omega), if_pos (by rw [hq1]; omega), if_pos (by omega), if_neg (by omega), if_neg (by omega)]
          · rw [if_neg h0] at hap
            rw [if_neg h0, if_pos (by omega), if_pos (by omega), if_pos (by omega), if_pos (by rw [hq1]; omega), if_pos (by omega), if_pos hap]
        · have hap2 : apartB n x t = false := by simpa using hap
          have e5 : ordP n (some x) (t :: R) = false := by rw [ordP, hap2, Bool.false_and]
          rw [e5, Bool.false_and]
          refine Ev.step (f := fun _ => some 110) (fun k => ?_) (Ev.now 110)
          unfold apartB lessB at hap
          rw [atriumref11_Check.l2, if_neg (by omega), if_pos (by omega), Option.bind_some, if_pos (by rw [hq1]; omega), w64 ((Q0 ++ [x]).length - 1 : Int) (by omega) (by omega), e1, e4]
          by_cases h0 : (n : Int) = 0
          · rw [if_pos h0] at hap
            have : ¬ x.f0 < t.f0 := fun h => hap (decide_eq_true h)
            rw [if_pos h0, if_pos (by omega), if_pos (by omega), if_pos (by rw [hq1]; omega), if_pos (by omega), if_pos (by omega)]
          · rw [if_neg h0] at hap
            rw [if_neg h0, if_pos (by omega), if_pos (by omega), if_pos (by omega), if_pos (by rw [hq1]; omega), if_pos (by omega), if_neg hap]
    have hd2 := chk_dup L log next seq ns hns n (Q.length : Int) t _ l hdup ns [] rfl
    rw [List.length_nil] at hd2
    -- the tests ahead of them
    have hj : ∀ b : Bool, Ev (fun k => atriumref11_Check.j3 k L ns (n : Int) (Q.length : Int) b L log next seq t.f0 t.f1 t.f2 t.f3 t.f4) (if b = true then 110 else if ns.contains t.f0 = true then 110 else c110 (ordP n Q.getLast? (t :: R) && (ordFrom (n + 1) L2 && (allOk next (ns ++ [t.f0]) (R ++ L2.flatten) && !w1 log next seq)))) := fun b => by
      cases b with
      | true =>
        refine Ev.step (f := fun _ => some 110) (fun k => ?_) (Ev.now 110)
        rw [atriumref11_Check.j3, if_pos rfl]
      | false =>
        refine Ev.step (fun k => ?_) hd2
        rw [atriumref11_Check.j3, if_neg (by decide)]
        rfl
    have fin : ∀ b : Bool, (b = (!(fileB t) || (decide (t.f0 ≥ next) || decide (ns.length ≥ 1024)))) → (if b = true then 110 else if ns.contains t.f0 = true then 110 else c110 (ordP n Q.getLast? (t :: R) && (ordFrom (n + 1) L2 && (allOk next (ns ++ [t.f0]) (R ++ L2.flatten) && !w1 log next seq)))) = c110 (ordP n Q.getLast? (t :: R) && (ordFrom (n + 1) L2 && (allOk next ns (t :: R ++ L2.flatten) && !w1 log next seq))) := fun b hb => by
      rw [List.cons_append, allOk]
      have f1 : decide (t.f0 ≥ next) = !decide (t.f0 < next) := by
        by_cases h : t.f0 < next
        · rw [decide_eq_true h, decide_eq_false (by omega)]; rfl
        · rw [decide_eq_false h, decide_eq_true (by omega)]; rfl
      have f2 : decide (ns.length ≥ 1024) = !decide (ns.length < 1024) := by
        by_cases h : ns.length < 1024
        · rw [decide_eq_true h, decide_eq_false (by omega)]; rfl
        · rw [decide_eq_false h, decide_eq_true (by omega)]; rfl
      rw [f1, f2] at hb
      revert hb
      generalize fileB t = p1
      generalize decide (t.f0 < next) = p2
      generalize decide (ns.length < 1024) = p3
      generalize ns.contains t.f0 = p4
      generalize ordP n Q.getLast? (t :: R) = p5
      generalize ordFrom (n + 1) L2 = p6
      generalize allOk next (ns ++ [t.f0]) (R ++ L2.flatten) = p7
      intro hb
      subst hb
      cases p1 <;> cases p2 <;> cases p3 <;> cases p4 <;> simp [c110]
    cases hf : fileB t with
    | false =>
      rw [← fin true (by rw [hf]; rfl)]
      refine Ev.step (fun k => ?_) (hj true)
      rw [atriumref11_Check.l1, if_pos (by omega), if_pos (by omega), e1, if_pos (by omega), if_pos (by omega), e2, file_f, hf, Option.bind_some, if_neg (by decide)]
    | true =>
      by_cases h1 : t.f0 ≥ next
      · rw [← fin true (by rw [hf, decide_eq_true h1]; rfl)]
        refine Ev.step (fun k => ?_) (hj true)
        rw [atriumref11_Check.l1, if_pos (by omega), if_pos (by omega), e1, if_pos (by omega), if_pos (by omega), e2, file_f, hf, Option.bind_some, if_pos rfl, if_pos h1]
      · have e6 : decide ((ns.length : Int) ≥ 1024) = decide (ns.length ≥ 1024) := by
          by_cases h : ns.length ≥ 1024
          · rw [decide_eq_true h, decide_eq_true (by omega)]
          · rw [decide_eq_false h, decide_eq_false (by omega)]
        rw [← fin (decide (ns.length ≥ 1024)) (by rw [hf, decide_eq_false h1]; rfl)]
        refine Ev.step (fun k => ?_) (hj (decide (ns.length ≥ 1024)))
        rw [atriumref11_Check.l1, if_pos (by omega), if_pos (by omega), e1, if_pos (by omega), if_pos (by omega), e2, file_f, hf, Option.bind_some, if_pos rfl, if_neg h1, e6]
theorem chk_end (ns : List Int) : atriumref11_Check.l0 1 L ns (L.length : Int) L log next seq = some (c110 (!w1 log next seq)) := by
  rw [atriumref11_Check.l0, if_neg (by omega)]
  unfold w1 c110
  by_cases h : log < 0 ∨ log > 2147483647 ∨ next < 1 ∨ next > 2147483648 ∨ log ≥ next ∨ seq > 72057594037927935
  · rw [decide_eq_true h]
    repeat' split
    all_goals first | rfl | (exfalso; simp_all; done) | (exfalso; omega)
  · rw [decide_eq_false h]
    repeat' split
    all_goals first | rfl | (exfalso; simp_all; done) | (exfalso; omega)
theorem chk_levels (hL : L.length < 1000000000) (hl : ∀ l ∈ L, l.length < 100000000) : ∀ (R P : List (List S44)) (ns : List Int), L = P ++ R → ns.length + R.flatten.length < 1000000000 → Ev (fun k => atriumref11_Check.l0 k L ns (P.length : Int) L log next seq) (c110 (ordFrom P.length R && (allOk next ns R.flatten && !w1 log next seq)))
  | [], P, ns, h, hB => by
    rw [List.append_nil] at h
    have e : c110 (ordFrom P.length [] && (allOk next ns ([] : List (List S44)).flatten && !w1 log next seq)) = c110 (!w1 log next seq) := rfl
    rw [e]
    refine ⟨1, fun k hk => ?_⟩
    subst h
    exact at_rounds (fun k => (atriumref11_Check.mono_l k).2.1 _ _ _ _ _ _ _) hk (chk_end L log next seq ns)
  | l :: R, P, ns, h, hB => by
    have hlen : L.length = P.length + 1 + R.length := by rw [h]; simp; omega
    rw [List.flatten_cons, List.length_append] at hB
    have hlv := chk_level L log next seq hL P.length P R l (hl l (by rw [h]; simp)) h rfl (fun ns2 h2 => by
      have := chk_levels hL hl R (P ++ [l]) ns2 (by rw [h]; simp) h2
      rw [List.length_append, List.length_singleton] at this
      exact this) l [] ns rfl (by omega)
    have e : (c110 (ordP (P.length : Int) ([] : List S44).getLast? l && (ordFrom (P.length + 1) R && (allOk next ns (l ++ R.flatten) && !w1 log next seq)))) = c110 (ordFrom P.length (l :: R) && (allOk next ns (l :: R).flatten && !w1 log next seq)) := by
      rw [List.getLast?_nil, ordP_none, List.flatten_cons, ordFrom, Bool.and_assoc]
    rw [e] at hlv
    refine Ev.step (fun k => ?_) hlv
    rw [atriumref11_Check.l0, if_pos (by omega)]
    rfl
theorem rcheck_ev (hL : L.length < 1000000000) (hl : ∀ l ∈ L, l.length < 100000000) (hf : L.flatten.length < 1000000000) : Ev (fun k => atriumref11_Check.f k L log next seq) (c110 (chkB L log next seq)) := by
  have h := chk_levels L log next seq hL hl L [] [] rfl (by simpa using hf)
  have hj : ∀ b : Bool, Ev (fun k => atriumref11_Check.j0 k L b L log next seq) (c110 (!b && (ordFrom 0 L && (allOk next [] L.flatten && !w1 log next seq)))) := fun b => by
    cases b with
    | true =>
      refine Ev.step (f := fun _ => some 110) (fun k => ?_) (Ev.now 110)
      rw [atriumref11_Check.j0, if_pos rfl]
    | false =>
      refine Ev.step (fun k => ?_) h
      rw [atriumref11_Check.j0, if_neg (by decide)]
      rfl
  unfold chkB w0
  by_cases h7 : L.length > 7
  · rw [decide_eq_true h7, Bool.true_or]
    refine Ev.congr (fun k => ?_) (hj true)
    rw [atriumref11_Check.f, if_pos (by omega)]
  · rw [decide_eq_false h7, Bool.false_or]
    rcases List.eq_nil_or_concat L with hn | ⟨L0, l, hc⟩
    · subst hn
      refine Ev.congr (fun k => ?_) (hj false)
      rw [atriumref11_Check.f, if_neg (by simp), if_neg (by simp)]
    · rw [List.concat_eq_append] at hc
      have hlen : L.length = L0.length + 1 := by rw [hc]; simp
      have e1 : rd_L3 L ((L.length : Int) - 1) = l := by rw [hc]; exact rdL_mid L0 [] l _ (by simp)
      have e2 : (decide (L.length > 0) && (L.getLast?.getD []).isEmpty) = l.isEmpty := by
        rw [decide_eq_true (by omega), Bool.true_and, hc, List.getLast?_concat]
        rfl
      rw [e2]
      refine Ev.congr (fun k => ?_) (hj l.isEmpty)
      rw [atriumref11_Check.f, if_neg (by omega), if_pos (by omega), w64 _ (by omega) (by omega), if_pos (by omega), if_pos (by omega), e1]
      congr 1
      cases l <;> simp
      omega
end
theorem rcheck_any (L : List (List S44)) (log next seq : Int) (hL : L.length < 1000000000) (hl : ∀ l ∈ L, l.length < 100000000) (hf : L.flatten.length < 1000000000) (A : Option Addr) (c : Nat) (w : World) (hr : Kd.C (Kd.slice 44 k44) w A L.length L) (hc : L.length ≤ c) :
    Calls Try.prog 15 #[.agg #[.slice A L.length c, .int .i64 log, .int .i64 next, .int .u64 seq]] w fun e w' => e = .returned (.int .i64 (c110 (chkB L log next seq))) ∧ Below w.heap.size w w' := by
  obtain ⟨k, hk⟩ := (rcheck_ev L log next seq hL hl hf).rounds
  exact atriumref11_Check.calls k A c L log next seq _ w hr hc hk
end Go.Proofs.Ytbhfcjgejnnpcaa
