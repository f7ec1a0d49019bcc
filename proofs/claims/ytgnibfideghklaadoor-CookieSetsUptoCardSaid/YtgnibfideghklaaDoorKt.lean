/-
  Chapter 19, plain: a Set-Cookie's text, read back.
-/
import Derived.Test.YtgnibfideghklaaDoorKn
set_option linter.unusedVariables false
set_option linter.unusedSimpArgs false
namespace Go.Proofs.YtgnibfideghklaaDoor
open Go.RowKit Go.Proofs.YtgnibfideghklaaDoorW.PrintWords Go.Proofs.YtgnibfideghklaaDoor.PCookieReads
def digB (c : UInt8) : Bool := decide (48 ≤ c.toNat) && decide (c.toNat ≤ 57)
def valD (n : Nat) (l : List UInt8) : Nat := l.foldl (fun n c => 10 * n + (c.toNat - 48)) n
def badD (l : List UInt8) : Bool := decide (l.length < 1) || decide (18 < l.length) || (decide (1 < l.length) && l.head? == some 48)
def digR (l : List UInt8) : Int × Int := if badD l = true then (0, 150) else if l.all digB = true then (if 2147483647 < valD 0 l then (0, 3) else ((valD 0 l : Nat), 0)) else (0, 150)
def pathN : List UInt8 := [80, 97, 116, 104]
def ageN : List UInt8 := [77, 97, 120, 45, 65, 103, 101]
def siteN : List UInt8 := [83, 97, 109, 101, 83, 105, 116, 101]
def stepP (c : Ck) (p : List UInt8) : Option Ck :=
  if (cutE p).1 = pathN then some { c with pa := (cutE p).2.1 }
  else if (cutE p).1 = ageN then (if (digR (cutE p).2.1).2 = 0 then some { c with age := (digR (cutE p).2.1).1, ha := true } else none)
  else if (cutE p).1 = httpW then some { c with ho := true }
  else if (cutE p).1 = secW then some { c with se := true }
  else if (cutE p).1 = siteN then some { c with si := (cutE p).2.1 }
  else some c
def walkP (c : Ck) : List (List UInt8) → Option Ck
  | [] => some c
  | p :: r => match stepP c p with
    | none => none
    | some c2 => walkP c2 r
def behL (l b : List UInt8) : Option (List UInt8) := if b.isPrefixOf l = true then some (l.drop b.length) else none
def setPa (c : Ck) : Option (List UInt8) → Ck
  | none => c
  | some x => { c with pa := x }
def setAg (c : Ck) : Option (List UInt8) → Ck
  | none => c
  | some x => { c with age := (digR x).1, ha := true }
def setSi (c : Ck) : Option (List UInt8) → Ck
  | none => c
  | some x => { c with si := x }
def setHS (c : Ck) (l : List UInt8) : Ck := { c with ho := c.ho || l == httpW, se := c.se || l == secW }
def stepR (c : Ck) (l : List UInt8) : Ck := setHS (setSi (setAg (setPa c (behL l pathW)) (behL l ageW)) (behL l siteW)) l
def zeroC : Ck := ⟨[], [], [], 0, false, false, false, []⟩
def startC (n v : List UInt8) : Ck := ⟨n, v, [], 0, false, false, false, []⟩
def chkC (l : List UInt8) (c : Ck) : Ck × Int := if setR c = (l, 0) then (c, 0) else (zeroC, 190)
def readP (l : List UInt8) : Ck × Int := match splitR l with
  | [] => (zeroC, 190)
  | p :: r => match walkP (startC (cutE p).1 (cutE p).2.1) r with
    | none => (zeroC, 190)
    | some c => chkC l c
def readR (l : List UInt8) : Ck × Int := match splitR l with
  | [] => (zeroC, 190)
  | p :: r => match pairOf p with
    | none => (zeroC, 190)
    | some q => chkC l (r.foldl stepR (startC q.1 q.2))
theorem nD_le : ∀ (k n : Nat), n < 10 ^ (k + 1) → Lib.nDigits n ≤ k + 1
  | 0, n, h => by rw [Lib.nDigits_small (by omega)]; omega
  | k + 1, n, h => by
    by_cases h10 : n < 10
    · rw [Lib.nDigits_small h10]; omega
    · rw [Lib.nDigits_big h10]
      have := nD_le k (n / 10) (by rw [Nat.pow_succ] at h; omega)
      omega
theorem dec_step {n : Nat} (h : ¬ n < 10) : Lib.decDigits n = Lib.decDigits (n / 10) ++ [UInt8.ofNat (48 + n % 10)] := by rw [Lib.decDigits, dif_neg h]
theorem dec_ne (n : Nat) : Lib.decDigits n ≠ [] := by
  intro h
  have := Lib.decDigits_length n
  rw [h] at this
  have := Lib.nDigits_pos n
  simp at *
  omega
theorem of48 (k : Nat) (h : k < 10) : (UInt8.ofNat (48 + k)).toNat = 48 + k := by simp; omega
theorem dec_all (n : Nat) : (Lib.decDigits n).all digB = true := by
  induction n using Nat.strongRecOn with
  | ind n ih =>
    by_cases h : n < 10
    · rw [Lib.decDigits_one h, List.all_cons, List.all_nil, Bool.and_true, digB, of48 n h]
      simp; omega
    · rw [dec_step h, List.all_append, ih (n / 10) (by omega), List.all_cons, List.all_nil, digB, of48 _ (by omega)]
      simp; omega
theorem valD_app (n : Nat) (l m : List UInt8) : valD n (l ++ m) = valD (valD n l) m := by unfold valD; rw [List.foldl_append]
theorem dec_val (n : Nat) : valD 0 (Lib.decDigits n) = n := by
  induction n using Nat.strongRecOn with
  | ind n ih =>
    by_cases h : n < 10
    · rw [Lib.decDigits_one h]
      show 10 * 0 + ((UInt8.ofNat (48 + n)).toNat - 48) = n
      rw [of48 n h]
      omega
    · rw [dec_step h, valD_app, ih (n / 10) (by omega)]
      show 10 * (n / 10) + ((UInt8.ofNat (48 + n % 10)).toNat - 48) = n
      rw [of48 _ (by omega)]
      omega
theorem dec_head (n : Nat) : 1 ≤ n → (Lib.decDigits n).head? ≠ some 48 := by
  induction n using Nat.strongRecOn with
  | ind n ih =>
    intro hn
    by_cases h : n < 10
    · rw [Lib.decDigits_one h, List.head?_cons]
      intro e
      injection e with e
      have := congrArg UInt8.toNat e
      rw [of48 n h] at this
      have e2 : (48 : UInt8).toNat = 48 := rfl
      omega
    · rw [dec_step h]
      cases hd : Lib.decDigits (n / 10) with
      | nil => exact absurd hd (dec_ne _)
      | cons a t =>
        have := ih (n / 10) (by omega) (by omega)
        rw [hd] at this
        exact this
theorem digR_dec (n : Nat) (h : n ≤ 2147483647) : digR (Lib.decDigits n) = ((n : Int), 0) := by
  have hb : badD (Lib.decDigits n) = false := by
    have h1 := Lib.decDigits_length n
    have h2 := nD_le 9 n (by omega)
    have h3 := Lib.nDigits_pos n
    unfold badD
    rw [decide_eq_false (by omega), decide_eq_false (by omega), Bool.false_or, Bool.false_or]
    by_cases h10 : n < 10
    · rw [decide_eq_false (by rw [Lib.decDigits_one h10]; simp)]; rfl
    · have : ((Lib.decDigits n).head? == some 48) = false := beq_eq_false_iff_ne.2 (dec_head n (by omega))
      rw [this, Bool.and_false]
  unfold digR
  rw [if_neg (by rw [hb]; decide), if_pos (dec_all n), dec_val, if_neg (by omega)]
theorem cut_pre (n v : List UInt8) (h : (61 : UInt8) ∉ n) : cutE (n ++ 61 :: v) = (n, v, true) := cut_make n v h
theorem cut_path (v : List UInt8) : cutE (pathW ++ v) = (pathN, v, true) := cut_make pathN v (by decide)
theorem cut_age (v : List UInt8) : cutE (ageW ++ v) = (ageN, v, true) := cut_make ageN v (by decide)
theorem cut_site (v : List UInt8) : cutE (siteW ++ v) = (siteN, v, true) := cut_make siteN v (by decide)
theorem stepP_path (c : Ck) (v : List UInt8) : stepP c (pathW ++ v) = some { c with pa := v } := by
  unfold stepP
  rw [cut_path, if_pos rfl]
theorem stepP_age (c : Ck) (n : Nat) (h : n ≤ 2147483647) : stepP c (ageW ++ Lib.decDigits n) = some { c with age := n, ha := true } := by
  unfold stepP
  rw [cut_age, if_neg (show ¬ ageN = pathN by decide), if_pos rfl]
  simp only [digR_dec n h]
  rfl
theorem stepP_http (c : Ck) : stepP c httpW = some { c with ho := true } := by
  have : cutE httpW = (httpW, [], false) := by decide
  unfold stepP
  rw [this, if_neg (by decide), if_neg (by decide), if_pos rfl]
theorem stepP_sec (c : Ck) : stepP c secW = some { c with se := true } := by
  have : cutE secW = (secW, [], false) := by decide
  unfold stepP
  rw [this, if_neg (by decide), if_neg (by decide), if_neg (by decide), if_pos rfl]
theorem stepP_site (c : Ck) (v : List UInt8) : stepP c (siteW ++ v) = some { c with si := v } := by
  unfold stepP
  rw [cut_site, if_neg (show ¬ siteN = pathN by decide), if_neg (show ¬ siteN = ageN by decide), if_neg (show ¬ siteN = httpW by decide), if_neg (show ¬ siteN = secW by decide), if_pos rfl]
theorem beh_yes (b v : List UInt8) : behL (b ++ v) b = some v := by
  unfold behL
  rw [if_pos (by rw [List.isPrefixOf_iff_prefix]; exact List.prefix_append b v), List.drop_left]
theorem beh_no {l b : List UInt8} (h : b.isPrefixOf l = false) : behL l b = none := by unfold behL; rw [if_neg (by rw [h]; decide)]
theorem stepR_path (c : Ck) (v : List UInt8) : stepR c (pathW ++ v) = { c with pa := v } := by
  have h1 : behL (pathW ++ v) ageW = none := beh_no rfl
  have h2 : behL (pathW ++ v) siteW = none := beh_no rfl
  have h3 : (pathW ++ v == httpW) = false := rfl
  have h4 : (pathW ++ v == secW) = false := rfl
  unfold stepR setHS
  rw [beh_yes, h1, h2, h3, h4]
  simp [setPa, setAg, setSi]
theorem stepR_age (c : Ck) (n : Nat) (h : n ≤ 2147483647) : stepR c (ageW ++ Lib.decDigits n) = { c with age := n, ha := true } := by
  have h1 : behL (ageW ++ Lib.decDigits n) pathW = none := beh_no rfl
  have h2 : behL (ageW ++ Lib.decDigits n) siteW = none := beh_no rfl
  have h3 : (ageW ++ Lib.decDigits n == httpW) = false := rfl
  have h4 : (ageW ++ Lib.decDigits n == secW) = false := rfl
  unfold stepR setHS
  rw [beh_yes, h1, h2, h3, h4]
  simp [setPa, setAg, setSi, digR_dec n h]
theorem stepR_http (c : Ck) : stepR c httpW = { c with ho := true } := by
  have h1 : behL httpW pathW = none := beh_no rfl
  have h2 : behL httpW ageW = none := beh_no rfl
  have h5 : behL httpW siteW = none := beh_no rfl
  have h3 : (httpW == httpW) = true := rfl
  have h4 : (httpW == secW) = false := rfl
  unfold stepR setHS
  rw [h1, h2, h5, h3, h4]
  simp [setPa, setAg, setSi]
theorem stepR_sec (c : Ck) : stepR c secW = { c with se := true } := by
  have h1 : behL secW pathW = none := beh_no rfl
  have h2 : behL secW ageW = none := beh_no rfl
  have h5 : behL secW siteW = none := beh_no rfl
  have h3 : (secW == httpW) = false := rfl
  have h4 : (secW == secW) = true := rfl
  unfold stepR setHS
  rw [h1, h2, h5, h3, h4]
  simp [setPa, setAg, setSi]
theorem stepR_site (c : Ck) (v : List UInt8) : stepR c (siteW ++ v) = { c with si := v } := by
  have h1 : behL (siteW ++ v) pathW = none := beh_no rfl
  have h2 : behL (siteW ++ v) ageW = none := beh_no rfl
  have h3 : (siteW ++ v == httpW) = false := rfl
  have h4 : (siteW ++ v == secW) = false := rfl
  unfold stepR setHS
  rw [beh_yes, h1, h2, h3, h4]
  simp [setPa, setAg, setSi]
theorem walkP_add (c : Ck) (ps : List (List UInt8)) (b : Bool) (x : List UInt8) (c1 : Ck) (h : walkP c ps = some c1) : walkP c (addP ps b x) = if b = true then stepP c1 x else some c1 := by
  unfold addP
  cases b with
  | false => rw [if_neg (by decide), if_neg (by decide)]; exact h
  | true =>
    rw [if_pos rfl, if_pos rfl]
    revert c
    induction ps with
    | nil => intro c h; simp only [walkP] at h; injection h with h; subst h; simp only [List.nil_append, walkP]; cases stepP c x <;> rfl
    | cons p r ih =>
      intro c h
      simp only [walkP, List.cons_append] at h ⊢
      cases hs : stepP c p with
      | none => rw [hs] at h; cases h
      | some c2 => rw [hs] at h; exact ih c2 h
theorem foldR_add (c : Ck) (ps : List (List UInt8)) (b : Bool) (x : List UInt8) (c1 : Ck) (h : ps.foldl stepR c = c1) : (addP ps b x).foldl stepR c = if b = true then stepR c1 x else c1 := by
  unfold addP
  cases b with
  | false => rw [if_neg (by decide), if_neg (by decide)]; exact h
  | true => rw [if_pos rfl, if_pos rfl, List.foldl_append, h]; rfl
/-- The parts behind the first one. -/
def qs1 (c : Ck) : List (List UInt8) := addP [] (!c.pa.isEmpty) (pathW ++ c.pa)
def qs2 (c : Ck) : List (List UInt8) := addP (qs1 c) c.ha (ageW ++ Lib.itoa c.age)
def qs3 (c : Ck) : List (List UInt8) := addP (qs2 c) c.ho httpW
def qs4 (c : Ck) : List (List UInt8) := addP (qs3 c) c.se secW
def qs5 (c : Ck) : List (List UInt8) := addP (qs4 c) (!c.si.isEmpty) (siteW ++ c.si)
theorem addP_cons (a : List UInt8) (ps : List (List UInt8)) (b : Bool) (x : List UInt8) : addP (a :: ps) b x = a :: addP ps b x := by
  unfold addP
  split <;> rfl
theorem ps_qs (c : Ck) : ps5 c = (c.nm ++ 61 :: c.vl) :: qs5 c := by
  unfold ps5 ps4 ps3 ps2 ps1 ps0 qs5 qs4 qs3 qs2 qs1
  rw [addP_cons, addP_cons, addP_cons, addP_cons, addP_cons]
theorem walk_all (c : Ck) (hm : mayC c = true) : walkP (startC c.nm c.vl) (qs5 c) = some c ∧ (qs5 c).foldl stepR (startC c.nm c.vl) = c := by
  obtain ⟨ha0, ha1⟩ := may_age hm
  have hage : c.ha = false → c.age = 0 := fun h => by
    simp only [mayC, ageB, Bool.and_eq_true, h, Bool.false_or, beq_iff_eq] at hm
    exact hm.1.2.2
  have hit : Lib.itoa c.age = Lib.decDigits c.age.toNat := by rw [Lib.itoa, if_neg (by omega)]
  have hn : c.age.toNat ≤ 2147483647 := by omega
  have hcast : ((c.age.toNat : Nat) : Int) = c.age := by omega
  have e1 : walkP (startC c.nm c.vl) (qs1 c) = some { startC c.nm c.vl with pa := c.pa } ∧ (qs1 c).foldl stepR (startC c.nm c.vl) = { startC c.nm c.vl with pa := c.pa } := by
    unfold qs1
    rw [walkP_add _ _ _ _ _ rfl, foldR_add _ _ _ _ _ rfl]
    cases hp : c.pa.isEmpty with
    | true =>
      rw [if_neg (by decide), if_neg (by decide)]
      have : c.pa = [] := by simpa using hp
      rw [this]
      exact ⟨rfl, rfl⟩
    | false => rw [if_pos (show (!false) = true from rfl), if_pos (show (!false) = true from rfl), stepP_path, stepR_path]; exact ⟨rfl, rfl⟩
  have e2 : walkP (startC c.nm c.vl) (qs2 c) = some { startC c.nm c.vl with pa := c.pa, age := c.age, ha := c.ha } ∧ (qs2 c).foldl stepR (startC c.nm c.vl) = { startC c.nm c.vl with pa := c.pa, age := c.age, ha := c.ha } := by
    unfold qs2
    rw [walkP_add _ _ _ _ _ e1.1, foldR_add _ _ _ _ _ e1.2, hit]
    cases hp : c.ha with
    | false =>
      rw [if_neg (by decide), if_neg (by decide), hage hp]
      exact ⟨rfl, rfl⟩
    | true => rw [if_pos rfl, if_pos rfl, stepP_age _ _ hn, stepR_age _ _ hn, hcast]; exact ⟨rfl, rfl⟩
  have e3 : walkP (startC c.nm c.vl) (qs3 c) = some { startC c.nm c.vl with pa := c.pa, age := c.age, ha := c.ha, ho := c.ho } ∧ (qs3 c).foldl stepR (startC c.nm c.vl) = { startC c.nm c.vl with pa := c.pa, age := c.age, ha := c.ha, ho := c.ho } := by
    unfold qs3
    rw [walkP_add _ _ _ _ _ e2.1, foldR_add _ _ _ _ _ e2.2]
    cases hp : c.ho with
    | false => rw [if_neg (by decide), if_neg (by decide)]; exact ⟨rfl, rfl⟩
    | true => rw [if_pos rfl, if_pos rfl, stepP_http, stepR_http]; exact ⟨rfl, rfl⟩
  have e4 : walkP (startC c.nm c.vl) (qs4 c) = some { startC c.nm c.vl with pa := c.pa, age := c.age, ha := c.ha, ho := c.ho, se := c.se } ∧ (qs4 c).foldl stepR (startC c.nm c.vl) = { startC c.nm c.vl with pa := c.pa, age := c.age, ha := c.ha, ho := c.ho, se := c.se } := by
    unfold qs4
    rw [walkP_add _ _ _ _ _ e3.1, foldR_add _ _ _ _ _ e3.2]
    cases hp : c.se with
    | false => rw [if_neg (by decide), if_neg (by decide)]; exact ⟨rfl, rfl⟩
    | true => rw [if_pos rfl, if_pos rfl, stepP_sec, stepR_sec]; exact ⟨rfl, rfl⟩
  unfold qs5
  rw [walkP_add _ _ _ _ _ e4.1, foldR_add _ _ _ _ _ e4.2]
  cases hp : c.si.isEmpty with
  | true =>
    rw [if_neg (by decide), if_neg (by decide)]
    have : c.si = [] := by simpa using hp
    refine ⟨?_, ?_⟩
    · congr 1
      obtain ⟨a, b, d, e, f, g, h, i⟩ := c
      simp only at this
      subst this
      rfl
    · obtain ⟨a, b, d, e, f, g, h, i⟩ := c
      simp only at this
      subst this
      rfl
  | false => rw [if_pos (show (!false) = true from rfl), if_pos (show (!false) = true from rfl), stepP_site, stepR_site]; exact ⟨rfl, rfl⟩
theorem mem_addP {ps : List (List UInt8)} {b : Bool} {x y : List UInt8} (h : y ∈ addP ps b x) : y ∈ ps ∨ y = x := by
  unfold addP at h
  split at h
  · simpa using h
  · exact .inl h
theorem dig_no {l : List UInt8} (h : l.all digB = true) : (59 : UInt8) ∉ l := fun hm => by
  have := List.all_eq_true.1 h 59 hm
  simp [digB] at this
theorem site_no {l : List UInt8} (h : siteB l = true) : (59 : UInt8) ∉ l := by
  simp only [siteB, Bool.or_eq_true, beq_iff_eq] at h
  rcases h with ((h | h) | h) | h
  · have : l = [] := by simpa using h
    rw [this]; simp
  · rw [h]; decide
  · rw [h]; decide
  · rw [h]; decide
theorem split_set (c : Ck) (hm : mayC c = true) : splitR (setL c) = ps5 c := by
  refine split_join _ (addP_ne (ps4_ne c) _ _) (fun p hp => ?_)
  obtain ⟨ha0, ha1⟩ := may_age hm
  have hit : Lib.itoa c.age = Lib.decDigits c.age.toNat := by rw [Lib.itoa, if_neg (by omega)]
  simp only [mayC, Bool.and_eq_true] at hm
  obtain ⟨⟨⟨⟨h1, h2⟩, h3⟩, h4⟩, h5⟩ := hm
  have n1 := tok_no h1 59 (by decide)
  have n2 := oct_no h2 59 (by decide)
  have n3 : (59 : UInt8) ∉ c.pa := fun hx => by
    simp only [pathL, Bool.and_eq_true] at h3
    have := List.all_eq_true.1 h3.2 59 hx
    simp [pathB] at this
  have n4 := dig_no (dec_all c.age.toNat)
  have n5 := site_no h5
  rcases mem_addP hp with hp | rfl
  · rcases mem_addP hp with hp | rfl
    · rcases mem_addP hp with hp | rfl
      · rcases mem_addP hp with hp | rfl
        · rcases mem_addP hp with hp | rfl
          · simp only [ps0, List.mem_singleton] at hp
            rw [hp]
            simp [n1, n2]
          · simp [pathW, n3]
        · rw [hit]; simp [ageW, n4]
      · decide
    · decide
  · simp [siteW, n5]
theorem bare_oct {l : List UInt8} (h : octL l = true) : bareL l = l := by
  have : (34 : UInt8) ∉ l := oct_no h 34 (by decide)
  unfold bareL
  rw [if_neg]
  intro hq
  simp only [quoB, Bool.and_eq_true, beq_iff_eq] at hq
  exact this (List.mem_of_mem_head? (by rw [hq.1.2]; simp))
theorem setR_iff {c : Ck} {l : List UInt8} : setR c = (l, 0) ↔ mayC c = true ∧ setL c = l := by
  unfold setR
  cases hm : mayC c with
  | true => rw [if_pos rfl]; simp
  | false => rw [if_neg (by decide)]; simp
theorem chk_fst {l : List UInt8} {c : Ck} (h : ¬ ∃ d, setR d = (l, 0)) : chkC l c = (zeroC, 190) := by
  unfold chkC
  rw [if_neg (fun e => h ⟨c, e⟩)]
theorem read_yes {l : List UInt8} {c : Ck} (h : setR c = (l, 0)) : readP l = (c, 0) ∧ readR l = (c, 0) := by
  obtain ⟨hm, hl⟩ := setR_iff.1 h
  have hs : splitR l = (c.nm ++ 61 :: c.vl) :: qs5 c := by rw [← hl, split_set c hm, ps_qs]
  have hw := walk_all c hm
  have hmm := hm
  simp only [mayC, Bool.and_eq_true] at hmm
  obtain ⟨⟨⟨⟨h1, h2⟩, h3⟩, h4⟩, h5⟩ := hmm
  have hc := cut_make c.nm c.vl (tok_no h1 61 (by decide))
  have hp : pairOf (c.nm ++ 61 :: c.vl) = some (c.nm, c.vl) := by
    unfold pairOf pairRt
    rw [hc, bare_oct h2, h1, h2]
    rfl
  unfold readP readR
  rw [hs]
  simp only [hc, hp, hw.1, hw.2]
  unfold chkC
  rw [if_pos h]
  exact ⟨rfl, rfl⟩
theorem read_no {l : List UInt8} (h : ¬ ∃ d, setR d = (l, 0)) : readP l = (zeroC, 190) ∧ readR l = (zeroC, 190) := by
  unfold readP readR
  cases splitR l with
  | nil => exact ⟨rfl, rfl⟩
  | cons p r =>
    refine ⟨?_, ?_⟩
    · simp only
      split
      · rfl
      · exact chk_fst h
    · simp only
      split
      · rfl
      · exact chk_fst h
theorem read_same (l : List UInt8) : readP l = readR l := by
  by_cases h : ∃ d, setR d = (l, 0)
  · obtain ⟨d, h⟩ := h
    rw [(read_yes h).1, (read_yes h).2]
  · rw [(read_no h).1, (read_no h).2]
end Go.Proofs.YtgnibfideghklaaDoor
