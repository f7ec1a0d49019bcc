/-
  Chapter 19, plain: a Set-Cookie's text.
-/
import Derived.Test.YtgnibfideghklaaDoorKj
import Derived.Test.YtgnibfideghklaaDoorQ3
import Derived.Test.YtgnibfideghklaaDoorQ4
import Derived.Lib.ItoaLen
set_option linter.unusedVariables false
set_option linter.unusedSimpArgs false
namespace Go.Proofs.YtgnibfideghklaaDoor
open Go.RowKit Go.Proofs.YtgnibfideghklaaDoorW.PrintWords Go.Proofs.YtgnibfideghklaaDoor.PCookieReads
def ageW : List UInt8 := [77, 97, 120, 45, 65, 103, 101, 61]
def pathW : List UInt8 := [80, 97, 116, 104, 61]
def httpW : List UInt8 := [72, 116, 116, 112, 79, 110, 108, 121]
def secW : List UInt8 := [83, 101, 99, 117, 114, 101]
def siteW : List UInt8 := [83, 97, 109, 101, 83, 105, 116, 101, 61]
def addP (ps : List (List UInt8)) (b : Bool) (x : List UInt8) : List (List UInt8) := if b = true then ps ++ [x] else ps
def addS (s : List UInt8) (b : Bool) (x : List UInt8) : List UInt8 := if b = true then s ++ 59 :: 32 :: x else s
def ps0 (c : Ck) : List (List UInt8) := [c.nm ++ 61 :: c.vl]
def ps1 (c : Ck) : List (List UInt8) := addP (ps0 c) (!c.pa.isEmpty) (pathW ++ c.pa)
def ps2 (c : Ck) : List (List UInt8) := addP (ps1 c) c.ha (ageW ++ Lib.itoa c.age)
def ps3 (c : Ck) : List (List UInt8) := addP (ps2 c) c.ho httpW
def ps4 (c : Ck) : List (List UInt8) := addP (ps3 c) c.se secW
def ps5 (c : Ck) : List (List UInt8) := addP (ps4 c) (!c.si.isEmpty) (siteW ++ c.si)
def setL (c : Ck) : List UInt8 := joinR (ps5 c)
def ss0 (c : Ck) : List UInt8 := c.nm ++ 61 :: c.vl
def ss1 (c : Ck) : List UInt8 := addS (ss0 c) (!c.pa.isEmpty) (pathW ++ c.pa)
def ss2 (c : Ck) : List UInt8 := addS (ss1 c) c.ha (ageW ++ Lib.itoa c.age)
def ss3 (c : Ck) : List UInt8 := addS (ss2 c) c.ho httpW
def ss4 (c : Ck) : List UInt8 := addS (ss3 c) c.se secW
def ss5 (c : Ck) : List UInt8 := addS (ss4 c) (!c.si.isEmpty) (siteW ++ c.si)
theorem joinR_snoc : ∀ (ps : List (List UInt8)) (x : List UInt8), ps ≠ [] → joinR (ps ++ [x]) = joinR ps ++ 59 :: 32 :: x
  | [], x, h => absurd rfl h
  | [a], x, _ => rfl
  | a :: b :: r, x, _ => by
    have := joinR_snoc (b :: r) x (by simp)
    rw [List.cons_append, List.cons_append, joinR, ← List.cons_append, this, joinR]
    simp
theorem addP_ne {ps : List (List UInt8)} (h : ps ≠ []) (b : Bool) (x : List UInt8) : addP ps b x ≠ [] := by
  unfold addP
  split
  · simp
  · exact h
theorem join_addP {ps : List (List UInt8)} (h : ps ≠ []) (b : Bool) (x : List UInt8) : joinR (addP ps b x) = addS (joinR ps) b x := by
  unfold addP addS
  split
  · exact joinR_snoc ps x h
  · rfl
theorem ps0_ne (c : Ck) : ps0 c ≠ [] := by simp [ps0]
theorem ps4_ne (c : Ck) : ps4 c ≠ [] := addP_ne (addP_ne (addP_ne (addP_ne (ps0_ne c) _ _) _ _) _ _) _ _
theorem set_ss (c : Ck) : setL c = ss5 c := by
  have e1 : joinR (ps1 c) = ss1 c := join_addP (ps0_ne c) _ _
  have e2 : joinR (ps2 c) = ss2 c := (join_addP (addP_ne (ps0_ne c) _ _) _ _).trans (by show addS (joinR (ps1 c)) _ _ = _; rw [e1]; rfl)
  have e3 : joinR (ps3 c) = ss3 c := (join_addP (addP_ne (addP_ne (ps0_ne c) _ _) _ _) _ _).trans (by show addS (joinR (ps2 c)) _ _ = _; rw [e2]; rfl)
  have e4 : joinR (ps4 c) = ss4 c := (join_addP (addP_ne (addP_ne (addP_ne (ps0_ne c) _ _) _ _) _ _) _ _).trans (by show addS (joinR (ps3 c)) _ _ = _; rw [e3]; rfl)
  exact (join_addP (ps4_ne c) _ _).trans (by show addS (joinR (ps4 c)) _ _ = _; rw [e4]; rfl)
theorem join_R : ∀ ps : List (List UInt8), Lib.join ps [59, 32] = joinR ps
  | [] => rfl
  | [x] => Lib.join_one x _
  | x :: y :: r => by
    have := join_R (y :: r)
    unfold Lib.join at this ⊢
    rw [joinR, ← this]
    simp [List.intercalate, List.intersperse]
theorem num_f (n : Nat) : n < 4611686018427387904 → ∀ K, atriumref19_number.f (n + 1 + K) (n : Int) = some (B (Lib.decDigits n)) := by
  induction n using Nat.strongRecOn with
  | ind n ih =>
    intro hn K
    rw [show n + 1 + K = (n + K) + 1 by omega, atriumref19_number.f]
    by_cases h : n < 10
    · rw [if_pos (by omega), Lib.decDigits_one h]
      have e : wrap64 (48 + (n : Int)) % 256 = ((48 + n : Nat) : Int) := by rw [IntWalk.wrap64_in _ (by omega)]; omega
      rw [e]
      rfl
    · have e3 : wrap64 ((n : Int).tdiv 10) = ((n / 10 : Nat) : Int) := by
        rw [Int.tdiv_eq_ediv_of_nonneg (by omega), IntWalk.wrap64_in _ (by omega)]
        omega
      have e : wrap64 (48 + (n : Int).tmod 10) % 256 = ((48 + n % 10 : Nat) : Int) := by
        rw [Int.tmod_eq_emod_of_nonneg (by omega), IntWalk.wrap64_in _ (by omega)]
        omega
      have e2 : strOfNums [((48 + n % 10 : Nat) : Int)] = B [UInt8.ofNat (48 + n % 10)] := rfl
      have hl := Lib.nDigits_le20 (n / 10) (by omega)
      rw [if_neg (by omega), e3, e, show n + K = n / 10 + 1 + (n - n / 10 - 1 + K) by omega, ih (n / 10) (by omega) (by omega), Option.bind_some, Option.bind_some, e2, B_app, if_pos (by rw [B_size, B_size, Lib.decDigits_length]; simp; omega)]
      rw [show Lib.decDigits n = Lib.decDigits (n / 10) ++ [UInt8.ofNat (48 + n % 10)] by rw [Lib.decDigits, dif_neg h]]
theorem may_j1 (c : Ck) (x : Bool) (h1 : c.nm.length < 4611686018427387904) (h2 : c.vl.length < 4611686018427387904) (k : Nat) (hk : c.nm.length + c.vl.length + 17 ≤ k) :
    atriumref19_may.j1 (k + 1) x (B c.nm) (B c.vl) (B c.pa) c.age c.ha c.ho c.se (B c.si) = some (!x && (tokL c.nm && octL c.vl && siteB c.si)) := by
  rw [atriumref19_may.j1]
  cases x with
  | true => rw [if_pos rfl]; rfl
  | false =>
    rw [if_neg (by decide), tok_f h1 k (by omega), Option.bind_some]
    cases ht : tokL c.nm with
    | false => rw [if_neg (by decide)]; rfl
    | true =>
      rw [if_pos rfl, oct_f h2 k (by omega), Option.bind_some]
      cases ho : octL c.vl with
      | false => rw [if_neg (by decide)]; rfl
      | true =>
        rw [if_pos rfl, B_toList]
        unfold siteB
        by_cases g1 : c.si = []
        · rw [if_pos g1, g1]; rfl
        · have g1b : c.si.isEmpty = false := by simpa using g1
          rw [if_neg g1, g1b]
          by_cases g2 : c.si = strictL
          · rw [if_pos (show c.si = [83, 116, 114, 105, 99, 116] from g2), g2]; rfl
          · rw [if_neg (show ¬ c.si = [83, 116, 114, 105, 99, 116] from g2), show (c.si == strictL) = false from beq_eq_false_iff_ne.2 g2]
            by_cases g3 : c.si = laxL
            · rw [if_pos (show c.si = [76, 97, 120] from g3), g3]; rfl
            · rw [if_neg (show ¬ c.si = [76, 97, 120] from g3), show (c.si == laxL) = false from beq_eq_false_iff_ne.2 g3]
              rfl
theorem may_l0 (c : Ck) (h1 : c.nm.length < 4611686018427387904) (h2 : c.vl.length < 4611686018427387904) (h3 : c.pa.length < 4611686018427387904) : ∀ (R P : List UInt8) (k : Nat), c.pa = P ++ R → P.all pathB = true → R.length + c.nm.length + c.vl.length + 19 ≤ k → atriumref19_may.l0 k (P.length : Int) (B c.nm) (B c.vl) (B c.pa) c.age c.ha c.ho c.se (B c.si) = some (mayC c)
  | [], P, k, h, hP, hk => by
    obtain ⟨k, rfl⟩ : ∃ j, k = j + 1 := ⟨k - 1, by omega⟩
    obtain ⟨k, rfl⟩ : ∃ j, k = j + 1 := ⟨k - 1, by omega⟩
    have hj := fun x => may_j1 c x h1 h2 k (by simp at hk; omega)
    have hall : c.pa.all pathB = true := by rw [h, List.append_nil]; exact hP
    have hage : ∀ b : Bool, mayC c = (tokL c.nm && octL c.vl && ((c.pa.isEmpty || c.pa.head? == some 47)) && ageB c.age c.ha && siteB c.si) := fun _ => by
      unfold mayC pathL
      rw [hall, Bool.and_true]
    rw [hage true]
    have hN : ∀ (x y : Bool), x = y → (some (!x && (tokL c.nm && octL c.vl && siteB c.si)) : Option Bool) = some (tokL c.nm && octL c.vl && !y && siteB c.si) := fun x y e => by
      subst e
      cases tokL c.nm <;> cases octL c.vl <;> cases siteB c.si <;> cases x <;> rfl
    have hA : (if c.age < 0 then (atriumref19_may.j1 (k + 1) true (B c.nm) (B c.vl) (B c.pa) c.age c.ha c.ho c.se (B c.si)) else (if c.age > 2147483647 then (atriumref19_may.j1 (k + 1) true (B c.nm) (B c.vl) (B c.pa) c.age c.ha c.ho c.se (B c.si)) else (if c.ha = true then (atriumref19_may.j1 (k + 1) false (B c.nm) (B c.vl) (B c.pa) c.age c.ha c.ho c.se (B c.si)) else (atriumref19_may.j1 (k + 1) (c.age != 0) (B c.nm) (B c.vl) (B c.pa) c.age c.ha c.ho c.se (B c.si))))) = some (tokL c.nm && octL c.vl && ageB c.age c.ha && siteB c.si) := by
      rw [hj true, hj false, hj]
      have hb : ageB c.age c.ha = !(if c.age < 0 then true else if c.age > 2147483647 then true else if c.ha = true then false else (c.age != 0)) := by
        unfold ageB
        by_cases a1 : c.age < 0
        · rw [if_pos a1, decide_eq_false (by omega : ¬ 0 ≤ c.age)]; rfl
        · rw [if_neg a1, decide_eq_true (by omega : 0 ≤ c.age)]
          by_cases a2 : c.age > 2147483647
          · rw [if_pos a2, decide_eq_false (by omega : ¬ c.age ≤ 2147483647)]; rfl
          · rw [if_neg a2, decide_eq_true (by omega : c.age ≤ 2147483647)]
            cases c.ha with
            | true => rfl
            | false => simp [bne]
      rw [hb]
      by_cases a1 : c.age < 0
      · rw [if_pos a1, if_pos a1]; exact hN _ _ rfl
      · rw [if_neg a1, if_neg a1]
        by_cases a2 : c.age > 2147483647
        · rw [if_pos a2, if_pos a2]; exact hN _ _ rfl
        · rw [if_neg a2, if_neg a2]
          cases c.ha with
          | true => rw [if_pos rfl, if_pos rfl]; exact hN _ _ rfl
          | false => rw [if_neg (by decide), if_neg (by decide)]; exact hN _ _ rfl
    have hX : (some (tokL c.nm && octL c.vl && ageB c.age c.ha && siteB c.si) : Option Bool) = some (tokL c.nm && octL c.vl && true && ageB c.age c.ha && siteB c.si) := by rw [Bool.and_true]
    rw [atriumref19_may.l0, if_neg (by rw [B_size, h]; simp), B_toList]
    by_cases g1 : c.pa = []
    · rw [if_pos g1, hA, hX, g1]
      rfl
    · have hne : c.pa.isEmpty = false := by simpa using g1
      have hpos : 0 < c.pa.length := List.length_pos_iff.2 g1
      rw [if_neg g1, if_pos (by rw [B_size]; omega), hne, Bool.false_or]
      cases hpa : c.pa with
      | nil => exact absurd hpa g1
      | cons a t =>
        have hb : bt (B (a :: t)) 0 = (a.toNat : Int) := bt_mid [] t a
        rw [hb, ← hpa]
        have a47 := u8_eq a 47 (by omega)
        have e47 : UInt8.ofNat 47 = 47 := rfl
        rw [e47] at a47
        by_cases ha : a = 47
        · rw [if_pos (by have := a47.1 ha; omega), hA, hX]
          simp [hpa, ha]
        · rw [if_neg (by intro e; exact ha (a47.2 (by omega))), hj true]
          simp [hpa, ha]
  | x :: R, P, k, h, hP, hk => by
    obtain ⟨k, rfl⟩ : ∃ j, k = j + 1 := ⟨k - 1, by omega⟩
    have hlen : c.pa.length = P.length + 1 + R.length := by rw [h]; simp; omega
    have hb : bt (B c.pa) (P.length : Int) = (x.toNat : Int) := by rw [h]; exact bt_mid P R x
    rw [atriumref19_may.l0, if_pos (by rw [B_size]; omega), if_pos (by omega), hb, w_succ _ (by omega)]
    have hi := path_iff x
    cases ho : pathB x with
    | true =>
      obtain ⟨a1, a2, a3⟩ := hi.1 ho
      have hrec := may_l0 c h1 h2 h3 R (P ++ [x]) k (by rw [h]; simp) (by rw [List.all_append, hP, List.all_cons, ho]; rfl) (by simp at hk; omega)
      rw [List.length_append, List.length_singleton] at hrec
      rw [if_neg (by omega), if_neg (by omega), if_neg (by omega), hrec]
    | false =>
      have hn : ¬ (33 ≤ x.toNat ∧ x.toNat ≤ 126 ∧ x.toNat ≠ 59) := fun e => by rw [hi.2 e] at ho; cases ho
      have hq : mayC c = false := by
        unfold mayC
        rw [path_fail h ho]
        simp
      rw [hq]
      repeat' split
      all_goals first | rfl | (exfalso; omega)
theorem may_f (c : Ck) (h1 : c.nm.length < 4611686018427387904) (h2 : c.vl.length < 4611686018427387904) (h3 : c.pa.length < 4611686018427387904) : atriumref19_may.f (c.pa.length + c.nm.length + c.vl.length + 19) (B c.nm) (B c.vl) (B c.pa) c.age c.ha c.ho c.se (B c.si) = some (mayC c) :=
  may_l0 c h1 h2 h3 c.pa [] _ rfl rfl (Nat.le_refl _)
theorem may_any (c : Ck) (h1 : c.nm.length < 4611686018427387904) (h2 : c.vl.length < 4611686018427387904) (h3 : c.pa.length < 4611686018427387904) (w : World) :
    Calls Tryd.prog 32 #[c.V] w fun e w' => e = .returned (.bool (mayC c)) ∧ Below w.heap.size w w' :=
  atriumref19_may.calls _ _ _ _ _ _ _ _ _ _ w (may_f c h1 h2 h3)
theorem num_any (n : Nat) (hn : n < 4611686018427387904) (w : World) :
    Calls Tryd.prog 33 #[.int .i64 (n : Int)] w fun e w' => e = .returned (.string (B (Lib.decDigits n))) ∧ Below w.heap.size w w' :=
  atriumref19_number.calls (n + 1 + 0) n _ w (num_f n hn 0)
end Go.Proofs.YtgnibfideghklaaDoor
