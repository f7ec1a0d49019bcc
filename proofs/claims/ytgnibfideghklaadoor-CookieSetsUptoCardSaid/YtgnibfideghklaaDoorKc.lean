/-
  Chapter 19: the reference's split, Parse and Find over lists of bytes.
-/
import Derived.Test.YtgnibfideghklaaDoorKb
import Derived.Lib.Hide
set_option linter.unusedVariables false
set_option linter.unusedSimpArgs false
namespace Go.Proofs.YtgnibfideghklaaDoor
open Go.RowKit Go.Proofs.YtgnibfideghklaaDoorW.PrintWords Go.Proofs.YtgnibfideghklaaDoor.PCookieReads
def preH (M : List UInt8) : List (List UInt8) → List (List UInt8)
  | [] => [M]
  | h :: t => (M ++ h) :: t
theorem preH_consH (M : List UInt8) (a : UInt8) (X : List (List UInt8)) (h : X ≠ []) : preH M (consH a X) = preH (M ++ [a]) X := by
  cases X with
  | nil => exact absurd rfl h
  | cons x t => simp [preH, consH]
theorem preH_nil (X : List (List UInt8)) (h : X ≠ []) : preH [] X = X := by
  cases X with
  | nil => exact absurd rfl h
  | cons x t => rfl
theorem split_l0 (l : List UInt8) (hl : l.length < 4294967296) : ∀ (n : Nat) (R P M : List UInt8) (out : List ByteArray) (k : Nat), R.length ≤ n → l = P ++ M ++ R → out.length ≤ P.length → R.length + 2 ≤ k →
    atriumref19_split.l0 k (B l) out (P.length : Int) ((P.length + M.length : Nat) : Int) = some (out ++ (preH M (splitR R)).map B) := by
  intro n
  induction n using Nat.strongRecOn with
  | ind n ih =>
    intro R P M out k hn h ho hk
    obtain ⟨k, rfl⟩ : ∃ j, k = j + 1 := ⟨k - 1, by omega⟩
    have hlen : l.length = P.length + M.length + R.length := by rw [h]; simp; omega
    have hs := B_size l
    have short : R.length ≤ 1 → atriumref19_split.l0 (k + 1) (B l) out (P.length : Int) ((P.length + M.length : Nat) : Int) = some (out ++ [B (M ++ R)]) := fun h1 => by
      have hd : l.drop P.length = M ++ R := by rw [h, List.append_assoc]; exact List.drop_left' rfl
      rw [atriumref19_split.l0, w_succ _ (by omega), if_neg (by omega), if_pos (by omega), if_pos (by omega), if_pos (by omega), Int.toNat_natCast, B_drop, hd]
    match R, hn, h, hk, hlen, short with
    | [], _, _, _, _, short =>
      rw [short (by simp)]
      rfl
    | [a], _, _, _, _, short =>
      rw [short (by simp)]
      rfl
    | a :: b :: r, hn, h, hk, hlen, _ =>
      simp only [List.length_cons] at hlen hn hk
      have hba : bt (B l) ((P.length + M.length : Nat) : Int) = (a.toNat : Int) := by
        rw [h, ← List.length_append]
        exact bt_mid (P ++ M) (b :: r) a
      have hbb : bt (B l) ((P.length + M.length + 1 : Nat) : Int) = (b.toNat : Int) := by
        have e : P ++ M ++ a :: b :: r = (P ++ M ++ [a]) ++ b :: r := by simp
        have e2 : P.length + M.length + 1 = (P ++ M ++ [a]).length := by simp; omega
        rw [h, e, e2]
        exact bt_mid (P ++ M ++ [a]) r b
      have hstep : splitR (a :: b :: r) = consH a (splitR (b :: r)) → atriumref19_split.l0 k (B l) out (P.length : Int) (wrap64 (((P.length + M.length : Nat) : Int) + 1)) = some (out ++ (preH M (splitR (a :: b :: r))).map B) := fun e => by
        have := ih (b :: r).length (by simp; omega) (b :: r) P (M ++ [a]) out k (Nat.le_refl _) (by rw [h]; simp) ho (by simp only [List.length_cons]; omega)
        rw [e, preH_consH _ _ _ (splitR_ne _), ← this, w_succ _ (by omega), List.length_append, List.length_singleton]
        rfl
      have a59 := u8_eq a 59 (by omega)
      have b32 := u8_eq b 32 (by omega)
      have e1 : UInt8.ofNat 59 = 59 := rfl
      have e2 : UInt8.ofNat 32 = 32 := rfl
      rw [e1] at a59
      rw [e2] at b32
      rw [atriumref19_split.l0, hba]
      clear hba
      replace hbb := Lib.hid hbb
      rw [if_pos (by rw [w_succ _ (by omega)]; omega), if_pos (by omega), if_pos (by omega)]
      by_cases ha : a = 59
      · rw [if_pos (by have := a59.1 ha; omega), if_pos (by rw [w_succ _ (by omega)]; omega)]
        have hbb2 : bt (B l) (wrap64 (((P.length + M.length : Nat) : Int) + 1)) = (b.toNat : Int) := by rw [w_succ _ (by omega)]; exact hbb.out
        rw [hbb2]
        clear hbb hbb2
        by_cases hb : b = 32
        · have ht : ((l.drop P.length).take (P.length + M.length - P.length)) = M := by
            rw [h, List.append_assoc, List.drop_left' rfl, Nat.add_sub_cancel_left]
            exact List.take_left' rfl
          have q1 : (b.toNat : Int) = 32 := by have := b32.1 hb; omega
          have q2 : (0 : Int) ≤ (P.length : Int) := by omega
          have q3 : (P.length : Int) ≤ ((P.length + M.length : Nat) : Int) := by omega
          have q4 : ((P.length + M.length : Nat) : Int) ≤ ((B l).size : Int) := by omega
          have q5 : out.length < 8796093022208 := by omega
          rw [if_pos q1, if_pos q2, if_pos q3, if_pos q4, if_pos q5, Int.toNat_natCast, Int.toNat_natCast, B_ext, ht]
          clear q1 q2 q3 q4 q5
          have := ih r.length (by omega) r (P ++ M ++ [a, b]) [] (out ++ [B M]) k (Nat.le_refl _) (by rw [h]; simp) (by simp; omega) (by omega)
          have e5 : splitR (a :: b :: r) = [] :: splitR r := by rw [splitR, if_pos ⟨ha, hb⟩]
          have e3 : wrap64 (((P.length + M.length : Nat) : Int) + 2) = (((P ++ M ++ [a, b]).length : Nat) : Int) := by rw [IntWalk.wrap64_in _ (by omega)]; simp; omega
          have e4 : wrap64 (wrap64 (((P.length + M.length : Nat) : Int) + 1) + 1) = (((P ++ M ++ [a, b]).length + ([] : List UInt8).length : Nat) : Int) := by rw [w_succ _ (by omega), w_succ _ (by omega)]; simp; omega
          rw [e3, e4, e5]
          refine this.trans ?_
          rw [preH_nil _ (splitR_ne _)]
          simp only [preH, List.append_nil, List.map_cons, List.append_assoc, List.singleton_append]
        · rw [if_neg (by intro e; exact hb (b32.2 (by omega)))]
          exact hstep (by rw [splitR, if_neg (fun e => hb e.2)])
      · rw [if_neg (by intro e; exact ha (a59.2 (by omega)))]
        exact hstep (by rw [splitR, if_neg (fun e => ha e.1)])
theorem split_f {l : List UInt8} (hl : l.length < 4294967296) (k : Nat) (hk : l.length + 2 ≤ k) : atriumref19_split.f k (B l) = some ((splitR l).map B) := by
  have := split_l0 l hl l.length l [] [] [] k (Nat.le_refl _) rfl (by simp) hk
  rw [preH_nil _ (splitR_ne _)] at this
  exact this
theorem part_len : ∀ (l s : List UInt8), s ∈ splitR l → s.length ≤ l.length
  | [], s, h => by simp [splitR] at h; simp [h]
  | [c], s, h => by simp [splitR] at h; simp [h]
  | a :: b :: r, s, h => by
    unfold splitR at h
    split at h
    · rcases List.mem_cons.1 h with rfl | h
      · simp
      · have := part_len r s h; simp; omega
    · cases hs : splitR (b :: r) with
      | nil => exact absurd hs (splitR_ne _)
      | cons x t =>
        rw [hs] at h
        rcases List.mem_cons.1 h with rfl | h
        · have := part_len (b :: r) x (by rw [hs]; simp)
          simp only [List.length_cons] at this ⊢
          omega
        · have := part_len (b :: r) s (by rw [hs]; simp [h])
          simp only [List.length_cons] at this ⊢
          omega
theorem parts_len (l : List UInt8) : (splitR l).length ≤ l.length + 1 := by
  match l with
  | [] => simp [splitR]
  | [c] => simp [splitR]
  | a :: b :: r =>
    unfold splitR
    split
    · have := parts_len r; simp; omega
    · have := parts_len (b :: r)
      cases hs : splitR (b :: r) with
      | nil => exact absurd hs (splitR_ne _)
      | cons x t =>
        rw [hs] at this
        simp only [consH, List.length_cons] at this ⊢
        omega
def SP (p : List UInt8 × List UInt8) : S43 := ⟨B p.1, B p.2⟩
def resP : Option (List (List UInt8 × List UInt8)) → List S43 × Int
  | none => ([], 190)
  | some ps => (ps.map SP, 0)
theorem pairV_some {s : List UInt8} {p} (h : pairOf s = some p) : pairV s = (B p.1, B p.2, true) := by
  unfold pairOf at h
  split at h
  · rename_i hc
    injection h with h
    subst h
    simp only [Bool.and_eq_true] at hc
    unfold pairV
    rw [if_pos hc.1, hc.2]
  · cases h
theorem pairV_none {s : List UInt8} (h : pairOf s = none) : (pairV s).2.2 = false := by
  unfold pairOf at h
  split at h
  · cases h
  · rename_i hc
    simp only [Bool.and_eq_true, not_and] at hc
    unfold pairV
    split
    · rename_i h2
      exact Bool.eq_false_iff.2 (hc h2)
    · rfl
theorem rdOf_mid (PL RL : List (List UInt8)) (s : List UInt8) : rdOf ByteArray.empty ((PL ++ s :: RL).map B) (PL.length : Int) = B s := by
  simp [rdOf, List.getD_eq_getElem?_getD, List.getElem?_append_right]
theorem parse_l0 (L : List (List UInt8)) (hL : L.length ≤ 16) (N : Nat) (hN : ∀ s ∈ L, s.length < 4611686018427387904 ∧ s.length + s.length + 19 ≤ N) : ∀ (RL PL : List (List UInt8)) (ps : List (List UInt8 × List UInt8)) (k : Nat), L = PL ++ RL → ps.length ≤ PL.length → N + RL.length + 1 ≤ k →
    atriumref19_Parse.l0 k (ps.map SP) (L.map B) (PL.length : Int) = some (resP ((pairsOf RL).map (ps ++ ·)))
  | [], PL, ps, k, h, hp, hk => by
    obtain ⟨k, rfl⟩ : ∃ j, k = j + 1 := ⟨k - 1, by omega⟩
    rw [atriumref19_Parse.l0, if_neg (by rw [List.length_map, h]; simp)]
    simp [pairsOf, resP]
  | s :: RL, PL, ps, k, h, hp, hk => by
    obtain ⟨k, rfl⟩ : ∃ j, k = j + 1 := ⟨k - 1, by omega⟩
    have hlen : L.length = PL.length + 1 + RL.length := by rw [h]; simp; omega
    obtain ⟨h1, h2⟩ := hN s (by rw [h]; simp)
    have hr : rdOf ByteArray.empty (L.map B) (PL.length : Int) = B s := by rw [h]; exact rdOf_mid PL RL s
    rw [atriumref19_Parse.l0, if_pos (by rw [List.length_map]; omega), if_pos (by omega), hr, pair_f h1 k (by omega), Option.bind_some]
    cases hpo : pairOf s with
    | none =>
      rw [if_neg (by rw [pairV_none hpo]; decide), pairsOf, hpo]
      rfl
    | some p =>
      rw [pairV_some hpo, if_pos rfl, if_neg (by rw [List.length_map]; omega), if_pos (by rw [List.length_map]; omega), w_succ _ (by omega)]
      have hrec := parse_l0 L hL N hN RL (PL ++ [s]) (ps ++ [p]) k (by rw [h]; simp) (by simp; omega) (by simp at hk; omega)
      rw [List.map_append, List.length_append, List.length_singleton] at hrec
      rw [show ([(⟨(B p.1, B p.2, true).1, (B p.1, B p.2, true).2.1⟩ : S43)] : List S43) = [p].map SP from rfl, hrec, pairsOf, hpo]
      cases pairsOf RL with
      | none => rfl
      | some q => simp [resP]
theorem parse_f {l : List UInt8} (hl : l.length < 4294967296) (k : Nat) (hk : 2 * l.length + 40 ≤ k) : atriumref19_Parse.f k (B l) = some (resP (parseC l)) := by
  unfold atriumref19_Parse.f
  rw [split_f hl k (by omega), Option.bind_some]
  have hpl := part_len l
  unfold parseC
  by_cases h16 : (splitR l).length ≤ 16
  · rw [if_pos h16]
    have := parse_l0 (splitR l) h16 (2 * l.length + 19) (fun s hs => by have := hpl s hs; omega) (splitR l) [] [] k rfl (by simp) (by omega)
    simp only [List.nil_append, List.map_nil, List.length_nil] at this
    rw [Option.map_id'] at this
    exact this
  · rw [if_neg h16]
    have hq := parts_len l
    cases hs : splitR l with
    | nil => exact absurd hs (splitR_ne l)
    | cons s RL =>
      obtain ⟨k, rfl⟩ : ∃ j, k = j + 1 := ⟨k - 1, by omega⟩
      have hsl := hpl s (by rw [hs]; simp)
      rw [hs] at h16
      have hr : rdOf ByteArray.empty ((s :: RL).map B) 0 = B s := rdOf_mid [] RL s
      rw [atriumref19_Parse.l0, if_pos (by rw [List.length_map]; omega), if_pos (by omega), hr, pair_f (by omega) k (by omega), Option.bind_some]
      split
      · rw [if_pos (by rw [List.length_map]; omega)]
        rfl
      · rfl
def resF : Option (List UInt8) → ByteArray × Bool
  | none => (⟨#[]⟩, false)
  | some x => (B x, true)
theorem find_l1 (vs : List ByteArray) (x6 : Int) (name : List UInt8) (L : List (List UInt8 × List UInt8)) (hL : L.length ≤ 16) (hN : ∀ p ∈ L, p.2.length < 4611686018427387904) : ∀ (RL PL : List (List UInt8 × List UInt8)) (k : Nat), L = PL ++ RL → RL.length + 1 ≤ k →
    atriumref19_Find.l1 k vs (B name) x6 (L.map SP) (PL.length : Int) = (match findP name RL with | some x => some (resF (some x)) | none => atriumref19_Find.l0 (k - RL.length - 1) vs (B name) (wrap64 (x6 + 1)))
  | [], PL, k, h, hk => by
    obtain ⟨k, rfl⟩ : ∃ j, k = j + 1 := ⟨k - 1, by omega⟩
    rw [atriumref19_Find.l1, if_neg (by rw [List.length_map, h]; simp)]
    rfl
  | p :: RL, PL, k, h, hk => by
    obtain ⟨k, rfl⟩ : ∃ j, k = j + 1 := ⟨k - 1, by omega⟩
    have hlen : L.length = PL.length + 1 + RL.length := by rw [h]; simp; omega
    have hr : rd_T43 (L.map SP) (PL.length : Int) = SP p := by
      rw [h]
      simp [rd_T43, List.getD_eq_getElem?_getD, List.getElem?_append_right]
    rw [atriumref19_Find.l1, if_pos (by rw [List.length_map]; omega), if_pos (by omega), hr]
    show (if (B p.1).toList = (B name).toList then _ else _) = _
    rw [B_toList, B_toList]
    unfold findP
    rw [List.find?_cons]
    by_cases hn : p.1 = name
    · have hb := bare_len p.2
      rw [if_pos hn, show (p.1 == name) = true by simpa using hn]
      show (atriumref19_bare.f (B p.2)).bind _ = _
      rw [ref_bare_f p.2 (hN p (by rw [h]; simp)), Option.bind_some]
      rfl
    · have hrec := find_l1 vs x6 name L hL hN RL (PL ++ [p]) k (by rw [h]; simp) (by simp at hk; omega)
      rw [List.length_append, List.length_singleton] at hrec
      rw [if_neg hn, show (p.1 == name) = false by simpa using hn, w_succ _ (by omega), hrec, List.length_cons]
      unfold findP
      rw [show k + 1 - (RL.length + 1) - 1 = k - RL.length - 1 by omega]
theorem pairs_small {l : List UInt8} {ps} (h : parseC l = some ps) : ps.length ≤ 16 ∧ ∀ p ∈ ps, p.1.length ≤ l.length ∧ p.2.length ≤ l.length := by
  unfold parseC at h
  split at h
  · rename_i h16
    refine ⟨by rw [pairs_len h]; exact h16, fun p hp => ?_⟩
    have hg := (pairs_glue h).1
    have : glue p ∈ splitR l := by rw [hg]; exact List.mem_map_of_mem hp
    have := part_len l _ this
    unfold glue at this
    simp at this
    omega
  · cases h
theorem find_l0 (V : List (List UInt8)) (hV : V.length < 4294967296) (name : List UInt8) (N : Nat) (hN : ∀ v ∈ V, v.length < 4294967296 ∧ 2 * v.length + 40 ≤ N) : ∀ (RV PV : List (List UInt8)) (k : Nat), V = PV ++ RV → N + 20 * RV.length + 1 ≤ k →
    atriumref19_Find.l0 k (V.map B) (B name) (PV.length : Int) = some (resF (findC name RV))
  | [], PV, k, h, hk => by
    obtain ⟨k, rfl⟩ : ∃ j, k = j + 1 := ⟨k - 1, by omega⟩
    rw [atriumref19_Find.l0, if_neg (by rw [List.length_map, h]; simp)]
    rfl
  | v :: RV, PV, k, h, hk => by
    obtain ⟨k, rfl⟩ : ∃ j, k = j + 1 := ⟨k - 1, by omega⟩
    simp only [List.length_cons] at hk
    have hlen : V.length = PV.length + 1 + RV.length := by rw [h]; simp; omega
    obtain ⟨h1, h2⟩ := hN v (by rw [h]; simp)
    have hr : rdOf ByteArray.empty (V.map B) (PV.length : Int) = B v := by rw [h]; exact rdOf_mid PV RV v
    have hnext : ∀ j, N + 20 * RV.length + 1 ≤ j → atriumref19_Find.l0 j (V.map B) (B name) (wrap64 ((PV.length : Int) + 1)) = some (resF (findC name RV)) := fun j hj => by
      have := find_l0 V hV name N hN RV (PV ++ [v]) j (by rw [h]; simp) hj
      rw [List.length_append, List.length_singleton] at this
      rw [w_succ _ (by omega)]
      exact this
    rw [atriumref19_Find.l0, if_pos (by rw [List.length_map]; omega), if_pos (by omega), hr, parse_f h1 k (by omega), Option.bind_some, findC]
    cases hp : parseC v with
    | none =>
      have := find_l1 (V.map B) (PV.length : Int) name [] (by simp) (by simp) [] [] k rfl (by simp; omega)
      simp only [List.map_nil, List.length_nil] at this
      show atriumref19_Find.l1 k (V.map B) (B name) (PV.length : Int) [] 0 = _
      rw [show (0 : Int) = ((0 : Nat) : Int) from rfl, this]
      exact hnext _ (by omega)
    | some ps =>
      obtain ⟨hl, hps⟩ := pairs_small hp
      have := find_l1 (V.map B) (PV.length : Int) name ps hl (fun p hp => by have := hps p hp; omega) ps [] k rfl (by omega)
      show atriumref19_Find.l1 k (V.map B) (B name) (PV.length : Int) (ps.map SP) 0 = _
      rw [show (0 : Int) = (([] : List (List UInt8 × List UInt8)).length : Int) from rfl, this]
      cases hf : findP name ps with
      | some x => simp only [hf]
      | none =>
        simp only [hf]
        exact hnext (k - ps.length - 1) (by omega)
theorem find_f {V : List (List UInt8)} (hV : V.length < 4294967296) (name : List UInt8) (N : Nat) (hN : ∀ v ∈ V, v.length < 4294967296 ∧ 2 * v.length + 40 ≤ N) : atriumref19_Find.f (N + 20 * V.length + 1) (V.map B) (B name) = some (resF (findC name V)) :=
  find_l0 V hV name N hN V [] _ rfl (Nat.le_refl _)
end Go.Proofs.YtgnibfideghklaaDoor
