/-
  Chapter 11, plain: what is the same as itself; the edit that makes a state makes it.
-/
import Derived.Test.YtbhfcjgejnnpcaaMs
import Derived.Test.YtbhfcjgejnnpcaaQ5
import Derived.Test.YtbhfcjgejnnpcaaQ8
import Derived.Test.YtbhfcjgejnnpcaaQ9
set_option linter.unusedVariables false
set_option linter.unusedSimpArgs false
namespace Go.Proofs.Ytbhfcjgejnnpcaa
open Go.RowKit Go.Proofs.YtbhfcjgejnnpcaaW.PrintWords Go.Proofs.Ytbhfcjgejnnpcaa.PManifest
theorem sameLev_l (l : List S44) (hl : l.length < 1000000000) : ∀ (R P : List S44), l = P ++ R → atriumlaw11_sameLevel.l0 (R.length + 1) l l (P.length : Int) = some true
  | [], P, h => by
    rw [atriumlaw11_sameLevel.l0, if_neg (by rw [h]; simp)]
  | x :: R, P, h => by
    have hs : l.length = P.length + R.length + 1 := by rw [h]; simp; omega
    have ih := sameLev_l l hl R (P ++ [x]) (by rw [h]; simp)
    rw [show ((P ++ [x]).length : Int) = (P.length : Int) + 1 by simp] at ih
    rw [List.length_cons, atriumlaw11_sameLevel.l0, if_pos (by omega), if_pos (by omega), if_pos (by omega), if_neg (by simp), w64 _ (by omega) (by omega), ih]
theorem sameLev_f (l : List S44) (hl : l.length < 1000000000) : atriumlaw11_sameLevel.f (l.length + 1) l l = some true := by
  rw [atriumlaw11_sameLevel.f, if_pos rfl]
  exact sameLev_l l hl l [] rfl
theorem sameSt_l (L : List (List S44)) (p q r : Int) (hL : L.length < 1000000000) (hl : ∀ l ∈ L, l.length < 100000000) : ∀ (R P : List (List S44)), L = P ++ R → ∃ k, atriumlaw11_SameState.l0 k (P.length : Int) L p q r L p q r = some true
  | [], P, h => ⟨1, by rw [atriumlaw11_SameState.l0, if_neg (by rw [h]; simp)]⟩
  | x :: R, P, h => by
    have hs : L.length = P.length + R.length + 1 := by rw [h]; simp; omega
    obtain ⟨k, ih⟩ := sameSt_l L p q r hL hl R (P ++ [x]) (by rw [h]; simp)
    rw [show ((P ++ [x]).length : Int) = (P.length : Int) + 1 by simp] at ih
    have e1 : rd_L3 L (P.length : Int) = x := by rw [h]; exact rdL_mid _ _ _ _ rfl
    have hx : x.length < 100000000 := hl x (by rw [h]; simp)
    have h1 := at_rounds (fun k => atriumlaw11_sameLevel.mono x x k) (k := x.length + 1) (k' := x.length + 1 + k) (by omega) (sameLev_f x (by omega))
    have h2 := at_rounds (fun k => (atriumlaw11_SameState.mono_l k).2 _ _ _ _ _ _ _ _ _) (k := k) (k' := x.length + 1 + k) (by omega) ih
    exact ⟨x.length + 1 + k + 1, by rw [atriumlaw11_SameState.l0, if_pos (by omega), if_pos (by omega), if_pos (by omega), e1, h1, Option.bind_some, if_pos rfl, w64 _ (by omega) (by omega), h2]⟩
theorem sameSt_f (L : List (List S44)) (p q r : Int) (hL : L.length < 1000000000) (hl : ∀ l ∈ L, l.length < 100000000) : ∃ k, atriumlaw11_SameState.f k L p q r L p q r = some true := by
  obtain ⟨k, hk⟩ := sameSt_l L p q r hL hl L [] rfl
  refine ⟨k + 1, ?_⟩
  rw [atriumlaw11_SameState.f, if_pos rfl, if_pos rfl, if_pos rfl, atriumlaw11_SameState.j0, if_neg (by simp)]
  exact hk
theorem sameState_any (L : List (List S44)) (p q r : Int) (hL : L.length < 1000000000) (hl : ∀ l ∈ L, l.length < 100000000) (A B : Option Addr) (c d : Nat) (w : World) (hA : Kd.C (Kd.slice 44 k44) w A L.length L) (hc : L.length ≤ c) (hB : Kd.C (Kd.slice 44 k44) w B L.length L) (hd : L.length ≤ d) :
    Calls Try.prog 16 #[.agg #[.slice A L.length c, .int .i64 p, .int .i64 q, .int .u64 r], .agg #[.slice B L.length d, .int .i64 p, .int .i64 q, .int .u64 r]] w fun e w' => e = .returned (.bool true) ∧ Below w.heap.size w w' := by
  obtain ⟨k, hk⟩ := sameSt_f L p q r hL hl
  exact atriumlaw11_SameState.calls k A c L p q r B d L p q r true w hA hc hB hd hk
theorem sameEd_l0 (p q r : Int) (l : List S71) (hl : l.length < 1000000000) : ∀ (R P : List S71), l = P ++ R → atriumlaw11_SameEdit.l0 (R.length + 2) (P.length : Int) p q r l [] p q r l [] = some true
  | [], P, h => by
    rw [atriumlaw11_SameEdit.l0, if_neg (by rw [h]; simp), List.length_nil, atriumlaw11_SameEdit.l1, if_neg (by simp)]
  | x :: R, P, h => by
    have hs : l.length = P.length + R.length + 1 := by rw [h]; simp; omega
    have ih := sameEd_l0 p q r l hl R (P ++ [x]) (by rw [h]; simp)
    rw [show ((P ++ [x]).length : Int) = (P.length : Int) + 1 by simp] at ih
    rw [List.length_cons, show R.length + 1 + 2 = R.length + 2 + 1 by omega, atriumlaw11_SameEdit.l0, if_pos (by omega), if_pos (by omega), if_pos (by omega), if_neg (by simp), w64 _ (by omega) (by omega), ih]
theorem sameEd_f (p q r : Int) (l : List S71) (hl : l.length < 1000000000) : atriumlaw11_SameEdit.f (l.length + 3) p q r l [] p q r l [] = some true := by
  rw [atriumlaw11_SameEdit.f, if_pos rfl, if_pos rfl, if_pos rfl, if_pos rfl, atriumlaw11_SameEdit.j0, if_neg (by simp)]
  exact sameEd_l0 p q r l hl l [] rfl
theorem sameEdit_any (p q r : Int) (l : List S71) (hl : l.length < 1000000000) (A B A4 B4 : Option Addr) (c d c4 d4 : Nat) (w : World) (hA : Kd.C k71 w A l.length l) (hc : l.length ≤ c) (hB : Kd.C k71 w B l.length l) (hd : l.length ≤ d) :
    Calls Try.prog 12 #[.agg #[.int .i64 p, .int .i64 q, .int .u64 r, .slice A l.length c, .slice A4 0 c4], .agg #[.int .i64 p, .int .i64 q, .int .u64 r, .slice B l.length d, .slice B4 0 d4]] w fun e w' => e = .returned (.bool true) ∧ Below w.heap.size w w' :=
  atriumlaw11_SameEdit.calls _ p q r A c l A4 c4 [] p q r B d l B4 d4 [] true w hA hc (C_zero _ _ _) (Nat.zero_le _) hB hd (C_zero _ _ _) (Nat.zero_le _) (sameEd_f p q r l hl)
/-- The reference's Whole. -/
theorem rwh_l1 (p q r : Int) (L : List (List S44)) (hL : L.length < 1000000000) (hfl : L.flatten.length < 1000000000) (P R0 : List (List S44)) (l : List S44) (hLs : L = P ++ l :: R0) (k : Nat) (out : Int × Int × Int × List S71 × List S73) (hk : atriumref11_Whole.l0 k ((P.length : Int) + 1) L p q r p q r (whF 0 (P ++ [l])) = some out) : ∀ (R M : List S44), l = M ++ R → atriumref11_Whole.l1 (R.length + 1 + k) (P.length : Int) (M.length : Int) L p q r p q r (whF 0 P ++ M.map (fun t => (⟨(P.length : Int), t⟩ : S71))) = some out
  | [], M, h => by
    have hs : L.length = P.length + R0.length + 1 := by rw [hLs]; simp; omega
    have e1 : rd_L3 L (P.length : Int) = l := by rw [hLs]; exact rdL_mid _ _ _ _ rfl
    rw [List.length_nil, show 0 + 1 + k = k + 1 by omega, atriumref11_Whole.l1, if_pos (by omega), if_pos (by omega), e1, if_neg (by rw [h]; simp), w64 _ (by omega) (by omega)]
    rw [whF_app, Nat.zero_add, h, List.append_nil] at hk
    exact hk
  | x :: R, M, h => by
    have hs : L.length = P.length + R0.length + 1 := by rw [hLs]; simp; omega
    have hs2 : l.length = M.length + R.length + 1 := by rw [h]; simp; omega
    have hs3 : L.flatten.length = P.flatten.length + (l.length + R0.flatten.length) := by rw [hLs, List.flatten_append, List.flatten_cons, List.length_append, List.length_append]
    have e1 : rd_L3 L (P.length : Int) = l := by rw [hLs]; exact rdL_mid _ _ _ _ rfl
    have e2 : rd_T44 l (M.length : Int) = x := by rw [h]; exact rd_mid _ _ _ _ rfl
    have ih := rwh_l1 p q r L hL hfl P R0 l hLs k out hk R (M ++ [x]) (by rw [h]; simp)
    rw [show ((M ++ [x]).length : Int) = (M.length : Int) + 1 by simp, List.map_append, ← List.append_assoc] at ih
    have hlen : (whF 0 P ++ M.map (fun t => (⟨(P.length : Int), t⟩ : S71))).length < 2199023255552 := by
      rw [List.length_append, List.length_map, whF_len]
      omega
    rw [List.length_cons, show R.length + 1 + 1 + k = R.length + 1 + k + 1 by omega, atriumref11_Whole.l1, if_pos (by omega), if_pos (by omega), e1, if_pos (by omega), if_pos (by omega), if_pos hlen, w64 _ (by omega) (by omega), e2]
    exact ih
theorem rwh_l0 (p q r : Int) (L : List (List S44)) (hL : L.length < 1000000000) (hfl : L.flatten.length < 1000000000) : ∀ (R P : List (List S44)), L = P ++ R → ∃ k, atriumref11_Whole.l0 k (P.length : Int) L p q r p q r (whF 0 P) = some (p, q, r, whF 0 L, [])
  | [], P, h => ⟨1, by
    rw [atriumref11_Whole.l0, if_neg (by rw [h]; simp), h, List.append_nil]⟩
  | l :: R, P, h => by
    have hs : L.length = P.length + R.length + 1 := by rw [h]; simp; omega
    obtain ⟨k, ih⟩ := rwh_l0 p q r L hL hfl R (P ++ [l]) (by rw [h]; simp)
    rw [show ((P ++ [l]).length : Int) = (P.length : Int) + 1 by simp] at ih
    have h1 := rwh_l1 p q r L hL hfl P R l h k _ ih l [] rfl
    rw [List.map_nil, List.append_nil] at h1
    exact ⟨l.length + 1 + k + 1, by rw [atriumref11_Whole.l0, if_pos (by omega)]; exact h1⟩
theorem rwhole_any (L : List (List S44)) (log next seq : Int) (hL : L.length < 1000000000) (hfl : L.flatten.length < 1000000000) (A : Option Addr) (c : Nat) (w : World) (hr : Kd.C (Kd.slice 44 k44) w A L.length L) (hc : L.length ≤ c) :
    Calls Try.prog 13 #[.agg #[.slice A L.length c, .int .i64 log, .int .i64 next, .int .u64 seq]] w (WholeP L log next seq w) := by
  obtain ⟨k, hk⟩ := rwh_l0 log next seq L hL hfl L [] rfl
  refine (atriumref11_Whole.calls k A c L log next seq _ _ _ _ _ w hr hc hk).mono ?_
  rintro e w' ⟨v3, v4, he, hR3, hR4, hb⟩
  obtain ⟨A3, c3, rfl, h3, hC3⟩ := Kd.R_reads hR3
  obtain ⟨A4, c4, rfl, _, _⟩ := Kd.R_reads hR4
  exact ⟨A3, c3, A4, c4, he, h3, hC3, hb⟩
end Go.Proofs.Ytbhfcjgejnnpcaa
