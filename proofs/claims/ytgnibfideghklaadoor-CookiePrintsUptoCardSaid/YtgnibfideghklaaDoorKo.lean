/-
  Chapter 19: the law CookieFinds, walked.
-/
import Derived.Test.YtgnibfideghklaaDoorKn
set_option linter.unusedVariables false
set_option linter.unusedSimpArgs false
namespace Go.Proofs.YtgnibfideghklaaDoor
open Go.RowKit Go.Proofs.YtgnibfideghklaaDoorW.PrintWords Go.Proofs.YtgnibfideghklaaDoor.PCookieReads
theorem texts_of (xs : List ByteArray) : (xs.map (·.data.toList)).map B = xs := by
  rw [List.map_map]
  conv => rhs; rw [← List.map_id xs]
  exact List.map_congr_left fun x _ => of_data x
theorem sum_le {α : Type} (m : α → Nat) : ∀ (l : List α) (x : α), x ∈ l → m x ≤ (l.map m).sum
  | [], x, h => by simp at h
  | y :: l, x, h => by
    simp only [List.map_cons, List.sum_cons]
    rcases List.mem_cons.1 h with rfl | h
    · omega
    · have := sum_le m l x h
      omega
set_option maxHeartbeats 1000000 in
set_option maxRecDepth 100000 in
theorem finds_walk (W : World) (hm : MaxL W) (ht : Tab W) (A : Option Addr) (c : Nat) (xs : List ByteArray) (hC : Kd.C Kd.string W A xs.length xs) (hc : xs.length ≤ c) (hn : xs.length ≤ 1048576) (hs : (xs.map ByteArray.size).sum ≤ 1048576) (name : ByteArray) (hnm : name.size ≤ 1048576) :
    Calls Tryd.prog 3 #[.slice A xs.length c, .string name] W fun e w' => e = .returned (.bool true) ∧ Below W.heap.size W w' := by
  obtain ⟨nl, rfl⟩ : ∃ l, name = B l := ⟨_, (of_data name).symm⟩
  have hsz : ∀ x ∈ xs, x.size ≤ 1048576 := fun x hx => by have := sum_le ByteArray.size xs x hx; omega
  obtain ⟨V, hV⟩ : ∃ V, xs.map (·.data.toList) = V := ⟨_, rfl⟩
  have hVB : V.map B = xs := by rw [← hV]; exact texts_of xs
  have hVl : V.length = xs.length := by rw [← hV, List.length_map]
  have hVs : ∀ v ∈ V, v.length ≤ 1048576 := fun v hv => by
    rw [← hV] at hv
    obtain ⟨x, hx, rfl⟩ := List.mem_map.1 hv
    have := hsz x hx
    rw [len_data']
    exact this
  have hP : Calls Tryd.prog 8 #[.slice A xs.length c, .string (B nl)] W fun e w' => e = .returned (.tuple #[.string (resF (findC nl V)).1, .bool (resF (findC nl V)).2]) ∧ Below W.heap.size W w' := by
    have := find_any V A c nl W (by rw [hVB, hVl]; exact hC) (by omega) (fun v hv => by have := hVs v hv; omega) hm
    rw [hVl] at this
    exact this
  have hR : ∀ w, Below W.heap.size W w → Calls Tryd.prog 9 #[.slice A xs.length c, .string (B nl)] w fun e w' => e = .returned (.tuple #[.string (resF (findC nl V)).1, .bool (resF (findC nl V)).2]) ∧ Below w.heap.size w w' := fun w hb => by
    have hf := find_f (V := V) (by omega) nl (2 * 1048576 + 40) (fun v hv => by have := hVs v hv; omega)
    rw [hVB] at hf
    exact atriumref19_Find.calls _ A c xs (B nl) _ _ w (Kd.C_below hC hb) hc hf
  have hL : ∀ w, Below W.heap.size W w → Calls Tryd.prog 10 #[] w fun e w' => e = .returned (.bool true) ∧ Below w.heap.size w w' := fun w hb => lives_any w (hm.below hb) (ht.below hb)
  replace hP := Lib.hid hP
  replace hR := Lib.hid hR
  replace hL := Lib.hid hL
  clear hVB hVl hVs hV hsz hC hm ht
  generalize (resF (findC nl V)).1 = s at *
  generalize (resF (findC nl V)).2 = b at *
  clear hs hn hnm hc
  cases b
  all_goals
    go_enter Tryd.func3, Tryd.ntmps3
    go_wp2_with (first  | (go_at_call 8; go_must (refine hP.out.mono ?_; rintro e w1 ⟨rfl, hb1⟩; replace hb := Lib.hid hb1; clear hb1))  | (go_at_call 9; go_must (refine (hR.out _ hb.out).mono ?_; rintro e w1 ⟨rfl, hb1⟩; replace hb := Lib.hid (hb.out.trans (hb1.mono hb.out.size)); clear hb1))  | (go_at_call 10; go_must (refine (hL.out _ hb.out).mono ?_; rintro e w1 ⟨rfl, hb1⟩; replace hb := Lib.hid (hb.out.trans (hb1.mono hb.out.size)); clear hb1)))
    go_ret
    exact ⟨rfl, hb.out⟩
end Go.Proofs.YtgnibfideghklaaDoor
