/-
  Chapter 28: awake, walked.
-/
import Derived.Test.YtigcgpbdifihoaaDoorNk
set_option linter.unusedVariables false
set_option linter.unusedSimpArgs false
namespace Go.Proofs.YtigcgpbdifihoaaDoor
open Go.RowKit Go.Proofs.YtigcgpbdifihoaaDoorW.PrintWords Go.Proofs.YtigcgpbdifihoaaDoor.PScriptRequests
theorem SR.nil_ {α : Type} (R : α → List Value → Prop) (sz C : Nat) (w : World) : SR R sz C w (.slice none 0 0) [] :=
  ⟨none, 0, rfl, Nat.le_refl _, fun W _ => ⟨rfl, Nat.zero_le _, fun h => absurd h (Nat.lt_irrefl _)⟩⟩
theorem SR.one_ {α : Type} {R : α → List Value → Prop} {sz C k : Nat} {w : World} {cs : Array Value} {T : TypeId} {fz : Nat × Nat} {x : α} (hk : w.heap[k]? = some (.cells cs T fz)) (hC : k < C) (hs : cs.toList.length = sz) (hR : R x cs.toList) : SR R sz C w (.slice (some ⟨k, 0, none⟩) 1 1) [x] := by
  refine ⟨some ⟨k, 0, none⟩, 1, rfl, Nat.le_refl _, fun W hW => ⟨rfl, by show 1 ≤ _; omega, fun _ => ⟨⟨k, 0, none⟩, rfl, fun j p hj => ?_⟩⟩⟩
  match j, hj with
  | 0, hj =>
    simp at hj
    subst hj
    refine ⟨cs.toList, hs, hR, fun i u hu => ?_⟩
    rw [Nat.zero_mul, Nat.zero_add, Lib.add_plain, Nat.zero_add, Lib.cell_of_heap ((hW.block k hC).trans hk)]
    simpa using hu
  | j + 1, hj => simp at hj
def ten0 : Ten := ⟨[97, 99, 109, 101], [107], 2⟩
def cfg0 : Cfg := ⟨[ten0], 0, 0, 0, 0, 0, 0, 0, 0⟩
def tm0 : Tm := ⟨[], [], [], [], [], 9, -1, 0, []⟩
def awkL : List UInt8 := [116, 101, 110, 97, 110, 116, 32, 34, 97, 99, 109, 101, 34, 32, 34, 107, 34, 32, 50, 10, 101, 110, 103, 105, 110, 101, 32, 48, 32, 48, 32, 48, 32, 48, 32, 48, 32, 48, 32, 48, 10, 100, 105, 115, 107, 32, 48, 10, 116, 101, 114, 109, 32, 57, 32, 45, 49, 10]
theorem dig1 (u : Nat) (h : u < 10) : Lib.decDigits u = [UInt8.ofNat (48 + u)] := by rw [Lib.decDigits, dif_pos h]
theorem itoa0 : Lib.itoa 0 = [48] := by rw [Lib.itoa, if_neg (by decide)]; exact dig1 0 (by decide)
theorem itoa2 : Lib.itoa 2 = [50] := by rw [Lib.itoa, if_neg (by decide)]; exact dig1 2 (by decide)
theorem itoa9 : Lib.itoa 9 = [57] := by rw [Lib.itoa, if_neg (by decide)]; exact dig1 9 (by decide)
theorem itoam : Lib.itoa (-1) = [45, 49] := by rw [Lib.itoa, if_pos (by decide)]; exact congrArg (45 :: ·) (dig1 1 (by decide))
theorem awk_lines : allLs cfg0 [tm0] = [tenW ten0, engW cfg0, dskW cfg0, trmW tm0] := rfl
theorem awk_txt : txtL (allLs cfg0 [tm0]) = awkL := by
  have h : txtL (allLs cfg0 [tm0]) = lineL (tenW ten0) ++ (lineL (engW cfg0) ++ (lineL (dskW cfg0) ++ (lineL (trmW tm0) ++ []))) := rfl
  rw [h]
  simp only [lineL, wordsL, tailW, tenW, engW, dskW, trmW, Wd.txt, List.flatMap_cons, List.flatMap_nil, ten0, cfg0, tm0, itoa0, itoa2, itoa9, itoam]
  rfl
theorem awk_bad : badL (allLs cfg0 [tm0]) = false := by
  rw [awk_lines]
  simp only [badL, tenW, engW, dskW, trmW, List.any_cons, List.any_nil, Wd.bad, ten0, cfg0, tm0, shortB, itoa0, itoa2, itoa9, itoam]
  rfl
theorem awk_print : printR cfg0 [tm0] = (awkL, 0) := by
  rw [printR, if_neg (by decide), if_neg (by rw [awk_bad]; decide), awk_txt, if_neg (by decide)]
theorem i64_small (n : Int) (h0 : -100 ≤ n) (h1 : n ≤ 100) : i64 n := ⟨by omega, by omega⟩
theorem cfg0_ok : cfg0.ok := ⟨fun x hx => by
  rw [List.mem_singleton.1 hx]
  exact ⟨by decide, by decide, i64_small 2 (by decide) (by decide)⟩, i64_small 0 (by decide) (by decide), i64_small 0 (by decide) (by decide), i64_small 0 (by decide) (by decide), i64_small 0 (by decide) (by decide), i64_small 0 (by decide) (by decide), i64_small 0 (by decide) (by decide), i64_small 0 (by decide) (by decide), i64_small 0 (by decide) (by decide), by decide⟩
theorem tm0_ok : tm0.ok := ⟨(fun x hx => by cases hx), (fun x hx => by cases hx), (fun x hx => by cases hx), (fun x hx => by cases hx), (fun x hx => by cases hx), i64_small 9 (by decide) (by decide), i64_small (-1) (by decide) (by decide), i64_small 0 (by decide) (by decide), (fun x hx => by cases hx), by decide, by decide, by decide, by decide, by decide, by decide⟩
theorem TSl.one_ {C k : Nat} {w : World} {T : TypeId} {fz : Nat × Nat} (hk : w.heap[k]? = some (.cells #[.slice none 0 0, .slice none 0 0, .slice none 0 0, .slice none 0 0, .slice none 0 0, .int .i64 9, .int .i64 (-1), .int .i64 0, .slice none 0 0] T fz)) (hC : k < C) : TSl C w (.slice (some ⟨k, 0, none⟩) 1 1) [tm0] := by
  refine ⟨some ⟨k, 0, none⟩, 1, rfl, Nat.le_refl _, fun _ => ⟨⟨k, 0, none⟩, rfl, fun j p hj => ?_⟩⟩
  match j, hj with
  | 0, hj =>
    simp at hj
    subst hj
    refine ⟨_, ⟨_, _, _, _, _, _, rfl, SR.nil_ _ _ _ _, SR.nil_ _ _ _ _, SR.nil_ _ _ _ _, SR.nil_ _ _ _ _, SR.nil_ _ _ _ _, SR.nil_ _ _ _ _⟩, fun W hW i u hu => ?_⟩
    rw [Nat.zero_mul, Nat.zero_add, Lib.add_plain, Nat.zero_add, Lib.cell_of_heap ((hW.block k hC).trans hk)]
    simpa [tm0] using hu
  | j + 1, hj => simp at hj
set_option maxHeartbeats 1000000 in
set_option maxRecDepth 100000 in
theorem awake_any (w : World) (ht : Tab w) : Calls Tryd.prog 8 #[] w fun e w' => e = .returned (.bool true) ∧ Below w.heap.size w w' := by
  have s1 : ((B awkL).toList == (⟨#[116, 101, 110, 97, 110, 116, 32, 34, 97, 99, 109, 101, 34, 32, 34, 107, 34, 32, 50, 10, 101, 110, 103, 105, 110, 101, 32, 48, 32, 48, 32, 48, 32, 48, 32, 48, 32, 48, 32, 48, 10, 100, 105, 115, 107, 32, 48, 10, 116, 101, 114, 109, 32, 57, 32, 45, 49, 10]⟩ : ByteArray).toList) = true := by
    rw [B_toList]
    exact beq_iff_eq.2 (B_toList awkL).symm
  have s2 : ((B (quoteL [0])).toList == (⟨#[34, 92, 120, 48, 48, 34]⟩ : ByteArray).toList) = true := by
    rw [B_toList]
    exact beq_iff_eq.2 (B_toList (quoteL [0])).symm
  have s3 : ((B (quoteL [0])).toList == [34, 92, 120, 48, 48, 34]) = true := by
    rw [B_toList]
    rfl
  have s4 : ((B awkL).toList == [116, 101, 110, 97, 110, 116, 32, 34, 97, 99, 109, 101, 34, 32, 34, 107, 34, 32, 50, 10, 101, 110, 103, 105, 110, 101, 32, 48, 32, 48, 32, 48, 32, 48, 32, 48, 32, 48, 32, 48, 10, 100, 105, 115, 107, 32, 48, 10, 116, 101, 114, 109, 32, 57, 32, 45, 49, 10]) = true := by
    rw [B_toList]
    rfl
  have hQ := Lib.hid (fun W => quote_any [0] (by decide) W)
  have hP := Lib.hid (fun (W : World) (hW : Below w.heap.size w W) v0 v h0 hr => print_any cfg0 cfg0_ok [tm0] (fun t h => by rw [List.mem_singleton.1 h]; exact tm0_ok) (by decide) (by rw [awk_txt]; decide) (w := W) (Nat.le_refl _) (ht.below hW).tb (v0 := v0) (v := v) h0 hr)
  rw [awk_print] at hP
  generalize awkL = X at *
  generalize quoteL [0] = Y at *
  have hAll : ∃ W, W = (((w.alloc (.cells #[.string ⟨#[97, 99, 109, 101]⟩, .string ⟨#[107]⟩, .int .i64 2] 46)).alloc (.cells #[.slice (some ⟨w.heap.size, 0, none⟩) 1 1, .int .i64 0, .int .i64 0, .int .i64 0, .int .i64 0, .int .i64 0, .int .i64 0, .int .i64 0, .int .i64 0] 29)).alloc (.cells #[.slice none 0 0, .slice none 0 0, .slice none 0 0, .slice none 0 0, .slice none 0 0, .int .i64 9, .int .i64 (-1), .int .i64 0, .slice none 0 0] 56)) := ⟨_, rfl⟩
  obtain ⟨W, hW⟩ := hAll
  have hb : Below w.heap.size w W := by
    rw [hW]
    have b1 := below_alloc (Below.refl w.heap.size w) (.cells #[.string ⟨#[97, 99, 109, 101]⟩, .string ⟨#[107]⟩, .int .i64 2] 46)
    exact (b1.alloc b1.size _).alloc (b1.alloc b1.size _).size _
  have hk1 : W.heap[w.heap.size]? = some (.cells #[.string ⟨#[97, 99, 109, 101]⟩, .string ⟨#[107]⟩, .int .i64 2] 46 (0, 0)) := by
    rw [hW, Lib.alloc_old _ _ _ (by simp; omega), Lib.alloc_old _ _ _ (by simp), heap_alloc_new]
  have hk2 : W.heap[w.heap.size + 1 + 1]? = some (.cells #[.slice none 0 0, .slice none 0 0, .slice none 0 0, .slice none 0 0, .slice none 0 0, .int .i64 9, .int .i64 (-1), .int .i64 0, .slice none 0 0] 56 (0, 0)) := by
    rw [hW]
    have e : w.heap.size + 1 + 1 = ((w.alloc (.cells #[.string ⟨#[97, 99, 109, 101]⟩, .string ⟨#[107]⟩, .int .i64 2] 46)).alloc (.cells #[.slice (some ⟨w.heap.size, 0, none⟩) 1 1, .int .i64 0, .int .i64 0, .int .i64 0, .int .i64 0, .int .i64 0, .int .i64 0, .int .i64 0, .int .i64 0] 29)).heap.size := by simp
    rw [e, heap_alloc_new]
  have hP2 := Lib.hid (hP.out W hb (.slice (some ⟨w.heap.size, 0, none⟩) 1 1) (.slice (some ⟨w.heap.size + 1 + 1, 0, none⟩) 1 1) (SR.one_ hk1 (Array.getElem?_eq_some_iff.1 hk1).1 rfl rfl) (TSl.one_ hk2 (Array.getElem?_eq_some_iff.1 hk2).1))
  replace hb := Lib.hid hb
  clear hP hk1 hk2
  subst hW
  go_enter Tryd.func8, Tryd.ntmps8
  go_wp2_with (first | (go_at_call 9; go_must (refine hP2.out.mono ?_; rintro e w2 ⟨rfl, hb2⟩)) | (go_at_call 12; go_must (refine (hQ.out _).mono ?_; rintro e w3 ⟨rfl, hb3⟩)))
  go_ret
  exact ⟨rfl, (hb.out.trans (hb2.mono hb.out.size)).trans (hb3.mono (hb.out.trans (hb2.mono hb.out.size)).size)⟩
end Go.Proofs.YtigcgpbdifihoaaDoor
