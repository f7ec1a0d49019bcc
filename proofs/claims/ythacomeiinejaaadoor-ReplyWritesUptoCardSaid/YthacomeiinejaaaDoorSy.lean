/-
  Chapter 18: the chapter's example, walked.
-/
import Derived.Test.YthacomeiinejaaaDoorSi
import Derived.Test.YthacomeiinejaaaDoorSw
import Derived.Test.YthacomeiinejaaaDoorWEqStruct
set_option linter.unusedVariables false
set_option linter.unusedSimpArgs false
namespace Go.Proofs.YthacomeiinejaaaDoor
open Go.RowKit Go.Proofs.YthacomeiinejaaaDoorW.PrintWords Go.Proofs.YthacomeiinejaaaDoor.PReplyWrites
def body4 : List UInt8 := [123, 34, 101, 114, 114, 111, 114, 34, 58, 34, 110, 111, 110, 101, 34, 125]
def lit4 : List UInt8 := [72, 84, 84, 80, 47, 49, 46, 49, 32, 52, 48, 52, 32, 78, 111, 116, 32, 70, 111, 117, 110, 100, 13, 10, 67, 111, 110, 116, 101, 110, 116, 45, 84, 121, 112, 101, 58, 32, 97, 112, 112, 108, 105, 99, 97, 116, 105, 111, 110, 47, 106, 115, 111, 110, 13, 10, 67, 111, 110, 116, 101, 110, 116, 45, 76, 101, 110, 103, 116, 104, 58, 32, 49, 54, 13, 10, 13, 10, 123, 34, 101, 114, 114, 111, 114, 34, 58, 34, 110, 111, 110, 101, 34, 125]
theorem write4 : writeL 404 body4 [] false = lit4 := by kernel_rfl
theorem chk4 : chkB 404 body4 [] = true := by kernel_rfl
theorem ok4 : OkR 404 body4 [] := ⟨by simp [stats, wordsB], by intro h; exact absurd h (by decide), by decide, by simp, by simp⟩
theorem eqRep (d : Nat) (w : World) (x0 y0 : Int) (x1 y1 x2 y2 : ByteArray) (x3 y3 : Bool) :
    (Op.equalIn (d + 2) 23 (.agg #[.int .i64 x0, .string x1, .string x2, .bool x3]) (.agg #[.int .i64 y0, .string y1, .string y2, .bool y3])).run Tryd.prog w = .ok (x0 == y0 && (x1.toList == y1.toList && (x2.toList == y2.toList && (x3 == y3)))) w := by
  refine eqA_of Tryd.underlying23 (by kernel_rfl) ?_
  refine eqf_cons (by rfl) (by go_simp; rfl) (by go_simp; rfl) (by go_simp) ?_
  refine eqf_cons (by rfl) (by go_simp; rfl) (by go_simp; rfl) (by go_simp) ?_
  refine eqf_cons (by rfl) (by go_simp; rfl) (by go_simp; rfl) (by go_simp) ?_
  exact eqf_last (by rfl) (by go_simp; rfl) (by go_simp; rfl) (by go_simp)
theorem rep_eql (w : World) (x0 y0 : Int) (x1 y1 x2 y2 : ByteArray) (x3 y3 : Bool) :
    (binOp .eql 23 (.agg #[.int .i64 x0, .string x1, .string x2, .bool x3]) (.agg #[.int .i64 y0, .string y1, .string y2, .bool y3])).run Tryd.prog w = .ok (.bool (x0 == y0 && (x1.toList == y1.toList && (x2.toList == y2.toList && (x3 == y3))))) w := by
  rw [run_eql_struct, eqRep 9998]
  rfl
theorem rep_neq (w : World) (x0 y0 : Int) (x1 y1 x2 y2 : ByteArray) (x3 y3 : Bool) :
    (binOp .neq 23 (.agg #[.int .i64 x0, .string x1, .string x2, .bool x3]) (.agg #[.int .i64 y0, .string y1, .string y2, .bool y3])).run Tryd.prog w = .ok (.bool (!(x0 == y0 && (x1.toList == y1.toList && (x2.toList == y2.toList && (x3 == y3)))))) w := by
  rw [run_neq_struct, eqRep 9998]
  rfl
/-- A reply in a block of one's own. -/
structure Rep (w0 : World) (p : Nat) (a b c d : Value) (W : World) : Prop where
  blk : W.heap[p]? = some (.cells #[a, b, c, d] 23 (0, 0))
  bel : Below w0.heap.size w0 W
theorem Rep.next {w0 W W2 : World} {p : Nat} {a b c d : Value} (h : Rep w0 p a b c d W) (hb : Below W.heap.size W W2) : W2.cell? ⟨p, 0, none⟩ = some a ∧ W2.cell? ⟨p, 1, none⟩ = some b ∧ W2.cell? ⟨p, 2, none⟩ = some c ∧ W2.cell? ⟨p, 3, none⟩ = some d ∧ Rep w0 p a b c d W2 := by
  have h1 : W2.heap[p]? = some (.cells #[a, b, c, d] 23 (0, 0)) := (hb.block _ (Array.getElem?_eq_some_iff.1 h.blk).1).trans h.blk
  exact ⟨(blk_cell h1 0).trans rfl, (blk_cell h1 1).trans rfl, (blk_cell h1 2).trans rfl, (blk_cell h1 3).trans rfl, h1, h.bel.trans (hb.mono h.bel.size)⟩
theorem Rep.drew {w0 W : World} {p : Nat} {a b c d : Value} (h : Rep w0 p a b c d W) : W.drew.cell? ⟨p, 0, none⟩ = some a ∧ W.drew.cell? ⟨p, 1, none⟩ = some b ∧ W.drew.cell? ⟨p, 2, none⟩ = some c ∧ W.drew.cell? ⟨p, 3, none⟩ = some d ∧ Rep w0 p a b c d W.drew :=
  ⟨(blk_cell h.blk 0).trans rfl, (blk_cell h.blk 1).trans rfl, (blk_cell h.blk 2).trans rfl, (blk_cell h.blk 3).trans rfl, h.blk, h.bel.drew⟩
set_option maxHeartbeats 4000000 in
set_option maxRecDepth 100000 in
theorem awake_any (w : World) (htab : Tab w) : Calls Tryd.prog 9 #[] w fun e w' => e = .returned (.bool true) ∧ Below w.heap.size w w' := by
  have hW := Lib.hid (write_any 404 (by decide) body4 [] false w htab)
  rw [chk4, write4, if_pos rfl, if_pos rfl] at hW
  have hp := parse_full false ok4 [72, 84, 84, 80]
  rw [write4] at hp
  have hP := fun V h => parse_any (lit4 ++ [72, 84, 84, 80]) (by simp [lit4]) V h
  simp only [hp, toldV_ok, write4] at hP
  replace hP := Lib.hid hP
  have hEr := Lib.hid (fun V => err_any 404 ⟨#[110, 111, 110, 101]⟩ (by decide) V)
  have hE2 : errB ⟨#[110, 111, 110, 101]⟩ = B body4 := by
    have : (⟨#[110, 111, 110, 101]⟩ : ByteArray) = B [110, 111, 110, 101] := rfl
    rw [this]
    show B [123, 34, 101, 114, 114, 111, 114, 34, 58, 34] ++ B _ ++ B [34, 125] = _
    rw [B_app, B_app]
    rfl
  unfold errV at hEr
  rw [hE2] at hEr
  have hl : (lit4.length : Int) = 94 := rfl
  have hb4 : B body4 = ⟨#[123, 34, 101, 114, 114, 111, 114, 34, 58, 34, 110, 111, 110, 101, 34, 125]⟩ := rfl
  have r1 : B lit4 ++ (⟨#[72, 84, 84, 80]⟩ : ByteArray) = B (lit4 ++ [72, 84, 84, 80]) := B_app lit4 [72, 84, 84, 80]
  have r2 : (⟨([72, 84, 84, 80, 47, 49, 46, 49, 32, 52, 48, 52, 32, 78, 111, 116, 32, 70, 111, 117, 110, 100, 13, 10, 67, 111, 110, 116, 101, 110, 116, 45, 84, 121, 112, 101, 58, 32, 97, 112, 112, 108, 105, 99, 97, 116, 105, 111, 110, 47, 106, 115, 111, 110, 13, 10, 67, 111, 110, 116, 101, 110, 116, 45, 76, 101, 110, 103, 116, 104, 58, 32, 49, 54, 13, 10, 13, 10, 123, 34, 101, 114, 114, 111, 114, 34, 58, 34, 110, 111, 110, 101, 34, 125]).toArray⟩ : ByteArray) = B lit4 := rfl
  have rs := B_size
  have rt := B_toList
  clear hp hE2
  have heq := fun V => rep_eql V 404 404 (B body4) (B body4) (B []) ⟨#[]⟩ false false
  have e0 : ((404 : Int) == 404 && ((B body4).toList == (B body4).toList && ((B []).toList == (⟨#[]⟩ : ByteArray).toList && (false == false)))) = true := by simp [B]
  simp only [e0] at heq
  clear e0
  unfold repV at hW
  rw [hb4] at hW
  replace hb4 := Lib.hid hb4
  go_enter Tryd.func9, Tryd.ntmps9
  go_upto_region 3 with (first  | (go_at_call 12; go_must (refine hW.out.mono ?_; rintro e w1 ⟨rfl, hb1⟩; replace hb1 := Lib.hid hb1))  | (go_at_call 14; go_must (refine (hP.out _ (htab.below hb1.out)).mono ?_; rintro e w2 ⟨rfl, hb2⟩; replace hb2 := Lib.hid (hb1.out.trans (hb2.mono hb1.out.size)))))
  have hR0 := (Rep.drew (w0 := w) (W := w2.alloc (.cells #[.int .i64 404, .string (B body4), .string (B []), .bool false] 23)) ⟨heap_alloc_new w2 _, hb2.out.alloc hb2.out.size _⟩)
  clear hW hP hb1 hb2
  go_region_held3 (fun V => V.cell? ⟨w2.heap.size, 0, none⟩ = some (.int .i64 404) ∧ V.cell? ⟨w2.heap.size, 1, none⟩ = some (.string (B body4)) ∧ V.cell? ⟨w2.heap.size, 2, none⟩ = some (.string (B [])) ∧ V.cell? ⟨w2.heap.size, 3, none⟩ = some (.bool false) ∧ Rep w w2.heap.size (.int .i64 404) (.string (B body4)) (.string (B [])) (.bool false) V) (first | exact hR0 | assumption | exact Rep.next (And.right (And.right (And.right (And.right (by assumption))))) (by assumption)) (first | (go_at_call 16; refine (hEr.out _).mono ?_; rintro e4 w4 ⟨rfl, hb4⟩))
  all_goals (try go_wp2)
  all_goals go_ret
  all_goals exact ⟨rfl, (And.right (And.right (And.right (And.right (by assumption : _ ∧ _ ∧ _ ∧ _ ∧ Rep w w2.heap.size (.int .i64 404) (.string (B body4)) (.string (B [])) (.bool false) _))))).bel⟩
end Go.Proofs.YthacomeiinejaaaDoor
