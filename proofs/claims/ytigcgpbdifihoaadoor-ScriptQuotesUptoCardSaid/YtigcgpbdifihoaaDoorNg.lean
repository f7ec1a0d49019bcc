/-
  Chapter 28: lines that were written; a list's line, walked.
-/
import Derived.Test.YtigcgpbdifihoaaDoorNf
set_option linter.unusedVariables false
set_option linter.unusedSimpArgs false
namespace Go.Proofs.YtigcgpbdifihoaaDoor
open Go.RowKit Go.Proofs.YtigcgpbdifihoaaDoorW.PrintWords Go.Proofs.YtigcgpbdifihoaaDoor.PScriptRequests
def txtL (Ls : List (List Wd)) : List UInt8 := Ls.flatMap lineL
def badL (Ls : List (List Wd)) : Bool := Ls.any fun ws => ws.any Wd.bad
theorem txt_app (a b : List (List Wd)) : txtL (a ++ b) = txtL a ++ txtL b := by simp [txtL]
theorem txt_one (a : List Wd) : txtL [a] = lineL a := by simp [txtL]
theorem bad_app (a b : List (List Wd)) : badL (a ++ b) = (badL a || badL b) := by simp [badL]
theorem bad_one (a : List Wd) : badL [a] = a.any Wd.bad := by simp [badL]
/-- A writer that wrote the lines Ls. -/
def WS (C b : Nat) (Ls : List (List Wd)) (w : World) : Prop := IB 63 [.bool (badL Ls)] C b (txtL Ls) w
theorem WS.below {C b : Nat} {Ls : List (List Wd)} {w w' : World} (h : WS C b Ls w) (hb : Below w.heap.size w w') : WS C b Ls w' := IB.below h hb
theorem line_ws (ws : List Wd) (hw : ∀ x ∈ ws, x.ok) {C D b k cap : Nat} {Ls : List (List Wd)} {w : World} (hlen : (txtL (Ls ++ [ws])).length ≤ 140737488355328)
    (h : WS C b Ls w) (hC : C ≤ w.heap.size) (htab : TB C w) (hn : ws.length < 1000000000)
    (hrow : w.ownsRow D 20 1 (.slice (some ⟨k, 0, none⟩) ws.length cap) ws.length (ws.map Wd.val)) :
    Calls Tryd.prog 20 #[.pointer (some ⟨b, 0, none⟩), .slice (some ⟨k, 0, none⟩) ws.length cap] w fun e w' => e = .returned (.tuple #[]) ∧ WS C b (Ls ++ [ws]) w' ∧ Fr C b w w' := by
  rw [txt_app, txt_one, List.length_append] at hlen
  refine (line_any ws hw hlen h hC htab hn hrow).mono ?_
  rintro e w' ⟨rfl, h1, h2⟩
  refine ⟨rfl, ?_, h2⟩
  unfold WS
  rw [bad_app, bad_one, txt_app, txt_one]
  exact h1
theorem info_any : ∃ i : TypeInfo, Tryd.prog.info? 20 = some i ∧ i.zero = some .nilIface ∧ i.size = 1 ∧ i.bytes = 16 := by
  have h : (Tryd.prog.info? 20).map (fun i => (i.zero, i.size, i.bytes)) = some (some .nilIface, 1, 16) := by kernel_rfl
  obtain ⟨i, hi, h⟩ := Option.map_eq_some_iff.1 h
  injection h with h1 h2
  injection h2 with h2 h3
  exact ⟨i, hi, h1, h2, h3⟩
/-- A row of words that a call builds. -/
theorem row_lit (w : World) (ws : List Wd) (hn : ws.length < 1000000000) : (w.alloc (.cells (ws.map Wd.val).toArray 20)).ownsRow w.heap.size 20 1 (.slice (some ⟨w.heap.size, 0, none⟩) ws.length ws.length) ws.length (ws.map Wd.val) := by
  refine ⟨by simp, Or.inr ⟨w.heap.size, ws.length, (ws.map Wd.val).toArray, rfl, Nat.le_refl _, heap_alloc_new w _, Nat.le_refl _, by unfold maxLen; omega, by simp, ?_⟩⟩
  rw [Nat.mul_one]
  have : (ws.map Wd.val).length = ws.length := by simp
  rw [← this, List.take_length]
theorem line_lit (ws : List Wd) (hw : ∀ x ∈ ws, x.ok) {C b : Nat} {Ls : List (List Wd)} {w : World} (hlen : (txtL (Ls ++ [ws])).length ≤ 140737488355328)
    (h : WS C b Ls w) (hC : C ≤ w.heap.size) (htab : TB C w) (hn : ws.length < 1000000000) :
    Calls Tryd.prog 20 #[.pointer (some ⟨b, 0, none⟩), .slice (some ⟨w.heap.size, 0, none⟩) ws.length ws.length] (w.alloc (.cells (ws.map Wd.val).toArray 20)) fun e w' => e = .returned (.tuple #[]) ∧ WS C b (Ls ++ [ws]) w' ∧ Fr C b w w' := by
  have hb := below_alloc (Below.refl w.heap.size w) (.cells (ws.map Wd.val).toArray 20)
  have hF : Fr C b w _ := Fr.of_below hC hb
  refine (line_ws ws hw hlen (h.below hb) (Nat.le_trans hC hb.size) (htab.next hF.1) hn (row_lit w ws hn)).mono ?_
  rintro e w' ⟨rfl, h1, h2⟩
  exact ⟨rfl, h1, hF.trans h2⟩
def RI (W : World) (v : Value) (xs : List Int) : Prop := ∃ A c, v = .slice A xs.length c ∧ ReadsRow (fun (x : Int) cs => cs = [(Value.int .i64 x)]) 1 W A xs.length xs
theorem RI.below {W W' : World} {v : Value} {xs : List Int} (h : RI W v xs) (hb : Below W.heap.size W W') : RI W' v xs := by
  obtain ⟨A, c, rfl, h⟩ := h
  exact ⟨A, c, rfl, ReadsRow.imp_ h hb (fun _ _ hp => hp)⟩
def listI (m : List UInt8) (xs : List Int) : List (List Wd) := if xs = [] then [] else [.str m :: xs.map .num]
set_option maxHeartbeats 1000000 in
set_option maxRecDepth 100000 in
theorem listI_any (m : List UInt8) (hm : m.length < 1000000000) (xs : List Int) (hx : ∀ x ∈ xs, (Wd.num x).ok) (hxl : xs.length < 100000000) {C b : Nat} {Ls : List (List Wd)} {w : World} (hlen : (txtL (Ls ++ listI m xs)).length ≤ 140737488355328)
    (h : WS C b Ls w) (hC : C ≤ w.heap.size) (htab : TB C w) (v : Value) (hr : RI w v xs) :
    Calls Tryd.prog 40 #[.pointer (some ⟨b, 0, none⟩), .string (B m), v] w fun e w' => e = .returned (.tuple #[]) ∧ WS C b (Ls ++ listI m xs) w' ∧ Fr C b w w' := by
  obtain ⟨A, c, rfl, hr⟩ := hr
  by_cases h0 : xs = []
  · subst h0
    have e : listI m [] = [] := rfl
    rw [e, List.append_nil]
    go_enter Tryd.func40, Tryd.ntmps40
    go_wp2
    (try simp only [Exit.inBlock, Exit.then])
    refine bodyPost_ret (results_none rfl _ _ _) rfl ?_
    exact ⟨rfl, h, Fr.refl _ _ _⟩
  · have e : listI m xs = [.str m :: xs.map .num] := if_neg h0
    rw [e] at hlen ⊢
    have hx0 : xs.length ≠ 0 := fun h => h0 (List.length_eq_zero_iff.1 h)
    obtain ⟨i0, hi, hz0, hz1, hz2⟩ := info_any
    obtain ⟨ad, rfl, hcell⟩ := hr.2.2 (by omega)
    have hcl : ∀ W, Below w.heap.size w W → ∀ P x R, xs = P ++ x :: R → W.cell? (ad.add P.length) = some ((Value.int .i64 x)) := fun W hb P x R hl => by
      obtain ⟨ad2, e2, hc2⟩ := (ReadsRow.imp_ hr hb (fun _ _ hp => hp)).2.2 (by omega)
      injection e2 with e2
      subst e2
      obtain ⟨cs, _, rfl, hcc⟩ := hc2 P.length x (by rw [hl]; simp)
      have := hcc 0 _ rfl
      rwa [Nat.mul_one, Nat.add_zero] at this
    have hL := fun D k cap W hW hTB hF hrow => line_ws (D := D) (k := k) (cap := cap) (w := W) (.str m :: xs.map .num) (fun x hx2 => by
      rcases List.mem_cons.1 hx2 with rfl | hx2
      · exact hm
      · obtain ⟨y, hy, rfl⟩ := List.mem_map.1 hx2
        exact hx y hy) hlen (hW : WS C b Ls W) (hF : C ≤ W.heap.size) hTB (by simp; omega) hrow
    have hwl : (Wd.str m :: xs.map Wd.num).length = 1 + xs.length := by simp; omega
    simp only [hwl] at hL
    clear hwl
    replace hL := Lib.hid hL
    replace hcl := Lib.hid hcl
    replace h := Lib.hid h
    replace htab := Lib.hid htab
    have hrow0 := Lib.hid (row_lit w [.str m] (by simp))
    have hb0 := Lib.hid (below_alloc (Below.refl w.heap.size w) (.cells ([Wd.str m].map Wd.val).toArray 20))
    clear hr hcell hx hlen e
    have hz : ((xs.length : Int) == 0) = false := beq_eq_false_iff_ne.2 (by omega)
    go_enter Tryd.func40, Tryd.ntmps40
    go_upto_region 3 with (fail)
    go_loopw [6, 17] (fun v i wr => ∃ P R, xs = P ++ R ∧ i = .int .i64 (P.length : Nat) ∧ Hid (wr.ownsRow w.heap.size 20 1 v (1 + P.length) ((.str m :: P.map .num).map Wd.val)) ∧ Hid (Below w.heap.size w wr)) (fun _ i _ => xs.length - (intOf i).toNat)
    case atStart => exact ⟨[], xs, rfl, rfl, hrow0, hb0⟩
    case round =>
      clear hrow0 hb0
      obtain ⟨P, R, hl2, rfl, hv, hb⟩ := hrel
      cases R with
      | nil =>
        rw [List.append_nil] at hl2
        subst hl2
        obtain ⟨g, cap, rfl⟩ : ∃ g cap, u6 = .slice (some ⟨g, 0, none⟩) (1 + xs.length) cap := by
          rcases hv.out.2 with ⟨_, h0⟩ | ⟨g, cap, cur, hv, _⟩
          · omega
          · exact ⟨g, cap, hv⟩
        have hF : Hid (Fr C b w wr) := Lib.hid (Fr.of_below hC hb.out)
        go_wp2_with (go_at_call 20; go_must (refine (hL.out w.heap.size g cap wr (h.out.below hb.out) (htab.out.next hF.out.1) (Nat.le_trans hC hb.out.size) hv.out).mono ?_; rintro e w2 ⟨rfl, h1, hf1⟩))
        go_end0
        exact ⟨rfl, h1, hF.out.trans hf1⟩
      | cons x R =>
        have hPn : P.length < xs.length := by rw [hl2]; simp
        have c1 := hcl.out wr hb.out P x R hl2
        have hsz : w.heap.size ≤ wr.heap.size := hb.out.size
        replace hl2 := Lib.hid hl2
        go_wp2_with (at_builtin; refine wpList_append_own _ rfl _ _ 90 rfl w.heap.size 20 i0 .nilIface 1 16 Tryd.underlying90 hi hz0 hz1 hz2 rfl (by decide) _ _ _ rfl (hv.out.alloc _) ⟨wr.heap.size, 0, none⟩ 1 1 [(Wd.num x).val] rfl rfl ?c1 ?c2 ?c3 ?c4 ?c5 ?_)
        case c1 =>
          intro j u hj
          match j, hj with
          | 0, hj => simp at hj; subst hj; simp [Addr.add, Wd.val]
        case c2 => intro u hu; simp at hu; subst hu; rfl
        case c3 => unfold maxLen; omega
        case c4 => omega
        case c5 => simp; omega
        intro v2 w2 hown2 hg2 _
        have hb2 : Hid (Below w.heap.size w w2) := Lib.hid ((hb.out.alloc hsz _).grown hg2 (by simp; omega) (fun k hk => (hv.out.lt k hk).1))
        have hv2 : Hid (w2.ownsRow w.heap.size 20 1 v2 (1 + (P ++ [x]).length) ((.str m :: (P ++ [x]).map .num).map Wd.val)) := Lib.hid (by simpa [Nat.add_assoc] using hown2)
        clear hown2 hg2
        go_wp2
        go_roundw
        case rel => exact ⟨P ++ [x], R, by rw [hl2.out]; simp, by simp, hv2, hb2⟩
        case measure => simp [intOf]; omega
def RU (W : World) (v : Value) (xs : List Nat) : Prop := ∃ A c, v = .slice A xs.length c ∧ ReadsRow (fun (x : Nat) cs => cs = [(Value.int .u64 ((x : Nat) : Int))]) 1 W A xs.length xs
theorem RU.below {W W' : World} {v : Value} {xs : List Nat} (h : RU W v xs) (hb : Below W.heap.size W W') : RU W' v xs := by
  obtain ⟨A, c, rfl, h⟩ := h
  exact ⟨A, c, rfl, ReadsRow.imp_ h hb (fun _ _ hp => hp)⟩
def listU (m : List UInt8) (xs : List Nat) : List (List Wd) := if xs = [] then [] else [.str m :: xs.map .great]
set_option maxHeartbeats 1000000 in
set_option maxRecDepth 100000 in
theorem listU_any (m : List UInt8) (hm : m.length < 1000000000) (xs : List Nat) (hx : ∀ x ∈ xs, (Wd.great x).ok) (hxl : xs.length < 100000000) {C b : Nat} {Ls : List (List Wd)} {w : World} (hlen : (txtL (Ls ++ listU m xs)).length ≤ 140737488355328)
    (h : WS C b Ls w) (hC : C ≤ w.heap.size) (htab : TB C w) (v : Value) (hr : RU w v xs) :
    Calls Tryd.prog 41 #[.pointer (some ⟨b, 0, none⟩), .string (B m), v] w fun e w' => e = .returned (.tuple #[]) ∧ WS C b (Ls ++ listU m xs) w' ∧ Fr C b w w' := by
  obtain ⟨A, c, rfl, hr⟩ := hr
  by_cases h0 : xs = []
  · subst h0
    have e : listU m [] = [] := rfl
    rw [e, List.append_nil]
    go_enter Tryd.func41, Tryd.ntmps41
    go_wp2
    (try simp only [Exit.inBlock, Exit.then])
    refine bodyPost_ret (results_none rfl _ _ _) rfl ?_
    exact ⟨rfl, h, Fr.refl _ _ _⟩
  · have e : listU m xs = [.str m :: xs.map .great] := if_neg h0
    rw [e] at hlen ⊢
    have hx0 : xs.length ≠ 0 := fun h => h0 (List.length_eq_zero_iff.1 h)
    obtain ⟨i0, hi, hz0, hz1, hz2⟩ := info_any
    obtain ⟨ad, rfl, hcell⟩ := hr.2.2 (by omega)
    have hcl : ∀ W, Below w.heap.size w W → ∀ P x R, xs = P ++ x :: R → W.cell? (ad.add P.length) = some ((Value.int .u64 ((x : Nat) : Int))) := fun W hb P x R hl => by
      obtain ⟨ad2, e2, hc2⟩ := (ReadsRow.imp_ hr hb (fun _ _ hp => hp)).2.2 (by omega)
      injection e2 with e2
      subst e2
      obtain ⟨cs, _, rfl, hcc⟩ := hc2 P.length x (by rw [hl]; simp)
      have := hcc 0 _ rfl
      rwa [Nat.mul_one, Nat.add_zero] at this
    have hL := fun D k cap W hW hTB hF hrow => line_ws (D := D) (k := k) (cap := cap) (w := W) (.str m :: xs.map .great) (fun x hx2 => by
      rcases List.mem_cons.1 hx2 with rfl | hx2
      · exact hm
      · obtain ⟨y, hy, rfl⟩ := List.mem_map.1 hx2
        exact hx y hy) hlen (hW : WS C b Ls W) (hF : C ≤ W.heap.size) hTB (by simp; omega) hrow
    have hwl : (Wd.str m :: xs.map Wd.great).length = 1 + xs.length := by simp; omega
    simp only [hwl] at hL
    clear hwl
    replace hL := Lib.hid hL
    replace hcl := Lib.hid hcl
    replace h := Lib.hid h
    replace htab := Lib.hid htab
    have hrow0 := Lib.hid (row_lit w [.str m] (by simp))
    have hb0 := Lib.hid (below_alloc (Below.refl w.heap.size w) (.cells ([Wd.str m].map Wd.val).toArray 20))
    clear hr hcell hx hlen e
    have hz : ((xs.length : Int) == 0) = false := beq_eq_false_iff_ne.2 (by omega)
    go_enter Tryd.func41, Tryd.ntmps41
    go_upto_region 3 with (fail)
    go_loopw [6, 17] (fun v i wr => ∃ P R, xs = P ++ R ∧ i = .int .i64 (P.length : Nat) ∧ Hid (wr.ownsRow w.heap.size 20 1 v (1 + P.length) ((.str m :: P.map .great).map Wd.val)) ∧ Hid (Below w.heap.size w wr)) (fun _ i _ => xs.length - (intOf i).toNat)
    case atStart => exact ⟨[], xs, rfl, rfl, hrow0, hb0⟩
    case round =>
      clear hrow0 hb0
      obtain ⟨P, R, hl2, rfl, hv, hb⟩ := hrel
      cases R with
      | nil =>
        rw [List.append_nil] at hl2
        subst hl2
        obtain ⟨g, cap, rfl⟩ : ∃ g cap, u6 = .slice (some ⟨g, 0, none⟩) (1 + xs.length) cap := by
          rcases hv.out.2 with ⟨_, h0⟩ | ⟨g, cap, cur, hv, _⟩
          · omega
          · exact ⟨g, cap, hv⟩
        have hF : Hid (Fr C b w wr) := Lib.hid (Fr.of_below hC hb.out)
        go_wp2_with (go_at_call 20; go_must (refine (hL.out w.heap.size g cap wr (h.out.below hb.out) (htab.out.next hF.out.1) (Nat.le_trans hC hb.out.size) hv.out).mono ?_; rintro e w2 ⟨rfl, h1, hf1⟩))
        go_end0
        exact ⟨rfl, h1, hF.out.trans hf1⟩
      | cons x R =>
        have hPn : P.length < xs.length := by rw [hl2]; simp
        have c1 := hcl.out wr hb.out P x R hl2
        have hsz : w.heap.size ≤ wr.heap.size := hb.out.size
        replace hl2 := Lib.hid hl2
        go_wp2_with (at_builtin; refine wpList_append_own _ rfl _ _ 90 rfl w.heap.size 20 i0 .nilIface 1 16 Tryd.underlying90 hi hz0 hz1 hz2 rfl (by decide) _ _ _ rfl (hv.out.alloc _) ⟨wr.heap.size, 0, none⟩ 1 1 [(Wd.great x).val] rfl rfl ?c1 ?c2 ?c3 ?c4 ?c5 ?_)
        case c1 =>
          intro j u hj
          match j, hj with
          | 0, hj => simp at hj; subst hj; simp [Addr.add, Wd.val]
        case c2 => intro u hu; simp at hu; subst hu; rfl
        case c3 => unfold maxLen; omega
        case c4 => omega
        case c5 => simp; omega
        intro v2 w2 hown2 hg2 _
        have hb2 : Hid (Below w.heap.size w w2) := Lib.hid ((hb.out.alloc hsz _).grown hg2 (by simp; omega) (fun k hk => (hv.out.lt k hk).1))
        have hv2 : Hid (w2.ownsRow w.heap.size 20 1 v2 (1 + (P ++ [x]).length) ((.str m :: (P ++ [x]).map .great).map Wd.val)) := Lib.hid (by simpa [Nat.add_assoc] using hown2)
        clear hown2 hg2
        go_wp2
        go_roundw
        case rel => exact ⟨P ++ [x], R, by rw [hl2.out]; simp, by simp, hv2, hb2⟩
        case measure => simp [intOf]; omega
end Go.Proofs.YtigcgpbdifihoaaDoor
