/-
  Chapter 22: codec.Split walked: the parts of a key.
-/
import Derived.Test.YtmchephokleffaaDoorVd
import Derived.Test.YtmchephokleffaaDoorRdu64
set_option linter.unusedVariables false
set_option linter.unusedSimpArgs false
namespace Go.Proofs.YtmchephokleffaaDoor
open Go.RowKit Go.Proofs.YtmchephokleffaaDoorW.PrintWords Go.Proofs.YtmchephokleffaaDoor.PRecord
/-- A key's parts, or why it has none (n: how many there are already). -/
def spl : Nat → Nat → List UInt8 → Except Int (List Pt)
  | _, _, [] => .ok []
  | 0, _, _ => .ok []
  | k + 1, n, c :: r => if n = 8 then .error 3 else if c = 1 then (if r.length < 8 then .error 20 else (spl k (n + 1) (r.drop 8)).map (⟨⟨#[]⟩, beN (r.take 8), true⟩ :: ·))
      else if c = 2 then (match txt r with | none => .error 20 | some (t, q) => (spl k (n + 1) q).map (⟨Bd.B t, 0, false⟩ :: ·)) else .error 21
def splitL (l : List UInt8) : Except Int (List Pt) := spl l.length 0 l
theorem spl_fuel : ∀ (k j n : Nat) (l : List UInt8), l.length ≤ k → l.length ≤ j → spl k n l = spl j n l
  | 0, j, n, l, h, _ => by
    obtain rfl : l = [] := List.eq_nil_of_length_eq_zero (by omega)
    cases j <;> rfl
  | k + 1, 0, n, l, _, h => by
    obtain rfl : l = [] := List.eq_nil_of_length_eq_zero (by omega)
    rfl
  | k + 1, j + 1, n, [], _, _ => rfl
  | k + 1, j + 1, n, c :: r, h, h2 => by
    simp only [List.length_cons] at h h2
    rw [spl, spl, spl_fuel k j (n + 1) (r.drop 8) (by simp; omega) (by simp; omega)]
    cases ht : txt r with
    | none => rfl
    | some p =>
      obtain ⟨t, q⟩ := p
      have := txt_len r ht
      simp only
      rw [spl_fuel k j (n + 1) q (by omega) (by omega)]
theorem map_ok {l : List Pt} {x : Except Int (List Pt)} {ps : List Pt} (h : x = .ok ps) : x.map (l ++ ·) = .ok (l ++ ps) := by rw [h]; rfl
theorem map_err {l : List Pt} {x : Except Int (List Pt)} {e : Int} (h : x = .error e) : x.map (l ++ ·) = .error e := by rw [h]; rfl
theorem map_cons (l : List Pt) (p : Pt) (x : Except Int (List Pt)) : (x.map (p :: ·)).map (l ++ ·) = x.map ((l ++ [p]) ++ ·) := by cases x <;> simp [Except.map]
theorem infoP : (Tryd.prog.info? 70).map (fun i => (i.zero, i.size, i.bytes)) = some (some (.agg #[.string ⟨#[]⟩, .int .u64 0, .bool false]), 3, 32) := by kernel_rfl
/-- The parts taken so far, a row of the call's own. -/
structure PR (w w' : World) (v : Value) (ps : List Pt) : Prop where
  row : Kd.R kP 70 w' w.heap.size (fun _ => True) v ps
  bel : Below w.heap.size w w'
theorem PR.next {w w' w2 : World} {v : Value} {ps : List Pt} (h : PR w w' v ps) (hb : Below w'.heap.size w' w2) : PR w w2 v ps := ⟨Kd.R_below h.row hb, h.bel.trans (hb.mono h.bel.size)⟩
def SplitP (l : List UInt8) (w : World) (e : Ending) (w' : World) : Prop := Below w.heap.size w w' ∧
  match splitL l with
  | .ok ps => ∃ A c, e = .returned (.tuple #[.slice A ps.length c, .int .i64 0]) ∧ ps.length ≤ c ∧ Kd.C kP w' A ps.length ps
  | .error x => e = .returned (.tuple #[.slice none 0 0, .int .i64 x])
theorem splitP_err {l : List UInt8} {w w' : World} {e : Ending} {x : Int} (h : splitL l = .error x) (he : e = .returned (.tuple #[.slice none 0 0, .int .i64 x])) (hb : Below w.heap.size w w') : SplitP l w e w' := ⟨hb, by rw [h]; exact he⟩
theorem splitP_ok {l : List UInt8} {w w' : World} {e : Ending} {ps : List Pt} {A : Option Addr} {c : Nat} (h : splitL l = .ok ps) (he : e = .returned (.tuple #[.slice A ps.length c, .int .i64 0])) (hc : ps.length ≤ c) (hC : Kd.C kP w' A ps.length ps) (hb : Below w.heap.size w w') : SplitP l w e w' := ⟨hb, by rw [h]; exact ⟨A, c, he, hc, hC⟩⟩
set_option maxHeartbeats 2000000 in
set_option maxRecDepth 100000 in
theorem err_rd {g : Nat} {s : ByteArray} {err : Int} {w : World} (h : CR w g s err) :
    Calls Tryd.prog 47 #[.pointer (some ⟨g, 0, none⟩)] w fun e w' => e = .returned (.int .i64 err) ∧ w = w' := by
  obtain ⟨hb⟩ := h
  have k1 := (blk_cell hb 1).trans rfl
  go_enter Tryd.func47, Tryd.ntmps47
  go_wp2
  go_ret
  exact ⟨rfl, rfl⟩
set_option maxHeartbeats 2000000 in
set_option maxRecDepth 100000 in
theorem split_any (l0 : List UInt8) (hl0 : l0.length ≤ 1000000000) (w : World) : Calls Tryd.prog 39 #[.string (Bd.B l0)] w (SplitP l0 w) := by
  have hS0 : Hid (PR w w (.slice none 0 0) []) := Lib.hid ⟨Kd.R_nil _ _ _ _ _, Below.refl _ _⟩
  go_enter Tryd.func39, Tryd.ntmps39
  go_wp2
  go_loopw [0, 4] (fun s v wr => ∃ (ps : List Pt) (l : List UInt8), s = .string (Bd.B l) ∧ l.length ≤ 1000000000 ∧ ps.length ≤ 8 ∧ Hid (splitL l0 = (spl l.length ps.length l).map (ps ++ ·)) ∧ Hid (PR w wr v ps)) (fun s _ _ => match s with | .string b => b.size | _ => 0)
  case atStart => exact ⟨[], l0, rfl, hl0, Nat.zero_le _, Lib.hid (by unfold splitL; cases spl l0.length 0 l0 <;> rfl), hS0⟩
  case round =>
    rename World => wr
    obtain ⟨ps, l, rfl, hl, hps, hT, hS⟩ := hrel
    clear hS0
    obtain ⟨A, c, rfl, hc, hC⟩ := Kd.R_reads hS.out.row
    replace hC := Lib.hid hC
    cases l with
    | nil =>
      have hN : Hid (splitL l0 = .ok ps) := Lib.hid (by rw [hT.out]; simp [spl, Except.map])
      have hB := Lib.hid hS.out.bel
      have hem : Bd.B [] = ⟨#[]⟩ := rfl
      rw [hem]
      clear hT hS
      go_wp2
      go_ret2
      exact splitP_ok hN.out rfl hc hC.out hB.out
    | cons m r =>
      obtain ⟨s, hs⟩ : ∃ s, s = Bd.B (m :: r) := ⟨_, rfl⟩
      have e1 : s.extract 1 s.size = Bd.B r := by rw [hs, Bd.B_drop]; rfl
      have hsz : s.size = r.length + 1 := by rw [hs, Bd.B_size]; rfl
      have hz0 : 0 < s.size := by omega
      have hz1 : 1 ≤ s.size := hz0
      have hne : s.toList.isEmpty = false := by rw [hs, Bd.B_toList]; rfl
      have hget : s[0]'hz0 = m := by subst hs; rw [Bd.B_get _ _ _ (by simp)]; rfl
      rw [← hs]
      have hszH := Lib.hid hsz
      have he1 := Lib.hid e1
      have hsH := Lib.hid hs
      clear hsz e1 hs
      by_cases h8 : ps.length = 8
      · have hN : Hid (splitL l0 = .error 3) := Lib.hid (by rw [hT.out]; simp [spl, h8, Except.map])
        have hB := Lib.hid hS.out.bel
        replace h8 := Lib.hid h8
        have b8 : ((ps.length : Int) == 8) = true := by rw [h8.out]; rfl
        clear hT hS
        go_wp2
        go_ret2
        exact splitP_err hN.out rfl hB.out
      · have b8 : ((ps.length : Int) == 8) = false := by simp; omega
        have hps8 : ps.length < 8 := by omega
        have hlr : r.length + 1 ≤ 1000000000 := hl
        have hspl : ∀ x, spl (m :: r).length ps.length (m :: r) = x → splitL l0 = x.map (ps ++ ·) := fun x h => by rw [hT.out, h]
        have hn8 : ¬ ps.length = 8 := h8
        by_cases hm1 : m = 1
        · have b1 : ((m.toNat : Int) == 1) = true := by rw [hm1]; rfl
          have e1 := he1.out
          by_cases hr8 : r.length < 8
          · have hN : Hid (splitL l0 = .error 20) := Lib.hid (by rw [hspl (.error 20) (by simp [spl, hn8, hm1, hr8])]; rfl)
            replace hm1 := Lib.hid hm1
            clear hT hspl hn8 h8
            go_wp2_with (fail)
            refine (newReader_any (Bd.B r) wr).mono ?_
            rintro e w2 ⟨rfl, hcr, hb2⟩
            have hu := U64_rd (show (Bd.B r).size ≤ maxLen by rw [Bd.B_size]; unfold maxLen; omega) hcr
            have er : rawR (Bd.B r) 0 8 = (⟨#[]⟩, Bd.B r, 20) := by unfold rawR; rw [if_neg (by simp), if_neg (by decide), if_pos (by rw [Bd.B_size]; omega)]
            rw [er] at hu
            have hB2 := Lib.hid (hS.out.bel.trans (hb2.mono hS.out.bel.size))
            have hle := hS.out.bel.size
            replace hu := Lib.hid hu
            clear er hcr hb2 hS e1
            go_wp2_with (fail)
            refine hu.out.mono ?_
            rintro e w3 ⟨rfl, hcr3, hb3⟩
            have hB3 := Lib.hid (hB2.out.trans (hb3.mono (by omega)))
            replace hcr3 := Lib.hid hcr3
            clear hu hB2 hb3
            go_wp2_with (fail)
            refine (err_rd hcr3.out).mono ?_
            rintro e w4 ⟨rfl, rfl⟩
            clear hcr3
            go_wp2
            go_ret2
            exact splitP_err hN.out rfl hB3.out
          · obtain ⟨x, hx⟩ : ∃ x, beN (r.take 8) = x := ⟨_, rfl⟩
            have hlen8 : (r.drop 8).length + 8 = r.length := by simp; omega
            have hT2 : Hid (splitL l0 = (spl (r.drop 8).length (ps ++ [(⟨⟨#[]⟩, x, true⟩ : Pt)]).length (r.drop 8)).map ((ps ++ [(⟨⟨#[]⟩, x, true⟩ : Pt)]) ++ ·)) := Lib.hid (by
              rw [hspl ((spl r.length (ps.length + 1) (r.drop 8)).map ((⟨⟨#[]⟩, x, true⟩ : Pt) :: ·)) (by simp [spl, hn8, hm1, hr8, hx]), map_cons, spl_fuel r.length (r.drop 8).length _ _ (by omega) (Nat.le_refl _), List.length_append]
              rfl)
            have e5 : (Bd.B r).extract 8 (Bd.B r).size = Bd.B (r.drop 8) := Bd.B_drop r 8
            have hzb : 8 ≤ (Bd.B r).size := by rw [Bd.B_size]; omega
            replace hm1 := Lib.hid hm1
            replace hx := Lib.hid hx
            clear hT hspl hn8 h8
            go_wp2_with (fail)
            refine (newReader_any (Bd.B r) wr).mono ?_
            rintro e w2 ⟨rfl, hcr, hb2⟩
            have hu := U64_at (show (Bd.B r).size ≤ maxLen by rw [Bd.B_size]; unfold maxLen; omega) hcr hzb x (by rw [Bd.B_data]; exact hx.out)
            have hb2H := Lib.hid hb2
            replace hu := Lib.hid hu
            clear hcr hb2 e1
            go_wp2_with (fail)
            refine hu.out.mono ?_
            rintro e w3 ⟨rfl, hcr3, hb3⟩
            have hP := Lib.hid (hS.out.next (hb2H.out.trans hb3))
            replace hcr3 := Lib.hid hcr3
            clear hu hb2H hb3 hS
            go_wp2_with (fail)
            refine (err_rd hcr3.out).mono ?_
            rintro e w4 ⟨rfl, rfl⟩
            clear hcr3
            go_wp2_with (first | ((with_reducible refine gate_builtin (b := .append) (xs := #[.tmp 30, .tmp 33]) rfl ?_); at_builtin; go_must (refine Kd.R_append kP (w0 := w) w.heap.size rfl (.tmp 30) (.tmp 33) 66 70 (.agg #[.string ⟨#[]⟩, .int .u64 0, .bool false]) 32 rfl Tryd.underlying66 infoP rfl (by decide) (by omega) _ ps (⟨⟨#[]⟩, x, true⟩ : Pt) [.string ⟨#[]⟩, .int .u64 (x : Int), .bool true] (fun _ => True) (fun _ => False) rfl rfl (kP_mkM _ _ _ _) (fun _ hk => hk.elim) (fun _ _ => trivial) hP.out.row hP.out.bel hP.out.bel.size (by omega) ?_; intro v1 w12 ho hbb hg hat; have hP2 := Lib.hid (PR.mk ho hbb); clear ho hbb hg hat hP)))
            go_roundw
            case rel => exact ⟨ps ++ [(⟨⟨#[]⟩, x, true⟩ : Pt)], r.drop 8, by first | rfl | rw [e5], by omega, by simp; omega, hT2, hP2⟩
            case measure => have := hszH.out; simp [Bd.B_size] at this ⊢; omega
        · have b1 : ((m.toNat : Int) == 1) = false := by
            have : m.toNat ≠ 1 := fun h => hm1 (UInt8.toNat_inj.mp (by rw [h]; rfl))
            simp; omega
          have e1 := he1.out
          by_cases hm2 : m = 2
          · have b2 : ((m.toNat : Int) == 2) = true := by rw [hm2]; rfl
            have ht := Lib.hid (text_any r (by omega))
            cases htx : txt r with
            | none =>
              rw [htx] at ht
              have hN : Hid (splitL l0 = .error 20) := Lib.hid (by rw [hspl (.error 20) (by simp [spl, hn8, hm2, htx])]; rfl)
              have hB := Lib.hid hS.out.bel
              replace hm2 := Lib.hid hm2
              replace htx := Lib.hid htx
              clear hT hspl hn8 h8 hS hm1
              go_wp2_with (fail)
              refine (ht.out _).mono ?_
              rintro e w2 ⟨rfl, hb2⟩
              rw [show txtV none = .tuple #[.string ⟨#[]⟩, .string ⟨#[]⟩, .bool false] from rfl]
              go_wp2
              go_ret2
              exact splitP_err hN.out rfl (hB.out.trans (hb2.mono hB.out.size))
            | some p =>
              obtain ⟨t, q⟩ := p
              rw [htx] at ht
              have htl := txt_len r htx
              have hT2 : Hid (splitL l0 = (spl q.length (ps ++ [(⟨Bd.B t, 0, false⟩ : Pt)]).length q).map ((ps ++ [(⟨Bd.B t, 0, false⟩ : Pt)]) ++ ·)) := Lib.hid (by
                rw [hspl ((spl r.length (ps.length + 1) q).map ((⟨Bd.B t, 0, false⟩ : Pt) :: ·)) (by simp [spl, hn8, hm2, htx]), map_cons, spl_fuel r.length q.length _ _ (by omega) (Nat.le_refl _), List.length_append]
                rfl)
              replace hm2 := Lib.hid hm2
              replace htx := Lib.hid htx
              clear hT hspl hn8 h8 hm1
              go_wp2_with (fail)
              refine (ht.out _).mono ?_
              rintro e w2 ⟨rfl, hb2⟩
              rw [show txtV (some (t, q)) = .tuple #[.string (Bd.B t), .string (Bd.B q), .bool true] from rfl]
              have hP := Lib.hid (hS.out.next hb2)
              clear hb2 hS ht
              go_wp2_with (first | ((with_reducible refine gate_builtin (b := .append) (xs := #[.tmp 47, .tmp 50]) rfl ?_); at_builtin; go_must (refine Kd.R_append kP (w0 := w) w.heap.size rfl (.tmp 47) (.tmp 50) 66 70 (.agg #[.string ⟨#[]⟩, .int .u64 0, .bool false]) 32 rfl Tryd.underlying66 infoP rfl (by decide) (by omega) _ ps (⟨Bd.B t, 0, false⟩ : Pt) [.string (Bd.B t), .int .u64 0, .bool false] (fun _ => True) (fun _ => False) rfl rfl (kP_mkM _ _ _ _) (fun _ hk => hk.elim) (fun _ _ => trivial) hP.out.row hP.out.bel hP.out.bel.size (by omega) ?_; intro v1 w12 ho hbb hg hat; have hP2 := Lib.hid (PR.mk ho hbb); clear ho hbb hg hat hP)))
              go_roundw
              case rel => exact ⟨ps ++ [(⟨Bd.B t, 0, false⟩ : Pt)], q, rfl, by omega, by simp; omega, hT2, hP2⟩
              case measure => have := hszH.out; simp [Bd.B_size] at this ⊢; omega
          · have b2 : ((m.toNat : Int) == 2) = false := by
              have : m.toNat ≠ 2 := fun h => hm2 (UInt8.toNat_inj.mp (by rw [h]; rfl))
              simp; omega
            have hN : Hid (splitL l0 = .error 21) := Lib.hid (by rw [hspl (.error 21) (by simp [spl, hn8, hm1, hm2])]; rfl)
            have hB := Lib.hid hS.out.bel
            clear hT hspl hn8 h8 hS hm1 hm2
            go_wp2
            go_ret2
            exact splitP_err hN.out rfl hB.out
end Go.Proofs.YtmchephokleffaaDoor
