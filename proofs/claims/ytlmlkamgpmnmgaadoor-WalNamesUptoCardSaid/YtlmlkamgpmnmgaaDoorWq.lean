/-
  Names of files: Number, the references, a nil writer, the law WalNames: walked.
-/
import Derived.Test.YtlmlkamgpmnmgaaDoorWp
set_option linter.unusedVariables false
set_option linter.unusedSimpArgs false
namespace Go.Proofs.YtlmlkamgpmnmgaaDoor
open Go.RowKit Go.Proofs.YtlmlkamgpmnmgaaDoorW.PrintWords Go.Proofs.YtlmlkamgpmnmgaaDoorW.PrintLast Go.Proofs.YtlmlkamgpmnmgaaDoorW.PrintMore Go.Proofs.YtlmlkamgpmnmgaaDoor.PWalNames
theorem pre_app (p l : List UInt8) : Lib.hasPrefix (p ++ l) p = true := by
  unfold Lib.hasPrefix
  simp
theorem trim_app (p l : List UInt8) : Lib.trimPrefix (p ++ l) p = l := by
  unfold Lib.trimPrefix
  rw [if_pos (pre_app p l), List.drop_left]
def wl : List UInt8 := [119, 97, 108, 45]
theorem no_pref {name : ByteArray} (h : Lib.hasPrefix name.data.toList wl = false) : ¬ ∃ n : Nat, n ≤ 2147483647 ∧ name = nameB wd n := by
  rintro ⟨n, _, rfl⟩
  rw [name_list] at h
  have := pre_app wl (pad6 n)
  rw [show wd.data.toList = wl from rfl, this] at h
  cases h
theorem trim_name {name : ByteArray} {n : Nat} (h : name = nameB wd n) : Lib.trimPrefix name.data.toList wl = pad6 n := by
  rw [h, name_list]
  exact trim_app wl (pad6 n)
theorem no_atoi {name : ByteArray} (h : ∀ v, Lib.atoiAll (Lib.trimPrefix name.data.toList wl) ≠ .ok v) : ¬ ∃ n : Nat, n ≤ 2147483647 ∧ name = nameB wd n := by
  rintro ⟨n, hn, e⟩
  exact h n (by rw [trim_name e]; exact atoi_pad n (by omega))
theorem the_num {name : ByteArray} {v : Int} (h : Lib.atoiAll (Lib.trimPrefix name.data.toList wl) = .ok v) (n : Nat) (hn : n ≤ 2147483647) (e : name = nameB wd n) : v = n := by
  rw [trim_name e, atoi_pad n (by omega)] at h
  injection h with h
  exact h.symm
def NumP (name : ByteArray) (w : World) (e : Ending) (w' : World) : Prop := ∃ r b, e = .returned (.tuple #[.int .i64 r, .bool b]) ∧ IsNum wd name r b ∧ Below w.heap.size w w'
set_option maxHeartbeats 2000000 in
set_option maxRecDepth 100000 in
theorem number_any (name : ByteArray) (hs : name.size ≤ 100000000) (w : World) (hT : NT w) :
    Calls Tryd.prog 5 #[.string name] w (NumP name w) := by
  have hC : Calls Tryd.prog 15 #[.string name, .string ⟨#[119, 97, 108, 45]⟩] w fun e w' => e = .returned (.tuple #[.string ⟨(Lib.trimPrefix name.data.toList wl).toArray⟩, .bool (Lib.hasPrefix name.data.toList wl)]) ∧ w = w' :=
    (Tryd.strings_CutPrefix name ⟨#[119, 97, 108, 45]⟩ w).mono fun e w' ⟨h1, h2⟩ => ⟨h1, h2.symm⟩
  have hA := atoi_any ⟨(Lib.trimPrefix name.data.toList wl).toArray⟩ (by
    show (Lib.trimPrefix name.data.toList wl).length ≤ _
    have := Lib.trimPrefix_le name.data.toList wl
    have e3 : name.data.toList.length = name.data.size := Array.length_toList
    have e2 : name.size = name.data.size := rfl
    omega) w hT
  have hnp := fun h => no_pref (name := name) h
  have hna := fun h => no_atoi (name := name) h
  have htn := fun v h => the_num (name := name) (v := v) h
  replace hnp := Lib.hid hnp
  replace hna := Lib.hid hna
  replace htn := Lib.hid htn
  replace hC := Lib.hid hC
  replace hA := Lib.hid hA
  have hsz : (⟨(Lib.trimPrefix name.data.toList wl).toArray⟩ : ByteArray).data.toList = Lib.trimPrefix name.data.toList wl := rfl
  rw [hsz] at hA
  clear hsz
  generalize Lib.trimPrefix name.data.toList wl = s at *
  generalize Lib.hasPrefix name.data.toList wl = hp at *
  go_enter Tryd.func5, Tryd.ntmps5
  go_wp2_with (fail)
  refine hC.out.mono ?_
  rintro e w1 ⟨rfl, rfl⟩
  clear hC
  go_wp2_with (fail)
  refine hA.out.mono ?_
  rintro e w1 ⟨hb1, ⟨v, hv, rfl⟩ | ⟨hv, v, tt, p, rfl⟩⟩
  · clear hA
    have hT1 := hT.below hb1
    replace hv := Lib.hid hv
    replace hb1 := Lib.hid hb1
    cases hp with
    | false =>
      go_wp2
      go_ret2
      exact ⟨0, false, rfl, Or.inr ⟨hnp.out (by simp), rfl, rfl⟩, hb1.out⟩
    | true =>
      by_cases hneg : v < 0
      · go_wp2
        go_ret2
        refine ⟨0, false, rfl, Or.inr ⟨?_, rfl, rfl⟩, hb1.out⟩
        rintro ⟨n, hn, e⟩
        have := htn.out v hv.out n hn e
        omega
      · by_cases hbig : v > 2147483647
        · go_wp2
          go_ret2
          refine ⟨0, false, rfl, Or.inr ⟨?_, rfl, rfl⟩, hb1.out⟩
          rintro ⟨n, hn, e⟩
          have := htn.out v hv.out n hn e
          omega
        · have hnm := Lib.hid (named_any v (by omega) (by omega) w1 hT1)
          go_wp2_with (fail)
          refine hnm.out.mono ?_
          rintro e w2 ⟨rfl, hb2⟩
          have hb3 := Lib.hid (hb1.out.trans (hb2.mono hb1.out.size))
          clear hnm hb2
          by_cases heq : nameB wd v = name
          · have k1 : ((nameB wd v).toList == name.toList) = true := by rw [heq]; simp
            replace heq := Lib.hid heq
            go_wp2
            go_ret2
            refine ⟨v, true, rfl, Or.inl ⟨v.toNat, by omega, ?_, by omega, rfl⟩, hb3.out⟩
            rw [show ((v.toNat : Nat) : Int) = v by omega]
            exact heq.out.symm
          · have k1 : ((nameB wd v).toList == name.toList) = false := by
              refine beq_eq_false_iff_ne.2 fun e => heq (bs_ext ?_)
              rw [Lib.toList_data, Lib.toList_data] at e
              exact e
            replace heq := Lib.hid heq
            go_wp2
            go_ret2
            refine ⟨0, false, rfl, Or.inr ⟨?_, rfl, rfl⟩, hb3.out⟩
            rintro ⟨n, hn, e⟩
            have := htn.out v hv.out n hn e
            subst this
            exact heq.out e.symm
  · clear hA
    replace hb1 := Lib.hid hb1
    have hno := Lib.hid (hna.out hv)
    clear hv
    cases hp with
    | false =>
      go_wp2
      go_ret2
      exact ⟨0, false, rfl, Or.inr ⟨hno.out, rfl, rfl⟩, hb1.out⟩
    | true =>
      go_wp2
      go_ret2
      exact ⟨0, false, rfl, Or.inr ⟨hno.out, rfl, rfl⟩, hb1.out⟩
theorem rname_any (n : Int) (h1 : n ≤ 9223372036854775807) (w : World) :
    Calls Tryd.prog 10 #[.string ⟨#[119, 97, 108, 45]⟩, .int .i64 n] w fun e w' => e = .returned (.string (nameB wd n)) ∧ Below w.heap.size w w' := by
  obtain ⟨k, hk⟩ := rname_f wd wd_size n h1
  exact atriumref05_Name.calls k wd n _ w hk
theorem rnum_any (name : ByteArray) (w : World) :
    Calls Tryd.prog 6 #[.string ⟨#[119, 97, 108, 45]⟩, .string name] w (NumP name w) := by
  obtain ⟨k, r, b, hk, hn⟩ := rnum_f wd name wd_size
  exact (atriumref05_Number.calls k wd name r b w hk).mono fun e w' ⟨h1, h2⟩ => ⟨r, b, h1, hn, h2⟩
set_option maxRecDepth 100000 in
theorem lay_nil (s : ByteArray) (w : World) : Calls Tryd.prog 4 #[.pointer none, .string s] w fun e w' => e = .returned (.tuple #[.slice none 0 0, .int .i64 6]) ∧ w = w' := by
  go_enter Tryd.func4, Tryd.ntmps4
  go_wp2
  go_ret2
  exact ⟨rfl, rfl⟩
set_option maxRecDepth 100000 in
theorem size_nil (w : World) : Calls Tryd.prog 8 #[.pointer none] w fun e w' => e = .returned (.int .i64 0) ∧ w = w' := by
  go_enter Tryd.func8, Tryd.ntmps8
  go_wp2
  go_ret
  exact ⟨rfl, rfl⟩
set_option maxHeartbeats 2000000 in
set_option maxRecDepth 100000 in
theorem names_walk (w : World) (hT : NT w) (n : Int) (hn : (Lit.int .i64 n).wf = true) (name : ByteArray) (hs : name.size ≤ 1048576) :
    Calls Tryd.prog 3 #[.int .i64 n, .string name] w fun e w' => e = .returned (.bool true) ∧ Below w.heap.size w w' := by
  have hw : -9223372036854775808 ≤ n ∧ n ≤ 9223372036854775807 := by
    simp only [Lit.wf, IntKind.min, IntKind.max, IntKind.signed, IntKind.bits, Bool.and_eq_true, decide_eq_true_eq, if_true] at hn
    omega
  obtain ⟨hn0, hn1⟩ := hw
  have hLy := Lib.hid (lay_nil name)
  have hSz := Lib.hid size_nil
  have hNu := Lib.hid (number_any name (by omega) w hT)
  have hRn := Lib.hid (rnum_any name)
  have hNm := Lib.hid (fun W h => name_any n hn0 hn1 W h)
  have hRm := Lib.hid (fun W => rname_any n hn1 W)
  clear hn
  go_enter Tryd.func3, Tryd.ntmps3
  go_wp2_with (fail)
  refine (hLy.out _).mono ?_
  rintro e w1 ⟨rfl, rfl⟩
  go_wp2_with (fail)
  refine hNu.out.mono ?_
  rintro e w1 ⟨r, b, rfl, hI, hb1⟩
  replace hI := Lib.hid hI
  go_wp2_with (fail)
  refine (hRn.out _).mono ?_
  rintro e w2 ⟨r2, b2, rfl, hI2, hb2⟩
  obtain ⟨rfl, rfl⟩ := IsNum.one hI.out hI2
  have hB2 := Lib.hid (hb1.trans (hb2.mono hb1.size))
  clear hI hI2 hb1 hb2 hNu hRn hLy
  go_wp2_with (fail)
  refine (lives_any _).mono ?_
  rintro e w3 ⟨rfl, hb3⟩
  have hB3 := Lib.hid (hB2.out.trans (hb3.mono hB2.out.size))
  clear hb3 hB2
  go_wp2_with (fail)
  refine (hSz.out _).mono ?_
  rintro e w4 ⟨rfl, rfl⟩
  clear hSz
  have hm1 := Lib.hid (hNm.out w3 (hT.below hB3.out))
  go_wp2_with (fail)
  refine hm1.out.mono ?_
  rintro e w4 ⟨rfl, hb4⟩
  have hB4 := Lib.hid (hB3.out.trans (hb4.mono hB3.out.size))
  clear hm1 hb4 hB3
  go_wp2_with (fail)
  refine (hRm.out _).mono ?_
  rintro e w5 ⟨rfl, hb5⟩
  have hB5 := Lib.hid (hB4.out.trans (hb5.mono hB4.out.size))
  clear hRm hb5 hB4
  by_cases hneg : n < 0
  · go_wp2
    go_ret
    exact ⟨rfl, hB5.out⟩
  · by_cases hbig : n > 2147483647
    · go_wp2
      go_ret
      exact ⟨rfl, hB5.out⟩
    · have hT5 := hT.below hB5.out
      have hm5 := Lib.hid (hNm.out w5 hT5)
      have hnat : ((n.toNat : Nat) : Int) = n := by omega
      have hsz : (nameB wd n).size ≤ 100000000 := by
        have h := (name_size wd n.toNat (by omega)).2
        rw [hnat] at h
        have h2 := wd_size
        omega
      have hnu := Lib.hid (fun W h => number_any (nameB wd n) hsz W h)
      have hone : ∀ r b, IsNum wd (nameB wd n) r b → r = n ∧ b = true := fun r b h => IsNum.one h (Or.inl ⟨n.toNat, by omega, by rw [hnat], hnat.symm, rfl⟩)
      replace hone := Lib.hid hone
      clear hnat hsz hNm
      go_wp2_with (fail)
      refine hm5.out.mono ?_
      rintro e w6 ⟨rfl, hb6⟩
      have hB6 := Lib.hid (hB5.out.trans (hb6.mono hB5.out.size))
      have hN6 := Lib.hid (hnu.out w6 (hT5.below hb6))
      clear hm5 hb6 hnu
      go_wp2_with (fail)
      refine hN6.out.mono ?_
      rintro e w7 ⟨r, b, rfl, hI, hb7⟩
      obtain ⟨rfl, rfl⟩ := hone.out r b hI
      have hB7 := Lib.hid (hB6.out.trans (hb7.mono hB6.out.size))
      clear hI hN6 hb7 hB6 hone
      go_wp2
      go_ret
      exact ⟨rfl, hB7.out⟩
end Go.Proofs.YtlmlkamgpmnmgaaDoor
