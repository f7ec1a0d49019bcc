/-
  The codec's writer: what its methods do with its bytes.
-/
import Derived.Test.YtmchephokleffaaGreatDoorHand
set_option linter.unusedVariables false
set_option linter.unusedSimpArgs false
namespace Go.Proofs.YtmchephokleffaaGreatDoor
open Go.RowKit Go.Proofs.YtmchephokleffaaGreatDoorW.PrintWords
/-- The writer at block g: how many bytes at most, its bytes, whether there were too many. -/
structure CW (w : World) (B g : Nat) (most : Int) (l : List UInt8) (over : Bool) : Prop where
  ge : B ≤ g
  ex : ∃ v, w.heap[g]? = some (.cells #[.int .i64 most, v, .bool over] 142 (0, 0)) ∧ Row w B v l
/-- A number's bytes, the highest first. -/
def be : Nat → Nat → List UInt8
  | 0, _ => []
  | k + 1, n => UInt8.ofNat (n / 256 ^ k) :: be k n
theorem be_len (k n : Nat) : (be k n).length = k := by
  induction k with
  | zero => rfl
  | succ k ih => simp [be, ih]
def putO (most : Int) (l ys : List UInt8) (over : Bool) : Bool := over || decide (most - (l.length : Int) < (ys.length : Int))
def putL (most : Int) (l ys : List UInt8) (over : Bool) : List UInt8 := if putO most l ys over = true then l else l ++ ys
set_option maxHeartbeats 400000 in
theorem put_any {B g n c : Nat} {A : Option Addr} {most : Int} {l ys : List UInt8} {over : Bool} {w : World} (hcw : CW w B g most l over) (hr : Rd w A n ys) (hc : n ≤ c)
    (hm0 : -4611686018427387904 ≤ most) (hm1 : most ≤ 4611686018427387904) (hl : l.length + n ≤ 140737488355328) :
    Calls Tryz.prog 108 #[.pointer (some ⟨g, 0, none⟩), .slice A n c] w fun e w' => e = .returned (.tuple #[]) ∧ CW w' B g most (putL most l ys over) (putO most l ys over) ∧ Below B w w' := by
  obtain ⟨hge, v, hb, ho⟩ := hcw
  have hlen := hr.len
  obtain ⟨A1, c1, rfl, hr1, hc1⟩ := ho.rd
  have k0 := (blk_cell hb 0).trans rfl
  have k1 := (blk_cell hb 1).trans rfl
  have k2 := (blk_cell hb 2).trans rfl
  have f1 := blk_frozen hb 1
  have f2 := blk_frozen hb 2
  have hown : ¬ (Value.slice A1 l.length c1).ownBlock = some g := fun h => own_ne ho hb (by decide) h.symm
  have hBw : B ≤ w.heap.size := Nat.le_of_lt (Nat.lt_of_le_of_lt hge (blk_lt hb))
  cases over with
  | true =>
    go_enter Tryz.func108, Tryz.ntmps108
    go_wp2
    go_end0
    exact ⟨rfl, ⟨hge, _, hb, ho⟩, Below.refl _ _⟩
  | false =>
    have hw0 : most - (l.length : Int) ≤ 9223372036854775807 := by omega
    by_cases hgt : most - (l.length : Int) < (n : Int)
    · have e1 : putO most l ys false = true := by simp [putO]; omega
      have e2 : putL most l ys false = l := by simp [putL, e1]
      rw [e1, e2]
      clear e1 e2
      go_enter Tryz.func108, Tryz.ntmps108
      go_wp2
      go_quiet (fail)
      go_wp2
      go_end0
      exact ⟨rfl, ⟨hge, _, blk_set hb 2 _, (ho.drewN _).frame (fun q hq => Below.heap_setCell _ _ _ _ (fun e => hown (hq.trans (congrArg some e))))⟩, (pw_below_drewN (Below.refl _ _) _).setCell hge _⟩
    · have e1 : putO most l ys false = false := by simp [putO]; omega
      have e2 : putL most l ys false = l ++ ys := by simp [putL, e1]
      rw [e1, e2]
      clear e1 e2
      go_enter Tryz.func108, Tryz.ntmps108
      go_wp2
      go_quiet (fail)
      go_wp2_with (first | (at_builtin; go_must (refine print_append_row B rfl (.tmp 8) (.tmp 9) 131 5 .u8 1 rfl Tryz.underlying131 info_u8 (by decide) _ (bi l) (bi ys) A n c rfl rfl (ho.drewN _).own (hr.drewN _) (pw_below_drewN (Below.refl B w) _) hBw (by rw [bi_len]; omega) ?_); intro v1 w1 ho1 hb1 hg1 _; replace ho1 := Row.of ho1 (bi_app l ys).symm; obtain ⟨A2, c2, rfl, hr2, hc2⟩ := ho1.rd; have hb2 := blk_grown (blk_drewN hb _) hg1 (fun h => hown h.symm); have hf2 := blk_frozen hb2 1; have hk2 := blk_cell hb2 1))
      go_end0
      rw [show (l ++ ys).length = l.length + n from by rw [List.length_append, hlen]] at ho1
      have hown2 : ¬ (Value.slice A2 (l.length + n) c2).ownBlock = some g := fun h => own_ne ho1 hb2 (by decide) h.symm
      exact ⟨rfl, ⟨hge, _, blk_set hb2 1 _, ho1.frame (fun q hq => Below.heap_setCell _ _ _ _ (fun e => hown2 (hq.trans (congrArg some e))))⟩, hb1.setCell hge _⟩
theorem CW.fit {w : World} {B g : Nat} {most : Int} {l ys : List UInt8} (h : CW w B g most (putL most l ys false) (putO most l ys false)) (hf : ((l.length + ys.length : Nat) : Int) ≤ most) : Hid (CW w B g most (l ++ ys) false) := by
  have e1 : putO most l ys false = false := by simp [putO]; omega
  have e2 : putL most l ys false = l ++ ys := by simp [putL, e1]
  rwa [e1, e2] at h
theorem CW.below {w w1 : World} {B g : Nat} {most : Int} {l : List UInt8} {over : Bool} (h : CW w B g most l over) (hb : Below w.heap.size w w1) : CW w1 B g most l over := by
  obtain ⟨hge, v, h1, h2⟩ := h
  exact ⟨hge, v, by rw [hb.block g (blk_lt h1)]; exact h1, h2.below hb⟩
theorem CW.lt {w : World} {B g : Nat} {most : Int} {l : List UInt8} {over : Bool} (h : CW w B g most l over) : B ≤ w.heap.size := by
  obtain ⟨hge, v, h1, h2⟩ := h
  exact Nat.le_of_lt (Nat.lt_of_le_of_lt hge (blk_lt h1))
theorem be_step (m j n : Nat) (hj : j < m) (x : Int) (hx : x = ((n / 256 ^ j % 256 : Nat) : Int)) : (bi (List.replicate (m - j) 0 ++ be j n)).set (m - 1 - j) x = bi (List.replicate (m - (j + 1)) 0 ++ be (j + 1) n) := by
  obtain ⟨d, rfl⟩ : ∃ d, m = j + 1 + d := ⟨m - (j + 1), by omega⟩
  have e1 : j + 1 + d - j = d + 1 := by omega
  have e2 : j + 1 + d - 1 - j = d := by omega
  have e3 : j + 1 + d - (j + 1) = d := by omega
  rw [e1, e2, e3, List.replicate_succ', List.append_assoc, bi_app, List.set_append_right _ _ (by rw [bi_len]; simp), bi_len, List.length_replicate, Nat.sub_self, be, bi_app]
  congr 1
  simp only [bi, List.singleton_append, List.map_cons, List.set_cons_zero, hx]
  congr 1
  simp
def doneS (l : List UInt8) (over : Bool) : ByteArray := if over = true then ⟨#[]⟩ else ⟨l.toArray⟩
def doneE (over : Bool) : Int := if over = true then 3 else 0
set_option maxHeartbeats 400000 in
theorem Done_any {B g : Nat} {most : Int} {l : List UInt8} {over : Bool} {w : World} (hcw : CW w B g most l over) :
    Calls Tryz.prog 58 #[.pointer (some ⟨g, 0, none⟩)] w fun e w' => e = .returned (.tuple #[.string (doneS l over), .int .i64 (doneE over)]) ∧ w = w' := by
  obtain ⟨hge, v, hb, ho⟩ := hcw
  obtain ⟨A1, c1, rfl, hr1, hc1⟩ := ho.rd
  have k1 := (blk_cell hb 1).trans rfl
  have k2 := (blk_cell hb 2).trans rfl
  have hst := own_string (P := Tryz.prog) (src := 131) (dst := 9) Tryz.underlying131 Tryz.underlying5 Tryz.underlying9 ho
  rw [str_bi] at hst
  cases over with
  | true =>
    go_enter Tryz.func58, Tryz.ntmps58
    go_wp2
    go_ret2
    exact ⟨rfl, rfl⟩
  | false =>
    go_enter Tryz.func58, Tryz.ntmps58
    go_wp2
    go_ret2
    exact ⟨rfl, rfl⟩
set_option maxHeartbeats 400000 in
theorem NewWriter_any (n : Int) (w : World) :
    Calls Tryz.prog 55 #[.int .i64 n] w fun e w' => e = .returned (.pointer (some ⟨w.heap.size, 0, none⟩)) ∧ CW w' w.heap.size w.heap.size (max n 0) [] false ∧ Below w.heap.size w w' := by
  have hN : ∀ x : Int, 0 ≤ x → CW (w.alloc (.cells #[.int .i64 x, .slice none 0 0, .bool false] 142)) w.heap.size w.heap.size x [] false := fun x _ => ⟨Nat.le_refl _, _, heap_alloc_new w _, Row.nil _ _⟩
  by_cases h : 0 ≤ n
  · have hx : max n 0 = n := by omega
    have H := Lib.hid (hN n h)
    rw [hx]
    clear hN hx
    go_enter Tryz.func55, Tryz.ntmps55
    go_wp2
    go_ret
    exact ⟨rfl, H.out, (Below.refl _ _).alloc (Nat.le_refl _) _⟩
  · have hx : max n 0 = 0 := by omega
    have H := Lib.hid (hN 0 (by omega))
    rw [hx]
    clear hN hx
    go_enter Tryz.func55, Tryz.ntmps55
    go_wp2
    go_ret
    exact ⟨rfl, H.out, (Below.refl _ _).alloc (Nat.le_refl _) _⟩
end Go.Proofs.YtmchephokleffaaGreatDoor
