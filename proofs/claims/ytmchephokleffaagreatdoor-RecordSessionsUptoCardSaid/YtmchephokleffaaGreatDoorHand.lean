/-
  Words for the walks by hand: bytes as lists, rows of bytes, structs in memory.
-/
import Derived.Test.YtmchephokleffaaGreatDoorWA
import Derived.Test.YtmchephokleffaaGreatDoorWB
import Derived.Test.YtmchephokleffaaGreatDoorProg
import Derived.WalkKit
import Derived.Lib.Strings
import Derived.WalkLawsBesides
import Derived.WalkSpells
import Derived.Lib.Hide
import Derived.Deep.LoopGhost
import Derived.Deep.QuietTactic
import Derived.BigQuiet
import Derived.Deep.DeepFit
namespace Go.Proofs.YtmchephokleffaaGreatDoor
open Go.RowKit Go.Proofs.YtmchephokleffaaGreatDoorW.PrintWords
def bi (l : List UInt8) : List Int := l.map fun b => (b.toNat : Int)
theorem bi_len (l : List UInt8) : (bi l).length = l.length := by simp [bi]
theorem bi_app (l m : List UInt8) : bi (l ++ m) = bi l ++ bi m := by simp [bi]
theorem bi_take (l : List UInt8) (n : Nat) : bi (l.take n) = (bi l).take n := by simp [bi]
theorem bi_drop (l : List UInt8) (n : Nat) : bi (l.drop n) = (bi l).drop n := by simp [bi]
theorem bi_of (s : ByteArray) : bytesOf s = bi s.data.toList := rfl
theorem str_bi (l : List UInt8) : strOfNums (bi l) = ⟨l.toArray⟩ := by
  have : (bi l).map (fun n => UInt8.ofNat n.toNat) = l := by
    unfold bi
    rw [List.map_map]
    conv => rhs; rw [← List.map_id l]
    refine List.map_congr_left fun b _ => ?_
    simp
  unfold strOfNums
  rw [this]
theorem str_mk (s : ByteArray) : (⟨s.data.toList.toArray⟩ : ByteArray) = s := by simp
theorem bi_inj {l m : List UInt8} (h : bi l = bi m) : l = m := by
  have h2 := congrArg strOfNums h
  rw [str_bi, str_bi] at h2
  injection h2 with h2
  simpa using congrArg Array.toList h2
theorem len_data (s : ByteArray) : s.data.toList.length = s.size := by rw [Array.length_toList]; rfl
theorem size_mk (l : List UInt8) : (⟨l.toArray⟩ : ByteArray).size = l.length := by simp [ByteArray.size]
theorem ret_int {k : IntKind} {a b : Int} (h : a = b) : Ending.returned (.int k a) = .returned (.int k b) := by rw [h]
theorem ret_int2 {k k2 : IntKind} {a b c d : Int} (h : a = b) (h2 : c = d) : Ending.returned (.tuple #[.int k a, .int k2 c]) = .returned (.tuple #[.int k b, .int k2 d]) := by rw [h, h2]
theorem ret_bool {a b : Bool} (h : a = b) : Ending.returned (.bool a) = .returned (.bool b) := by rw [h]
theorem ret_eq {v u : Value} (h : v = u) : Ending.returned v = .returned u := by rw [h]
theorem int_eq {k : IntKind} {a b : Int} (h : a = b) : Value.int k a = .int k b := by rw [h]
def slen : Value → Nat
  | .slice _ n _ => n
  | _ => 0
theorem ext_mid (s : ByteArray) (m n : Nat) : (s.extract m n).data.toList = (s.data.toList.drop m).take (n - m) := Lib.extract_data s m n
theorem ext_take (s : ByteArray) (n : Nat) : (s.extract 0 n).data.toList = s.data.toList.take n := by rw [ext_mid, List.drop_zero, Nat.sub_zero]
theorem ext_drop (s : ByteArray) (n : Nat) : (s.extract n s.size).data.toList = s.data.toList.drop n := by
  rw [ext_mid, List.take_of_length_le]
  rw [List.length_drop, len_data]
  exact Nat.le_refl _
theorem ext_size (s : ByteArray) (m n : Nat) (h : n ≤ s.size) : (s.extract m n).size = n - m := by
  rw [ByteArray.size_extract]
  omega
/-- A row of bytes of one's own. -/
def Row (w : World) (B : Nat) (v : Value) (l : List UInt8) : Prop := w.ownsRow B 5 1 v l.length (nums .u8 (bi l))
/-- A slice of bytes that is read. -/
def Rd (w : World) (A : Option Addr) (n : Nat) (l : List UInt8) : Prop := ReadsInt w .u8 A n (bi l)
theorem info_u8 : (Tryz.prog.info? 5).map (fun i => (i.zero, i.size, i.bytes)) = some (some (.int .u8 0), 1, 1) := by kernel_rfl
theorem Rd.len {w : World} {A : Option Addr} {n : Nat} {l : List UInt8} (h : Rd w A n l) : l.length = n := by
  have := h.1
  rwa [bi_len] at this
theorem Rd.below {w w1 : World} {A : Option Addr} {n : Nat} {l : List UInt8} (h : Rd w A n l) (hb : Below w.heap.size w w1) : Rd w1 A n l := ReadsInt.below h hb
theorem Rd.alloc {w : World} {A : Option Addr} {n : Nat} {l : List UInt8} (h : Rd w A n l) (o : Obj) : Rd (w.alloc o) A n l := h.below (below_alloc (Below.refl _ _) o)
theorem Rd.kept {w w1 : World} {A : Option Addr} {n : Nat} {l : List UInt8} (h : Rd w A n l) (hb : ∀ a, A = some a → w1.heap[a.block]? = w.heap[a.block]?) : Rd w1 A n l :=
  ⟨h.1, h.2.1, fun hn => by
    obtain ⟨ad, e, hc⟩ := h.2.2 hn
    refine ⟨ad, e, fun j hj => ?_⟩
    rw [← hc j hj]
    refine World.cell?_of_block (w := w) ?_
    have := hb ad e
    unfold Addr.add
    split <;> exact this⟩
theorem Row.len {w : World} {B : Nat} {v : Value} {l : List UInt8} (_h : Row w B v l) : True := trivial
theorem Row.below {w w1 : World} {B : Nat} {v : Value} {l : List UInt8} (h : Row w B v l) (hb : Below w.heap.size w w1) : Row w1 B v l := pw_own_below h hb
theorem Row.rd {w : World} {B : Nat} {v : Value} {l : List UInt8} (h : Row w B v l) : ∃ A c, v = .slice A l.length c ∧ Rd w A l.length l ∧ l.length ≤ c := by
  obtain ⟨A, c, rfl, hr⟩ := own_reads h
  refine ⟨A, c, rfl, hr, ?_⟩
  rcases h.2 with ⟨h1, h2⟩ | ⟨g, cap, cur, h1, _, _, h2, _⟩
  · injection h1 with _ h3 h4
    omega
  · injection h1 with _ _ h4
    subst h4
    omega
theorem Row.nil (w : World) (B : Nat) : Row w B (.slice none 0 0) [] := World.ownsRow_nil w B _ 1
theorem Row.frame {w w1 : World} {B : Nat} {v : Value} {l : List UInt8} (h : Row w B v l) (hb : ∀ g, v.ownBlock = some g → w1.heap[g]? = w.heap[g]?) : Row w1 B v l := by
  obtain ⟨h1, h2⟩ := h
  refine ⟨h1, ?_⟩
  rcases h2 with h2 | ⟨b, cap, cur, rfl, hB, hh, r⟩
  · exact .inl h2
  · exact .inr ⟨b, cap, cur, rfl, hB, by rw [hb b rfl]; exact hh, r⟩
theorem Row.ge {w : World} {B : Nat} {v : Value} {l : List UInt8} (h : Row w B v l) : ∀ g, v.ownBlock = some g → B ≤ g := fun _ hg => own_base h _ hg
theorem Row.lt {w : World} {B : Nat} {v : Value} {l : List UInt8} (h : Row w B v l) : ∀ g, v.ownBlock = some g → g < w.heap.size := fun _ hg => own_lt h _ hg
theorem Row.lower {w : World} {B B' : Nat} {v : Value} {l : List UInt8} (h : Row w B v l) (hb : B' ≤ B) : Row w B' v l := by
  obtain ⟨h1, h2⟩ := h
  refine ⟨h1, ?_⟩
  rcases h2 with h2 | ⟨b, cap, cur, rfl, hB, r⟩
  · exact .inl h2
  · exact .inr ⟨b, cap, cur, rfl, Nat.le_trans hb hB, r⟩
/-- Bytes of a string, made a slice: it is read alone. -/
theorem rd_bytes (W : World) (s : ByteArray) (hs : s.size ≤ 9223372036854775807) : Rd (Lib.bytesWorld W 5 s) (some ⟨W.heap.size, 0, none⟩) s.size s.data.toList := by
  have := bytes_reads W 5 s hs
  rwa [bi_of] at this
theorem bytes_conv (s : ByteArray) (W : World) : (convert 9 131 (.string s)).run Tryz.prog W = .ok (.slice (some ⟨W.heap.size, 0, none⟩) s.size (grownCap W s.size 0 5)) (Lib.bytesWorld W 5 s) :=
  print_bytes 9 131 5 Tryz.underlying9 Tryz.underlying131 Tryz.underlying5 s W
theorem blk_drewN {w : World} {g : Nat} {o : Obj} (h : w.heap[g]? = some o) (m : Nat) : (w.drewN m).heap[g]? = some o := h
theorem Row.drewN {w : World} {B : Nat} {v : Value} {l : List UInt8} (h : Row w B v l) (m : Nat) : Row (w.drewN m) B v l := h
theorem Rd.drewN {w : World} {A : Option Addr} {n : Nat} {l : List UInt8} (h : Rd w A n l) (m : Nat) : Rd (w.drewN m) A n l := h
theorem Row.own {w : World} {B : Nat} {v : Value} {l : List UInt8} (h : Row w B v l) : w.ownsRow B 5 1 v (bi l).length (nums .u8 (bi l)) := by rw [bi_len]; exact h
theorem Row.of {w : World} {B : Nat} {v : Value} {xs : List Int} {l : List UInt8} (h : w.ownsRow B 5 1 v xs.length (nums .u8 xs)) (e : xs = bi l) : Row w B v l := by
  subst e
  rw [bi_len] at h
  exact h
section
variable {ops : Array Oper} {rest : List Oper} {o : Oper} {a : Act} {Q : Exit → Act → World → Prop}
/-- 'append(v, ys...)', ys a slice that is read. -/
theorem w_append_row {w0 W : World} (B : Nat) (hgd : o.guard = none) (s x : Operand)
    (ho : o.op = .call { callee := .builtin .append, args := #[s, x], argTypes := #[131, 131] })
    {v : Value} {l ys : List UInt8} {A : Option Addr} {m c : Nat} (hs : a.eval s = v) (hx : a.eval x = .slice A m c)
    (HO : Row W B v l) (HR : Rd W A m ys) (HB : Below B w0 W) (hB : B ≤ W.heap.size) (hl : l.length + m ≤ 140737488355328)
    (h : ∀ v1 w1, Hid (Row w1 B v1 (l ++ ys)) → Hid (Below B w0 w1) → Hid (W.grownBy w1 v.ownBlock) → wpList Tryz.prog ops Q rest (a.put o.dst v1) w1) :
    wpList Tryz.prog ops Q (o :: rest) a W :=
  print_append_row B hgd s x 131 5 .u8 1 ho Tryz.underlying131 info_u8 (by decide) v (bi l) (bi ys) A m c hs hx HO.own HR HB hB (by rw [bi_len]; omega)
    fun v1 w1 h1 h2 h3 _ => h v1 w1 (Row.of h1 (bi_app l ys).symm) h2 h3
/-- 'append(v, s...)', s a string. -/
theorem w_append_str {w0 W : World} (B : Nat) (hgd : o.guard = none) (s x : Operand)
    (ho : o.op = .call { callee := .builtin .append, args := #[s, x], argTypes := #[131, 9] })
    {v : Value} {l : List UInt8} {y : ByteArray} (hs : a.eval s = v) (hx : a.eval x = .string y)
    (HO : Row W B v l) (HB : Below B w0 W) (hB : B ≤ W.heap.size) (hl : l.length + y.size ≤ 140737488355328)
    (h : ∀ v1 w1, Hid (Row w1 B v1 (l ++ y.data.toList)) → Hid (Below B w0 w1) → Hid (W.grownBy w1 v.ownBlock) → wpList Tryz.prog ops Q rest (a.put o.dst v1) w1) :
    wpList Tryz.prog ops Q (o :: rest) a W :=
  print_append_str B hgd s x 131 9 5 ho Tryz.underlying131 Tryz.underlying9 info_u8 v (bi l) y hs hx HO.own HB hB (by rw [bi_len]; omega)
    fun v1 w1 h1 h2 h3 => h v1 w1 (Row.of h1 (by rw [bi_app, bi_of])) h2 h3
/-- 'append(v, b)', b one byte. -/
theorem w_append_one {w0 W : World} (B : Nat) (hgd : o.guard = none) (s x : Operand)
    (ho : o.op = .call { callee := .builtin .append, args := #[s, x], argTypes := #[131, 131] })
    {v : Value} {l : List UInt8} (b : UInt8) (hs : a.eval s = v) (hx : a.eval x = .slice (some ⟨W.heap.size, 0, none⟩) 1 1)
    (HO : Row W B v l) (HB : Below B w0 W) (hB : B ≤ W.heap.size) (hl : l.length + 1 ≤ 140737488355328)
    (h : ∀ v1 w1, Hid (Row w1 B v1 (l ++ [b])) → Hid (Below B w0 w1) → Hid (W.grownBy w1 v.ownBlock) → wpList Tryz.prog ops Q rest (a.put o.dst v1) w1) :
    wpList Tryz.prog ops Q (o :: rest) a (W.alloc (.cells #[.int .u8 (b.toNat : Int)] 5)) :=
  print_append_num B hgd s x 131 5 .u8 1 ho Tryz.underlying131 info_u8 (by decide) v (bi l) (b.toNat : Int) hs hx HO.own HB hB (by rw [bi_len]; omega)
    fun v1 w1 h1 h2 h3 _ => h v1 w1 (Row.of h1 (by rw [bi_app]; rfl)) h2 h3
/-- 'append(v, make([]byte, m)...)'. -/
theorem w_append_zeros {w0 W : World} (B : Nat) (hgd : o.guard = none) (s x : Operand)
    (ho : o.op = .call { callee := .builtin .append, args := #[s, x], argTypes := #[131, 3] })
    {v : Value} {l : List UInt8} (m : Nat) (hs : a.eval s = v) (hx : a.eval x = .int .i64 (m : Int))
    (HO : Row W B v l) (HB : Below B w0 W) (hB : B ≤ W.heap.size) (hl : l.length + m ≤ 140737488355328)
    (h : ∀ v1 w1, Hid (Row w1 B v1 (l ++ List.replicate m 0)) → Hid (Below B w0 w1) → Hid (W.grownBy w1 v.ownBlock) → wpList Tryz.prog ops Q rest (a.put o.dst v1) w1) :
    wpList Tryz.prog ops Q (o :: rest) a W := by
  obtain ⟨i, hi, hz0, hz1, hz2⟩ := info_parts info_u8
  have hz : (Builtin.zeroCells (Value.int .u8 0).cells m).toList = nums .u8 (bi (List.replicate m (0 : UInt8))) := by
    have h0 : (Builtin.zeroCells (Value.int .u8 0).cells m).toList = List.replicate m (Value.int .u8 0) := by
      apply List.ext_getElem
      · simp [size_zeroCells, Value.cells]
      · intro j h1 h2
        simp [Builtin.zeroCells, Value.cells, Nat.mod_one]
    rw [h0]
    simp [nums, bi]
  obtain ⟨v1, w1, hr, hown, hg, _⟩ := run_append_zeros (P := Tryz.prog) W B 131 3 o.type 5 i (.int .u8 0) 1 1 Tryz.underlying131 Tryz.underlying3 hi hz0 hz1 hz2 rfl (by decide) (by decide) v l.length (nums .u8 (bi l)) HO .i64 m
    (by intro u hu; rw [hz] at hu; simp only [nums, List.mem_map] at hu; obtain ⟨q, _, rfl⟩ := hu; rfl) (by omega) hB
  refine wpList_plain hgd fun K hK => ?_
  unfold Oper.wp execOp
  simp only [ho, resolve, invoke, builtin, Sem.run_bind, Sem.run_pure, Result.andThen_ok, List.map_toArray, List.map_cons, List.map_nil, hs, hx, hr]
  refine hK _ _ (h v1 w1 ?_ (HB.grown hg hB HO.ge) hg)
  rw [hz, ← nums_append, ← bi_app] at hown
  have : l.length + m = (l ++ List.replicate m (0 : UInt8)).length := by simp
  rw [this] at hown
  exact hown
end
/-- 'make([]byte, l, c)'. -/
theorem make_bytes (l c : Nat) (hlc : l ≤ c) (hc : c ≤ 281474976710656) (W : World) :
    (Instr.makeSlice 131 (.int .i64 (l : Int)) (.int .i64 (c : Int))).run Tryz.prog W = .ok (.slice (some ⟨W.heap.size, 0, none⟩) l c) (W.alloc (.cells (madeCells #[.int .u8 0] c) 5)) := by
  obtain ⟨i, hi, hz0, hz1, hz2⟩ := info_parts info_u8
  have h := run_make (P := Tryz.prog) W 131 5 i (.int .u8 0) Tryz.underlying131 hi hz0 .i64 .i64 l c (by omega) (by omega) (by rw [hz2]; omega) (by omega)
  rw [hz1, Nat.mul_one, Int.toNat_natCast, Int.toNat_natCast] at h
  exact h
theorem row_made (W : World) (B l c : Nat) (hlc : l ≤ c) (hc : c ≤ 281474976710656) (hB : B ≤ W.heap.size) :
    Row (W.alloc (.cells (madeCells #[.int .u8 0] c) 5)) B (.slice (some ⟨W.heap.size, 0, none⟩) l c) (List.replicate l 0) := by
  refine Row.of (xs := List.replicate l 0) ?_ (by simp [bi])
  rw [List.length_replicate]
  refine ⟨by simp [nums], .inr ⟨W.heap.size, c, madeCells #[.int .u8 0] c, rfl, hB, heap_alloc_new W _, hlc, by simp only [maxLen]; omega, by simp [size_madeCells], ?_⟩⟩
  have hl : (madeCells #[Value.int .u8 0] c).toList = List.replicate c (Value.int .u8 0) := by
    apply List.ext_getElem
    · simp [madeCells]
    · intro i h1 h2
      simp [madeCells, Nat.mod_one]
  rw [hl, List.take_replicate]
  simp [nums, Nat.min_eq_left hlc]
/-- A row that bears a conversion's mark is no row of one's own. -/
theorem Row.marked {w : World} {B R m : Nat} {v : Value} {l : List UInt8} {cs : Array Value} {t : TypeId} (h : Row w B v l) (hm : w.heap[R]? = some (.cells cs t (m, m + 1))) : v.ownBlock ≠ some R := by
  rcases h.2 with ⟨rfl, _⟩ | ⟨g, cap, cur, rfl, _, hh, _⟩
  · simp [Value.ownBlock]
  · intro he
    have : g = R := by simpa [Value.ownBlock] using he
    subst this
    rw [hm] at hh
    injection hh with hh
    injection hh with _ _ h3
    injection h3 with h4 h5
    omega
/-- 'xs[m:]'. -/
theorem cut_any (A : Option Addr) (n c m : Nat) (hm : m ≤ n) :
    ∃ A' : Option Addr, (∀ W : World, (Instr.slice 131 (.slice A n c) (some (.int .i64 (m : Int))) none none).run Tryz.prog W = .ok (.slice A' (n - m) (c - m)) W) ∧
      (∀ (w : World) (l : List UInt8), n ≤ c → Rd w A n l → Rd w A' (n - m) (l.drop m)) ∧ ∀ b, (∀ ad, A = some ad → ad.block = b) → ∀ ad, A' = some ad → ad.block = b := by
  obtain ⟨i, hi, hz0, hz1, hz2⟩ := info_parts info_u8
  refine ⟨if c = m then A else A.map (·.add m), fun W => ?_, fun w l hc h => ?_, fun b hb ad had => ?_⟩
  · have hel : Tryz.prog.elem 131 = 5 := by simp [Program.elem, Tryz.underlying131]
    have hu : Tryz.prog.underlying 131 = some (.slice (Tryz.prog.elem 131)) := by rw [hel]; exact Tryz.underlying131
    rw [run_slice_l W 131 A n c hu .i64 (m : Int) (Int.natCast_nonneg _) (by omega), hel]
    simp [sizeOf, typeInfo, hi, hz1, sliced, Result.andThen]
  · have := ReadsInt.drop_ (c := c) h m hm hc
    unfold Rd
    rw [bi_drop]
    exact this
  · by_cases hcm : c = m
    · rw [if_pos hcm] at had
      exact hb ad had
    · rw [if_neg hcm] at had
      cases A with
      | none => cases had
      | some a0 =>
        simp only [Option.map_some, Option.some.injEq] at had
        rw [← had]
        have := hb a0 rfl
        unfold Addr.add
        split <;> exact this
theorem Rd.take {w : World} {A : Option Addr} {n : Nat} {l : List UInt8} (h : Rd w A n l) (i : Nat) (hi : i ≤ n) : Rd w A i (l.take i) := by
  have := ReadsInt.take_ h i hi
  unfold Rd
  rw [bi_take]
  exact this
theorem conv_rd {w : World} {A : Option Addr} {n : Nat} {l : List UInt8} (c : Nat) (h : Rd w A n l) : (convert 131 9 (.slice A n c)).run Tryz.prog w = .ok (.string ⟨l.toArray⟩) w := by
  have := string_of_reads (P := Tryz.prog) (c := c) Tryz.underlying131 Tryz.underlying5 Tryz.underlying9 h
  rwa [str_bi] at this
theorem conv_one (k : UInt8) (w : World) : (convert 131 9 (.slice (some ⟨w.heap.size, 0, none⟩) 1 1)).run Tryz.prog (w.alloc (.cells #[.int .u8 (k.toNat : Int)] 5)) = .ok (.string ⟨#[k]⟩) (w.alloc (.cells #[.int .u8 (k.toNat : Int)] 5)) := by
  have h := own_lit w w.heap.size 5 .u8 [(k.toNat : Int)] (Nat.le_refl _) (by simp)
  have h2 := own_string (P := Tryz.prog) (src := 131) (dst := 9) Tryz.underlying131 Tryz.underlying5 Tryz.underlying9 h
  rw [show [(k.toNat : Int)] = bi [k] from rfl, str_bi] at h2
  exact h2
end Go.Proofs.YtmchephokleffaaGreatDoor
