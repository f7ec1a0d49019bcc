/-
  Chapter 28: what a configuration and its terms are, as lists; how they read in memory; their lines.
-/
import Derived.Test.YtigcgpbdifihoaaDoorNg
set_option linter.unusedVariables false
set_option linter.unusedSimpArgs false
namespace Go.Proofs.YtigcgpbdifihoaaDoor
open Go.RowKit Go.Proofs.YtigcgpbdifihoaaDoorW.PrintWords Go.Proofs.YtigcgpbdifihoaaDoor.PScriptRequests
structure Flt where
  op : Int
  nth : Int
  kind : Int
structure Arr where
  step : Int
  conn : Int
  bytes : List UInt8
structure Tm where
  arr : List Arr
  picks : List Int
  ticks : List Int
  draws : List Nat
  flts : List Flt
  steps : Int
  stop : Int
  dir : Int
  keep : List Int
structure Ten where
  nm : List UInt8
  key : List UInt8
  quota : Int
structure Cfg where
  tens : List Ten
  o0 : Int
  o1 : Int
  o2 : Int
  o3 : Int
  o4 : Int
  o5 : Int
  o6 : Int
  cap : Int
def i64 (n : Int) : Prop := -9223372036854775808 ≤ n ∧ n ≤ 9223372036854775807
def sTenant : List UInt8 := [116, 101, 110, 97, 110, 116]
def sEngine : List UInt8 := [101, 110, 103, 105, 110, 101]
def sDisk : List UInt8 := [100, 105, 115, 107]
def sTerm : List UInt8 := [116, 101, 114, 109]
def sPicks : List UInt8 := [112, 105, 99, 107, 115]
def sTicks : List UInt8 := [116, 105, 99, 107, 115]
def sDraws : List UInt8 := [100, 114, 97, 119, 115]
def sFault : List UInt8 := [102, 97, 117, 108, 116]
def sAt : List UInt8 := [97, 116]
def sCrash : List UInt8 := [99, 114, 97, 115, 104]
def tenW (x : Ten) : List Wd := [.str sTenant, .quo x.nm, .quo x.key, .num x.quota]
def engW (c : Cfg) : List Wd := [.str sEngine, .num c.o0, .num c.o1, .num c.o2, .num c.o3, .num c.o4, .num c.o5, .num c.o6]
def dskW (c : Cfg) : List Wd := [.str sDisk, .num c.cap]
def trmW (t : Tm) : List Wd := [.str sTerm, .num t.steps, .num t.stop]
def fltW (x : Flt) : List Wd := [.str sFault, .num x.op, .num x.nth, .num x.kind]
def arrW (x : Arr) : List Wd := [.str sAt, .num x.step, .num x.conn, .quo x.bytes]
def crashL (t : Tm) : List (List Wd) := if t.dir ≠ 0 ∨ 0 < t.keep.length then [.str sCrash :: (t.dir :: t.keep).map .num] else []
def termLs (t : Tm) : List (List Wd) := [trmW t] ++ listI sPicks t.picks ++ listI sTicks t.ticks ++ listU sDraws t.draws ++ t.flts.map fltW ++ t.arr.map arrW ++ crashL t
def cfgLs (c : Cfg) : List (List Wd) := c.tens.map tenW ++ [engW c] ++ [dskW c]
def allLs (c : Cfg) (ts : List Tm) : List (List Wd) := cfgLs c ++ ts.flatMap termLs
def Flt.ok (x : Flt) : Prop := i64 x.op ∧ i64 x.nth ∧ i64 x.kind
def Arr.ok (x : Arr) : Prop := i64 x.step ∧ i64 x.conn ∧ x.bytes.length < 1000000000
structure Tm.ok (t : Tm) : Prop where
  arr : ∀ x ∈ t.arr, x.ok
  picks : ∀ x ∈ t.picks, i64 x
  ticks : ∀ x ∈ t.ticks, i64 x
  draws : ∀ x ∈ t.draws, x < 18446744073709551616
  flts : ∀ x ∈ t.flts, x.ok
  steps : i64 t.steps
  stop : i64 t.stop
  dir : i64 t.dir
  keep : ∀ x ∈ t.keep, i64 x
  la : t.arr.length < 10000000
  lp : t.picks.length < 10000000
  lt : t.ticks.length < 10000000
  ld : t.draws.length < 10000000
  lf : t.flts.length < 10000000
  lk : t.keep.length < 10000000
def Ten.ok (x : Ten) : Prop := x.nm.length < 1000000000 ∧ x.key.length < 1000000000 ∧ i64 x.quota
structure Cfg.ok (c : Cfg) : Prop where
  tens : ∀ x ∈ c.tens, x.ok
  o0 : i64 c.o0
  o1 : i64 c.o1
  o2 : i64 c.o2
  o3 : i64 c.o3
  o4 : i64 c.o4
  o5 : i64 c.o5
  o6 : i64 c.o6
  cap : i64 c.cap
  lt : c.tens.length < 10000000
/-- A slice that reads in all worlds that keep what lies below C. -/
def SR {α : Type} (R : α → List Value → Prop) (sz C : Nat) (w : World) (v : Value) (xs : List α) : Prop := ∃ A c, v = .slice A xs.length c ∧ xs.length ≤ c ∧ ∀ W, Below C w W → ReadsRow R sz W A xs.length xs
theorem SR.next {α : Type} {R : α → List Value → Prop} {sz C : Nat} {w w' : World} {v : Value} {xs : List α} (h : SR R sz C w v xs) (hb : Below C w w') : SR R sz C w' v xs := by
  obtain ⟨A, c, h0, hc, h⟩ := h
  exact ⟨A, c, h0, hc, fun W hW => h W (hb.trans hW)⟩
theorem SR.at_ {α : Type} {R : α → List Value → Prop} {sz C : Nat} {w : World} {A : Option Addr} {xs : List α} (h : ∀ W, Below C w W → ReadsRow R sz W A xs.length xs) {P S : List α} {x : α} (hl : xs = P ++ x :: S) :
    ∃ ad, A = some ad ∧ ∀ W, Below C w W → ∃ cs, cs.length = sz ∧ R x cs ∧ ∀ i u, cs[i]? = some u → W.cell? (ad.add (P.length * sz + i)) = some u := by
  obtain ⟨ad, rfl, _⟩ := (h w (Below.refl _ _)).2.2 (by rw [hl]; simp; omega)
  refine ⟨ad, rfl, fun W hW => ?_⟩
  obtain ⟨ad2, e, hc⟩ := (h W hW).2.2 (by rw [hl]; simp; omega)
  injection e with e
  subst e
  exact hc P.length x (by rw [hl]; simp)
def Rint (x : Int) (cs : List Value) : Prop := cs = [.int .i64 x]
def Rgreat (x : Nat) (cs : List Value) : Prop := cs = [.int .u64 ((x : Nat) : Int)]
def Rflt (x : Flt) (cs : List Value) : Prop := cs = [.int .i64 x.op, .int .i64 x.nth, .int .i64 x.kind]
def Rarr (x : Arr) (cs : List Value) : Prop := cs = [.int .i64 x.step, .int .i64 x.conn, .string (B x.bytes)]
def Rten (x : Ten) (cs : List Value) : Prop := cs = [.string (B x.nm), .string (B x.key), .int .i64 x.quota]
/-- A term's cells. -/
def Rtm (C : Nat) (w : World) (t : Tm) (cs : List Value) : Prop := ∃ va vp vt vd vf vk, cs = [va, vp, vt, vd, vf, .int .i64 t.steps, .int .i64 t.stop, .int .i64 t.dir, vk] ∧
  SR Rarr 3 C w va t.arr ∧ SR Rint 1 C w vp t.picks ∧ SR Rint 1 C w vt t.ticks ∧ SR Rgreat 1 C w vd t.draws ∧ SR Rflt 3 C w vf t.flts ∧ SR Rint 1 C w vk t.keep
theorem Rtm.next {C : Nat} {w w' : World} {t : Tm} {cs : List Value} (h : Rtm C w t cs) (hb : Below C w w') : Rtm C w' t cs := by
  obtain ⟨va, vp, vt, vd, vf, vk, e, h0, h1, h2, h3, h4, h5⟩ := h
  exact ⟨va, vp, vt, vd, vf, vk, e, h0.next hb, h1.next hb, h2.next hb, h3.next hb, h4.next hb, h5.next hb⟩
theorem SR.ri {C : Nat} {w : World} {v : Value} {xs : List Int} (h : SR Rint 1 C w v xs) : RI w v xs := by
  obtain ⟨A, c, e, _, h⟩ := h
  exact ⟨A, c, e, h w (Below.refl _ _)⟩
theorem SR.ru {C : Nat} {w : World} {v : Value} {xs : List Nat} (h : SR Rgreat 1 C w v xs) : RU w v xs := by
  obtain ⟨A, c, e, _, h⟩ := h
  exact ⟨A, c, e, h w (Below.refl _ _)⟩
/-- A writer that writes on while a block of the call's own (no row of bytes, no writer) stands. -/
structure TS (C b : Nat) (w : World) (k : Nat) (cs : Array Value) (T : TypeId) (Ls : List (List Wd)) (W : World) : Prop where
  ws : WS C b Ls W
  fr : Fr C b w W
  box : W.heap[k]? = some (.cells cs T (0, 0))
theorem WS.ge {C b : Nat} {Ls : List (List Wd)} {w : World} (h : WS C b Ls w) : C ≤ b := IB.ge h
theorem TS.ne {C b : Nat} {w : World} {k : Nat} {cs : Array Value} {T : TypeId} {Ls : List (List Wd)} {W : World} (h : TS C b w k cs T Ls W) (hT : T ≠ 63) : k ≠ b := by
  obtain ⟨p, _, v, hb, _⟩ := IB.ba h.ws
  rintro rfl
  rw [h.box] at hb
  injection hb with hb
  injection hb with _ hb
  exact hT hb
theorem TS.next {C b : Nat} {w : World} {k : Nat} {cs : Array Value} {T : TypeId} {Ls Ls2 : List (List Wd)} {W W2 : World} (h : TS C b w k cs T Ls W) (hT : T ≠ 63) (hT2 : T ≠ 5) (h2 : WS C b Ls2 W2) (hf : Fr C b W W2) : TS C b w k cs T Ls2 W2 :=
  ⟨h2, h.fr.trans hf, hf.2 k _ h.box (by simpa using h.ne hT) (fun c fz e => by injection e with _ e; exact hT2 e)⟩
theorem TS.below {C b : Nat} {w : World} {k : Nat} {cs : Array Value} {T : TypeId} {Ls : List (List Wd)} {W W2 : World} (h : TS C b w k cs T Ls W) (hC : C ≤ W.heap.size) (hb : Below W.heap.size W W2) : TS C b w k cs T Ls W2 :=
  ⟨h.ws.below hb, h.fr.trans (Fr.of_below hC hb), (hb.block k (Array.getElem?_eq_some_iff.1 h.box).1).trans h.box⟩
theorem TS.cell {C b : Nat} {w : World} {k : Nat} {cs : Array Value} {T : TypeId} {Ls : List (List Wd)} {W : World} (h : TS C b w k cs T Ls W) (j : Nat) {v : Value} (hv : cs[j]? = some v) : W.cell? ⟨k, j, none⟩ = some v := by
  rw [Lib.cell_of_heap h.box, hv]
theorem txt_pre (X Y : List (List Wd)) : (txtL X).length ≤ (txtL (X ++ Y)).length := by rw [txt_app, List.length_append]; omega
end Go.Proofs.YtigcgpbdifihoaaDoor
