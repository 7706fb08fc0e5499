/- Walks: packets that are trimmed and sent back, with their payloads' places. -/
import Derived.Test.YtdgleplmmbkgfaaV23
import Derived.Test.YtdgleplmmbkgfaaV16r
namespace Go.Proofs.Ytdgleplmmbkgfaa
open Go.RowKit
set_option maxRecDepth 100000

theorem PkIn.new {w w' : World} {P : Pk} {A : Option Addr} {n c : Nat} (h : PkIn w P A n c) (hn : New w w') : PkIn w' P A n c := ⟨h.rd.new hn, h.b⟩
theorem PkA.ok.new {w w' : World} {x : PkA} (h : x.ok w) (hn : New w w') : x.ok w' := PkIn.new h hn
/-- A packet's cells. -/
abbrev PkA.o (x : PkA) (t : TypeId) : Obj := .cells #[.int .i64 x.p.kd, .int .i64 x.p.fl, .int .i64 x.p.pa, .int .i64 x.p.sr, .int .i64 x.p.ds, .int .i64 x.p.cn, .int .i64 x.p.sq, .int .i64 x.p.pl, .slice x.a x.n x.c] t
/-- What lies in block X is x. -/
def At (w : World) (X : Nat) (x : PkA) : Prop := w.heap[X]? = some (x.o 25)
namespace At
variable {w w' : World} {X : Nat} {x : PkA}
theorem keep {S : Nat → Prop} (h : At w X x) (he : Ext S w w') (hs : ¬ S X) : At w' X x := Ext.keep he h hs
theorem new (h : At w X x) (he : New w w') : At w' X x := New.keep he h
theorem lt (h : At w X x) : X < w.heap.size := blk_lt h
theorem c0 (h : At w X x) : w.cell? ⟨X, 0, none⟩ = some (.int .i64 x.p.kd) := (blk_cell h 0).trans rfl
theorem c1 (h : At w X x) : w.cell? ⟨X, 1, none⟩ = some (.int .i64 x.p.fl) := (blk_cell h 1).trans rfl
theorem c2 (h : At w X x) : w.cell? ⟨X, 2, none⟩ = some (.int .i64 x.p.pa) := (blk_cell h 2).trans rfl
theorem c3 (h : At w X x) : w.cell? ⟨X, 3, none⟩ = some (.int .i64 x.p.sr) := (blk_cell h 3).trans rfl
theorem c4 (h : At w X x) : w.cell? ⟨X, 4, none⟩ = some (.int .i64 x.p.ds) := (blk_cell h 4).trans rfl
theorem c5 (h : At w X x) : w.cell? ⟨X, 5, none⟩ = some (.int .i64 x.p.cn) := (blk_cell h 5).trans rfl
theorem c6 (h : At w X x) : w.cell? ⟨X, 6, none⟩ = some (.int .i64 x.p.sq) := (blk_cell h 6).trans rfl
theorem c7 (h : At w X x) : w.cell? ⟨X, 7, none⟩ = some (.int .i64 x.p.pl) := (blk_cell h 7).trans rfl
theorem c8 (h : At w X x) : w.cell? ⟨X, 8, none⟩ = some (.slice x.a x.n x.c) := (blk_cell h 8).trans rfl
theorem fr (h : At w X x) (i : Nat) : w.frozen? ⟨X, i, none⟩ = false := blk_free h i
end At
theorem at_new (w : World) (x : PkA) : At (w.alloc (x.o 25)) w.heap.size x := blk_new w _
/-- The packet y is stored over x. -/
theorem at_set {w : World} {X : Nat} {x : PkA} (h : At w X x) (y : PkA) :
    ∃ w', w' = ((((((((w.setCell ⟨X, 0, none⟩ (.int .i64 y.p.kd)).setCell ⟨X, 1, none⟩ (.int .i64 y.p.fl)).setCell ⟨X, 2, none⟩ (.int .i64 y.p.pa)).setCell ⟨X, 3, none⟩ (.int .i64 y.p.sr)).setCell ⟨X, 4, none⟩ (.int .i64 y.p.ds)).setCell ⟨X, 5, none⟩ (.int .i64 y.p.cn)).setCell ⟨X, 6, none⟩ (.int .i64 y.p.sq)).setCell ⟨X, 7, none⟩ (.int .i64 y.p.pl)).setCell ⟨X, 8, none⟩ (.slice y.a y.n y.c) ∧ At w' X y ∧ Ext (fun j => j = X) w w' := set9 h rfl (.int .i64 y.p.kd) (.int .i64 y.p.fl) (.int .i64 y.p.pa) (.int .i64 y.p.sr) (.int .i64 y.p.ds) (.int .i64 y.p.cn) (.int .i64 y.p.sq) (.int .i64 y.p.pl) (.slice y.a y.n y.c)
def PkA.few (x : PkA) : PkA := ⟨fwP x.p, x.a, min x.n 1100, x.c⟩
theorem PkA.ok.few {w : World} {x : PkA} (h : x.ok w) : x.few.ok w := PkIn.few h
theorem few_r (x : PkA) (y : PkA) (w : World) (hx : x.ok w) (hy : y = x.few) : Calls Try.prog 7 #[x.v] w fun e w' => e = .returned y.v ∧ New w w' := by
  subst hy
  exact few_any x.p x.a x.n x.c _ w rfl hx.rd.cap hx.rd.top
def trR (x : PkA) : PkA × Bool := if trB x.p = true then (⟨trP x.p, none, 0, 0⟩, true) else (x, false)
def boR (x : PkA) : PkA × Bool := if boB x.p = true then (⟨boP x.p, x.a, x.n, x.c⟩, true) else (x, false)
theorem trR_ok {w : World} {x : PkA} (h : x.ok w) : (trR x).1.ok w := by
  unfold trR
  split
  · exact ⟨Rd.nil w 1, fun _ h => by cases h⟩
  · exact h
theorem boR_ok {w : World} {x : PkA} (h : x.ok w) : (boR x).1.ok w := by
  unfold boR
  split
  · exact ⟨h.rd, h.b⟩
  · exact h
theorem trim_r (x : PkA) (y : PkA) (b : Bool) (w : World) (hx : x.ok w) (hy : trR x = (y, b)) : Calls Try.prog 11 #[x.v] w fun e w' => e = .returned (.tuple #[y.v, .bool b]) ∧ New w w' := by
  cases hb : trB x.p
  · have e : (x, false) = (y, b) := by rw [← hy]; unfold trR; rw [if_neg (by rw [hb]; decide)]
    cases e
    exact trim_b x.p x.a x.n x.c w hx.len false hb
  · have e := hy
    unfold trR at e
    rw [if_pos hb] at e
    cases e
    exact trim_b x.p x.a x.n x.c w hx.len true hb
theorem rtrim_r (x : PkA) (y : PkA) (b : Bool) (w : World) (hx : x.ok w) (hy : trR x = (y, b)) : Calls Try.prog 12 #[x.v] w fun e w' => e = .returned (.tuple #[y.v, .bool b]) ∧ New w w' := by
  cases hb : trB x.p
  · have e : (x, false) = (y, b) := by rw [← hy]; unfold trR; rw [if_neg (by rw [hb]; decide)]
    cases e
    exact rtrim_b x.p x.a x.n x.c w hx.len false hb
  · have e := hy
    unfold trR at e
    rw [if_pos hb] at e
    cases e
    exact rtrim_b x.p x.a x.n x.c w hx.len true hb
theorem bounce_r (x : PkA) (y : PkA) (b : Bool) (w : World) (hx : x.ok w) (hy : boR x = (y, b)) : Calls Try.prog 13 #[x.v] w fun e w' => e = .returned (.tuple #[y.v, .bool b]) ∧ New w w' := by
  cases hb : boB x.p
  · have e : (x, false) = (y, b) := by rw [← hy]; unfold boR; rw [if_neg (by rw [hb]; decide)]
    cases e
    exact bounce_b x.p x.a x.n x.c w hx.len false hb
  · have e := hy
    unfold boR at e
    rw [if_pos hb] at e
    cases e
    exact bounce_b x.p x.a x.n x.c w hx.len true hb
theorem rbounce_r (x : PkA) (y : PkA) (b : Bool) (w : World) (hx : x.ok w) (hy : boR x = (y, b)) : Calls Try.prog 14 #[x.v] w fun e w' => e = .returned (.tuple #[y.v, .bool b]) ∧ New w w' := by
  cases hb : boB x.p
  · have e : (x, false) = (y, b) := by rw [← hy]; unfold boR; rw [if_neg (by rw [hb]; decide)]
    cases e
    exact rbounce_b x.p x.a x.n x.c w hx.len false hb
  · have e := hy
    unfold boR at e
    rw [if_pos hb] at e
    cases e
    exact rbounce_b x.p x.a x.n x.c w hx.len true hb
theorem same_r (x y : PkA) (w : World) (hx : x.ok w) (hy : y.ok w) (b : Bool) (h : smB x.p y.p = b) : Calls Try.prog 16 #[x.v, y.v] w fun e w' => e = .returned (.bool b) ∧ New w w' :=
  same_b x.p y.p x.a y.a x.n x.c y.n y.c w hx.rd hy.rd hx.b hy.b b h
theorem rsame_r (x y : PkA) (w : World) (hx : x.ok w) (hy : y.ok w) (b : Bool) (h : smB x.p y.p = b) : Calls Try.prog 15 #[x.v, y.v] w fun e w' => e = .returned (.bool b) ∧ New w w' :=
  rsame_b x.p y.p x.a y.a x.n x.c y.n y.c w hx.rd hy.rd hx.b hy.b b h
theorem sm_self (P : Pk) : smB P P = true := by unfold smB; simp
end Go.Proofs.Ytdgleplmmbkgfaa
