/- Walks: sizes that are written out. -/
import Derived.Test.YtdgleplmmbkgfaaC5
namespace Go.Proofs.Ytdgleplmmbkgfaa
open Go.RowKit
set_option maxRecDepth 100000

theorem put_lit (A : Option Addr) (m c : Nat) (xs : List Value) (sz : Int) (size : Nat) (n : Int) (w : World) (e : sz = size) (hr : Rd w 1 A m c xs) (hn : m ≤ 140737488355000) (h1 : 1 ≤ size) (h8 : size ≤ 8) :
    Calls Try.prog 23 #[.slice A m c, .int .i64 sz, .int .u64 n] w fun e w' => ∃ A' c', e = .returned (.slice A' (m + size) c') ∧ Own w' w.heap.size 5 1 A' (m + size) c' (xs ++ bts (putL size n size)) ∧ New w w' := by
  subst e
  exact put_yes A m c xs size n w hr hn h1 h8
theorem get_lit (A : Option Addr) (m c : Nat) (l : List Int) (sz : Int) (size : Nat) (w : World) (e : sz = size) (hr : Rd w 1 A m c (bts l)) (hl : isB l) (hm : size ≤ m) (h1 : 1 ≤ size) (h8 : size ≤ 8) :
    Calls Try.prog 46 #[.slice A m c, .int .i64 sz] w fun e w' => e = .returned (.tuple #[.int .u64 (getN (l.take size)), .slice (sl A c size 1) (m - size) (c - size), .bool true]) ∧ ∃ nd, w' = w.drewN nd := by
  subst e
  exact get_yes A m c l size w hr hl hm h1 h8
theorem number_lit (p : Nat) (A : Option Addr) (m c : Nat) (l : List Int) (sz : Int) (size : Nat) (w : World) (e : sz = size) (h : Rdr w p A m c true) (hr : Rd w 1 A m c (bts l)) (hl : isB l) (hm : size ≤ m) (h1 : 1 ≤ size) (h8 : size ≤ 8) :
    Calls Try.prog 27 #[.pointer (some ⟨p, 0, none⟩), .int .i64 sz] w fun e w' => e = .returned (.int .u64 (getN (l.take size))) ∧ Rdr w' p (sl A c size 1) (m - size) (c - size) true ∧ Ext (fun k => k = p) w w' := by
  subst e
  exact number_yes p A m c l size w h hr hl hm h1 h8

end Go.Proofs.Ytdgleplmmbkgfaa
