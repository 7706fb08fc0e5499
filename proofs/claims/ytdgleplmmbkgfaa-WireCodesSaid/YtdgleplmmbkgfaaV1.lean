/- Plain: packets, which may be. Nothing of the program is claimed here. -/
import Derived.Test.YtdgleplmmbkgfaaC6a
import Derived.Test.YtdgleplmmbkgfaaW
import Derived.Test.YtdgleplmmbkgfaaM3
import Derived.Deep.DeepCutAuto
namespace Go.Proofs.Ytdgleplmmbkgfaa
open Go.RowKit
set_option maxRecDepth 100000

structure Pk where
  kd : Int
  fl : Int
  pa : Int
  sr : Int
  ds : Int
  cn : Int
  sq : Int
  pl : Int
  b : List Int
/-- A packet, as a value, its payload at a place. -/
abbrev pkV (P : Pk) (A : Option Addr) (n c : Nat) : Value := .agg #[.int .i64 P.kd, .int .i64 P.fl, .int .i64 P.pa, .int .i64 P.sr, .int .i64 P.ds, .int .i64 P.cn, .int .i64 P.sq, .int .i64 P.pl, .slice A n c]
abbrev pkO (P : Pk) (A : Option Addr) (n c : Nat) (t : TypeId) : Obj := .cells #[.int .i64 P.kd, .int .i64 P.fl, .int .i64 P.pa, .int .i64 P.sr, .int .i64 P.ds, .int .i64 P.cn, .int .i64 P.sq, .int .i64 P.pl, .slice A n c] t
def inB (n lo hi : Int) : Bool := decide (lo ≤ n) && decide (n ≤ hi)
theorem inB_iff {n lo hi : Int} : inB n lo hi = true ↔ lo ≤ n ∧ n ≤ hi := by simp [inB]
theorem inB_no {n lo hi : Int} : inB n lo hi = false ↔ ¬ (lo ≤ n ∧ n ≤ hi) := by rw [← Bool.not_eq_true, inB_iff]
/-- Is a flag among some? -/
def hs (fl f : Int) : Bool := decide (fl / f % 2 = 1)
/-- May flags and payload of data be? -/
def dataB (fl pl : Int) (n : Nat) : Bool := inB fl 0 63 && decide (pl = 0) && !(hs fl 16 && !hs fl 8) && !(hs fl 4 && hs fl 2) && (if hs fl 4 || hs fl 8 then decide (n = 0) else inB n 1 1024)
def otherB (P : Pk) : Bool := decide (P.fl = 0) && decide (P.b = []) && (if P.kd = 4 then decide (P.sq = 0) else decide (P.pl = 0))
def hostsB (P : Pk) : Bool := inB P.sr 0 7 && inB P.ds 0 7 && decide (P.sr ≠ P.ds)
def numsB (P : Pk) : Bool := inB P.pa 0 7 && inB P.cn 1 1073741824 && inB P.sq 0 1152921504606846976 && inB P.pl 0 1152921504606846976
/-- May a packet be? -/
def okB (P : Pk) : Bool := inB P.kd 1 4 && hostsB P && numsB P && (if P.kd = 1 then dataB P.fl P.pl P.b.length else otherB P)
end Go.Proofs.Ytdgleplmmbkgfaa
