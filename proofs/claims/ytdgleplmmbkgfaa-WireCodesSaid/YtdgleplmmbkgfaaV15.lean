/- Walks: data without its payload; a header that goes back. -/
import Derived.Test.YtdgleplmmbkgfaaV14
import Derived.Test.YtdgleplmmbkgfaaV11
namespace Go.Proofs.Ytdgleplmmbkgfaa
open Go.RowKit
set_option maxRecDepth 100000

/-- Data that may be trimmed. -/
def trB (P : Pk) : Bool := okB P && decide (P.kd = 1) && !hs P.fl 8
def trP (P : Pk) : Pk := { P with fl := P.fl + 8, b := [] }
/-- A header that may go back. -/
def boB (P : Pk) : Bool := okB P && decide (P.kd = 1) && hs P.fl 8 && !hs P.fl 16
def boP (P : Pk) : Pk := { P with sr := P.ds, ds := P.sr, fl := P.fl + 16 }
theorem or_bit : ∀ fl : Fin 64, ∀ k : Fin 6, hs ((fl.val : Nat) : Int) ((2 ^ k.val : Nat) : Int) = false → bits .or .i64 ((fl.val : Nat) : Int) ((2 ^ k.val : Nat) : Int) = ((fl.val : Nat) : Int) + ((2 ^ k.val : Nat) : Int) := by decide +kernel
theorem or_8 (fl : Int) (h0 : 0 ≤ fl) (h1 : fl ≤ 63) (h : hs fl 8 = false) : bits .or .i64 fl 8 = fl + 8 := by
  obtain ⟨n, rfl⟩ := Int.eq_ofNat_of_zero_le h0
  exact or_bit ⟨n, by omega⟩ 3 h
theorem or_16 (fl : Int) (h0 : 0 ≤ fl) (h1 : fl ≤ 63) (h : hs fl 16 = false) : bits .or .i64 fl 16 = fl + 16 := by
  obtain ⟨n, rfl⟩ := Int.eq_ofNat_of_zero_le h0
  exact or_bit ⟨n, by omega⟩ 4 h
end Go.Proofs.Ytdgleplmmbkgfaa
