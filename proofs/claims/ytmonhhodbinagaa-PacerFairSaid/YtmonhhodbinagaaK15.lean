/- The law on fairness. -/
import Derived.Test.YtmonhhodbinagaaK14a
import Derived.Test.YtmonhhodbinagaaK14b
namespace Go.Proofs.Ytmonhhodbinagaa
open Go.RowKit

theorem law_fair (n : Int) (A : Option Addr) (m c : Nat) (l : List Int) (u : Bool) (turns : Int) (w : World) (wn : (Lit.int .u8 n).wf = true) (hr : Rd w 1 A m c (l.map (Value.int .u8))) (wl : ∀ x ∈ l, (Lit.int .u8 x).wf = true) (_ : m * 1 ≤ 140737488351232) (wt : (Lit.int .u8 turns).wf = true) :
    Calls Try.prog 3 #[.int .u8 n, .slice A m c, .bool u, .int .u8 turns] w fun e w' => e = .returned (.bool true) ∧ New w w' := by
  cases u
  · exact fair0 n A m c l turns w wn hr wl wt
  · exact fair1 n A m c l turns w wn hr wl wt
end Go.Proofs.Ytmonhhodbinagaa
