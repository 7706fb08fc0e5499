/- The law on Put, for every input. -/
import Derived.Test.YtmeiobeiindibaaC8
namespace Go.Proofs.Ytmeiobeiindibaa
open Go.RowKit
theorem law_put (A : Option Addr) (m c : Nat) (l : List Int) (size n : Int) (w : World) (hr : Rd w 1 A m c (l.map (Value.int .u8))) (hl : ∀ x ∈ l, (Lit.int .u8 x).wf = true) (hm : m * 1 ≤ 140737488351232) (_ : (Lit.int .i64 size).wf = true) (hn : (Lit.int .u64 n).wf = true) :
    Calls Try.prog 3 #[.slice A m c, .int .i64 size, .int .u64 n] w fun e w' => e = .returned (.bool true) ∧ New w w' := by
  have hb : isB l := fun x hx => by have := bounds_u8 (hl x hx); omega
  obtain ⟨n, rfl⟩ := Int.eq_ofNat_of_zero_le (bounds_u64 hn).1
  have hn' := (bounds_u64 hn).2
  by_cases h : 1 ≤ size ∧ size ≤ 8
  · obtain ⟨size, rfl⟩ := Int.eq_ofNat_of_zero_le (show 0 ≤ size by omega)
    by_cases hs : size ≤ min m 500
    · exact law_put_in A m c l size n w hr hb (by omega) (by omega) (by omega) (by omega) hs
    · exact law_put_short A m c l size n w hr hb (by omega) (by omega) (by omega) (by omega) (by omega)
  · exact law_put_out A m c l size n w hr hb (by omega) (by omega)
end Go.Proofs.Ytmeiobeiindibaa
