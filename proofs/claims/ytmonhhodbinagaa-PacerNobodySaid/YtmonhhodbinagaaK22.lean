/- The law on pacers that nobody made: its argument. -/
import Derived.Test.YtmonhhodbinagaaK21
import Derived.Test.YtmonhhodbinagaaR2
import Derived.Lib.SmallJoins
namespace Go.Proofs.Ytmonhhodbinagaa
open Go.RowKit Go.Maps
/-- A key of the document's, as a value. -/
abbrev rkV (x : Int × Int) : Value := .agg #[.int .i64 x.1, .int .i64 x.2]
open Go.ChangeShapes Go.WideShapes in
theorem open_arg49 {H : Type} {enc : TypeId × Value → H} {W : World} {r : Reach} {b0 : Nat} {v : Value} {d : DataW H} {ps : List MemPlace} {ts : List TypeId} {ds : List (DataW H)} {j : Nat}
    (hv : Value.okWide Try.prog W r b0 49 v) (_ : (DataW.weightsEach Try.prog ts ds).all (· ≤ reachBytes) = true) (_ : ts[j]? = some 49) (_ : ds[j]? = some d)
    (h : DataW.Trod enc Try.prog W 0 (fun _ => true) true 49 v d ps) : ∃ x : Int × Int, v = rkV x ∧ ((Lit.int .i64 x.1).wf = true ∧ (Lit.int .i64 x.2).wf = true) := by
  obtain ⟨v0, v1, y0, y1, n, rfl, _, _, h0, h1⟩ := Go.Joins.open_agg2 Try.underlying49 (by kernel_rfl) (by kernel_rfl) hv h
  obtain ⟨a, e0, _, w0⟩ := DataW.trod_int Try.underlying3 h0
  obtain ⟨b, e1, _, w1⟩ := DataW.trod_int Try.underlying3 h1
  cases e0
  cases e1
  exact ⟨(a, b), rfl, by assumption, by assumption⟩
theorem law_nobody (k : Int × Int) (n : Int) (w : World) (_ : (Lit.int .i64 k.1).wf = true ∧ (Lit.int .i64 k.2).wf = true) (_ : (Lit.int .i64 n).wf = true) :
    Calls Try.prog 7 #[rkV k, .int .i64 n] w fun e w' => e = .returned (.bool true) ∧ New w w' := nobody_walk k.1 k.2 n w
end Go.Proofs.Ytmonhhodbinagaa
