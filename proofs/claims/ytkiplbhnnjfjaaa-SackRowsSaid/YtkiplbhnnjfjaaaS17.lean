/- The laws' arguments: rows of ranges opened. -/
import Derived.Test.YtkiplbhnnjfjaaaS14
import Derived.Test.YtkiplbhnnjfjaaaR
import Derived.Test.YtkiplbhnnjfjaaaR2
import Derived.Lib.SmallJoins
namespace Go.Proofs.Ytkiplbhnnjfjaaa
set_option linter.unusedVariables false
set_option linter.unusedSimpArgs false
open Go.RowKit
set_option maxRecDepth 100000
open Go.ChangeShapes Go.WideShapes in
theorem open_rg {H : Type} {enc : TypeId × Value → H} {W : World} : ∀ (n : Nat) (cs : List Value) (y : DataW H × List MemPlace), DataW.trod enc Try.prog W 0 (fun _ => true) true n 53 cs = some y → Light Try.prog 53 y.1 →
    ∃ a : Rg, cs = [.int .i64 a.1, .int .i64 a.2] ∧ True := by
  intro n cs y h _
  obtain ⟨y0, y1, m, rfl, hl, h0, h1⟩ := trod_struct2 Try.underlying53 h
  obtain ⟨a0, e0, _, _⟩ := DataW.trod_int Try.underlying3 h0
  obtain ⟨a1, e1, _, _⟩ := DataW.trod_int Try.underlying3 h1
  rw [show Try.prog.cellsOf 53 = 2 by kernel_rfl] at hl
  match cs, hl with
  | [c0, c1], _ =>
    simp [show Try.prog.cellsOf 3 = 1 by kernel_rfl] at e0 e1
    exact ⟨(a0, a1), by rw [e0, e1], trivial⟩
open Go.ChangeShapes Go.WideShapes in
theorem open_rows53 {H : Type} {enc : TypeId × Value → H} {W : World} {a : Option Addr} {n c : Nat} {d : DataW H} {ps : List MemPlace} {ts : List TypeId} {ds : List (DataW H)} {j t : Nat}
    (hsz : (DataW.weightsEach Try.prog ts ds).all (· ≤ reachBytes) = true) (ht : ts[j]? = some t) (hd : ds[j]? = some d) (e : t = 32) (h : DataW.Trod enc Try.prog W 0 (fun _ => true) true 32 (.slice a n c) d ps) :
    ∃ l : List Rg, Rd W 2 a n c (kcs l) ∧ True := by
  subst e
  obtain ⟨l, _, hr, _, _⟩ := open_rows (E := fun a : Int × Int => [.int .i64 a.1, .int .i64 a.2]) (wf := fun _ => True) (sz := 2) (B := 16) Try.underlying32 (by kernel_rfl) (by kernel_rfl) (fun _ => rfl) (fun a _ u hu => by simp at hu; rcases hu with rfl | rfl <;> rfl) open_rg (Light.at_ hsz ht hd) h
  exact ⟨l, hr, trivial⟩
/-- A range of the document's, as a value. -/
abbrev rgV (x : Rg) : Value := .agg #[.int .i64 x.1, .int .i64 x.2]
open Go.ChangeShapes Go.WideShapes in
theorem open_arg53 {H : Type} {enc : TypeId × Value → H} {W : World} {r : Reach} {b0 : Nat} {v : Value} {d : DataW H} {ps : List MemPlace} {ts : List TypeId} {ds : List (DataW H)} {j : Nat}
    (hv : Value.okWide Try.prog W r b0 53 v) (_ : (DataW.weightsEach Try.prog ts ds).all (· ≤ reachBytes) = true) (_ : ts[j]? = some 53) (_ : ds[j]? = some d)
    (h : DataW.Trod enc Try.prog W 0 (fun _ => true) true 53 v d ps) : ∃ x : Rg, v = rgV x ∧ True := by
  obtain ⟨v0, v1, y0, y1, n, rfl, _, _, h0, h1⟩ := Go.Joins.open_agg2 Try.underlying53 (by kernel_rfl) (by kernel_rfl) hv h
  obtain ⟨a, e0, _, w0⟩ := DataW.trod_int Try.underlying3 h0
  obtain ⟨b, e1, _, w1⟩ := DataW.trod_int Try.underlying3 h1
  cases e0
  cases e1
  exact ⟨(a, b), rfl, trivial⟩
theorem law_sets (A : Option Addr) (n c : Nat) (a : List Rg) (B : Option Addr) (m d : Nat) (b : List Rg) (r : Rg) (w : World) (h : Rd w 2 A n c (kcs a)) (_ : True) (g : Rd w 2 B m d (kcs b)) (_ : True) (_ : True) :
    Calls Try.prog 6 #[.slice A n c, .slice B m d, rgV r] w fun e w' => e = .returned (.bool true) ∧ New w w' := sets_walk A n c a B m d b r w h g
end Go.Proofs.Ytkiplbhnnjfjaaa
