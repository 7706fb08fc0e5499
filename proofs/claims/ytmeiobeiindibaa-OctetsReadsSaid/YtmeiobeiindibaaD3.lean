/- The law on readers: its second argument opened, and the walk in the row's words. -/
import Derived.Test.YtmeiobeiindibaaD2
import Derived.Test.YtmeiobeiindibaaR
import Derived.ChangeSame
namespace Go.Proofs.Ytmeiobeiindibaa
open Go.RowKit Go.ChangeShapes Go.WideShapes

theorem open_op {H : Type} {enc : TypeId × Value → H} {W : World} : ∀ (n : Nat) (cs : List Value) (y : DataW H × List MemPlace), DataW.trod enc Try.prog W 0 (fun _ => true) true n 37 cs = some y → Light Try.prog 37 y.1 →
    ∃ a : Int × Int, cs = [.int .u8 a.1, .int .i64 a.2] ∧ True := by
  intro n cs y h _
  obtain ⟨y0, y1, m, rfl, hl, h0, h1⟩ := trod_struct2 Try.underlying37 h
  obtain ⟨a0, e0, _, _⟩ := DataW.trod_int Try.underlying5 h0
  obtain ⟨a1, e1, _, _⟩ := DataW.trod_int Try.underlying3 h1
  rw [show Try.prog.cellsOf 37 = 2 by kernel_rfl] at hl
  match cs, hl with
  | [c0, c1], _ =>
    simp [show Try.prog.cellsOf 5 = 1 by kernel_rfl, show Try.prog.cellsOf 3 = 1 by kernel_rfl] at e0 e1
    exact ⟨(a0, a1), by rw [e0, e1], trivial⟩

theorem open_rows37 {H : Type} {enc : TypeId × Value → H} {W : World} {a : Option Addr} {n c : Nat} {d : DataW H} {ps : List MemPlace} {ts : List TypeId} {ds : List (DataW H)} {j t : Nat}
    (hsz : (DataW.weightsEach Try.prog ts ds).all (· ≤ reachBytes) = true) (ht : ts[j]? = some t) (hd : ds[j]? = some d) (e : t = 31) (h : DataW.Trod enc Try.prog W 0 (fun _ => true) true 31 (.slice a n c) d ps) :
    ∃ l : List (Int × Int), Rd W 2 a n c (opCells l) ∧ True := by
  subst e
  obtain ⟨l, _, hr, _, _⟩ := open_rows (E := fun a : Int × Int => [.int .u8 a.1, .int .i64 a.2]) (wf := fun _ => True) (sz := 2) (B := 16) Try.underlying31 (by kernel_rfl) (by kernel_rfl) (fun _ => rfl) (fun a _ u hu => by simp at hu; rcases hu with rfl | rfl <;> rfl) open_op (Light.at_ hsz ht hd) h
  exact ⟨l, hr, trivial⟩

theorem law_reads (A : Option Addr) (m c : Nat) (l : List Int) (AO : Option Addr) (n2 cO : Nat) (ops : List (Int × Int)) (w : World) (hr : Rd w 1 A m c (l.map (Value.int .u8))) (hl : ∀ x ∈ l, (Lit.int .u8 x).wf = true) (_ : m * 1 ≤ 140737488351232) (ho : Rd w 2 AO n2 cO (opCells ops)) (_ : True) :
    Calls Try.prog 4 #[.slice A m c, .slice AO n2 cO] w fun e w' => e = .returned (.bool true) ∧ New w w' :=
  law_reads_walk A m c l AO n2 cO ops w hr (fun x hx => by have := bounds_u8 (hl x hx); omega) ho
end Go.Proofs.Ytmeiobeiindibaa
