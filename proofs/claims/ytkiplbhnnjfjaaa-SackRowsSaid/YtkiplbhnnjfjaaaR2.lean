/- An argument that is a slice of strings, or of truth values, opened. Nothing of the program is claimed here. -/
import Derived.Test.YtkiplbhnnjfjaaaR
import Derived.ChangeSame
namespace Go.Proofs.Ytkiplbhnnjfjaaa
set_option linter.unusedVariables false
set_option linter.unusedSimpArgs false
open Go.RowKit Go.ChangeShapes Go.WideShapes

theorem trod_struct3 {H : Type} {enc : TypeId × Value → H} {P : Program} {w : World} {base : Nat} {spare : Nat → Bool} {held : Bool} {t : TypeId} {f0 f1 f2 : Field} {fuel : Nat} {cs : List Value} {x : DataW H × List MemPlace} (ht : P.underlying t = some (.struct #[f0, f1, f2])) (h : DataW.trod enc P w base spare held fuel t cs = some x) :
    ∃ y0 y1 y2 n, x = (.agg [y0.1, y1.1, y2.1], y0.2 ++ (y1.2 ++ y2.2)) ∧ cs.length = P.cellsOf t ∧ DataW.trod enc P w base spare held n f0.type ((cs.drop f0.offset).take (P.cellsOf f0.type)) = some y0 ∧
      DataW.trod enc P w base spare held n f1.type ((cs.drop f1.offset).take (P.cellsOf f1.type)) = some y1 ∧ DataW.trod enc P w base spare held n f2.type ((cs.drop f2.offset).take (P.cellsOf f2.type)) = some y2 := by
  obtain ⟨xs, n, _, rfl, hl, hlen, hf⟩ := DataW.trod_struct ht h
  match xs, hlen with
  | [y0, y1, y2], _ => exact ⟨y0, y1, y2, n, by simp, hl, by simpa using hf 0 f0 rfl, by simpa using hf 1 f1 rfl, by simpa using hf 2 f2 rfl⟩

theorem flat_one {α : Type} (f : α → Value) (l : List α) : (l.flatMap fun a => [f a]) = l.map f := by
  induction l with
  | nil => rfl
  | cons p l ih => rw [List.flatMap_cons, ih, List.map_cons]; rfl
section
variable {H : Type} {enc : TypeId × Value → H} {P : Program} {W : World} {t0 e : TypeId} {a : Option Addr} {n c : Nat} {d : DataW H} {ps : List MemPlace} {ts : List TypeId} {ds : List (DataW H)} {j t : Nat}
theorem open_strs {B : Nat} (hu : P.underlying t0 = some (.slice e)) (he : P.underlying e = some .string) (hc : P.cellsOf e = 1) (hB : P.bytesOf e = B)
    (hsz : (DataW.weightsEach P ts ds).all (· ≤ reachBytes) = true) (ht : ts[j]? = some t0) (hd : ds[j]? = some d) (h : DataW.Trod enc P W 0 (fun _ => true) true t0 (.slice a n c) d ps) :
    ∃ l : List ByteArray, Rd W 1 a n c (l.map Value.string) ∧ ∀ x ∈ l, x.size ≤ 140737488351232 := by
  obtain ⟨l, _, hr, hw, _⟩ := open_rows (E := fun p : ByteArray => [Value.string p]) (wf := fun p => p.size ≤ 140737488351232) (sz := 1) (B := B) hu hc hB (fun _ => rfl) (fun a _ u hu => by simp at hu; subst hu; rfl)
    (fun n cs y h hl => by
      obtain ⟨s, hs, hy, _⟩ := DataW.trod_string he h
      refine ⟨s, hs, ?_⟩
      rw [hy] at hl
      have := hl s.size (by simp [DataW.weights])
      exact this) (Light.at_ hsz ht hd) h
  rw [flat_one] at hr
  exact ⟨l, hr, hw⟩
theorem open_bools {B : Nat} (hu : P.underlying t0 = some (.slice e)) (he : P.underlying e = some .bool) (hc : P.cellsOf e = 1) (hB : P.bytesOf e = B)
    (hsz : (DataW.weightsEach P ts ds).all (· ≤ reachBytes) = true) (ht : ts[j]? = some t0) (hd : ds[j]? = some d) (h : DataW.Trod enc P W 0 (fun _ => true) true t0 (.slice a n c) d ps) :
    ∃ l : List Bool, Rd W 1 a n c (l.map Value.bool) := by
  obtain ⟨l, _, hr, _, _⟩ := open_rows (E := fun p : Bool => [Value.bool p]) (wf := fun _ => True) (sz := 1) (B := B) hu hc hB (fun _ => rfl) (fun a _ u hu => by simp at hu; subst hu; rfl)
    (fun n cs y h hl => by
      obtain ⟨s, hs, hy⟩ := DataW.trod_bool he h
      exact ⟨s, hs, trivial⟩) (Light.at_ hsz ht hd) h
  rw [flat_one] at hr
  exact ⟨l, hr⟩
end
end Go.Proofs.Ytkiplbhnnjfjaaa
