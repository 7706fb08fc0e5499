/- An argument that is a slice of strings, or of truth values, opened. Nothing of the program is claimed here. -/
import Derived.Test.YtafeeafccbdkfaaR
import Derived.ChangeSame
namespace Go.Proofs.Ytafeeafccbdkfaa
open Go.RowKit Go.ChangeShapes Go.WideShapes

theorem flat_one {α : Type} (f : α → Value) (l : List α) : (l.flatMap fun a => [f a]) = l.map f := by
  induction l with
  | nil => rfl
  | cons p l ih => rw [List.flatMap_cons, ih, List.map_cons]; rfl
section
variable {H : Type} {enc : TypeId × Value → H} {P : Program} {W : World} {t0 e : TypeId} {a : Option Addr} {n c : Nat} {d : DataW H} {ps : List MemPlace} {ts : List TypeId} {ds : List (DataW H)} {j t : Nat}
theorem open_strs {B : Nat} (hu : P.underlying t0 = some (.slice e)) (he : P.underlying e = some .string) (hc : P.cellsOf e = 1) (hB : P.bytesOf e = B)
    (hsz : (DataW.weightsEach P ts ds).all (· ≤ reachBytes) = true) (ht : ts[j]? = some t0) (hd : ds[j]? = some d) (h : DataW.Trod enc P W 0 (fun _ => true) true t0 (.slice a n c) d ps) :
    ∃ l : List ByteArray, Rd W 1 a n c (l.map Value.string) ∧ ∀ x ∈ l, x.size ≤ 140737488351232 := by
  obtain ⟨l, _, hr, hw, _⟩ := open_rows (E := fun p : ByteArray => [Value.string p]) (wf := fun p => p.size ≤ 140737488351232) (sz := 1) (B := B) hu hc hB (fun _ => rfl) (fun a _ u hu => by simp at hu; subst hu; rfl)
    (fun n cs y h hl => by
      obtain ⟨s, hs, hy, _⟩ := DataW.trod_string he h
      refine ⟨s, hs, ?_⟩
      rw [hy] at hl
      have := hl s.size (by simp [DataW.weights])
      exact this) (Light.at_ hsz ht hd) h
  rw [flat_one] at hr
  exact ⟨l, hr, hw⟩
theorem open_bools {B : Nat} (hu : P.underlying t0 = some (.slice e)) (he : P.underlying e = some .bool) (hc : P.cellsOf e = 1) (hB : P.bytesOf e = B)
    (hsz : (DataW.weightsEach P ts ds).all (· ≤ reachBytes) = true) (ht : ts[j]? = some t0) (hd : ds[j]? = some d) (h : DataW.Trod enc P W 0 (fun _ => true) true t0 (.slice a n c) d ps) :
    ∃ l : List Bool, Rd W 1 a n c (l.map Value.bool) := by
  obtain ⟨l, _, hr, _, _⟩ := open_rows (E := fun p : Bool => [Value.bool p]) (wf := fun _ => True) (sz := 1) (B := B) hu hc hB (fun _ => rfl) (fun a _ u hu => by simp at hu; subst hu; rfl)
    (fun n cs y h hl => by
      obtain ⟨s, hs, hy⟩ := DataW.trod_bool he h
      exact ⟨s, hs, trivial⟩) (Light.at_ hsz ht hd) h
  rw [flat_one] at hr
  exact ⟨l, hr⟩
end
end Go.Proofs.Ytafeeafccbdkfaa
