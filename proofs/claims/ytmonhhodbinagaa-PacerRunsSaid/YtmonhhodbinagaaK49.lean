/- The law's step, whole. -/
import Derived.Test.YtmonhhodbinagaaK46
import Derived.Test.YtmonhhodbinagaaK47
import Derived.Test.YtmonhhodbinagaaK48a
import Derived.Test.YtmonhhodbinagaaK48b
namespace Go.Proofs.Ytmonhhodbinagaa
open Go.RowKit Go.Maps
set_option maxRecDepth 100000

/-- What an op makes of a pacer. -/
def stepR (s : PS) (o : OpA) : PS :=
  if o.d % 8 = 0 then (knowR s o.k o.cls).1 else if o.d % 8 = 4 then (forgetR s o.k).1 else if o.d % 8 = 5 ∨ o.d % 8 = 6 then (tickR s).1 else (oweR s o.k o.n).1
theorem stepR_total (s : PS) (o : OpA) : (stepR s o).total ≤ s.total + 1 := by
  unfold stepR
  split
  · unfold knowR
    (repeat' split) <;> simp [knowS] <;> omega
  split
  · unfold forgetR
    (repeat' split) <;> simp [forgetS] <;> omega
  split
  · unfold tickR
    cases ht : tickS s with
    | none => show s.total ≤ _; omega
    | some v =>
      obtain ⟨s2, z⟩ := v
      show s2.total ≤ _
      unfold tickS at ht
      split at ht
      · cases ht
      · have h2 := congrArg (fun u => u.map (fun a => a.1.total)) ht
        simp at h2
        omega
  · unfold oweR
    (repeat' split) <;> simp [oweS] <;> omega
theorem step_any (w : World) (p : Nat) (s : PS) (T : Nat → Prop) (x : DA) (o : OpA) {Z : Nat → Prop} (h : Bth Z w p s T x) (hk : kwf o.k) (h60 : s.total < 1152921504606846976) (h0 : 0 ≤ o.d) (h255 : o.d ≤ 255) :
    Calls Try.prog 20 #[.pointer (some ⟨p, 0, none⟩), x.v, o.v] w fun e w' => ∃ y T', e = .returned (.tuple #[DA.v y, .bool true]) ∧ Bth Z w' p (stepR s o) T' y ∧ Ext T w w' ∧ ∀ k, T' k → T k ∨ w.heap.size ≤ k := by
  unfold stepR
  by_cases c0 : o.d % 8 = 0
  · rw [if_pos c0]; exact step0 w p s T x o h c0 h0 h255 _ _ rfl
  rw [if_neg c0]
  by_cases c4 : o.d % 8 = 4
  · rw [if_pos c4]; exact step4 w p s T x o h c4 hk h0 h255 _ _ _ rfl
  rw [if_neg c4]
  by_cases c5 : o.d % 8 = 5
  · rw [if_pos (.inl c5)]; exact step5 w p s T x o h c5 h60 h0 h255 _ _ _ _ rfl
  by_cases c6 : o.d % 8 = 6
  · rw [if_pos (.inr c6)]; exact step6 w p s T x o h c6 h60 h0 h255 _ _ _ _ rfl
  rw [if_neg (by omega)]
  exact step1 w p s T x o h ⟨c0, c4, c5, c6⟩ hk h0 h255 _ _ rfl
end Go.Proofs.Ytmonhhodbinagaa
