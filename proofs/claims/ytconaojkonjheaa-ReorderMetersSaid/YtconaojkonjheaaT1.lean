/- A set of numbers, as a map's block holds it. -/
import Derived.Test.YtconaojkonjheaaM2
import Derived.Test.YtconaojkonjheaaB2
import Derived.Test.YtconaojkonjheaaChecked
import Derived.Test.YtconaojkonjheaaR2
import Derived.Maps.OwnSet
import Derived.Maps.OwnOps
import Derived.Deep.DeepCutAuto
namespace Go.Proofs.Ytconaojkonjheaa
open Go.RowKit Go.Maps
set_option maxRecDepth 100000

theorem lawK : Keyed Try.prog 3 := int_keyed Try.underlying3
theorem zeroU (w : World) : (zeroValue 70).run Try.prog w = .ok (.agg #[]) w := by kernel_rfl
def ki (n : Int) : Lit := .int .i64 n
theorem keyI {n : Int} (h : (Lit.int .i64 n).wf = true) : keyOf Try.prog 3 (.int .i64 n) = some (ki n) := keyOf_int_mk Try.underlying3 h
/-- Block b is a set of numbers: xs, each once. -/
def ISet (w : World) (b : Nat) (xs : List Int) : Prop :=
  ∃ D : DataW Unit, w.ownsMap Try.prog 3 unitElem b xs.length D ∧ (∀ k, (Lit.int .i64 k).wf = true → Maps.has D (ki k) = decide (k ∈ xs)) ∧ Maps.size D = xs.length
theorem ISet.lt {w : World} {b : Nat} {xs : List Int} (h : ISet w b xs) : b < w.heap.size := by
  obtain ⟨D, h, _⟩ := h
  exact h.lt
theorem ISet.keep {S : Nat → Prop} {w w' : World} {b : Nat} {xs : List Int} (h : ISet w b xs) (he : Ext S w w') (hs : ¬ S b) : ISet w' b xs := by
  have hlt := h.lt
  obtain ⟨D, ⟨es, clock, hb, hF, hn, hD⟩, h2, h3⟩ := h
  exact ⟨D, ⟨es, clock, he.keep hb hs, hF, hn, hD⟩, h2, h3⟩
theorem ISet.new {w w' : World} {b : Nat} {xs : List Int} (h : ISet w b xs) (he : New w w') : ISet w' b xs := h.keep he (fun h => h)
theorem ISet.made (w : World) : ISet (w.alloc (.map #[] 0)) w.heap.size [] :=
  ⟨.map [], World.ownsMap_made _ _ _ _, fun k _ => by simp [Maps.has], rfl⟩
theorem ISet.look {w : World} {b : Nat} {xs : List Int} (h : ISet w b xs) {n : Int} (hn : (Lit.int .i64 n).wf = true) : (Instr.lookup 52 (.map (some b)) (.int .i64 n) true).run Try.prog w = .ok (.tuple #[.agg #[], .bool (decide (n ∈ xs))]) w := by
  obtain ⟨D, h1, h2, _⟩ := h
  obtain ⟨v, ps, hrun, hv⟩ := h1.look_ok lawK Try.underlying52 (zeroU w) unitElem_mk (keyI hn)
  obtain ⟨rfl, _⟩ := unitElem_inv hv
  rw [hrun, h2 n hn]
theorem ISet.len {w : World} {b : Nat} {xs : List Int} (h : ISet w b xs) (ty : TypeId) : (Builtin.len_ #[52] ty #[.map (some b)]).run Try.prog w = .ok (.int .i64 xs.length) w := by
  obtain ⟨D, h1, _, h3⟩ := h
  rw [h1.len Try.underlying52 ty, h3]
theorem ISet.put {w : World} {b : Nat} {xs : List Int} (h : ISet w b xs) {n : Int} (hn : (Lit.int .i64 n).wf = true) (hnx : n ∉ xs) (hl : xs.length < 1000000) :
    ∃ w', (Instr.mapUpdate 52 (.map (some b)) (.int .i64 n) (.agg #[])).run Try.prog w = .ok () w' ∧ ISet w' b (xs ++ [n]) ∧ Ext (fun k => k = b) w w' := by
  obtain ⟨D, h1, h2, h3⟩ := h
  obtain ⟨w', hrun, ho, hg⟩ := h1.update lawK Try.underlying52 (by unfold maxLen; omega) (keyI hn) (unitElem_mk (H := Unit))
  refine ⟨w', hrun, ⟨_, by rw [List.length_append]; exact ho, fun k hk => ?_, ?_⟩, ⟨hg.os, hg.tape, hg.output, hg.size, fun k hk hs => hg.block k hk (fun e => hs (Option.some.inj e))⟩⟩
  · by_cases e : k = n
    · subst e
      rw [has_put_same h1.isMap (lawK.key (keyI hn))]
      simp
    · rw [has_put_other (fun h => e (by simpa [ki] using h)), h2 k hk]
      simp [e]
  · rw [size_put (h1.tidy lawK), h2 n hn, h3]
    simp [hnx]
end Go.Proofs.Ytconaojkonjheaa
