/- More small facts on rows of a call's own. Nothing of the program is claimed here. -/
import Derived.Test.YtkiplbhnnjfjaaaB
namespace Go.Proofs.Ytkiplbhnnjfjaaa
set_option linter.unusedVariables false
set_option linter.unusedSimpArgs false
open Go.RowKit

section
variable {w : World} {base n c : Nat} {e : TypeId} {sz : Nat} {A : Option Addr} {ad : Addr} {xs : List Value}
theorem Own.addr (h : Own w base e sz (some ad) n c xs) : ad = ⟨ad.block, 0, none⟩ := by
  rcases h.row.2 with ⟨hv, _⟩ | ⟨g, cap, cur, hv, _⟩
  · cases hv
  · cases hv; rfl
theorem Own.free (h : Own w base e sz (some ad) n c xs) (j : Nat) : w.frozen? (ad.add j) = false := by
  rcases h.row.2 with ⟨hv, _⟩ | ⟨g, cap, cur, hv, hb, hg, _⟩
  · cases hv
  · cases hv
    rw [add_at]
    exact blk_free hg _
theorem Own.set (h : Own w base e sz (some ad) n c xs) (j : Nat) (hj : j < xs.length) (u : Value) (hu : u.oneCell' = true) : Own (w.setCell (ad.add j) u) base e sz (some ad) n c (xs.set j u) := by
  rcases h.row with ⟨hl, ⟨hv, _⟩ | ⟨g, cap, cur, hv, hb, hg, hn, hm, hs, ht⟩⟩
  · cases hv
  · cases hv
    refine ⟨⟨by rw [List.length_set]; exact hl, .inr ⟨g, c, cur.setIfInBounds j u, rfl, hb, ?_, hn, hm, by simpa using hs, ?_⟩⟩, fun v hv => ?_⟩
    · rw [add_at, Nat.zero_add]
      exact blk_set hg j u
    · rw [Array.toList_setIfInBounds, List.take_set, ht]
    · rcases List.mem_or_eq_of_mem_set hv with hv | rfl
      · exact h.one v hv
      · exact hu
theorem Own.ext_set (h : Own w base e sz (some ad) n c xs) (j : Nat) (u : Value) : Ext (inA (some ad)) w (w.setCell (ad.add j) u) :=
  (Ext.refl _ w).setCell (fun _ => ⟨ad, rfl, by rw [add_block]⟩) u
/-- A row of one's own that is not nil, or has an element. -/
theorem Own.some (h : Own w base e sz A n c xs) (hn : 0 < n) : ∃ ad, A = some ad := h.rd.some hn
end

theorem run_cut_m {P : Program} (t e sz : Nat) (ht : P.underlying t = some (.slice e)) (hi : (P.info? e).map (fun i => i.size) = some sz) (A : Option Addr) (n c : Nat) (hi' mx : Int) (k m : Nat) (e2 : hi' = k) (e3 : mx = m) (h1 : k ≤ m) (h2 : m ≤ c) (kh km : IntKind) :
    ∀ W : World, (Instr.slice t (.slice A n c) none (some (.int kh hi')) (some (.int km mx))).run P W = .ok (.slice A k m) W := by
  intro W
  obtain ⟨i, hj, hz⟩ := Option.map_eq_some_iff.1 hi
  subst hz; subst e2; subst e3
  have : Option.map (fun x => x.add 0) A = A := by cases A <;> simp [Addr.add]
  simp [Instr.slice, Instr.sliceBounds, Instr.sliceBound, run_underlying ht, sizeOf, typeInfo, hj, asIntOf, h1, h2, this]

/-- A callee that turns nothing, in a quiet walk. -/
theorem quiet_same {P : Program} {f : FuncId} {args : Array Value} {w : World} {n : Nat} {v : Value} (h : Calls P f args (w.drewN n) fun e w' => e = .returned v ∧ w.drewN n = w') : Calls P f args (w.drewN n) fun e w'' => e = .returned v ∧ ∃ m, w'' = w.drewN m :=
  h.mono fun _ _ ⟨he, hm⟩ => ⟨he, n, hm.symm⟩
theorem new_draw (w : World) (n : Nat) : New w (w.drewN n) := (Ext.refl _ w).drewN n

/-! ### folds -/
theorem foldl_take {α β : Type} (f : β → α → β) (z : β) (l : List α) (k : Nat) (a : α) (h : l[k]? = some a) : (l.take (k + 1)).foldl f z = f ((l.take k).foldl f z) a := by
  rw [List.take_add_one, h, Option.toList_some, List.foldl_append]
  rfl
theorem take_snoc {α : Type} (l : List α) (k : Nat) (a : α) (h : l[k]? = some a) : l.take (k + 1) = l.take k ++ [a] := by
  rw [List.take_add_one, h, Option.toList_some]
end Go.Proofs.Ytkiplbhnnjfjaaa
