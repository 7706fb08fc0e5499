/- What a range over a ring's iterator keeps; small facts. Nothing of the program is claimed here. -/
import Derived.Test.YtmonhhodbinagaaK23
import Derived.RangeFuncNested
import Derived.RangeFuncBound
import Derived.RangeFuncBox
import Derived.RangeFuncCalls
import Derived.RangeFuncLeaves
import Derived.Shelf.Abstract
import Derived.Shelf.RegionOpen
import Derived.WalkKit
import Derived.OwnWalkIn
import Derived.TacticsInMore
import Derived.LoopNIn
import Derived.LoopIn
namespace Go.Proofs.Ytmonhhodbinagaa
open Go.RowKit

/-- Block k holds the row of the slice that lies in box B. -/
def rowAt (W : World) (B k : Nat) : Prop := ∃ A n c, W.cell? ⟨B, 0, none⟩ = some (.slice A n c) ∧ inA A k
/-- What a round keeps: rows at or beyond T that are not the one gathered in box B. -/
structure KpB (B T : Nat) (W W' : World) : Prop where
  size : W.heap.size ≤ W'.heap.size
  same : ∀ k o, T ≤ k → ¬ rowAt W B k → W.heap[k]? = some o → o.isCells = true → W'.heap[k]? = some o
  row : ∀ k, rowAt W' B k → k < W.heap.size → rowAt W B k
theorem KpB.trans {B T : Nat} {U V W : World} (h : KpB B T U V) (k : KpB B T V W) : KpB B T U W :=
  ⟨Nat.le_trans h.size k.size, fun i o hi hr ho hc => k.same i o hi (fun hv => hr (h.row i hv (Array.getElem?_eq_some_iff.1 ho).1)) (h.same i o hi hr ho hc) hc,
    fun i hi hl => h.row i (k.row i hi (Nat.lt_of_lt_of_le hl h.size)) hl⟩
theorem KpB.put {B T : Nat} {w : World} (hB : B < w.heap.size) (W : World) (l : Nat) (o o' : Obj) (hl : w.heap.size ≤ l) (h : W.heap[l]? = some o) (ho : o.isCells = false) (_ : o.isWalk = false) : KpB B T W (W.putObj l o') := by
  have hc : (W.putObj l o').cell? ⟨B, 0, none⟩ = W.cell? ⟨B, 0, none⟩ := by
    refine World.cell?_of_block ?_
    exact World.putObj_heap_other (by show B ≠ l; omega)
  refine ⟨by simp, fun i q _ _ hq hcq => ?_, fun i hi _ => ?_⟩
  · have : i ≠ l := fun e => by subst e; rw [h] at hq; cases hq; rw [ho] at hcq; cases hcq
    exact (World.putObj_heap_other this).trans hq
  · obtain ⟨A, n, c, h1, h2⟩ := hi
    rw [hc] at h1
    exact ⟨A, n, c, h1, h2⟩
theorem New.grown {W W' : World} (h : New W W') : W.grownBy W' none := ⟨h.os, h.tape, h.output, h.size, fun k hk _ => h.block k hk (fun h => h)⟩
theorem rowAt.new {W W' : World} (h : New W W') {B k : Nat} (hB : B < W.heap.size) (hr : rowAt W' B k) : rowAt W B k := by
  obtain ⟨A, n, c, h1, h2⟩ := hr
  exact ⟨A, n, c, by rw [← h1]; exact (World.cell?_of_block (h.block B hB (fun h => h))).symm, h2⟩
theorem rowAt.below {w W : World} {T : Nat} (h : Below T w W) {B k : Nat} (hB : B < T) (hr : rowAt W B k) : rowAt w B k := by
  obtain ⟨A, n, c, h1, h2⟩ := hr
  exact ⟨A, n, c, by rw [← h1]; exact (World.cell?_of_block (h.block B hB)).symm, h2⟩

theorem Own.cells {w : World} {base n c : Nat} {e : TypeId} {sz : Nat} {A : Option Addr} {xs : List Value} (h : Own w base e sz A n c xs) {i : Nat} (hi : inA A i) : ∃ o : Obj, w.heap[i]? = Option.some o ∧ o.isCells = true := by
  obtain ⟨ad, rfl, rfl⟩ := hi
  rcases h.row.2 with ⟨hv, _⟩ | ⟨g, cap, cur, hv, hb, hg, _⟩
  · cases hv
  · cases hv
    exact ⟨_, hg, rfl⟩
theorem KpB.set {B T p : Nat} {W : World} {cs : Array Value} {t : TypeId} (hp : W.heap[p]? = some (.cells cs t)) (hpT : p < T) (hpB : p ≠ B) (v : Value) : KpB B T W (W.setCell ⟨p, 0, none⟩ v) := by
  have he : Ext (fun k => k = p) W (W.setCell ⟨p, 0, none⟩ v) := (Ext.refl (fun k => k = p) W).setCell (p := ⟨p, 0, none⟩) (fun _ => rfl) v
  refine ⟨he.size, fun k o hk _ ho _ => he.keep ho (by omega), fun k hk _ => ?_⟩
  obtain ⟨A, n, c, h1, h2⟩ := hk
  refine ⟨A, n, c, ?_, h2⟩
  rw [← h1]
  exact (World.cell?_of_block (Below.heap_setCell _ _ _ _ (fun e => hpB e.symm))).symm
section
variable {F : Fence} {N : Nat} {P : Program}
/-- append, inside a fence. -/
theorem wpListIn_app {w : World} {ops : Array Oper} {rest : List Oper} {o : Oper} {a : Act} {Q : Exit → Act → World → Prop} (hgd : o.guard = none) (s x : Operand) (t : TypeId)
    (ho : o.op = .call { callee := .builtin .append, args := #[s, x], argTypes := #[t, t] })
    (base : Nat) (e : TypeId) (z : Value) (sz bytes : Nat) (ht : P.underlying t = some (.slice e)) (hinfo : (P.info? e).map (fun i => (i.zero, i.size, i.bytes)) = some (some z, sz, bytes)) (hzs : z.cells.size = sz) (hsz : 0 < sz) (hb0 : 0 < bytes)
    {A B : Option Addr} {n c m d : Nat} {xs ys : List Value} (hs : a.eval s = .slice A n c) (hx : a.eval x = .slice B m d) (hown : Own w base e sz A n c xs) (hr : Rd w sz B m d ys) (hbytes : (n + m) * bytes ≤ 140737488355328) (hbase : base ≤ w.heap.size)
    (h : ∀ A' c' w', Own w' base e sz A' (n + m) c' (xs ++ ys) → Ext (inA A) w w' → (A' = A ∨ A' = some ⟨w.heap.size, 0, none⟩) → wpListIn F N P ops Q rest (a.put o.dst (.slice A' (n + m) c')) w') :
    wpListIn F N P ops Q (o :: rest) a w := by
  refine wpListIn_plain hgd fun K hK => ?_
  obtain ⟨A', c', w', hrun, h2, h3, h4⟩ := run_app (P := P) w base t o.type e z sz bytes ht hinfo hzs hsz hb0 hown hr hbytes hbase
  unfold Oper.wpIn
  refine ⟨?_, ?_⟩
  · simp [Oper.about, ho, resolve, Target.leads, Sem.run_pure]
  · rw [Oper.semAt_plain F _ _ (by rw [ho]; intro c hc'; cases hc')]
    simp [execOp, ho, resolve, invoke, builtin, hs, hx, hrun, Result.andThen]
    exact hK _ _ (h A' c' w' h2 h3 h4)
end
theorem keepsOthers_of {S : Nat → Prop} {W W' : World} (h : Ext S W W') (hS : ∀ k o, S k → W.heap[k]? = some o → o.isCells = true) : KeepsOthers W W' :=
  ⟨h.size, fun k o hk ho => h.keep hk (fun hs => by rw [hS k o hs hk] at ho; cases ho)⟩
/-- What has come when k rounds are over. -/
def upto {α : Type} (f : Nat → α) (k : Nat) : List α := (List.range k).map f
theorem upto_succ {α : Type} (f : Nat → α) (k : Nat) : upto f (k + 1) = upto f k ++ [f k] := by simp [upto, List.range_succ]
theorem upto_length {α : Type} (f : Nat → α) (k : Nat) : (upto f k).length = k := by simp [upto]
end Go.Proofs.Ytmonhhodbinagaa
