/- Small facts: numbers in their ranges, cells of rows of numbers. Nothing of the program is claimed here. -/
import Derived.Test.YtkiplbhnnjfjaaaB2
namespace Go.Proofs.Ytkiplbhnnjfjaaa
set_option linter.unusedVariables false
set_option linter.unusedSimpArgs false
open Go.RowKit

theorem wf_of_u8 {n : Int} (h : (Lit.int .u8 n).wf = true) : 0 ≤ n ∧ n ≤ 255 := by
  simp [Lit.wf, IntKind.min, IntKind.max, IntKind.signed, IntKind.bits] at h
  omega
theorem wf_of_u16 {n : Int} (h : (Lit.int .u16 n).wf = true) : 0 ≤ n ∧ n ≤ 65535 := by
  simp [Lit.wf, IntKind.min, IntKind.max, IntKind.signed, IntKind.bits] at h
  omega
theorem wf_of_u32 {n : Int} (h : (Lit.int .u32 n).wf = true) : 0 ≤ n ∧ n ≤ 4294967295 := by
  simp [Lit.wf, IntKind.min, IntKind.max, IntKind.signed, IntKind.bits] at h
  omega
theorem wf_of_u64 {n : Int} (h : (Lit.int .u64 n).wf = true) : 0 ≤ n ∧ n ≤ 18446744073709551615 := by
  simp [Lit.wf, IntKind.min, IntKind.max, IntKind.signed, IntKind.bits] at h
  omega
theorem wf_of_i64 {n : Int} (h : (Lit.int .i64 n).wf = true) : -9223372036854775808 ≤ n ∧ n ≤ 9223372036854775807 := by
  simp [Lit.wf, IntKind.min, IntKind.max, IntKind.signed, IntKind.bits] at h
  omega
theorem Rd.celln {w : World} {k : IntKind} {ad : Addr} {n c : Nat} {l : List Int} (h : Rd w 1 (Option.some ad) n c (l.map (Value.int k))) {i : Nat} {x : Int} (hx : l[i]? = Option.some x) : w.cell? (ad.add i) = Option.some (.int k x) :=
  h.cell ad rfl i _ (by rw [List.getElem?_map, hx]; rfl)
theorem Rd.lenn {w : World} {k : IntKind} {A : Option Addr} {n c : Nat} {l : List Int} (h : Rd w 1 A n c (l.map (Value.int k))) : l.length = n := by
  have := h.len
  simpa using this
theorem newCell {w w' : World} (h : New w w') {a : Addr} {v : Value} (hc : w.cell? a = some v) : w'.cell? a = some v :=
  (World.cell?_of_block (h.block _ (World.block_lt_of_cell? w _ hc) (fun h => h))).trans hc
theorem twoNew (w : World) (a b : Array Value) (s t : TypeId) : ∃ w0, w0 = (w.alloc (.cells a s)).alloc (.cells b t) ∧ w0.heap[w.heap.size]? = some (.cells a s) ∧ w0.heap[w.heap.size + 1]? = some (.cells b t) ∧ New w w0 ∧ w0.heap.size = w.heap.size + 2 := by
  refine ⟨_, rfl, blk_alloc (blk_new w _) _, ?_, by (repeat (first | exact Ext.refl _ _ | assumption | apply Ext.alloc | apply Ext.drewN | apply Ext.drew | refine Ext.setCell ?_ (fun h => by first | rfl | exact absurd h (by dsimp only; omega)) _)), by simp⟩
  have := blk_new (w.alloc (Obj.cells a s)) (Obj.cells b t)
  rwa [World.size_alloc] at this
end Go.Proofs.Ytkiplbhnnjfjaaa
