/- The sort of a row's ranges. -/
import Derived.Test.YtkiplbhnnjfjaaaS5
import Derived.Test.YtkiplbhnnjfjaaaY
import Derived.Shelf.SlSortCmp.NoneTotal
namespace Go.Proofs.Ytkiplbhnnjfjaaa
set_option linter.unusedVariables false
set_option linter.unusedSimpArgs false
open Go.RowKit
set_option maxRecDepth 100000

theorem compare_c (x y : Int) (w : World) : Calls Try.prog 65 #[.int .i64 x, .int .i64 y] w fun e w' => e = .returned (.int .i64 (Lib.compareInt x y)) ∧ w = w' := by
  go_enter Try.func65, Try.ntmps65
  go_wp2
  all_goals (go_ret; refine ⟨?_, rfl⟩; unfold Lib.compareInt; (repeat' split) <;> first | rfl | (exfalso; omega))
def or2 (a b : Int) : Int := if a = 0 then b else a
set_option maxHeartbeats 800000 in
theorem or_c (g : Nat) (a b : Int) (w : World) (h0 : w.cell? ⟨g, 0, none⟩ = some (.int .i64 a)) (h1 : w.cell? ⟨g, 1, none⟩ = some (.int .i64 b)) : Calls Try.prog 64 #[.slice (some ⟨g, 0, none⟩) 2 2] w fun e w' => e = .returned (.int .i64 (or2 a b)) ∧ w = w' := by
  go_enter Try.func64, Try.ntmps64
  go_wp2
  refine wp_loop_rounds 3 ?_
  rw [rounds_succ]
  by_cases ha : a = 0
  · subst ha
    go_wp2
    rw [rounds_succ]
    by_cases hb : b = 0
    · subst hb
      go_wp2
      rw [rounds_succ]
      go_wp2
      go_ret
      exact ⟨rfl, rfl⟩
    · have e1 : (b != 0) = true := by simpa using hb
      have HB := hide (show or2 0 b = b from rfl)
      clear hb
      go_wp2
      go_ret
      exact ⟨by rw [HB.out]; rfl, rfl⟩
  · have e1 : (a != 0) = true := by simpa using ha
    have HB := hide (show or2 a b = a from if_neg ha)
    clear ha
    go_wp2
    go_ret
    exact ⟨by rw [HB.out]; rfl, rfl⟩
theorem grow_of_new {w w' : World} (h : New w w') (q : Nat) (hd : w'.drawn = w.drawn + q) : ∃ q os', w' = Sort.grow (w.drewN q) os' := by
  refine ⟨q, w'.heap.extract w.heap.size w'.heap.size, ?_⟩
  obtain ⟨heap, tape, drawn, os, output⟩ := w'
  have e1 : tape = w.tape := h.tape
  have e2 : os = w.os := h.os
  have e3 : output = w.output := h.output
  have e4 : drawn = w.drawn + q := hd
  have e5 : heap = w.heap ++ heap.extract w.heap.size heap.size := by
    apply Array.ext_getElem?
    intro k
    rw [Array.getElem?_append]
    by_cases hk : k < w.heap.size
    · rw [if_pos hk]
      exact h.block k hk (fun h => h)
    · rw [if_neg hk, Array.getElem?_extract]
      have hs : w.heap.size ≤ heap.size := h.size
      by_cases hk2 : k < heap.size
      · rw [if_pos (by omega)]
        congr 1
        omega
      · rw [if_neg (by omega), Array.getElem?_eq_none (by omega)]
  subst e1 e2 e3 e4
  show World.mk heap _ _ _ _ = World.mk (w.heap ++ heap.extract w.heap.size heap.size) _ _ _ _
  rw [← e5]
  rfl
/-- By the beginning, then by the end. -/
def cmpR (x y : Rg) : Int := or2 (Lib.compareInt x.1 y.1) (Lib.compareInt x.2 y.2)
set_option maxHeartbeats 800000 in
theorem closure_c (x y : Rg) (w : World) : Calls Try.prog 63 #[.agg #[.int .i64 x.1, .int .i64 x.2], .agg #[.int .i64 y.1, .int .i64 y.2]] w fun e w' => e = .returned (.int .i64 (cmpR x y)) ∧ ∃ q os', w' = Sort.grow (w.drewN q) os' := by
  obtain ⟨w0, hw0, b1, b2, hn0, hz0⟩ := twoNew w #[.int .i64 x.1, .int .i64 x.2] #[.int .i64 y.1, .int .i64 y.2] 30 30
  have hd0 : w0.drawn = w.drawn := by rw [hw0]; rfl
  have HC := hide (show or2 (Lib.compareInt x.1 y.1) (Lib.compareInt x.2 y.2) = cmpR x y from rfl)
  go_enter Try.func63, Try.ntmps63
  go_upto_region 1 with (fail)
  rw [← hw0]
  clear hw0
  have c0 : ∀ z : Lat (fun _ => False) w0, z.W.cell? ⟨w.heap.size, 0, none⟩ = some (.int .i64 x.1) := fun z => (blk_cell (z.ext.keep b1 (fun h => h)) 0).trans rfl
  have c1 : ∀ z : Lat (fun _ => False) w0, z.W.cell? ⟨w.heap.size, 1, none⟩ = some (.int .i64 x.2) := fun z => (blk_cell (z.ext.keep b1 (fun h => h)) 1).trans rfl
  have c2 : ∀ z : Lat (fun _ => False) w0, z.W.cell? ⟨w.heap.size + 1, 0, none⟩ = some (.int .i64 y.1) := fun z => (blk_cell (z.ext.keep b2 (fun h => h)) 0).trans rfl
  have c3 : ∀ z : Lat (fun _ => False) w0, z.W.cell? ⟨w.heap.size + 1, 1, none⟩ = some (.int .i64 y.2) := fun z => (blk_cell (z.ext.keep b2 (fun h => h)) 1).trans rfl
  refine mix_start (fun _ => False) w0 (by kernel_rfl) ?_
  refine mix_batch [0, 1, 2, 3, 5, 6, 7, 8] (by kernel_rfl) 5 _ _ _ (by kernel_rfl) (lat_mem (by (repeat (first | exact Ext.refl _ _ | assumption | apply Ext.alloc | apply Ext.drewN | apply Ext.drew | refine Ext.setCell ?_ (fun h => by first | rfl | exact absurd h (by dsimp only; omega)) _)))) ?_
  simp only [pickOps, List.getD_cons_zero, List.getD_cons_succ]
  repeat (go_big_quiet_step (fail))
  refine wpQuiet_nil ?_
  clear c0 c1 c2 c3
  generalize hp : Lib.compareInt x.1 y.1 = p at HC
  generalize hq : Lib.compareInt x.2 y.2 = q at HC
  have HP := hide hp
  have HQ := hide hq
  clear hp hq
  refine mix_loud (i := 4) (by kernel_rfl) rfl (fun K hK => ?_)
  go_simp
  refine (compare_c x.1 y.1 _).mono ?_
  rintro e w1 ⟨rfl, rfl⟩
  rw [HP.out]
  refine hK.out _ _ (lat_mem (by (repeat (first | exact Ext.refl _ _ | assumption | apply Ext.alloc | apply Ext.drewN | apply Ext.drew | refine Ext.setCell ?_ (fun h => by first | rfl | exact absurd h (by dsimp only; omega)) _)))) ?_
  clear hK
  refine mix_loud (i := 9) (by kernel_rfl) rfl (fun K hK => ?_)
  go_simp
  refine (compare_c x.2 y.2 _).mono ?_
  rintro e w1 ⟨rfl, rfl⟩
  rw [HQ.out]
  refine hK.out _ _ (lat_mem (by (repeat (first | exact Ext.refl _ _ | assumption | apply Ext.alloc | apply Ext.drewN | apply Ext.drew | refine Ext.setCell ?_ (fun h => by first | rfl | exact absurd h (by dsimp only; omega)) _)))) ?_
  clear hK
  refine mix_loud (i := 10) (by kernel_rfl) rfl (fun K hK => ?_)
  go_simp
  have b3 : (w0.alloc (.cells #[.int .i64 p, .int .i64 q] 3)).drew.heap[w.heap.size + 2]? = some (.cells #[.int .i64 p, .int .i64 q] 3) := by
    have := blk_new w0 (.cells #[.int .i64 p, .int .i64 q] 3)
    rw [hz0] at this
    exact this
  have hn3 : New w (w0.alloc (.cells #[.int .i64 p, .int .i64 q] 3)).drew := hn0.then (by (repeat (first | exact Ext.refl _ _ | assumption | apply Ext.alloc | apply Ext.drewN | apply Ext.drew | refine Ext.setCell ?_ (fun h => by first | rfl | exact absurd h (by dsimp only; omega)) _)))
  have hd3 : (w0.alloc (.cells #[.int .i64 p, .int .i64 q] 3)).drew.drawn = w.drawn + 1 := by
    show w0.drawn + 1 = _
    rw [hd0]
  have hl3 : New w0 (w0.alloc (.cells #[.int .i64 p, .int .i64 q] 3)).drew := by (repeat (first | exact Ext.refl _ _ | assumption | apply Ext.alloc | apply Ext.drewN | apply Ext.drew | refine Ext.setCell ?_ (fun h => by first | rfl | exact absurd h (by dsimp only; omega)) _))
  obtain ⟨w3, hw3⟩ : ∃ v, v = (w0.alloc (.cells #[.int .i64 p, .int .i64 q] 3)).drew := ⟨_, rfl⟩
  rw [← hw3] at b3 hn3 hd3 hl3 ⊢
  clear hw3
  refine hK.out _ _ (lat_mem hl3) ?_
  clear hK
  refine mix_loud (i := 11) (by kernel_rfl) rfl (fun K hK => ?_)
  go_simp
  refine (or_c (w.heap.size + 2) p q _ ((blk_cell b3 0).trans rfl) ((blk_cell b3 1).trans rfl)).mono ?_
  rintro e w4 ⟨rfl, rfl⟩
  refine hK.out _ _ (lat_mem hl3) ?_
  clear hK
  have HD := hide hd3
  clear hd3
  refine mix_batch [12] (by kernel_rfl) 0 _ _ _ (by kernel_rfl) (lat_mem (by (repeat (first | exact Ext.refl _ _ | assumption | apply Ext.alloc | apply Ext.drewN | apply Ext.drew | refine Ext.setCell ?_ (fun h => by first | rfl | exact absurd h (by dsimp only; omega)) _)))) ?_
  simp only [pickOps, List.getD_cons_zero, List.getD_cons_succ]
  repeat (go_big_quiet_step (fail))
  refine wpQuiet_nil ?_
  refine wpAnyH_done (by kernel_rfl) (NoPanic.normal ?_) _
  go_wp2_with fail
  go_ret
  exact ⟨by rw [HC.out]; rfl, grow_of_new hn3 1 HD.out⟩
end Go.Proofs.Ytkiplbhnnjfjaaa
