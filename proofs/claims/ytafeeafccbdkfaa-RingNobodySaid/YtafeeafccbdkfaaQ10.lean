/- Walks: Rotate of nothing; the document's Rotate. -/
import Derived.Test.YtafeeafccbdkfaaQ9
namespace Go.Proofs.Ytafeeafccbdkfaa
open Go.RowKit
set_option maxRecDepth 100000

set_option maxHeartbeats 800000 in
theorem rotate_no (p : Nat) (A : Option Addr) (c : Nat) (xs : List Int) (room : Nat) (t : Int) (w : World) (h : Rngi w p A 0 c xs room) :
    Calls Try.prog 11 #[.pointer (some ⟨p, 0, none⟩), .int .i64 t] w fun e w' => e = .returned (.int .i64 0) ∧ w = w' := by
  have c0 := h.c0
  go_enter Try.func11, Try.ntmps11
  go_wp2_with fail
  refine (none_i p A 0 c xs room _ h).mono ?_
  rintro e w1 ⟨rfl, rfl⟩
  go_wp2_with fail
  go_ret
  exact ⟨rfl, rfl⟩

set_option maxHeartbeats 800000 in
theorem rrot_no (A : Option Addr) (c : Nat) (N : Int) (t : Int) (w : World) :
    Calls Try.prog 12 #[.agg #[.slice A 0 c, .int .i64 N], .int .i64 t] w fun e w' => e = .returned (.tuple #[.agg #[.slice A 0 c, .int .i64 N], .int .i64 0]) ∧ New w w' := by
  go_enter Try.func12, Try.ntmps12
  go_wp2
  refine bodyPost_ret (v := .tuple #[.agg #[.slice A 0 c, .int .i64 N], .int .i64 0]) (by simp [results, Try.results12, go_sem]) rfl ⟨rfl, by (repeat (first | exact Ext.refl _ _ | assumption | apply Ext.alloc | apply Ext.drewN | apply Ext.drew | refine Ext.setCell ?_ (fun h => by first | rfl | exact absurd h (by dsimp only; omega)) _))⟩

set_option maxHeartbeats 2000000 in
theorem rrot_yes (A : Option Addr) (n c : Nat) (xs : List Int) (N : Int) (t : Int) (w : World) (h : Rd w 1 A n c (vsi xs)) (hn : 0 < n) (hn4 : n ≤ 4096) (ht : (Lit.int .i64 t).wf = true) :
    Calls Try.prog 12 #[.agg #[.slice A n c, .int .i64 N], .int .i64 t] w fun e w' => ∃ A' c', e = .returned (.tuple #[.agg #[.slice A' n c', .int .i64 N], .int .i64 (rotK n t)]) ∧ Own w' w.heap.size 3 1 A' n c' (vsi (rotL xs (rotK n t))) ∧ New w w' := by
  obtain ⟨hk1, hk2⟩ := rotK_lt hn t
  obtain ⟨r, hr⟩ : ∃ r, r = rotK n t := ⟨_, rfl⟩
  rw [← hr] at hk1 hk2 ⊢
  have HK := hide hr
  clear hr
  have h1 := Int.tmod_lt_of_pos t (show (0 : Int) < n by omega)
  have h2 : -(n : Int) < t.tmod n := by
    have := Int.lt_tmod_of_pos t (show (0 : Int) < n by omega)
    omega
  have hz : ((n : Int) == 0) = false := by simp; omega
  have hz' : ¬ n = 0 := by omega
  have hz2 : ¬ (n : Int) = 0 := by omega
  have s1 := run_cut_l (P := Try.prog) 22 3 1 Try.underlying22 size_i A n c r r rfl (by omega) .i64
  have s2 := run_cut_h (P := Try.prog) 22 3 1 Try.underlying22 size_i A n c r r rfl (by have := h.cap; omega) .i64
  go_enter Try.func12, Try.ntmps12
  have hl0 := Own.lit0 ((w.alloc (.cells #[.slice A n c, .int .i64 N] 31)).alloc (.cells #[.slice none 0 0, .int .i64 0] 31)) (w.heap.size + 2) 3 1 (by simp)
  rw [World.size_alloc, World.size_alloc] at hl0
  go_wp2_with (at_builtin; refine app_i rfl _ _ rfl (w.heap.size + 2) rfl rfl hl0 ((h.dropi r (by omega)).new (by (repeat (first | exact Ext.refl _ _ | assumption | apply Ext.alloc | apply Ext.drewN | apply Ext.drew | refine Ext.setCell ?_ (fun h => by first | rfl | exact absurd h (by dsimp only; omega)) _)))) (by omega) (by simp) ?_; intro A2 c2 w2 ho2 he2 hA2)
  rw [Nat.zero_add, List.nil_append] at ho2
  obtain ⟨w0, hw0⟩ : ∃ w0, w0 = (w.alloc (.cells #[.slice A n c, .int .i64 N] 31)).alloc (.cells #[.slice none 0 0, .int .i64 0] 31) := ⟨_, rfl⟩
  have hb0 : w0.heap[w.heap.size]? = some (.cells #[.slice A n c, .int .i64 N] 31) := by rw [hw0]; exact blk_alloc (blk_new w _) _
  have hb1 : w0.heap[w.heap.size + 1]? = some (.cells #[.slice none 0 0, .int .i64 0] 31) := by rw [hw0]; have := blk_new (w.alloc (Obj.cells #[.slice A n c, .int .i64 N] 31)) (Obj.cells #[.slice none 0 0, .int .i64 0] 31); rwa [World.size_alloc] at this
  have hn0 : New w w0 := by rw [hw0]; (repeat (first | exact Ext.refl _ _ | assumption | apply Ext.alloc | apply Ext.drewN | apply Ext.drew | refine Ext.setCell ?_ (fun h => by first | rfl | exact absurd h (by dsimp only; omega)) _))
  have hs0 : w0.heap.size = w.heap.size + 2 := by rw [hw0]; simp
  rw [← hw0] at he2
  have hn02 : New w0 w2 := (New.alloc1 w0 _).trans he2 (fun i hi hk => by have := (inA_some _ _).1 hk; simp at this; omega)
  have hb0' := hn02.keep hb0
  have hb1' := hn02.keep hb1
  have hs2 := hn02.size
  have HW := hide hw0
  clear hw0 hl0
  have g0 : ∀ x : Lat (fun k => w.heap.size + 1 ≤ k) w2, x.W.cell? ⟨w.heap.size, 0, none⟩ = some (.slice A n c) := fun x => (blk_cell (Ext.keep x.ext hb0' (by omega)) 0).trans rfl
  have g1 : ∀ x : Lat (fun k => w.heap.size + 1 ≤ k) w2, x.W.cell? ⟨w.heap.size, 1, none⟩ = some (.int .i64 N) := fun x => (blk_cell (Ext.keep x.ext hb0' (by omega)) 1).trans rfl
  refine mix_start (fun k => w.heap.size + 1 ≤ k) w2 (by kernel_rfl) ?_
  refine mix_batch [0, 1, 2, 3, 4, 6, 7, 9] (by kernel_rfl) 4 _ _ _ (by kernel_rfl) (lat_mem (by (repeat (first | exact Ext.refl _ _ | assumption | apply Ext.alloc | apply Ext.drewN | apply Ext.drew | refine Ext.setCell ?_ (fun h => by first | rfl | exact absurd h (by dsimp only; omega)) _)))) ?_
  simp only [pickOps, List.getD_cons_zero, List.getD_cons_succ]
  repeat (go_big_quiet_step (fail))
  refine wpQuiet_nil ?_
  refine mix_loud (i := 5) (by kernel_rfl) rfl (fun K hK => ?_)
  rw [if_pos (by kernel_rfl)]
  obtain ⟨A3, c3, w3, hrun, ho3, he3, hA3⟩ := run_app (P := Try.prog) w2.drew (w.heap.size + 2) 22 22 3 (.int .i64 0) 1 8 Try.underlying22 info_i rfl (by decide) (by decide) (ho2.new (show New w2 w2.drew by (repeat (first | exact Ext.refl _ _ | assumption | apply Ext.alloc | apply Ext.drewN | apply Ext.drew | refine Ext.setCell ?_ (fun h => by first | rfl | exact absurd h (by dsimp only; omega)) _)))) ((h.takei r (by omega)).new (hn0.then (hn02.then (show New w2 w2.drew by (repeat (first | exact Ext.refl _ _ | assumption | apply Ext.alloc | apply Ext.drewN | apply Ext.drew | refine Ext.setCell ?_ (fun h => by first | rfl | exact absurd h (by dsimp only; omega)) _)))))) (by omega) (by show w.heap.size + 2 ≤ w2.heap.size; omega)
  refine Lib.wp_append_run _ _ _ _ _ rfl _ _ rfl rfl _ _ hrun ?_
  have he23 : Ext (fun k => w.heap.size + 1 ≤ k) w2 w3 := Ext.trans (show Ext (fun k => w.heap.size + 1 ≤ k) w2 w2.drew by (repeat (first | exact Ext.refl _ _ | assumption | apply Ext.alloc | apply Ext.drewN | apply Ext.drew | refine Ext.setCell ?_ (fun h => by first | rfl | exact absurd h (by dsimp only; omega)) _))) (he3.mono (fun k _ hk => by have := (ho2.at_ hk).1; omega)) (fun _ _ h => h)
  refine hK.out _ _ (lat_mem he23) ?_
  clear hK
  rw [show n - r + r = n by omega] at ho3 ⊢
  rw [← vsi_append] at ho3
  have hb3 : w3.heap[w.heap.size + 1]? = some (.cells #[.slice none 0 0, .int .i64 0] 31) := he3.keep (show w2.drew.heap[w.heap.size + 1]? = _ from hb1') (fun hk => by have := (ho2.at_ hk).1; omega)
  have j0 : w3.cell? ⟨w.heap.size + 1, 0, none⟩ = some (.slice none 0 0) := (blk_cell hb3 0).trans rfl
  have j1 : w3.cell? ⟨w.heap.size + 1, 1, none⟩ = some (.int .i64 0) := (blk_cell hb3 1).trans rfl
  have f0 := blk_free hb3 0
  have f1 := blk_free hb3 1
  go_simp
  refine mix_batch [8] (by kernel_rfl) 2 _ _ _ (by kernel_rfl) (lat_mem he23) ?_
  simp only [pickOps, List.getD_cons_zero, List.getD_cons_succ]
  repeat (go_big_quiet_step (fail))
  refine wpQuiet_nil ?_
  refine mix_loud (i := 10) (by kernel_rfl) rfl (fun K hK => ?_)
  go_simp
  have he34 : Ext (fun k => k = w.heap.size + 1) w3 ((w3.setCell ⟨w.heap.size + 1, 0, none⟩ (.slice A3 n c3)).setCell ⟨w.heap.size + 1, 1, none⟩ (.int .i64 N)) := ((Ext.refl _ w3).set (by rfl)).set (by rfl)
  have hb4 := blk_set (blk_set hb3 0 (.slice A3 n c3)) 1 (.int .i64 N)
  have ho4 := ho3.keep he34 (fun k hk e => by have := (ho3.at_ hk).1; omega)
  have he24 := he23.trans he34 (fun k _ e => by omega)
  refine hK.out _ _ (lat_mem he24) ?_
  clear hK j0 j1 f0 f1
  generalize (w3.setCell ⟨w.heap.size + 1, 0, none⟩ (.slice A3 n c3)).setCell ⟨w.heap.size + 1, 1, none⟩ (.int .i64 N) = w4 at *
  refine mix_batch [11] (by kernel_rfl) 0 _ _ _ (by kernel_rfl) (lat_mem he24) ?_
  simp only [pickOps, List.getD_cons_zero, List.getD_cons_succ]
  repeat (go_big_quiet_step (fail))
  refine wpQuiet_nil ?_
  refine wpAnyH_done (by kernel_rfl) (NoPanic.normal ?_) _
  clear g0 g1
  have d0 : w4.cell? ⟨w.heap.size + 1, 0, none⟩ = some (.slice A3 n c3) := (blk_cell hb4 0).trans rfl
  have d1 : w4.cell? ⟨w.heap.size + 1, 1, none⟩ = some (.int .i64 N) := (blk_cell hb4 1).trans rfl
  go_wp2
  refine bodyPost_ret (v := .tuple #[.agg #[.slice A3 n c3, .int .i64 N], .int .i64 r]) (by simp [results, Try.results12, go_sem, d0, d1]) rfl ?_
  have hn2 := hn0.then hn02
  have hN : New w w4 := ⟨he24.os.trans hn2.os, he24.tape.trans hn2.tape, he24.output.trans hn2.output, Nat.le_trans hn2.size he24.size, fun i hi _ => (he24.block i (Nat.lt_of_lt_of_le hi hn2.size) (by omega)).trans (hn2.block i hi (fun h => h))⟩
  exact ⟨A3, c3, rfl, ho4.le (by omega), hN⟩
end Go.Proofs.Ytafeeafccbdkfaa
