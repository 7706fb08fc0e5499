/- The law's step: the arm of Tick. -/
import Derived.Test.YtmonhhodbinagaaK45
namespace Go.Proofs.Ytmonhhodbinagaa
open Go.RowKit Go.Maps
set_option maxRecDepth 100000

set_option maxHeartbeats 4000000 in
theorem step6 (w : World) (p : Nat) (s : PS) (T : Nat → Prop) (x : DA) (o : OpA) {Z : Nat → Prop} (h : Bth Z w p s T x) (hd : o.d % 8 = 6) (h60 : s.total < 1152921504606846976) (h0 : 0 ≤ o.d) (h255 : o.d ≤ 255) (s' : PS) (k : Int × Int) (m : Int) (b : Bool) (hr : tickR s = (s', k, m, b)) :
    Calls Try.prog 20 #[.pointer (some ⟨p, 0, none⟩), x.v, o.v] w fun e w' => ∃ y T', e = .returned (.tuple #[DA.v y, .bool true]) ∧ Bth Z w' p s' T' y ∧ Ext T w w' ∧ ∀ k, T' k → T k ∨ w.heap.size ≤ k := by
  obtain ⟨w0, hw0, b1, b2, b3, hn0, hz0⟩ := threeNew w x.o o.o zP 46 51 46
  go_enter Try.func20, Try.ntmps20
  go_upto_region 1 with (fail)
  rw [← hw0]
  clear hw0
  have hb0 : w.heap.size + 3 ≤ w0.heap.size := by omega
  clear hz0
  have o0 := (blk_cell b2 0).trans rfl
  have e0 : (o.d % 8 == 0) = false := by simp [hd]
  have e4 : (o.d % 8 == 4) = false := by simp [hd]
  have e5 : (o.d % 8 == 5) = false := by simp [hd]
  have e6 : (o.d % 8 == 6) = true := by simp [hd]
  clear hd
  have hTl : ∀ j, T j → j < w.heap.size := fun j hj => h.q.lt hj
  have hB0 := h.new hn0
  go_upto_region 15 with (fail)
  clear o0 e0 e4 e5 e6
  have HR := hide hr
  clear hr
  go_wp2_with fail
  refine (tick_any hB0.q h.wf h60 k m b HR.out).mono ?_
  rintro e w2 ⟨rfl, hres⟩
  obtain ⟨T', hq2, hw2, hok2, E02, hf12⟩ := hB0.ran hres
  have hTl2 : ∀ j, (T' j ∨ Z j) → j < w2.heap.size := fun j hj => hj.elim (fun hj => hq2.lt hj) (fun hj => Nat.lt_of_lt_of_le (h.zl j hj) (Nat.le_trans hn0.size E02.size))
  have p2 := E02.keep b1 (fun hh => by have := hTl _ hh; omega)
  have g2 := E02.keep b3 (fun hh => by have := hTl _ hh; omega)
  have hlt2 : w.heap.size < w2.heap.size := blk_lt p2
  have hlt2g : w.heap.size + 2 < w2.heap.size := blk_lt g2
  go_upto_region 16 with (fail)
  have bP := blk_new w2 (.cells #[.int .i64 k.1, .int .i64 k.2, .int .i64 m] 32)
  have hnP := New.alloc1 w2 (.cells #[.int .i64 k.1, .int .i64 k.2, .int .i64 m] 32)
  obtain ⟨w3, hw3⟩ : ∃ v, v = w2.alloc (.cells #[.int .i64 k.1, .int .i64 k.2, .int .i64 m] 32) := ⟨_, rfl⟩
  rw [← hw3] at bP hnP
  rw [← hw3]
  have hl3 : w2.heap.size < w3.heap.size := blk_lt bP
  clear hw3
  obtain ⟨P, hP⟩ : ∃ P, P = w2.heap.size := ⟨_, rfl⟩
  rw [← hP] at bP hl3 ⊢
  have hPn : w.heap.size + 2 < P := by omega
  clear hP
  have p3 := hnP.keep p2
  have g3 := hnP.keep g2
  have c0 := (blk_cell p3 0).trans rfl
  have c1 := (blk_cell p3 1).trans rfl
  have c2 := (blk_cell p3 2).trans rfl
  have c3 := (blk_cell p3 3).trans rfl
  have c4 := (blk_cell p3 4).trans rfl
  have c5 := (blk_cell p3 5).trans rfl
  go_wp2_with fail
  refine (tick_dany x (fun j => (T' j ∨ Z j) ∨ j = w.heap.size + 2) _ ((hok2.new hnP).also h.ok (by omega)) (fun j hj => hj.elim (fun hj => Nat.lt_of_lt_of_le (hTl2 j hj) hnP.size) (fun e => by have := blk_lt g3; omega)) (by rw [h.s]; exact h.wf) (by rw [h.s]; exact h60) s' k m b (by rw [h.s]; exact HR.out)).mono ?_
  rintro e w4 ⟨y, he, hok4, hys, hn4⟩
  replace he : e = .returned (.tuple #[.agg #[.slice y.a0 y.n0 y.c0, .slice y.a1 y.n1 y.c1, .slice y.a2 y.n2 y.c2, .int .i64 y.s.most, .int .i64 y.s.run, .int .i64 y.s.total], kV k, .int .i64 m, .bool b]) := he
  subst he
  have HYS := hide hys
  clear hys
  have bP4 := hn4.keep bP
  have g4 := hn4.keep g3
  clear c0 c1 c2 c3 c4 c5
  have hlt4 : w.heap.size + 2 < w4.heap.size := blk_lt g4
  go_upto_region 17 with (fail)
  obtain ⟨w5, hw5, y5, k5, hn5, hz5⟩ := twoNew w4 y.o #[.int .i64 k.1, .int .i64 k.2] 46 49
  rw [show w4.alloc (.cells #[.slice y.a0 y.n0 y.c0, .slice y.a1 y.n1 y.c1, .slice y.a2 y.n2 y.c2, .int .i64 y.s.most, .int .i64 y.s.run, .int .i64 y.s.total] 46) = w4.alloc (.cells y.o 46) from rfl, ← hw5]
  clear hw5
  have g5 := hn5.keep g4
  have P5 := hn5.keep bP4
  have hlt5 := blk_lt k5
  obtain ⟨X, hX⟩ : ∃ X, X = w4.heap.size := ⟨_, rfl⟩
  rw [← hX] at y5 k5 hlt5 ⊢
  have hXn : w.heap.size + 2 < X := by omega
  clear hX hz5
  have q0 : ∀ u : Lat (fun j => j = w.heap.size + 2) w5, u.W.cell? ⟨X, 0, none⟩ = some (.slice y.a0 y.n0 y.c0) := fun u => (blk_cell (u.ext.keep y5 (by omega)) 0).trans rfl
  have q1 : ∀ u : Lat (fun j => j = w.heap.size + 2) w5, u.W.cell? ⟨X, 1, none⟩ = some (.slice y.a1 y.n1 y.c1) := fun u => (blk_cell (u.ext.keep y5 (by omega)) 1).trans rfl
  have q2 : ∀ u : Lat (fun j => j = w.heap.size + 2) w5, u.W.cell? ⟨X, 2, none⟩ = some (.slice y.a2 y.n2 y.c2) := fun u => (blk_cell (u.ext.keep y5 (by omega)) 2).trans rfl
  have q3 : ∀ u : Lat (fun j => j = w.heap.size + 2) w5, u.W.cell? ⟨X, 3, none⟩ = some (.int .i64 y.s.most) := fun u => (blk_cell (u.ext.keep y5 (by omega)) 3).trans rfl
  have q4 : ∀ u : Lat (fun j => j = w.heap.size + 2) w5, u.W.cell? ⟨X, 4, none⟩ = some (.int .i64 y.s.run) := fun u => (blk_cell (u.ext.keep y5 (by omega)) 4).trans rfl
  have q5 : ∀ u : Lat (fun j => j = w.heap.size + 2) w5, u.W.cell? ⟨X, 5, none⟩ = some (.int .i64 y.s.total) := fun u => (blk_cell (u.ext.keep y5 (by omega)) 5).trans rfl
  have u0 : ∀ u : Lat (fun j => j = w.heap.size + 2) w5, u.W.cell? ⟨P, 0, none⟩ = some (.int .i64 k.1) := fun u => (blk_cell (u.ext.keep P5 (by omega)) 0).trans rfl
  have u1 : ∀ u : Lat (fun j => j = w.heap.size + 2) w5, u.W.cell? ⟨P, 1, none⟩ = some (.int .i64 k.2) := fun u => (blk_cell (u.ext.keep P5 (by omega)) 1).trans rfl
  have u2 : ∀ u : Lat (fun j => j = w.heap.size + 2) w5, u.W.cell? ⟨P, 2, none⟩ = some (.int .i64 m) := fun u => (blk_cell (u.ext.keep P5 (by omega)) 2).trans rfl
  have v0 : ∀ u : Lat (fun j => j = w.heap.size + 2) w5, u.W.cell? ⟨X + 1, 0, none⟩ = some (.int .i64 k.1) := fun u => (blk_cell (u.ext.keep k5 (by omega)) 0).trans rfl
  have v1 : ∀ u : Lat (fun j => j = w.heap.size + 2) w5, u.W.cell? ⟨X + 1, 1, none⟩ = some (.int .i64 k.2) := fun u => (blk_cell (u.ext.keep k5 (by omega)) 1).trans rfl
  have em : (m == m) = true := by simp
  have eb : (b == b) = true := by simp
  have ek1 : (k.1 == k.1) = true := by simp
  have ek2 : (k.2 == k.2) = true := by simp
  go_wp2_with fail
  refine mix_start (fun j => j = w.heap.size + 2) w5 (by kernel_rfl) ?_
  refine mix_batch [0, 1, 2, 3] (by kernel_rfl) 15 _ _ _ (by kernel_rfl) (lat_mem (by (repeat (first | exact Ext.refl _ _ | assumption | apply Ext.alloc | apply Ext.drewN | apply Ext.drew | refine Ext.setCell ?_ (fun h => by first | rfl | exact absurd h (by dsimp only; omega)) _)))) ?_
  simp only [pickOps, List.getD_cons_zero, List.getD_cons_succ]
  repeat (go_big_quiet_step (fail))
  refine wpQuiet_nil ?_
  refine mix_loud (i := 4) (by kernel_rfl) rfl (fun K hK => ?_)
  go_simp
  refine (of_k k _).mono ?_
  rintro e w6 ⟨rfl, hn6⟩
  have N56 : New w5 w6 := (show New w5 w5.drew by (repeat (first | exact Ext.refl _ _ | assumption | apply Ext.alloc | apply Ext.drewN | apply Ext.drew | refine Ext.setCell ?_ (fun h => by first | rfl | exact absurd h (by dsimp only; omega)) _))).then hn6
  have E56 : Ext (fun j => j = w.heap.size + 2) w5 w6 := N56.to
  refine hK.out _ _ (lat_mem E56) ?_
  clear hK
  refine mix_batch [5, 6, 7, 8, 9, 10, 11, 12, 13, 14, 15, 16] (by kernel_rfl) 2 _ _ _ (by kernel_rfl) (lat_mem (by (repeat (first | exact Ext.refl _ _ | assumption | apply Ext.alloc | apply Ext.drewN | apply Ext.drew | refine Ext.setCell ?_ (fun h => by first | rfl | exact absurd h (by dsimp only; omega)) _)))) ?_
  simp only [pickOps, List.getD_cons_zero, List.getD_cons_succ]
  repeat (go_big_quiet_step (fail))
  refine wpQuiet_nil ?_
  have g6 := N56.keep g5
  have r0 := (blk_cell g6 0).trans rfl
  have rf0 := blk_free g6 0
  have r1 := (blk_cell g6 1).trans rfl
  have rf1 := blk_free g6 1
  have r2 := (blk_cell g6 2).trans rfl
  have rf2 := blk_free g6 2
  have r3 := (blk_cell g6 3).trans rfl
  have rf3 := blk_free g6 3
  have r4 := (blk_cell g6 4).trans rfl
  have rf4 := blk_free g6 4
  have r5 := (blk_cell g6 5).trans rfl
  have rf5 := blk_free g6 5
  refine mix_loud (i := 17) (by kernel_rfl) rfl (fun K hK => ?_)
  go_simp
  obtain ⟨wz, hwz, Yz, Sz⟩ := set6 g6 rfl (.slice y.a0 y.n0 y.c0) (.slice y.a1 y.n1 y.c1) (.slice y.a2 y.n2 y.c2) (.int .i64 y.s.most) (.int .i64 y.s.run) (.int .i64 y.s.total)
  rw [← hwz]
  have Ez5 : Ext (fun j => j = w.heap.size + 2) w5 wz := E56.trans Sz (fun _ _ h => h)
  have Ez5d : Ext (fun j => j = w.heap.size + 2) w5 wz.drew := Ez5.trans (show New wz wz.drew by (repeat (first | exact Ext.refl _ _ | assumption | apply Ext.alloc | apply Ext.drewN | apply Ext.drew | refine Ext.setCell ?_ (fun h => by first | rfl | exact absurd h (by dsimp only; omega)) _))).to (fun _ _ h => h)
  refine hK.out _ _ (lat_mem (by first | exact Ez5 | exact Ez5d)) ?_
  clear hK hwz r0 r1 r2 r3 r4 r5 rf0 rf1 rf2 rf3 rf4 rf5
  refine mix_batch [18] (by kernel_rfl) 0 _ _ _ (by kernel_rfl) (lat_mem (by (repeat (first | exact Ext.refl _ _ | assumption | apply Ext.alloc | apply Ext.drewN | apply Ext.drew | refine Ext.setCell ?_ (fun h => by first | rfl | exact absurd h (by dsimp only; omega)) _)))) ?_
  simp only [pickOps, List.getD_cons_zero, List.getD_cons_succ]
  repeat (go_big_quiet_step (fail))
  refine wpQuiet_nil ?_
  refine wpAnyH_done (by kernel_rfl) (NoPanic.normal ?_) _
  clear q0 q1 q2 q3 q4 q5 u0 u1 u2 v0 v1
  have z0 := (blk_cell Yz 0).trans rfl
  have z1 := (blk_cell Yz 1).trans rfl
  have z2 := (blk_cell Yz 2).trans rfl
  have z3 := (blk_cell Yz 3).trans rfl
  have z4 := (blk_cell Yz 4).trans rfl
  have z5 := (blk_cell Yz 5).trans rfl
  go_wp2_with fail
  have N26 := hnP.then (hn4.then (hn5.then N56))
  have hg2 : ¬ T' (w.heap.size + 2) := fun hh => (hf12 _ hh).elim (fun h1 => by have := hTl _ h1; omega) (fun h1 => by have := blk_lt b3; omega)
  have E6 : Ext T w w6 := (hn0.to.trans E02 (fun _ _ h => h)).trans N26.to (fun _ _ h => h)
  have E6' : Ext (fun k => T k ∨ w.heap.size ≤ k) w w6 := E6.mono (fun k _ h => .inl h)
  have Sz' : Ext (fun k => T k ∨ w.heap.size ≤ k) w6 wz := Sz.mono (fun j _ e => .inr (by rw [show j = w.heap.size + 2 from e]; omega))
  have Ez : Ext T w wz := (E6'.trans Sz' (fun _ _ h => h)).mono (fun k hk e => e.elim id (fun e => absurd hk (by omega)))
  refine bodyPost_ret (v := .tuple #[y.v, .bool true]) (by simp [results, Try.results20, go_sem, z0, z1, z2, z3, z4, z5]) rfl ?_
  refine ⟨y, T', rfl, ⟨(hq2.new N26).keep Sz (fun j hj e => hg2 (by rw [show j = w.heap.size + 2 from e] at hj; exact hj)), hw2, (((hok4.new hn5).new N56).keep Sz (fun j e => .inl (.inr e))).wide (fun j hj => .inl (.inl hj)), HYS.out, fun j hj => Nat.lt_of_lt_of_le (h.zl j hj) Ez.size⟩, Ez, fun j hj => (hf12 j hj).imp id (fun h1 => by omega)⟩
end Go.Proofs.Ytmonhhodbinagaa
