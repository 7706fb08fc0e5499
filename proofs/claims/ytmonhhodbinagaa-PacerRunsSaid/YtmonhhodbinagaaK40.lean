/- The document's pacer: nobody waits. -/
import Derived.Test.YtmonhhodbinagaaK39
namespace Go.Proofs.Ytmonhhodbinagaa
open Go.RowKit Go.Maps
set_option maxRecDepth 100000

set_option maxHeartbeats 4000000 in
theorem turn_d (x : DA) (T : Nat → Prop) (w : World) (h : x.ok T w) (h1 : x.n1 = 0) (h2 : x.n2 = 0) :
    Calls Try.prog 45 #[x.v] w fun e w' => ∃ y : DA, e = .returned (.tuple #[y.v, kV (0, 0), .bool false]) ∧ y.ok T w' ∧ y.s = x.s ∧ New w w' := by
  obtain ⟨w0, hw0, b1, b2, b3, hn0, hz0⟩ := threeNew w x.o zP #[.int .i64 0, .int .i64 0] 46 46 49
  have e1 : decide (0 < x.n1) = false := decide_eq_false (by omega)
  have e2 : decide (0 < x.n2) = false := decide_eq_false (by omega)
  clear h1 h2
  go_enter Try.func45, Try.ntmps45
  go_upto_region 1 with (fail)
  rw [← hw0]
  clear hw0
  have hb0 : w.heap.size + 3 ≤ w0.heap.size := by omega
  clear hz0
  have h0 := h.new hn0
  have c0 := (blk_cell b1 0).trans rfl
  have c1 := (blk_cell b1 1).trans rfl
  have c2 := (blk_cell b1 2).trans rfl
  have c3 := (blk_cell b1 3).trans rfl
  have c4 := (blk_cell b1 4).trans rfl
  have c5 := (blk_cell b1 5).trans rfl
  go_upto_region 13 with (fail)
  have r0 := (blk_cell b2 0).trans rfl
  have rf0 := blk_free b2 0
  have r1 := (blk_cell b2 1).trans rfl
  have rf1 := blk_free b2 1
  have r2 := (blk_cell b2 2).trans rfl
  have rf2 := blk_free b2 2
  have r3 := (blk_cell b2 3).trans rfl
  have rf3 := blk_free b2 3
  have r4 := (blk_cell b2 4).trans rfl
  have rf4 := blk_free b2 4
  have r5 := (blk_cell b2 5).trans rfl
  have rf5 := blk_free b2 5
  have u0 := (blk_cell b3 0).trans rfl
  have uf0 := blk_free b3 0
  have u1 := (blk_cell b3 1).trans rfl
  have uf1 := blk_free b3 1
  go_wp2_with fail
  obtain ⟨w4, hw4, p4, S4⟩ := set6 b2 rfl (.slice x.a0 x.n0 x.c0) (.slice x.a1 x.n1 x.c1) (.slice x.a2 x.n2 x.c2) (.int .i64 x.s.most) (.int .i64 x.s.run) (.int .i64 x.s.total)
  rw [← hw4]
  have g4 := S4.keep b3 (by omega)
  obtain ⟨w5, hw5, g5, S5⟩ := set2 g4 rfl (.int .i64 0) (.int .i64 0)
  rw [← hw5]
  have p5 := S5.keep p4 (by omega)
  clear hw4 hw5 r0 r1 r2 r3 r4 r5 rf0 rf1 rf2 rf3 rf4 rf5 u0 u1 uf0 uf1 c0 c1 c2 c3 c4 c5
  have z0 := (blk_cell p5 0).trans rfl
  have z1 := (blk_cell p5 1).trans rfl
  have z2 := (blk_cell p5 2).trans rfl
  have z3 := (blk_cell p5 3).trans rfl
  have z4 := (blk_cell p5 4).trans rfl
  have z5 := (blk_cell p5 5).trans rfl
  have y0 := (blk_cell g5 0).trans rfl
  have y1 := (blk_cell g5 1).trans rfl
  have N9 : New w w5 := (hn0.trans S4 (fun j hj e => by omega)).trans S5 (fun j hj e => by omega)
  refine bodyPost_ret (v := .tuple #[x.v, kV (0, 0), .bool false]) (by simp [results, Try.results45, go_sem, z0, z1, z2, z3, z4, z5, y0, y1]) rfl ?_
  exact ⟨x, rfl, h.new N9, rfl, N9⟩
set_option maxHeartbeats 4000000 in
theorem tick_dno (x : DA) (T : Nat → Prop) (w : World) (h : x.ok T w) (hT : ∀ j, T j → j < w.heap.size) (h1 : x.n1 = 0) (h2 : x.n2 = 0) :
    Calls Try.prog 36 #[x.v] w fun e w' => ∃ y : DA, e = .returned (.tuple #[y.v, kV (0, 0), .int .i64 0, .bool false]) ∧ y.ok T w' ∧ y.s = x.s ∧ New w w' := by
  obtain ⟨w0, hw0, b1, b2, b3, hn0, hz0⟩ := threeNew w x.o zP #[.int .i64 0, .int .i64 0] 46 46 49
  have H1 := hide h1
  have H2 := hide h2
  clear h1 h2
  go_enter Try.func36, Try.ntmps36
  go_upto_region 1 with (fail)
  rw [← hw0]
  clear hw0
  have hb0 : w.heap.size + 3 ≤ w0.heap.size := by omega
  clear hz0
  obtain ⟨T2, hT2⟩ : ∃ T2 : Nat → Prop, T2 = fun j => T j ∨ (w.heap.size ≤ j ∧ j < w0.heap.size) := ⟨_, rfl⟩
  have hTl : ∀ j, T2 j → j < w0.heap.size := fun j hj => by
    rw [hT2] at hj
    exact hj.elim (fun hj => Nat.lt_of_lt_of_le (hT j hj) hn0.size) (fun hj => hj.2)
  have hTT : ∀ j, T j → T2 j := fun j hj => by rw [hT2]; exact .inl hj
  have hTp : T2 w.heap.size := by rw [hT2]; exact .inr ⟨Nat.le_refl _, by omega⟩
  have hTr : T2 (w.heap.size + 1) := by rw [hT2]; exact .inr ⟨by omega, by omega⟩
  have hTg : T2 (w.heap.size + 2) := by rw [hT2]; exact .inr ⟨by omega, by omega⟩
  have h0 : x.ok T2 w0 := (h.wide (S := T2) (fun j hj => by rw [hT2] at hj; exact hj.imp id (fun hj => hj.1))).new hn0
  clear hT2
  have c0 := (blk_cell b1 0).trans rfl
  have c1 := (blk_cell b1 1).trans rfl
  have c2 := (blk_cell b1 2).trans rfl
  have c3 := (blk_cell b1 3).trans rfl
  have c4 := (blk_cell b1 4).trans rfl
  have c5 := (blk_cell b1 5).trans rfl
  go_wp2_with fail
  refine (turn_d x T2 _ h0 H1.out H2.out).mono ?_
  rintro e w1 ⟨y, he, hok, hys, hn1⟩
  replace he : e = .returned (.tuple #[.agg #[.slice y.a0 y.n0 y.c0, .slice y.a1 y.n1 y.c1, .slice y.a2 y.n2 y.c2, .int .i64 y.s.most, .int .i64 y.s.run, .int .i64 y.s.total], .agg #[.int .i64 0, .int .i64 0], .bool false]) := he
  subst he
  have HYS := hide hys
  clear hys
  have p1 := hn1.keep b1
  have q1 := hn1.keep b2
  have g1 := hn1.keep b3
  clear c0 c1 c2 c3 c4 c5
  have hlt1 : w.heap.size < w1.heap.size := blk_lt p1
  have c0 := (blk_cell p1 0).trans rfl
  have cf0 := blk_free p1 0
  have c1 := (blk_cell p1 1).trans rfl
  have cf1 := blk_free p1 1
  have c2 := (blk_cell p1 2).trans rfl
  have cf2 := blk_free p1 2
  have c3 := (blk_cell p1 3).trans rfl
  have cf3 := blk_free p1 3
  have c4 := (blk_cell p1 4).trans rfl
  have cf4 := blk_free p1 4
  have c5 := (blk_cell p1 5).trans rfl
  have cf5 := blk_free p1 5
  go_upto_region 2 with (fail)
  obtain ⟨w2, hw2, p2, S2⟩ := set6 p1 rfl (.slice y.a0 y.n0 y.c0) (.slice y.a1 y.n1 y.c1) (.slice y.a2 y.n2 y.c2) (.int .i64 y.s.most) (.int .i64 y.s.run) (.int .i64 y.s.total)
  rw [← hw2]
  clear hw2 c0 c1 c2 c3 c4 c5 cf0 cf1 cf2 cf3 cf4 cf5
  have q2 := S2.keep q1 (by omega)
  have g2 := S2.keep g1 (by omega)
  have hok2 := hok.keep S2 (fun j e => .inl (by rw [show j = w.heap.size from e]; exact hTp))
  have N2 : New w w2 := (hn0.then hn1).trans S2 (fun j hj e => by omega)
  have hn3 := New.alloc1 w2 (.cells #[.int .i64 0, .int .i64 0] 49)
  generalize w2.alloc (.cells #[.int .i64 0, .int .i64 0] 49) = w3 at *
  have p3 := hn3.keep p2
  have q3 := hn3.keep q2
  have g3 := hn3.keep g2
  have hok3 := hok2.new hn3
  have N3 := N2.then hn3
  have c0 := (blk_cell p3 0).trans rfl
  have c1 := (blk_cell p3 1).trans rfl
  have c2 := (blk_cell p3 2).trans rfl
  have c3 := (blk_cell p3 3).trans rfl
  have c4 := (blk_cell p3 4).trans rfl
  have c5 := (blk_cell p3 5).trans rfl
  have r0 := (blk_cell q3 0).trans rfl
  have rf0 := blk_free q3 0
  have r1 := (blk_cell q3 1).trans rfl
  have rf1 := blk_free q3 1
  have r2 := (blk_cell q3 2).trans rfl
  have rf2 := blk_free q3 2
  have r3 := (blk_cell q3 3).trans rfl
  have rf3 := blk_free q3 3
  have r4 := (blk_cell q3 4).trans rfl
  have rf4 := blk_free q3 4
  have r5 := (blk_cell q3 5).trans rfl
  have rf5 := blk_free q3 5
  have u0 := (blk_cell g3 0).trans rfl
  have uf0 := blk_free g3 0
  have u1 := (blk_cell g3 1).trans rfl
  have uf1 := blk_free g3 1
  go_wp2_with fail
  obtain ⟨w4, hw4, p4, S4⟩ := set6 q3 rfl (.slice y.a0 y.n0 y.c0) (.slice y.a1 y.n1 y.c1) (.slice y.a2 y.n2 y.c2) (.int .i64 y.s.most) (.int .i64 y.s.run) (.int .i64 y.s.total)
  rw [← hw4]
  have g4 := S4.keep g3 (by omega)
  obtain ⟨w5, hw5, g5, S5⟩ := set2 g4 rfl (.int .i64 0) (.int .i64 0)
  rw [← hw5]
  have p5 := S5.keep p4 (by omega)
  clear hw4 hw5 r0 r1 r2 r3 r4 r5 rf0 rf1 rf2 rf3 rf4 rf5 u0 u1 uf0 uf1 c0 c1 c2 c3 c4 c5
  have z0 := (blk_cell p5 0).trans rfl
  have z1 := (blk_cell p5 1).trans rfl
  have z2 := (blk_cell p5 2).trans rfl
  have z3 := (blk_cell p5 3).trans rfl
  have z4 := (blk_cell p5 4).trans rfl
  have z5 := (blk_cell p5 5).trans rfl
  have y0 := (blk_cell g5 0).trans rfl
  have y1 := (blk_cell g5 1).trans rfl
  have N9 : New w w5 := (N3.trans S4 (fun j hj e => by omega)).trans S5 (fun j hj e => by omega)
  refine bodyPost_ret (v := .tuple #[y.v, kV (0, 0), .int .i64 0, .bool false]) (by simp [results, Try.results36, go_sem, z0, z1, z2, z3, z4, z5, y0, y1]) rfl ?_
  refine ⟨y, rfl, ((hok3.keep S4 (fun j e => .inl (by rw [show j = w.heap.size + 1 from e]; exact hTr))).keep S5 (fun j e => .inl (by rw [show j = w.heap.size + 2 from e]; exact hTg))).wide (fun j hj => .inl (hTT j hj)), HYS.out, N9⟩
end Go.Proofs.Ytmonhhodbinagaa
