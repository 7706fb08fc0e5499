/- The law's step: the arm of Forget. -/
import Derived.Test.YtmonhhodbinagaaK45
namespace Go.Proofs.Ytmonhhodbinagaa
open Go.RowKit Go.Maps
set_option maxRecDepth 100000

set_option maxHeartbeats 4000000 in
theorem step4 (w : World) (p : Nat) (s : PS) (T : Nat → Prop) (x : DA) (o : OpA) {Z : Nat → Prop} (h : Bth Z w p s T x) (hd : o.d % 8 = 4) (hk : kwf o.k) (h0 : 0 ≤ o.d) (h255 : o.d ≤ 255) (s' : PS) (m : Int) (b : Bool) (hr : forgetR s o.k = (s', m, b)) :
    Calls Try.prog 20 #[.pointer (some ⟨p, 0, none⟩), x.v, o.v] w fun e w' => ∃ y T', e = .returned (.tuple #[DA.v y, .bool true]) ∧ Bth Z w' p s' T' y ∧ Ext T w w' ∧ ∀ k, T' k → T k ∨ w.heap.size ≤ k := by
  obtain ⟨w0, hw0, b1, b2, b3, hn0, hz0⟩ := threeNew w x.o o.o zP 46 51 46
  go_enter Try.func20, Try.ntmps20
  go_upto_region 1 with (fail)
  rw [← hw0]
  clear hw0
  have hb0 : w.heap.size + 3 ≤ w0.heap.size := by omega
  clear hz0
  have o0 := (blk_cell b2 0).trans rfl
  have e0 : (o.d % 8 == 0) = false := by simp [hd]
  have e4 : (o.d % 8 == 4) = true := by simp [hd]
  clear hd
  have hTl : ∀ j, T j → j < w.heap.size := fun j hj => h.q.lt hj
  have hB0 := h.new hn0
  go_upto_region 10 with (fail)
  clear o0 e0 e4
  have HR := hide hr
  clear hr
  have k1 := (blk_cell b2 1).trans rfl
  have k2 := (blk_cell b2 2).trans rfl
  go_wp2_with fail
  refine (of_k o.k _).mono ?_
  rintro e w1 ⟨rfl, hn1⟩
  have hB1 := hB0.new hn1
  go_wp2_with fail
  refine (forget_any hB1.q h.wf o.k hk m b HR.out).mono ?_
  rintro e w2 ⟨rfl, hres⟩
  obtain ⟨T', hq2, hw2, hok2, he12, hf12⟩ := hB1.ran hres
  have E02 : Ext T w0 w2 := hn1.to.trans he12 (fun _ _ h => h)
  clear k1 k2
  have hTl2 : ∀ j, (T' j ∨ Z j) → j < w2.heap.size := fun j hj => hj.elim (fun hj => hq2.lt hj) (fun hj => Nat.lt_of_lt_of_le (h.zl j hj) (Nat.le_trans hn0.size E02.size))
  have p2 := E02.keep b1 (fun hh => by have := hTl _ hh; omega)
  have o2 := E02.keep b2 (fun hh => by have := hTl _ hh; omega)
  have g2 := E02.keep b3 (fun hh => by have := hTl _ hh; omega)
  have hlt2 : w.heap.size < w2.heap.size := blk_lt p2
  have c0 := (blk_cell p2 0).trans rfl
  have c1 := (blk_cell p2 1).trans rfl
  have c2 := (blk_cell p2 2).trans rfl
  have c3 := (blk_cell p2 3).trans rfl
  have c4 := (blk_cell p2 4).trans rfl
  have c5 := (blk_cell p2 5).trans rfl
  have k1 := (blk_cell o2 1).trans rfl
  have k2 := (blk_cell o2 2).trans rfl
  go_wp2_with fail
  have hl0 : x.n0 ≤ 1000 := by have := h.ok.l0; have := h.wf.m1; have := h.wf.m2; have := h.s; subst this; omega
  refine (forget_d x o.k (fun j => (T' j ∨ Z j) ∨ j = w.heap.size + 2) _ (hok2.also h.ok (by omega)) (fun j hj => hj.elim (hTl2 j) (fun e => by have := blk_lt g2; omega)) (by rw [h.s]; exact h.wf) s' m b (by rw [h.s]; exact HR.out)).mono ?_
  rintro e w3 ⟨y, he, hok3, hys, hn3⟩
  replace he : e = .returned (.tuple #[.agg #[.slice y.a0 y.n0 y.c0, .slice y.a1 y.n1 y.c1, .slice y.a2 y.n2 y.c2, .int .i64 y.s.most, .int .i64 y.s.run, .int .i64 y.s.total], .int .i64 m, .bool b]) := he
  subst he
  have HYS := hide hys
  clear hys
  have g3 := hn3.keep g2
  clear c0 c1 c2 c3 c4 c5 k1 k2
  have hlt3 : w.heap.size + 2 < w3.heap.size := blk_lt g3
  go_upto_region 12 with (fail)
  have by3 := blk_new w3 (.cells y.o 46)
  have hn4 := New.alloc1 w3 (.cells y.o 46)
  have hl4 : w3.heap.size < (w3.alloc (.cells y.o 46)).heap.size := by simp
  obtain ⟨w4, hw4⟩ : ∃ v, v = w3.alloc (.cells y.o 46) := ⟨_, rfl⟩
  rw [← hw4] at by3 hn4 hl4
  rw [show w3.alloc (.cells #[.slice y.a0 y.n0 y.c0, .slice y.a1 y.n1 y.c1, .slice y.a2 y.n2 y.c2, .int .i64 y.s.most, .int .i64 y.s.run, .int .i64 y.s.total] 46) = w4 from hw4.symm]
  clear hw4
  have g4 := hn4.keep g3
  obtain ⟨X, hX⟩ : ∃ X, X = w3.heap.size := ⟨_, rfl⟩
  rw [← hX] at by3 hl4 ⊢
  have hXn : X ≠ w.heap.size + 2 := by omega
  clear hX
  have c0 := (blk_cell by3 0).trans rfl
  have c1 := (blk_cell by3 1).trans rfl
  have c2 := (blk_cell by3 2).trans rfl
  have c3 := (blk_cell by3 3).trans rfl
  have c4 := (blk_cell by3 4).trans rfl
  have c5 := (blk_cell by3 5).trans rfl
  have r0 := (blk_cell g4 0).trans rfl
  have rf0 := blk_free g4 0
  have r1 := (blk_cell g4 1).trans rfl
  have rf1 := blk_free g4 1
  have r2 := (blk_cell g4 2).trans rfl
  have rf2 := blk_free g4 2
  have r3 := (blk_cell g4 3).trans rfl
  have rf3 := blk_free g4 3
  have r4 := (blk_cell g4 4).trans rfl
  have rf4 := blk_free g4 4
  have r5 := (blk_cell g4 5).trans rfl
  have rf5 := blk_free g4 5
  have ee : (m == m) = true := by simp
  have eb : (b == b) = true := by simp
  go_wp2_with fail
  obtain ⟨wz, hwz, Yz, Sz⟩ := set6 g4 rfl (.slice y.a0 y.n0 y.c0) (.slice y.a1 y.n1 y.c1) (.slice y.a2 y.n2 y.c2) (.int .i64 y.s.most) (.int .i64 y.s.run) (.int .i64 y.s.total)
  rw [← hwz]
  clear hwz c0 c1 c2 c3 c4 c5 r0 r1 r2 r3 r4 r5 rf0 rf1 rf2 rf3 rf4 rf5
  have z0 := (blk_cell Yz 0).trans rfl
  have z1 := (blk_cell Yz 1).trans rfl
  have z2 := (blk_cell Yz 2).trans rfl
  have z3 := (blk_cell Yz 3).trans rfl
  have z4 := (blk_cell Yz 4).trans rfl
  have z5 := (blk_cell Yz 5).trans rfl
  have N24 := hn3.then hn4
  have hg2 : ¬ T' (w.heap.size + 2) := fun hh => (hf12 _ hh).elim (fun h1 => by have := hTl _ h1; omega) (fun h1 => by have := blk_lt (hn1.keep b3); omega)
  have E4 : Ext T w w4 := (hn0.to.trans E02 (fun _ _ h => h)).trans N24.to (fun _ _ h => h)
  have E4' : Ext (fun k => T k ∨ w.heap.size ≤ k) w w4 := E4.mono (fun k _ h => .inl h)
  have Sz' : Ext (fun k => T k ∨ w.heap.size ≤ k) w4 wz := Sz.mono (fun j _ e => .inr (by rw [show j = w.heap.size + 2 from e]; omega))
  have Ez : Ext T w wz := (E4'.trans Sz' (fun _ _ h => h)).mono (fun k hk e => e.elim id (fun e => absurd hk (by omega)))
  refine bodyPost_ret (v := .tuple #[y.v, .bool true]) (by simp [results, Try.results20, go_sem, z0, z1, z2, z3, z4, z5]) rfl ?_
  refine ⟨y, T', rfl, ⟨(hq2.new N24).keep Sz (fun j hj e => hg2 (by rw [show j = w.heap.size + 2 from e] at hj; exact hj)), hw2, ((hok3.new hn4).keep Sz (fun j e => .inl (.inr e))).wide (fun j hj => .inl (.inl hj)), HYS.out, fun j hj => Nat.lt_of_lt_of_le (h.zl j hj) Ez.size⟩, Ez, fun j hj => (hf12 j hj).imp id (fun h1 => by have := hn1.size; omega)⟩
end Go.Proofs.Ytmonhhodbinagaa
