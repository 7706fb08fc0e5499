/- The law's step. -/
import Derived.Test.YtmonhhodbinagaaK44
namespace Go.Proofs.Ytmonhhodbinagaa
open Go.RowKit Go.Maps
set_option maxRecDepth 100000

structure OpA where
  d : Int
  k : Int × Int
  cls : Int
  n : Int
abbrev OpA.o (x : OpA) : Array Value := #[.int .u8 x.d, .int .i64 x.k.1, .int .i64 x.k.2, .int .i64 x.cls, .int .i64 x.n]
abbrev OpA.v (x : OpA) : Value := .agg #[.int .u8 x.d, .int .i64 x.k.1, .int .i64 x.k.2, .int .i64 x.cls, .int .i64 x.n]
/-- Both stand alike: the program's pacer p and the document's x. -/
structure Bth (Z : Nat → Prop) (w : World) (p : Nat) (s : PS) (T : Nat → Prop) (x : DA) : Prop where
  q : Pq w p s T
  wf : s.Wf
  ok : x.ok (fun j => T j ∨ Z j) w
  s : x.s = s
  zl : ∀ j, Z j → j < w.heap.size
theorem Bth.new {w w' : World} {p : Nat} {s : PS} {T : Nat → Prop} {x : DA} {Z : Nat → Prop} (h : Bth Z w p s T x) (hn : New w w') : Bth Z w' p s T x := ⟨h.q.new hn, h.wf, h.ok.new hn, h.s, fun j hj => Nat.lt_of_lt_of_le (h.zl j hj) hn.size⟩
/-- A call of the program's: the document's rows stand. -/
theorem Bth.ran {w w' : World} {p : Nat} {s s' : PS} {T : Nat → Prop} {x : DA} {Z : Nat → Prop} (h : Bth Z w p s T x) (hr : Res w w' p s' T) : ∃ T', Pq w' p s' T' ∧ s'.Wf ∧ x.ok (fun j => T' j ∨ Z j) w' ∧ Ext T w w' ∧ ∀ k, T' k → T k ∨ w.heap.size ≤ k := by
  obtain ⟨⟨T', hq, he, hf⟩, hw⟩ := hr
  refine ⟨T', hq, hw, ?_, he, hf⟩
  have h2 := (h.ok.wide (S := fun k => (T k ∨ Z k) ∨ T' k) (fun k hk => hk.elim .inl (fun hk => (hf k hk).imp .inl id))).keep he (fun k hk => .inl (.inl (.inl hk)))
  exact h2.wide (fun k hk => .inl (hk.elim .inr (fun hk => .inl (.inr hk))))
theorem DA.ok.also {x : DA} {T T' : Nat → Prop} {w w' : World} {a : Nat} (h : x.ok T' w') (g : x.ok T w) (ha : w.heap.size ≤ a) : x.ok (fun j => T' j ∨ j = a) w' :=
  ⟨h.r0, h.r1, h.r2, fun k hk => ⟨fun e => e.elim (h.t0 k hk).1 (fun e => by have := (g.t0 k hk).2; omega), (h.t0 k hk).2⟩, fun k hk => ⟨fun e => e.elim (h.t1 k hk).1 (fun e => by have := (g.t1 k hk).2; omega), (h.t1 k hk).2⟩, fun k hk => ⟨fun e => e.elim (h.t2 k hk).1 (fun e => by have := (g.t2 k hk).2; omega), (h.t2 k hk).2⟩⟩
set_option maxHeartbeats 4000000 in
theorem step0 (w : World) (p : Nat) (s : PS) (T : Nat → Prop) (x : DA) (o : OpA) {Z : Nat → Prop} (h : Bth Z w p s T x) (hd : o.d % 8 = 0) (h0 : 0 ≤ o.d) (h255 : o.d ≤ 255) (s' : PS) (er : Int) (hr : knowR s o.k o.cls = (s', er)) :
    Calls Try.prog 20 #[.pointer (some ⟨p, 0, none⟩), x.v, o.v] w fun e w' => ∃ y T', e = .returned (.tuple #[DA.v y, .bool true]) ∧ Bth Z w' p s' T' y ∧ Ext T w w' ∧ ∀ k, T' k → T k ∨ w.heap.size ≤ k := by
  obtain ⟨w0, hw0, b1, b2, b3, hn0, hz0⟩ := threeNew w x.o o.o zP 46 51 46
  go_enter Try.func20, Try.ntmps20
  go_upto_region 1 with (fail)
  rw [← hw0]
  clear hw0
  have hb0 : w.heap.size + 3 ≤ w0.heap.size := by omega
  clear hz0
  have o0 := (blk_cell b2 0).trans rfl
  have e0 : (o.d % 8 == 0) = true := by simp [hd]
  clear hd
  have hTl : ∀ j, T j → j < w.heap.size := fun j hj => h.q.lt hj
  have hB0 := h.new hn0
  go_upto_region 6 with (fail)
  clear o0 e0
  have q1 : ∀ y : Lat T w0, y.W.cell? ⟨w.heap.size + 1, 1, none⟩ = some (.int .i64 o.k.1) := fun y => (blk_cell (y.ext.keep b2 (fun hh => by have := hTl _ hh; omega)) 1).trans rfl
  have q2 : ∀ y : Lat T w0, y.W.cell? ⟨w.heap.size + 1, 2, none⟩ = some (.int .i64 o.k.2) := fun y => (blk_cell (y.ext.keep b2 (fun hh => by have := hTl _ hh; omega)) 2).trans rfl
  have q3 : ∀ y : Lat T w0, y.W.cell? ⟨w.heap.size + 1, 3, none⟩ = some (.int .i64 o.cls) := fun y => (blk_cell (y.ext.keep b2 (fun hh => by have := hTl _ hh; omega)) 3).trans rfl
  have HR := hide hr
  clear hr
  go_wp2_with fail
  refine mix_start T w0 (by kernel_rfl) ?_
  refine mix_batch [0, 1, 2, 4, 5] (by kernel_rfl) 3 _ _ _ (by kernel_rfl) (lat_mem (by (repeat (first | exact Ext.refl _ _ | assumption | apply Ext.alloc | apply Ext.drewN | apply Ext.drew | refine Ext.setCell ?_ (fun h => by first | rfl | exact absurd h (by dsimp only; omega)) _)))) ?_
  simp only [pickOps, List.getD_cons_zero, List.getD_cons_succ]
  repeat (go_big_quiet_step (fail))
  refine wpQuiet_nil ?_
  refine mix_loud (i := 3) (by kernel_rfl) rfl (fun K hK => ?_)
  go_simp
  refine (of_k o.k _).mono ?_
  rintro e w1 ⟨rfl, hn1⟩
  have N01 : New w0 w1 := (show New w0 w0.drew by (repeat (first | exact Ext.refl _ _ | assumption | apply Ext.alloc | apply Ext.drewN | apply Ext.drew | refine Ext.setCell ?_ (fun h => by first | rfl | exact absurd h (by dsimp only; omega)) _))).then hn1
  refine hK.out _ _ (lat_mem N01.to) ?_
  clear hK
  refine mix_loud (i := 6) (by kernel_rfl) rfl (fun K hK => ?_)
  go_simp
  have hB1 := hB0.new N01
  refine (know_any hB1.q h.wf o.k o.cls er HR.out).mono ?_
  rintro e w2 ⟨rfl, hres⟩
  obtain ⟨T', hq2, hw2, hok2, he12, hf12⟩ := hB1.ran hres
  have E02 : Ext T w0 w2 := N01.to.trans he12 (fun _ _ h => h)
  refine hK.out _ _ (lat_mem E02) ?_
  clear hK q1 q2 q3
  refine mix_batch [7] (by kernel_rfl) 0 _ _ _ (by kernel_rfl) (lat_mem (by (repeat (first | exact Ext.refl _ _ | assumption | apply Ext.alloc | apply Ext.drewN | apply Ext.drew | refine Ext.setCell ?_ (fun h => by first | rfl | exact absurd h (by dsimp only; omega)) _)))) ?_
  simp only [pickOps, List.getD_cons_zero, List.getD_cons_succ]
  repeat (go_big_quiet_step (fail))
  refine wpQuiet_nil ?_
  refine wpAnyH_done (by kernel_rfl) (NoPanic.normal ?_) _
  have hTl2 : ∀ j, (T' j ∨ Z j) → j < w2.heap.size := fun j hj => hj.elim (fun hj => hq2.lt hj) (fun hj => Nat.lt_of_lt_of_le (h.zl j hj) (Nat.le_trans hn0.size E02.size))
  have p2 := E02.keep b1 (fun hh => by have := hTl _ hh; omega)
  have o2 := E02.keep b2 (fun hh => by have := hTl _ hh; omega)
  have g2 := E02.keep b3 (fun hh => by have := hTl _ hh; omega)
  have hlt2 : w.heap.size < w2.heap.size := blk_lt p2
  have c0 := (blk_cell p2 0).trans rfl
  have c1 := (blk_cell p2 1).trans rfl
  have c2 := (blk_cell p2 2).trans rfl
  have c3 := (blk_cell p2 3).trans rfl
  have c4 := (blk_cell p2 4).trans rfl
  have c5 := (blk_cell p2 5).trans rfl
  have k1 := (blk_cell o2 1).trans rfl
  have k2 := (blk_cell o2 2).trans rfl
  have k3 := (blk_cell o2 3).trans rfl
  go_wp2_with fail
  have hl0 : x.n0 ≤ 1000 := by have := h.ok.l0; have := h.wf.m1; have := h.wf.m2; have := h.s; subst this; omega
  refine (know_d x o.k o.cls (fun j => (T' j ∨ Z j) ∨ j = w.heap.size + 2) _ (hok2.also h.ok (by omega)) (fun j hj => hj.elim (hTl2 j) (fun e => by have := blk_lt g2; omega)) hl0 (by rw [h.s]; exact h.wf.nd) s' er (by rw [h.s]; exact HR.out)).mono ?_
  rintro e w3 ⟨y, he, hok3, hys, hn3⟩
  replace he : e = .returned (.tuple #[.agg #[.slice y.a0 y.n0 y.c0, .slice y.a1 y.n1 y.c1, .slice y.a2 y.n2 y.c2, .int .i64 y.s.most, .int .i64 y.s.run, .int .i64 y.s.total], .int .i64 er]) := he
  subst he
  have HYS := hide hys
  clear hys
  have g3 := hn3.keep g2
  clear c0 c1 c2 c3 c4 c5 k1 k2 k3
  have hlt3 : w.heap.size + 2 < w3.heap.size := blk_lt g3
  go_upto_region 8 with (fail)
  have by3 := blk_new w3 (.cells y.o 46)
  have hn4 := New.alloc1 w3 (.cells y.o 46)
  have hl4 : w3.heap.size < (w3.alloc (.cells y.o 46)).heap.size := by simp
  obtain ⟨w4, hw4⟩ : ∃ v, v = w3.alloc (.cells y.o 46) := ⟨_, rfl⟩
  rw [← hw4] at by3 hn4 hl4
  rw [show w3.alloc (.cells #[.slice y.a0 y.n0 y.c0, .slice y.a1 y.n1 y.c1, .slice y.a2 y.n2 y.c2, .int .i64 y.s.most, .int .i64 y.s.run, .int .i64 y.s.total] 46) = w4 from hw4.symm]
  clear hw4
  have g4 := hn4.keep g3
  obtain ⟨X, hX⟩ : ∃ X, X = w3.heap.size := ⟨_, rfl⟩
  rw [← hX] at by3 hl4 ⊢
  have hXn : X ≠ w.heap.size + 2 := by omega
  clear hX
  have c0 := (blk_cell by3 0).trans rfl
  have c1 := (blk_cell by3 1).trans rfl
  have c2 := (blk_cell by3 2).trans rfl
  have c3 := (blk_cell by3 3).trans rfl
  have c4 := (blk_cell by3 4).trans rfl
  have c5 := (blk_cell by3 5).trans rfl
  have r0 := (blk_cell g4 0).trans rfl
  have rf0 := blk_free g4 0
  have r1 := (blk_cell g4 1).trans rfl
  have rf1 := blk_free g4 1
  have r2 := (blk_cell g4 2).trans rfl
  have rf2 := blk_free g4 2
  have r3 := (blk_cell g4 3).trans rfl
  have rf3 := blk_free g4 3
  have r4 := (blk_cell g4 4).trans rfl
  have rf4 := blk_free g4 4
  have r5 := (blk_cell g4 5).trans rfl
  have rf5 := blk_free g4 5
  have ee : (er == er) = true := by simp
  go_wp2_with fail
  obtain ⟨wz, hwz, Yz, Sz⟩ := set6 g4 rfl (.slice y.a0 y.n0 y.c0) (.slice y.a1 y.n1 y.c1) (.slice y.a2 y.n2 y.c2) (.int .i64 y.s.most) (.int .i64 y.s.run) (.int .i64 y.s.total)
  rw [← hwz]
  clear hwz c0 c1 c2 c3 c4 c5 r0 r1 r2 r3 r4 r5 rf0 rf1 rf2 rf3 rf4 rf5
  have z0 := (blk_cell Yz 0).trans rfl
  have z1 := (blk_cell Yz 1).trans rfl
  have z2 := (blk_cell Yz 2).trans rfl
  have z3 := (blk_cell Yz 3).trans rfl
  have z4 := (blk_cell Yz 4).trans rfl
  have z5 := (blk_cell Yz 5).trans rfl
  have N24 := hn3.then hn4
  have hg2 : ¬ T' (w.heap.size + 2) := fun hh => (hf12 _ hh).elim (fun h1 => by have := hTl _ h1; omega) (fun h1 => by have := blk_lt (hn1.keep ((show New w0 w0.drew by (repeat (first | exact Ext.refl _ _ | assumption | apply Ext.alloc | apply Ext.drewN | apply Ext.drew | refine Ext.setCell ?_ (fun h => by first | rfl | exact absurd h (by dsimp only; omega)) _))).keep b3)); omega)
  have E4 : Ext T w w4 := (hn0.to.trans E02 (fun _ _ h => h)).trans N24.to (fun _ _ h => h)
  have E4' : Ext (fun k => T k ∨ w.heap.size ≤ k) w w4 := E4.mono (fun k _ h => .inl h)
  have Sz' : Ext (fun k => T k ∨ w.heap.size ≤ k) w4 wz := Sz.mono (fun j _ e => .inr (by rw [show j = w.heap.size + 2 from e]; omega))
  have Ez : Ext T w wz := (E4'.trans Sz' (fun _ _ h => h)).mono (fun k hk e => e.elim id (fun e => absurd hk (by omega)))
  refine bodyPost_ret (v := .tuple #[y.v, .bool true]) (by simp [results, Try.results20, go_sem, z0, z1, z2, z3, z4, z5]) rfl ?_
  refine ⟨y, T', rfl, ⟨(hq2.new N24).keep Sz (fun j hj e => hg2 (by rw [show j = w.heap.size + 2 from e] at hj; exact hj)), hw2, ((hok3.new hn4).keep Sz (fun j e => .inl (.inr e))).wide (fun j hj => .inl (.inl hj)), HYS.out, fun j hj => Nat.lt_of_lt_of_le (h.zl j hj) Ez.size⟩, Ez, fun j hj => (hf12 j hj).imp id (fun h1 => by have := N01.size; omega)⟩
end Go.Proofs.Ytmonhhodbinagaa
