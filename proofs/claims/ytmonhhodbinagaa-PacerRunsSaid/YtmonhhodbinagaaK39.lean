/- The document's pacer: whose turn it is. -/
import Derived.Test.YtmonhhodbinagaaK36
namespace Go.Proofs.Ytmonhhodbinagaa
open Go.RowKit Go.Maps
set_option maxRecDepth 100000

theorem size_d : (Try.prog.info? 49).map (fun i => i.size) = some 2 := by kernel_rfl
/-- A turn taken: class c's first is gone. -/
def turnS (s : PS) (c : Nat) (rest : List (Int × Int)) (run : Int) : PS := { s with u := upd s.u c rest, run := run }
set_option maxHeartbeats 4000000 in
theorem turn_d1a (x : DA) (T : Nat → Prop) (w : World) (h : x.ok T w) (hs1 : x.n1 ≤ 1000) (hs2 : x.n2 ≤ 1000) (hr0 : 0 ≤ x.s.run) (hr1 : x.s.run ≤ 4) (h1 : x.n1 = 0) (k : Int × Int) (rest : List (Int × Int)) (hu : x.s.u 1 = k :: rest) :
    Calls Try.prog 45 #[x.v] w fun e w' => ∃ y : DA, e = .returned (.tuple #[y.v, kV k, .bool true]) ∧ y.ok T w' ∧ y.s = turnS x.s 1 rest 0 ∧ New w w' := by
  obtain ⟨w0, hw0, b1, b2, b3, hn0, hz0⟩ := threeNew w x.o zP #[.int .i64 0, .int .i64 0] 46 46 49
  have e1 : ((x.n1 : Int) == 0) = true := by simp [h1]
  have e2 : decide (0 < x.n1) = false := decide_eq_false (by omega)
  have H1 := hide h1
  clear h1
  go_enter Try.func45, Try.ntmps45
  go_upto_region 1 with (fail)
  rw [← hw0]
  clear hw0
  have hb0 : w.heap.size + 3 ≤ w0.heap.size := by omega
  clear hz0
  have h0 := h.new hn0
  have hpos : 1 ≤ x.n2 := by have := h.l2; rw [hu] at this; simp at this; omega
  have hrr := h0.r2
  obtain ⟨ad, hA⟩ := hrr.some (by omega)
  rw [hA, hu] at hrr
  obtain ⟨t0, t1⟩ := hrr.cellk (k := 0) (x := k) rfl
  rw [Nat.zero_mul, show ad.add 0 = ad by simp [Addr.add]] at t0 t1
  have s1 := run_cut_l (P := Try.prog) 44 49 2 Try.underlying44 size_d (some ad) x.n2 x.c2 1 1 rfl hpos .i64
  have dd : decide (0 < x.n2) = true := decide_eq_true (by omega)
  have HU := hide hu
  have hlt1 : w.heap.size < w0.heap.size := by omega
  have hrun := hr0
  have c0 : w0.cell? ⟨w.heap.size, 0, none⟩ = some (.slice x.a0 x.n0 x.c0) := by exact (blk_cell b1 0).trans rfl
  have c1 : w0.cell? ⟨w.heap.size, 1, none⟩ = some (.slice x.a1 x.n1 x.c1) := by exact (blk_cell b1 1).trans rfl
  have c2 : w0.cell? ⟨w.heap.size, 2, none⟩ = some (.slice (some ad) x.n2 x.c2) := by rw [← hA]; exact (blk_cell b1 2).trans rfl
  have c3 : w0.cell? ⟨w.heap.size, 3, none⟩ = some (.int .i64 x.s.most) := by exact (blk_cell b1 3).trans rfl
  have c4 : w0.cell? ⟨w.heap.size, 4, none⟩ = some (.int .i64 x.s.run) := by exact (blk_cell b1 4).trans rfl
  have c5 : w0.cell? ⟨w.heap.size, 5, none⟩ = some (.int .i64 x.s.total) := by exact (blk_cell b1 5).trans rfl
  have HA := hide hA
  clear hA hu hrr
  go_upto_region 3 with (fail)
  have hn1 := New.alloc1 w0 (.cells #[.int .i64 k.1, .int .i64 k.2] 49)
  have kb := blk_new w0 (.cells #[.int .i64 k.1, .int .i64 k.2] 49)
  generalize w0.alloc (.cells #[.int .i64 k.1, .int .i64 k.2] 49) = w1 at *
  obtain ⟨K, hK0⟩ : ∃ K, K = w0.heap.size := ⟨_, rfl⟩
  rw [← hK0] at kb ⊢
  have hKlo : w.heap.size + 3 ≤ K := by omega
  clear hK0
  have p1 := hn1.keep b1
  have q1 := hn1.keep b2
  have g1 := hn1.keep b3
  have N1 := hn0.then hn1
  have hlt1 : w.heap.size < w1.heap.size := blk_lt p1
  clear c0 c1 c2 c3 c4 c5 t0 t1
  have kp : w1.cell? ⟨w.heap.size, 2, none⟩ = some (.slice (some ad) x.n2 x.c2) := by rw [← HA.out]; exact (blk_cell p1 2).trans rfl
  have kf := blk_free p1 2
  go_upto_region 4 with (fail)
  have p2 := blk_set p1 2 (.slice (sl (some ad) x.c2 1 2) (x.n2 - 1) (x.c2 - 1))
  have S2 : Ext (fun j => j = w.heap.size) w1 (w1.setCell ⟨w.heap.size, 2, none⟩ (.slice (sl (some ad) x.c2 1 2) (x.n2 - 1) (x.c2 - 1))) := (Ext.refl _ w1).set (by rfl)
  generalize w1.setCell ⟨w.heap.size, 2, none⟩ (.slice (sl (some ad) x.c2 1 2) (x.n2 - 1) (x.c2 - 1)) = w2 at *
  have q2 := S2.keep q1 (by omega)
  have g2 := S2.keep g1 (by omega)
  have kb2 := S2.keep kb (by omega)
  have N2 : New w w2 := N1.trans S2 (fun j hj e => by omega)
  clear kp kf s1
  have kc1 : w2.cell? ⟨w.heap.size, 1, none⟩ = some (.slice x.a1 x.n1 x.c1) := (blk_cell p2 1).trans rfl
  have kc4 : w2.cell? ⟨w.heap.size, 4, none⟩ = some (.int .i64 x.s.run) := (blk_cell p2 4).trans rfl
  have kf := blk_free p2 4
  go_upto_region 7 with (fail)
  have p3 := blk_set p2 4 (.int .i64 0)
  have S3 : Ext (fun j => j = w.heap.size) w2 (w2.setCell ⟨w.heap.size, 4, none⟩ (.int .i64 0)) := (Ext.refl _ w2).set (by rfl)
  generalize w2.setCell ⟨w.heap.size, 4, none⟩ (.int .i64 0) = w3 at *
  have q3 := S3.keep q2 (by omega)
  have g3 := S3.keep g2 (by omega)
  have kb3 := S3.keep kb2 (by omega)
  have N3 : New w w3 := N2.trans S3 (fun j hj e => by omega)
  clear kf kc1 kc4
  have h0c : ∀ y : Lat (fun j => j = w.heap.size + 1 ∨ j = w.heap.size + 2) w3, y.W.cell? ⟨w.heap.size, 0, none⟩ = some (.slice x.a0 x.n0 x.c0) := fun y => (blk_cell (y.ext.keep p3 (by omega)) 0).trans rfl
  have h1c : ∀ y : Lat (fun j => j = w.heap.size + 1 ∨ j = w.heap.size + 2) w3, y.W.cell? ⟨w.heap.size, 1, none⟩ = some (.slice x.a1 x.n1 x.c1) := fun y => (blk_cell (y.ext.keep p3 (by omega)) 1).trans rfl
  have h2c : ∀ y : Lat (fun j => j = w.heap.size + 1 ∨ j = w.heap.size + 2) w3, y.W.cell? ⟨w.heap.size, 2, none⟩ = some (.slice (sl (some ad) x.c2 1 2) (x.n2 - 1) (x.c2 - 1)) := fun y => (blk_cell (y.ext.keep p3 (by omega)) 2).trans rfl
  have h3c : ∀ y : Lat (fun j => j = w.heap.size + 1 ∨ j = w.heap.size + 2) w3, y.W.cell? ⟨w.heap.size, 3, none⟩ = some (.int .i64 x.s.most) := fun y => (blk_cell (y.ext.keep p3 (by omega)) 3).trans rfl
  have h4c : ∀ y : Lat (fun j => j = w.heap.size + 1 ∨ j = w.heap.size + 2) w3, y.W.cell? ⟨w.heap.size, 4, none⟩ = some (.int .i64 0) := fun y => (blk_cell (y.ext.keep p3 (by omega)) 4).trans rfl
  have h5c : ∀ y : Lat (fun j => j = w.heap.size + 1 ∨ j = w.heap.size + 2) w3, y.W.cell? ⟨w.heap.size, 5, none⟩ = some (.int .i64 x.s.total) := fun y => (blk_cell (y.ext.keep p3 (by omega)) 5).trans rfl
  have h0k : ∀ y : Lat (fun j => j = w.heap.size + 1 ∨ j = w.heap.size + 2) w3, y.W.cell? ⟨K, 0, none⟩ = some (.int .i64 k.1) := fun y => (blk_cell (y.ext.keep kb3 (by omega)) 0).trans rfl
  have h1k : ∀ y : Lat (fun j => j = w.heap.size + 1 ∨ j = w.heap.size + 2) w3, y.W.cell? ⟨K, 1, none⟩ = some (.int .i64 k.2) := fun y => (blk_cell (y.ext.keep kb3 (by omega)) 1).trans rfl
  have r0 := (blk_cell q3 0).trans rfl
  have rf0 := blk_free q3 0
  have r1 := (blk_cell q3 1).trans rfl
  have rf1 := blk_free q3 1
  have r2 := (blk_cell q3 2).trans rfl
  have rf2 := blk_free q3 2
  have r3 := (blk_cell q3 3).trans rfl
  have rf3 := blk_free q3 3
  have r4 := (blk_cell q3 4).trans rfl
  have rf4 := blk_free q3 4
  have r5 := (blk_cell q3 5).trans rfl
  have rf5 := blk_free q3 5
  go_wp2_with fail
  refine mix_start (fun j => j = w.heap.size + 1 ∨ j = w.heap.size + 2) w3 (by kernel_rfl) ?_
  refine mix_batch [0, 1] (by kernel_rfl) 3 _ _ _ (by kernel_rfl) (lat_mem (by (repeat (first | exact Ext.refl _ _ | assumption | apply Ext.alloc | apply Ext.drewN | apply Ext.drew | refine Ext.setCell ?_ (fun h => by first | rfl | exact absurd h (by dsimp only; omega)) _)))) ?_
  simp only [pickOps, List.getD_cons_zero, List.getD_cons_succ]
  repeat (go_big_quiet_step (fail))
  refine wpQuiet_nil ?_
  refine mix_loud (i := 2) (by kernel_rfl) rfl (fun K hK => ?_)
  go_simp
  obtain ⟨w4, hw4, p4, S4⟩ := set6 q3 rfl (.slice x.a0 x.n0 x.c0) (.slice x.a1 x.n1 x.c1) (.slice (sl (some ad) x.c2 1 2) (x.n2 - 1) (x.c2 - 1)) (.int .i64 x.s.most) (.int .i64 0) (.int .i64 x.s.total)
  rw [← hw4]
  have E4 : Ext (fun j => j = w.heap.size + 1 ∨ j = w.heap.size + 2) w3 w4 := S4.mono (fun j _ e => .inl e)
  have E4d : Ext (fun j => j = w.heap.size + 1 ∨ j = w.heap.size + 2) w3 w4.drew := E4.trans (show New w4 w4.drew by (repeat (first | exact Ext.refl _ _ | assumption | apply Ext.alloc | apply Ext.drewN | apply Ext.drew | refine Ext.setCell ?_ (fun h => by first | rfl | exact absurd h (by dsimp only; omega)) _))).to (fun _ _ h => h)
  refine hK.out _ _ (lat_mem (by first | exact E4d | exact E4)) ?_
  clear hK hw4 r0 r1 r2 r3 r4 r5 rf0 rf1 rf2 rf3 rf4 rf5
  have g4 := S4.keep g3 (by omega)
  have u0 := (blk_cell g4 0).trans rfl
  have uf0 := blk_free g4 0
  have u1 := (blk_cell g4 1).trans rfl
  have uf1 := blk_free g4 1
  refine mix_loud (i := 3) (by kernel_rfl) rfl (fun K hK => ?_)
  go_simp
  obtain ⟨w5, hw5, g5, S5⟩ := set2 g4 rfl (.int .i64 k.1) (.int .i64 k.2)
  rw [← hw5]
  have E5 : Ext (fun j => j = w.heap.size + 1 ∨ j = w.heap.size + 2) w3 w5 := E4.trans (S5.mono (fun j _ e => .inr e)) (fun _ _ h => h)
  have E5d : Ext (fun j => j = w.heap.size + 1 ∨ j = w.heap.size + 2) w3 w5.drew := E5.trans (show New w5 w5.drew by (repeat (first | exact Ext.refl _ _ | assumption | apply Ext.alloc | apply Ext.drewN | apply Ext.drew | refine Ext.setCell ?_ (fun h => by first | rfl | exact absurd h (by dsimp only; omega)) _))).to (fun _ _ h => h)
  refine hK.out _ _ (lat_mem (by first | exact E5d | exact E5)) ?_
  clear hK hw5 u0 u1 uf0 uf1
  refine mix_batch [4] (by kernel_rfl) 0 _ _ _ (by kernel_rfl) (lat_mem (by (repeat (first | exact Ext.refl _ _ | assumption | apply Ext.alloc | apply Ext.drewN | apply Ext.drew | refine Ext.setCell ?_ (fun h => by first | rfl | exact absurd h (by dsimp only; omega)) _)))) ?_
  simp only [pickOps, List.getD_cons_zero, List.getD_cons_succ]
  repeat (go_big_quiet_step (fail))
  refine wpQuiet_nil ?_
  refine wpAnyH_done (by kernel_rfl) (NoPanic.normal ?_) _
  have p5 := S5.keep p4 (by omega)
  have z0 := (blk_cell p5 0).trans rfl
  have z1 := (blk_cell p5 1).trans rfl
  have z2 := (blk_cell p5 2).trans rfl
  have z3 := (blk_cell p5 3).trans rfl
  have z4 := (blk_cell p5 4).trans rfl
  have z5 := (blk_cell p5 5).trans rfl
  have y0 := (blk_cell g5 0).trans rfl
  have y1 := (blk_cell g5 1).trans rfl
  go_wp2_with fail
  have N9 : New w w5.drew := N3.trans E5d (fun j hj e => by omega)
  refine bodyPost_ret (v := .tuple #[.agg #[.slice x.a0 x.n0 x.c0, .slice x.a1 x.n1 x.c1, .slice (sl (some ad) x.c2 1 2) (x.n2 - 1) (x.c2 - 1), .int .i64 x.s.most, .int .i64 0, .int .i64 x.s.total], kV k, .bool true]) (by simp [results, Try.results45, go_sem, z0, z1, z2, z3, z4, z5, y0, y1]) rfl ?_
  refine ⟨⟨turnS x.s 1 rest 0, x.a0, x.n0, x.c0, x.a1, x.n1, x.c1, sl (some ad) x.c2 1 2, x.n2 - 1, x.c2 - 1⟩, rfl, ⟨h.r0.new N9, (by show Rd _ 2 x.a1 x.n1 x.c1 (kcs (upd x.s.u 1 rest 0)); rw [upd_other _ _ (by decide)]; exact h.r1.new N9), (by show Rd _ 2 _ _ _ (kcs (upd x.s.u 1 rest 1)); rw [upd_same]; have h9 := h.r2.new N9; rw [HA.out, HU.out] at h9; exact h9.dropk 1 hpos), h.t0.new N9, h.t1.new N9, (fun j hj => h.t2.new N9 j (by rw [HA.out]; exact sl_in hj))⟩, rfl, N9⟩
set_option maxHeartbeats 4000000 in
theorem turn_d1b (x : DA) (T : Nat → Prop) (w : World) (h : x.ok T w) (hs1 : x.n1 ≤ 1000) (hs2 : x.n2 ≤ 1000) (hr0 : 0 ≤ x.s.run) (hr1 : x.s.run ≤ 4) (h1 : 1 ≤ x.n1) (h2 : x.s.run < 4) (k : Int × Int) (rest : List (Int × Int)) (hu : x.s.u 1 = k :: rest) :
    Calls Try.prog 45 #[x.v] w fun e w' => ∃ y : DA, e = .returned (.tuple #[y.v, kV k, .bool true]) ∧ y.ok T w' ∧ y.s = turnS x.s 1 rest (x.s.run + 1) ∧ New w w' := by
  obtain ⟨w0, hw0, b1, b2, b3, hn0, hz0⟩ := threeNew w x.o zP #[.int .i64 0, .int .i64 0] 46 46 49
  have e1 : ((x.n1 : Int) == 0) = false := by simp; omega
  have e2 : decide (0 < x.n1) = true := decide_eq_true (by omega)
  have e3 : decide (x.s.run < 4) = true := decide_eq_true h2
  go_enter Try.func45, Try.ntmps45
  go_upto_region 1 with (fail)
  rw [← hw0]
  clear hw0
  have hb0 : w.heap.size + 3 ≤ w0.heap.size := by omega
  clear hz0
  have h0 := h.new hn0
  have hpos : 1 ≤ x.n2 := by have := h.l2; rw [hu] at this; simp at this; omega
  have hrr := h0.r2
  obtain ⟨ad, hA⟩ := hrr.some (by omega)
  rw [hA, hu] at hrr
  obtain ⟨t0, t1⟩ := hrr.cellk (k := 0) (x := k) rfl
  rw [Nat.zero_mul, show ad.add 0 = ad by simp [Addr.add]] at t0 t1
  have s1 := run_cut_l (P := Try.prog) 44 49 2 Try.underlying44 size_d (some ad) x.n2 x.c2 1 1 rfl hpos .i64
  have dd : decide (0 < x.n2) = true := decide_eq_true (by omega)
  have HU := hide hu
  have hlt1 : w.heap.size < w0.heap.size := by omega
  have hrun := hr0
  have c0 : w0.cell? ⟨w.heap.size, 0, none⟩ = some (.slice x.a0 x.n0 x.c0) := by exact (blk_cell b1 0).trans rfl
  have c1 : w0.cell? ⟨w.heap.size, 1, none⟩ = some (.slice x.a1 x.n1 x.c1) := by exact (blk_cell b1 1).trans rfl
  have c2 : w0.cell? ⟨w.heap.size, 2, none⟩ = some (.slice (some ad) x.n2 x.c2) := by rw [← hA]; exact (blk_cell b1 2).trans rfl
  have c3 : w0.cell? ⟨w.heap.size, 3, none⟩ = some (.int .i64 x.s.most) := by exact (blk_cell b1 3).trans rfl
  have c4 : w0.cell? ⟨w.heap.size, 4, none⟩ = some (.int .i64 x.s.run) := by exact (blk_cell b1 4).trans rfl
  have c5 : w0.cell? ⟨w.heap.size, 5, none⟩ = some (.int .i64 x.s.total) := by exact (blk_cell b1 5).trans rfl
  have HA := hide hA
  clear hA hu hrr
  go_upto_region 3 with (fail)
  have hn1 := New.alloc1 w0 (.cells #[.int .i64 k.1, .int .i64 k.2] 49)
  have kb := blk_new w0 (.cells #[.int .i64 k.1, .int .i64 k.2] 49)
  generalize w0.alloc (.cells #[.int .i64 k.1, .int .i64 k.2] 49) = w1 at *
  obtain ⟨K, hK0⟩ : ∃ K, K = w0.heap.size := ⟨_, rfl⟩
  rw [← hK0] at kb ⊢
  have hKlo : w.heap.size + 3 ≤ K := by omega
  clear hK0
  have p1 := hn1.keep b1
  have q1 := hn1.keep b2
  have g1 := hn1.keep b3
  have N1 := hn0.then hn1
  have hlt1 : w.heap.size < w1.heap.size := blk_lt p1
  clear c0 c1 c2 c3 c4 c5 t0 t1
  have kp : w1.cell? ⟨w.heap.size, 2, none⟩ = some (.slice (some ad) x.n2 x.c2) := by rw [← HA.out]; exact (blk_cell p1 2).trans rfl
  have kf := blk_free p1 2
  go_upto_region 4 with (fail)
  have p2 := blk_set p1 2 (.slice (sl (some ad) x.c2 1 2) (x.n2 - 1) (x.c2 - 1))
  have S2 : Ext (fun j => j = w.heap.size) w1 (w1.setCell ⟨w.heap.size, 2, none⟩ (.slice (sl (some ad) x.c2 1 2) (x.n2 - 1) (x.c2 - 1))) := (Ext.refl _ w1).set (by rfl)
  generalize w1.setCell ⟨w.heap.size, 2, none⟩ (.slice (sl (some ad) x.c2 1 2) (x.n2 - 1) (x.c2 - 1)) = w2 at *
  have q2 := S2.keep q1 (by omega)
  have g2 := S2.keep g1 (by omega)
  have kb2 := S2.keep kb (by omega)
  have N2 : New w w2 := N1.trans S2 (fun j hj e => by omega)
  clear kp kf s1
  have kc1 : w2.cell? ⟨w.heap.size, 1, none⟩ = some (.slice x.a1 x.n1 x.c1) := (blk_cell p2 1).trans rfl
  have kc4 : w2.cell? ⟨w.heap.size, 4, none⟩ = some (.int .i64 x.s.run) := (blk_cell p2 4).trans rfl
  have kf := blk_free p2 4
  go_upto_region 7 with (fail)
  have p3 := blk_set p2 4 (.int .i64 (x.s.run + 1))
  have S3 : Ext (fun j => j = w.heap.size) w2 (w2.setCell ⟨w.heap.size, 4, none⟩ (.int .i64 (x.s.run + 1))) := (Ext.refl _ w2).set (by rfl)
  generalize w2.setCell ⟨w.heap.size, 4, none⟩ (.int .i64 (x.s.run + 1)) = w3 at *
  have q3 := S3.keep q2 (by omega)
  have g3 := S3.keep g2 (by omega)
  have kb3 := S3.keep kb2 (by omega)
  have N3 : New w w3 := N2.trans S3 (fun j hj e => by omega)
  clear kf kc1 kc4
  have h0c : ∀ y : Lat (fun j => j = w.heap.size + 1 ∨ j = w.heap.size + 2) w3, y.W.cell? ⟨w.heap.size, 0, none⟩ = some (.slice x.a0 x.n0 x.c0) := fun y => (blk_cell (y.ext.keep p3 (by omega)) 0).trans rfl
  have h1c : ∀ y : Lat (fun j => j = w.heap.size + 1 ∨ j = w.heap.size + 2) w3, y.W.cell? ⟨w.heap.size, 1, none⟩ = some (.slice x.a1 x.n1 x.c1) := fun y => (blk_cell (y.ext.keep p3 (by omega)) 1).trans rfl
  have h2c : ∀ y : Lat (fun j => j = w.heap.size + 1 ∨ j = w.heap.size + 2) w3, y.W.cell? ⟨w.heap.size, 2, none⟩ = some (.slice (sl (some ad) x.c2 1 2) (x.n2 - 1) (x.c2 - 1)) := fun y => (blk_cell (y.ext.keep p3 (by omega)) 2).trans rfl
  have h3c : ∀ y : Lat (fun j => j = w.heap.size + 1 ∨ j = w.heap.size + 2) w3, y.W.cell? ⟨w.heap.size, 3, none⟩ = some (.int .i64 x.s.most) := fun y => (blk_cell (y.ext.keep p3 (by omega)) 3).trans rfl
  have h4c : ∀ y : Lat (fun j => j = w.heap.size + 1 ∨ j = w.heap.size + 2) w3, y.W.cell? ⟨w.heap.size, 4, none⟩ = some (.int .i64 (x.s.run + 1)) := fun y => (blk_cell (y.ext.keep p3 (by omega)) 4).trans rfl
  have h5c : ∀ y : Lat (fun j => j = w.heap.size + 1 ∨ j = w.heap.size + 2) w3, y.W.cell? ⟨w.heap.size, 5, none⟩ = some (.int .i64 x.s.total) := fun y => (blk_cell (y.ext.keep p3 (by omega)) 5).trans rfl
  have h0k : ∀ y : Lat (fun j => j = w.heap.size + 1 ∨ j = w.heap.size + 2) w3, y.W.cell? ⟨K, 0, none⟩ = some (.int .i64 k.1) := fun y => (blk_cell (y.ext.keep kb3 (by omega)) 0).trans rfl
  have h1k : ∀ y : Lat (fun j => j = w.heap.size + 1 ∨ j = w.heap.size + 2) w3, y.W.cell? ⟨K, 1, none⟩ = some (.int .i64 k.2) := fun y => (blk_cell (y.ext.keep kb3 (by omega)) 1).trans rfl
  have r0 := (blk_cell q3 0).trans rfl
  have rf0 := blk_free q3 0
  have r1 := (blk_cell q3 1).trans rfl
  have rf1 := blk_free q3 1
  have r2 := (blk_cell q3 2).trans rfl
  have rf2 := blk_free q3 2
  have r3 := (blk_cell q3 3).trans rfl
  have rf3 := blk_free q3 3
  have r4 := (blk_cell q3 4).trans rfl
  have rf4 := blk_free q3 4
  have r5 := (blk_cell q3 5).trans rfl
  have rf5 := blk_free q3 5
  go_wp2_with fail
  refine mix_start (fun j => j = w.heap.size + 1 ∨ j = w.heap.size + 2) w3 (by kernel_rfl) ?_
  refine mix_batch [0, 1] (by kernel_rfl) 3 _ _ _ (by kernel_rfl) (lat_mem (by (repeat (first | exact Ext.refl _ _ | assumption | apply Ext.alloc | apply Ext.drewN | apply Ext.drew | refine Ext.setCell ?_ (fun h => by first | rfl | exact absurd h (by dsimp only; omega)) _)))) ?_
  simp only [pickOps, List.getD_cons_zero, List.getD_cons_succ]
  repeat (go_big_quiet_step (fail))
  refine wpQuiet_nil ?_
  refine mix_loud (i := 2) (by kernel_rfl) rfl (fun K hK => ?_)
  go_simp
  obtain ⟨w4, hw4, p4, S4⟩ := set6 q3 rfl (.slice x.a0 x.n0 x.c0) (.slice x.a1 x.n1 x.c1) (.slice (sl (some ad) x.c2 1 2) (x.n2 - 1) (x.c2 - 1)) (.int .i64 x.s.most) (.int .i64 (x.s.run + 1)) (.int .i64 x.s.total)
  rw [← hw4]
  have E4 : Ext (fun j => j = w.heap.size + 1 ∨ j = w.heap.size + 2) w3 w4 := S4.mono (fun j _ e => .inl e)
  have E4d : Ext (fun j => j = w.heap.size + 1 ∨ j = w.heap.size + 2) w3 w4.drew := E4.trans (show New w4 w4.drew by (repeat (first | exact Ext.refl _ _ | assumption | apply Ext.alloc | apply Ext.drewN | apply Ext.drew | refine Ext.setCell ?_ (fun h => by first | rfl | exact absurd h (by dsimp only; omega)) _))).to (fun _ _ h => h)
  refine hK.out _ _ (lat_mem (by first | exact E4d | exact E4)) ?_
  clear hK hw4 r0 r1 r2 r3 r4 r5 rf0 rf1 rf2 rf3 rf4 rf5
  have g4 := S4.keep g3 (by omega)
  have u0 := (blk_cell g4 0).trans rfl
  have uf0 := blk_free g4 0
  have u1 := (blk_cell g4 1).trans rfl
  have uf1 := blk_free g4 1
  refine mix_loud (i := 3) (by kernel_rfl) rfl (fun K hK => ?_)
  go_simp
  obtain ⟨w5, hw5, g5, S5⟩ := set2 g4 rfl (.int .i64 k.1) (.int .i64 k.2)
  rw [← hw5]
  have E5 : Ext (fun j => j = w.heap.size + 1 ∨ j = w.heap.size + 2) w3 w5 := E4.trans (S5.mono (fun j _ e => .inr e)) (fun _ _ h => h)
  have E5d : Ext (fun j => j = w.heap.size + 1 ∨ j = w.heap.size + 2) w3 w5.drew := E5.trans (show New w5 w5.drew by (repeat (first | exact Ext.refl _ _ | assumption | apply Ext.alloc | apply Ext.drewN | apply Ext.drew | refine Ext.setCell ?_ (fun h => by first | rfl | exact absurd h (by dsimp only; omega)) _))).to (fun _ _ h => h)
  refine hK.out _ _ (lat_mem (by first | exact E5d | exact E5)) ?_
  clear hK hw5 u0 u1 uf0 uf1
  refine mix_batch [4] (by kernel_rfl) 0 _ _ _ (by kernel_rfl) (lat_mem (by (repeat (first | exact Ext.refl _ _ | assumption | apply Ext.alloc | apply Ext.drewN | apply Ext.drew | refine Ext.setCell ?_ (fun h => by first | rfl | exact absurd h (by dsimp only; omega)) _)))) ?_
  simp only [pickOps, List.getD_cons_zero, List.getD_cons_succ]
  repeat (go_big_quiet_step (fail))
  refine wpQuiet_nil ?_
  refine wpAnyH_done (by kernel_rfl) (NoPanic.normal ?_) _
  have p5 := S5.keep p4 (by omega)
  have z0 := (blk_cell p5 0).trans rfl
  have z1 := (blk_cell p5 1).trans rfl
  have z2 := (blk_cell p5 2).trans rfl
  have z3 := (blk_cell p5 3).trans rfl
  have z4 := (blk_cell p5 4).trans rfl
  have z5 := (blk_cell p5 5).trans rfl
  have y0 := (blk_cell g5 0).trans rfl
  have y1 := (blk_cell g5 1).trans rfl
  go_wp2_with fail
  have N9 : New w w5.drew := N3.trans E5d (fun j hj e => by omega)
  refine bodyPost_ret (v := .tuple #[.agg #[.slice x.a0 x.n0 x.c0, .slice x.a1 x.n1 x.c1, .slice (sl (some ad) x.c2 1 2) (x.n2 - 1) (x.c2 - 1), .int .i64 x.s.most, .int .i64 (x.s.run + 1), .int .i64 x.s.total], kV k, .bool true]) (by simp [results, Try.results45, go_sem, z0, z1, z2, z3, z4, z5, y0, y1]) rfl ?_
  refine ⟨⟨turnS x.s 1 rest (x.s.run + 1), x.a0, x.n0, x.c0, x.a1, x.n1, x.c1, sl (some ad) x.c2 1 2, x.n2 - 1, x.c2 - 1⟩, rfl, ⟨h.r0.new N9, (by show Rd _ 2 x.a1 x.n1 x.c1 (kcs (upd x.s.u 1 rest 0)); rw [upd_other _ _ (by decide)]; exact h.r1.new N9), (by show Rd _ 2 _ _ _ (kcs (upd x.s.u 1 rest 1)); rw [upd_same]; have h9 := h.r2.new N9; rw [HA.out, HU.out] at h9; exact h9.dropk 1 hpos), h.t0.new N9, h.t1.new N9, (fun j hj => h.t2.new N9 j (by rw [HA.out]; exact sl_in hj))⟩, rfl, N9⟩
set_option maxHeartbeats 4000000 in
theorem turn_d0a (x : DA) (T : Nat → Prop) (w : World) (h : x.ok T w) (hs1 : x.n1 ≤ 1000) (hs2 : x.n2 ≤ 1000) (hr0 : 0 ≤ x.s.run) (hr1 : x.s.run ≤ 4) (h1 : 1 ≤ x.n2) (h2 : 4 ≤ x.s.run) (k : Int × Int) (rest : List (Int × Int)) (hu : x.s.u 0 = k :: rest) :
    Calls Try.prog 45 #[x.v] w fun e w' => ∃ y : DA, e = .returned (.tuple #[y.v, kV k, .bool true]) ∧ y.ok T w' ∧ y.s = turnS x.s 0 rest 0 ∧ New w w' := by
  obtain ⟨w0, hw0, b1, b2, b3, hn0, hz0⟩ := threeNew w x.o zP #[.int .i64 0, .int .i64 0] 46 46 49
  have e1 : decide (0 < x.n2) = true := decide_eq_true (by omega)
  have hp1 : 1 ≤ x.n1 := by have := h.l1; rw [hu] at this; simp at this; omega
  have e2 : ((x.n1 : Int) == 0) = false := by simp; omega
  have e3 : decide (x.s.run < 4) = false := decide_eq_false (by omega)
  go_enter Try.func45, Try.ntmps45
  go_upto_region 1 with (fail)
  rw [← hw0]
  clear hw0
  have hb0 : w.heap.size + 3 ≤ w0.heap.size := by omega
  clear hz0
  have h0 := h.new hn0
  have hpos : 1 ≤ x.n1 := by have := h.l1; rw [hu] at this; simp at this; omega
  have hrr := h0.r1
  obtain ⟨ad, hA⟩ := hrr.some (by omega)
  rw [hA, hu] at hrr
  obtain ⟨t0, t1⟩ := hrr.cellk (k := 0) (x := k) rfl
  rw [Nat.zero_mul, show ad.add 0 = ad by simp [Addr.add]] at t0 t1
  have s1 := run_cut_l (P := Try.prog) 44 49 2 Try.underlying44 size_d (some ad) x.n1 x.c1 1 1 rfl hpos .i64
  have dd : decide (0 < x.n1) = true := decide_eq_true (by omega)
  have HU := hide hu
  have hlt1 : w.heap.size < w0.heap.size := by omega
  have hrun := hr0
  have c0 : w0.cell? ⟨w.heap.size, 0, none⟩ = some (.slice x.a0 x.n0 x.c0) := by exact (blk_cell b1 0).trans rfl
  have c1 : w0.cell? ⟨w.heap.size, 1, none⟩ = some (.slice (some ad) x.n1 x.c1) := by rw [← hA]; exact (blk_cell b1 1).trans rfl
  have c2 : w0.cell? ⟨w.heap.size, 2, none⟩ = some (.slice x.a2 x.n2 x.c2) := by exact (blk_cell b1 2).trans rfl
  have c3 : w0.cell? ⟨w.heap.size, 3, none⟩ = some (.int .i64 x.s.most) := by exact (blk_cell b1 3).trans rfl
  have c4 : w0.cell? ⟨w.heap.size, 4, none⟩ = some (.int .i64 x.s.run) := by exact (blk_cell b1 4).trans rfl
  have c5 : w0.cell? ⟨w.heap.size, 5, none⟩ = some (.int .i64 x.s.total) := by exact (blk_cell b1 5).trans rfl
  have HA := hide hA
  clear hA hu hrr
  go_upto_region 10 with (fail)
  have hn1 := New.alloc1 w0 (.cells #[.int .i64 k.1, .int .i64 k.2] 49)
  have kb := blk_new w0 (.cells #[.int .i64 k.1, .int .i64 k.2] 49)
  generalize w0.alloc (.cells #[.int .i64 k.1, .int .i64 k.2] 49) = w1 at *
  obtain ⟨K, hK0⟩ : ∃ K, K = w0.heap.size := ⟨_, rfl⟩
  rw [← hK0] at kb ⊢
  have hKlo : w.heap.size + 3 ≤ K := by omega
  clear hK0
  have p1 := hn1.keep b1
  have q1 := hn1.keep b2
  have g1 := hn1.keep b3
  have N1 := hn0.then hn1
  have hlt1 : w.heap.size < w1.heap.size := blk_lt p1
  clear c0 c1 c2 c3 c4 c5 t0 t1
  have kp : w1.cell? ⟨w.heap.size, 1, none⟩ = some (.slice (some ad) x.n1 x.c1) := by rw [← HA.out]; exact (blk_cell p1 1).trans rfl
  have kf := blk_free p1 1
  go_upto_region 11 with (fail)
  have p2 := blk_set p1 1 (.slice (sl (some ad) x.c1 1 2) (x.n1 - 1) (x.c1 - 1))
  have S2 : Ext (fun j => j = w.heap.size) w1 (w1.setCell ⟨w.heap.size, 1, none⟩ (.slice (sl (some ad) x.c1 1 2) (x.n1 - 1) (x.c1 - 1))) := (Ext.refl _ w1).set (by rfl)
  generalize w1.setCell ⟨w.heap.size, 1, none⟩ (.slice (sl (some ad) x.c1 1 2) (x.n1 - 1) (x.c1 - 1)) = w2 at *
  have q2 := S2.keep q1 (by omega)
  have g2 := S2.keep g1 (by omega)
  have kb2 := S2.keep kb (by omega)
  have N2 : New w w2 := N1.trans S2 (fun j hj e => by omega)
  clear kp kf s1
  have kc1 : w2.cell? ⟨w.heap.size, 1, none⟩ = some (.slice (sl (some ad) x.c1 1 2) (x.n1 - 1) (x.c1 - 1)) := (blk_cell p2 1).trans rfl
  have kc4 : w2.cell? ⟨w.heap.size, 4, none⟩ = some (.int .i64 x.s.run) := (blk_cell p2 4).trans rfl
  have kf := blk_free p2 4
  go_upto_region 12 with (fail)
  have p3 := blk_set p2 4 (.int .i64 0)
  have S3 : Ext (fun j => j = w.heap.size) w2 (w2.setCell ⟨w.heap.size, 4, none⟩ (.int .i64 0)) := (Ext.refl _ w2).set (by rfl)
  generalize w2.setCell ⟨w.heap.size, 4, none⟩ (.int .i64 0) = w3 at *
  have q3 := S3.keep q2 (by omega)
  have g3 := S3.keep g2 (by omega)
  have kb3 := S3.keep kb2 (by omega)
  have N3 : New w w3 := N2.trans S3 (fun j hj e => by omega)
  clear kf kc1 kc4
  have h0c : ∀ y : Lat (fun j => j = w.heap.size + 1 ∨ j = w.heap.size + 2) w3, y.W.cell? ⟨w.heap.size, 0, none⟩ = some (.slice x.a0 x.n0 x.c0) := fun y => (blk_cell (y.ext.keep p3 (by omega)) 0).trans rfl
  have h1c : ∀ y : Lat (fun j => j = w.heap.size + 1 ∨ j = w.heap.size + 2) w3, y.W.cell? ⟨w.heap.size, 1, none⟩ = some (.slice (sl (some ad) x.c1 1 2) (x.n1 - 1) (x.c1 - 1)) := fun y => (blk_cell (y.ext.keep p3 (by omega)) 1).trans rfl
  have h2c : ∀ y : Lat (fun j => j = w.heap.size + 1 ∨ j = w.heap.size + 2) w3, y.W.cell? ⟨w.heap.size, 2, none⟩ = some (.slice x.a2 x.n2 x.c2) := fun y => (blk_cell (y.ext.keep p3 (by omega)) 2).trans rfl
  have h3c : ∀ y : Lat (fun j => j = w.heap.size + 1 ∨ j = w.heap.size + 2) w3, y.W.cell? ⟨w.heap.size, 3, none⟩ = some (.int .i64 x.s.most) := fun y => (blk_cell (y.ext.keep p3 (by omega)) 3).trans rfl
  have h4c : ∀ y : Lat (fun j => j = w.heap.size + 1 ∨ j = w.heap.size + 2) w3, y.W.cell? ⟨w.heap.size, 4, none⟩ = some (.int .i64 0) := fun y => (blk_cell (y.ext.keep p3 (by omega)) 4).trans rfl
  have h5c : ∀ y : Lat (fun j => j = w.heap.size + 1 ∨ j = w.heap.size + 2) w3, y.W.cell? ⟨w.heap.size, 5, none⟩ = some (.int .i64 x.s.total) := fun y => (blk_cell (y.ext.keep p3 (by omega)) 5).trans rfl
  have h0k : ∀ y : Lat (fun j => j = w.heap.size + 1 ∨ j = w.heap.size + 2) w3, y.W.cell? ⟨K, 0, none⟩ = some (.int .i64 k.1) := fun y => (blk_cell (y.ext.keep kb3 (by omega)) 0).trans rfl
  have h1k : ∀ y : Lat (fun j => j = w.heap.size + 1 ∨ j = w.heap.size + 2) w3, y.W.cell? ⟨K, 1, none⟩ = some (.int .i64 k.2) := fun y => (blk_cell (y.ext.keep kb3 (by omega)) 1).trans rfl
  have r0 := (blk_cell q3 0).trans rfl
  have rf0 := blk_free q3 0
  have r1 := (blk_cell q3 1).trans rfl
  have rf1 := blk_free q3 1
  have r2 := (blk_cell q3 2).trans rfl
  have rf2 := blk_free q3 2
  have r3 := (blk_cell q3 3).trans rfl
  have rf3 := blk_free q3 3
  have r4 := (blk_cell q3 4).trans rfl
  have rf4 := blk_free q3 4
  have r5 := (blk_cell q3 5).trans rfl
  have rf5 := blk_free q3 5
  go_wp2_with fail
  refine mix_start (fun j => j = w.heap.size + 1 ∨ j = w.heap.size + 2) w3 (by kernel_rfl) ?_
  refine mix_batch [0, 1] (by kernel_rfl) 3 _ _ _ (by kernel_rfl) (lat_mem (by (repeat (first | exact Ext.refl _ _ | assumption | apply Ext.alloc | apply Ext.drewN | apply Ext.drew | refine Ext.setCell ?_ (fun h => by first | rfl | exact absurd h (by dsimp only; omega)) _)))) ?_
  simp only [pickOps, List.getD_cons_zero, List.getD_cons_succ]
  repeat (go_big_quiet_step (fail))
  refine wpQuiet_nil ?_
  refine mix_loud (i := 2) (by kernel_rfl) rfl (fun K hK => ?_)
  go_simp
  obtain ⟨w4, hw4, p4, S4⟩ := set6 q3 rfl (.slice x.a0 x.n0 x.c0) (.slice (sl (some ad) x.c1 1 2) (x.n1 - 1) (x.c1 - 1)) (.slice x.a2 x.n2 x.c2) (.int .i64 x.s.most) (.int .i64 0) (.int .i64 x.s.total)
  rw [← hw4]
  have E4 : Ext (fun j => j = w.heap.size + 1 ∨ j = w.heap.size + 2) w3 w4 := S4.mono (fun j _ e => .inl e)
  have E4d : Ext (fun j => j = w.heap.size + 1 ∨ j = w.heap.size + 2) w3 w4.drew := E4.trans (show New w4 w4.drew by (repeat (first | exact Ext.refl _ _ | assumption | apply Ext.alloc | apply Ext.drewN | apply Ext.drew | refine Ext.setCell ?_ (fun h => by first | rfl | exact absurd h (by dsimp only; omega)) _))).to (fun _ _ h => h)
  refine hK.out _ _ (lat_mem (by first | exact E4d | exact E4)) ?_
  clear hK hw4 r0 r1 r2 r3 r4 r5 rf0 rf1 rf2 rf3 rf4 rf5
  have g4 := S4.keep g3 (by omega)
  have u0 := (blk_cell g4 0).trans rfl
  have uf0 := blk_free g4 0
  have u1 := (blk_cell g4 1).trans rfl
  have uf1 := blk_free g4 1
  refine mix_loud (i := 3) (by kernel_rfl) rfl (fun K hK => ?_)
  go_simp
  obtain ⟨w5, hw5, g5, S5⟩ := set2 g4 rfl (.int .i64 k.1) (.int .i64 k.2)
  rw [← hw5]
  have E5 : Ext (fun j => j = w.heap.size + 1 ∨ j = w.heap.size + 2) w3 w5 := E4.trans (S5.mono (fun j _ e => .inr e)) (fun _ _ h => h)
  have E5d : Ext (fun j => j = w.heap.size + 1 ∨ j = w.heap.size + 2) w3 w5.drew := E5.trans (show New w5 w5.drew by (repeat (first | exact Ext.refl _ _ | assumption | apply Ext.alloc | apply Ext.drewN | apply Ext.drew | refine Ext.setCell ?_ (fun h => by first | rfl | exact absurd h (by dsimp only; omega)) _))).to (fun _ _ h => h)
  refine hK.out _ _ (lat_mem (by first | exact E5d | exact E5)) ?_
  clear hK hw5 u0 u1 uf0 uf1
  refine mix_batch [4] (by kernel_rfl) 0 _ _ _ (by kernel_rfl) (lat_mem (by (repeat (first | exact Ext.refl _ _ | assumption | apply Ext.alloc | apply Ext.drewN | apply Ext.drew | refine Ext.setCell ?_ (fun h => by first | rfl | exact absurd h (by dsimp only; omega)) _)))) ?_
  simp only [pickOps, List.getD_cons_zero, List.getD_cons_succ]
  repeat (go_big_quiet_step (fail))
  refine wpQuiet_nil ?_
  refine wpAnyH_done (by kernel_rfl) (NoPanic.normal ?_) _
  have p5 := S5.keep p4 (by omega)
  have z0 := (blk_cell p5 0).trans rfl
  have z1 := (blk_cell p5 1).trans rfl
  have z2 := (blk_cell p5 2).trans rfl
  have z3 := (blk_cell p5 3).trans rfl
  have z4 := (blk_cell p5 4).trans rfl
  have z5 := (blk_cell p5 5).trans rfl
  have y0 := (blk_cell g5 0).trans rfl
  have y1 := (blk_cell g5 1).trans rfl
  go_wp2_with fail
  have N9 : New w w5.drew := N3.trans E5d (fun j hj e => by omega)
  refine bodyPost_ret (v := .tuple #[.agg #[.slice x.a0 x.n0 x.c0, .slice (sl (some ad) x.c1 1 2) (x.n1 - 1) (x.c1 - 1), .slice x.a2 x.n2 x.c2, .int .i64 x.s.most, .int .i64 0, .int .i64 x.s.total], kV k, .bool true]) (by simp [results, Try.results45, go_sem, z0, z1, z2, z3, z4, z5, y0, y1]) rfl ?_
  refine ⟨⟨turnS x.s 0 rest 0, x.a0, x.n0, x.c0, sl (some ad) x.c1 1 2, x.n1 - 1, x.c1 - 1, x.a2, x.n2, x.c2⟩, rfl, ⟨h.r0.new N9, (by show Rd _ 2 _ _ _ (kcs (upd x.s.u 0 rest 0)); rw [upd_same]; have h9 := h.r1.new N9; rw [HA.out, HU.out] at h9; exact h9.dropk 1 hpos), (by show Rd _ 2 x.a2 x.n2 x.c2 (kcs (upd x.s.u 0 rest 1)); rw [upd_other _ _ (by decide)]; exact h.r2.new N9), h.t0.new N9, (fun j hj => h.t1.new N9 j (by rw [HA.out]; exact sl_in hj)), h.t2.new N9⟩, rfl, N9⟩
set_option maxHeartbeats 4000000 in
theorem turn_d0b (x : DA) (T : Nat → Prop) (w : World) (h : x.ok T w) (hs1 : x.n1 ≤ 1000) (hs2 : x.n2 ≤ 1000) (hr0 : 0 ≤ x.s.run) (hr1 : x.s.run ≤ 4) (h1 : x.n2 = 0) (k : Int × Int) (rest : List (Int × Int)) (hu : x.s.u 0 = k :: rest) :
    Calls Try.prog 45 #[x.v] w fun e w' => ∃ y : DA, e = .returned (.tuple #[y.v, kV k, .bool true]) ∧ y.ok T w' ∧ y.s = turnS x.s 0 rest 0 ∧ New w w' := by
  obtain ⟨w0, hw0, b1, b2, b3, hn0, hz0⟩ := threeNew w x.o zP #[.int .i64 0, .int .i64 0] 46 46 49
  have e1 : decide (0 < x.n2) = false := decide_eq_false (by omega)
  have H1 := hide h1
  clear h1
  go_enter Try.func45, Try.ntmps45
  go_upto_region 1 with (fail)
  rw [← hw0]
  clear hw0
  have hb0 : w.heap.size + 3 ≤ w0.heap.size := by omega
  clear hz0
  have h0 := h.new hn0
  have hpos : 1 ≤ x.n1 := by have := h.l1; rw [hu] at this; simp at this; omega
  have hrr := h0.r1
  obtain ⟨ad, hA⟩ := hrr.some (by omega)
  rw [hA, hu] at hrr
  obtain ⟨t0, t1⟩ := hrr.cellk (k := 0) (x := k) rfl
  rw [Nat.zero_mul, show ad.add 0 = ad by simp [Addr.add]] at t0 t1
  have s1 := run_cut_l (P := Try.prog) 44 49 2 Try.underlying44 size_d (some ad) x.n1 x.c1 1 1 rfl hpos .i64
  have dd : decide (0 < x.n1) = true := decide_eq_true (by omega)
  have HU := hide hu
  have hlt1 : w.heap.size < w0.heap.size := by omega
  have hrun := hr0
  have c0 : w0.cell? ⟨w.heap.size, 0, none⟩ = some (.slice x.a0 x.n0 x.c0) := by exact (blk_cell b1 0).trans rfl
  have c1 : w0.cell? ⟨w.heap.size, 1, none⟩ = some (.slice (some ad) x.n1 x.c1) := by rw [← hA]; exact (blk_cell b1 1).trans rfl
  have c2 : w0.cell? ⟨w.heap.size, 2, none⟩ = some (.slice x.a2 x.n2 x.c2) := by exact (blk_cell b1 2).trans rfl
  have c3 : w0.cell? ⟨w.heap.size, 3, none⟩ = some (.int .i64 x.s.most) := by exact (blk_cell b1 3).trans rfl
  have c4 : w0.cell? ⟨w.heap.size, 4, none⟩ = some (.int .i64 x.s.run) := by exact (blk_cell b1 4).trans rfl
  have c5 : w0.cell? ⟨w.heap.size, 5, none⟩ = some (.int .i64 x.s.total) := by exact (blk_cell b1 5).trans rfl
  have HA := hide hA
  clear hA hu hrr
  go_upto_region 10 with (fail)
  have hn1 := New.alloc1 w0 (.cells #[.int .i64 k.1, .int .i64 k.2] 49)
  have kb := blk_new w0 (.cells #[.int .i64 k.1, .int .i64 k.2] 49)
  generalize w0.alloc (.cells #[.int .i64 k.1, .int .i64 k.2] 49) = w1 at *
  obtain ⟨K, hK0⟩ : ∃ K, K = w0.heap.size := ⟨_, rfl⟩
  rw [← hK0] at kb ⊢
  have hKlo : w.heap.size + 3 ≤ K := by omega
  clear hK0
  have p1 := hn1.keep b1
  have q1 := hn1.keep b2
  have g1 := hn1.keep b3
  have N1 := hn0.then hn1
  have hlt1 : w.heap.size < w1.heap.size := blk_lt p1
  clear c0 c1 c2 c3 c4 c5 t0 t1
  have kp : w1.cell? ⟨w.heap.size, 1, none⟩ = some (.slice (some ad) x.n1 x.c1) := by rw [← HA.out]; exact (blk_cell p1 1).trans rfl
  have kf := blk_free p1 1
  go_upto_region 11 with (fail)
  have p2 := blk_set p1 1 (.slice (sl (some ad) x.c1 1 2) (x.n1 - 1) (x.c1 - 1))
  have S2 : Ext (fun j => j = w.heap.size) w1 (w1.setCell ⟨w.heap.size, 1, none⟩ (.slice (sl (some ad) x.c1 1 2) (x.n1 - 1) (x.c1 - 1))) := (Ext.refl _ w1).set (by rfl)
  generalize w1.setCell ⟨w.heap.size, 1, none⟩ (.slice (sl (some ad) x.c1 1 2) (x.n1 - 1) (x.c1 - 1)) = w2 at *
  have q2 := S2.keep q1 (by omega)
  have g2 := S2.keep g1 (by omega)
  have kb2 := S2.keep kb (by omega)
  have N2 : New w w2 := N1.trans S2 (fun j hj e => by omega)
  clear kp kf s1
  have kc1 : w2.cell? ⟨w.heap.size, 1, none⟩ = some (.slice (sl (some ad) x.c1 1 2) (x.n1 - 1) (x.c1 - 1)) := (blk_cell p2 1).trans rfl
  have kc4 : w2.cell? ⟨w.heap.size, 4, none⟩ = some (.int .i64 x.s.run) := (blk_cell p2 4).trans rfl
  have kf := blk_free p2 4
  go_upto_region 12 with (fail)
  have p3 := blk_set p2 4 (.int .i64 0)
  have S3 : Ext (fun j => j = w.heap.size) w2 (w2.setCell ⟨w.heap.size, 4, none⟩ (.int .i64 0)) := (Ext.refl _ w2).set (by rfl)
  generalize w2.setCell ⟨w.heap.size, 4, none⟩ (.int .i64 0) = w3 at *
  have q3 := S3.keep q2 (by omega)
  have g3 := S3.keep g2 (by omega)
  have kb3 := S3.keep kb2 (by omega)
  have N3 : New w w3 := N2.trans S3 (fun j hj e => by omega)
  clear kf kc1 kc4
  have h0c : ∀ y : Lat (fun j => j = w.heap.size + 1 ∨ j = w.heap.size + 2) w3, y.W.cell? ⟨w.heap.size, 0, none⟩ = some (.slice x.a0 x.n0 x.c0) := fun y => (blk_cell (y.ext.keep p3 (by omega)) 0).trans rfl
  have h1c : ∀ y : Lat (fun j => j = w.heap.size + 1 ∨ j = w.heap.size + 2) w3, y.W.cell? ⟨w.heap.size, 1, none⟩ = some (.slice (sl (some ad) x.c1 1 2) (x.n1 - 1) (x.c1 - 1)) := fun y => (blk_cell (y.ext.keep p3 (by omega)) 1).trans rfl
  have h2c : ∀ y : Lat (fun j => j = w.heap.size + 1 ∨ j = w.heap.size + 2) w3, y.W.cell? ⟨w.heap.size, 2, none⟩ = some (.slice x.a2 x.n2 x.c2) := fun y => (blk_cell (y.ext.keep p3 (by omega)) 2).trans rfl
  have h3c : ∀ y : Lat (fun j => j = w.heap.size + 1 ∨ j = w.heap.size + 2) w3, y.W.cell? ⟨w.heap.size, 3, none⟩ = some (.int .i64 x.s.most) := fun y => (blk_cell (y.ext.keep p3 (by omega)) 3).trans rfl
  have h4c : ∀ y : Lat (fun j => j = w.heap.size + 1 ∨ j = w.heap.size + 2) w3, y.W.cell? ⟨w.heap.size, 4, none⟩ = some (.int .i64 0) := fun y => (blk_cell (y.ext.keep p3 (by omega)) 4).trans rfl
  have h5c : ∀ y : Lat (fun j => j = w.heap.size + 1 ∨ j = w.heap.size + 2) w3, y.W.cell? ⟨w.heap.size, 5, none⟩ = some (.int .i64 x.s.total) := fun y => (blk_cell (y.ext.keep p3 (by omega)) 5).trans rfl
  have h0k : ∀ y : Lat (fun j => j = w.heap.size + 1 ∨ j = w.heap.size + 2) w3, y.W.cell? ⟨K, 0, none⟩ = some (.int .i64 k.1) := fun y => (blk_cell (y.ext.keep kb3 (by omega)) 0).trans rfl
  have h1k : ∀ y : Lat (fun j => j = w.heap.size + 1 ∨ j = w.heap.size + 2) w3, y.W.cell? ⟨K, 1, none⟩ = some (.int .i64 k.2) := fun y => (blk_cell (y.ext.keep kb3 (by omega)) 1).trans rfl
  have r0 := (blk_cell q3 0).trans rfl
  have rf0 := blk_free q3 0
  have r1 := (blk_cell q3 1).trans rfl
  have rf1 := blk_free q3 1
  have r2 := (blk_cell q3 2).trans rfl
  have rf2 := blk_free q3 2
  have r3 := (blk_cell q3 3).trans rfl
  have rf3 := blk_free q3 3
  have r4 := (blk_cell q3 4).trans rfl
  have rf4 := blk_free q3 4
  have r5 := (blk_cell q3 5).trans rfl
  have rf5 := blk_free q3 5
  go_wp2_with fail
  refine mix_start (fun j => j = w.heap.size + 1 ∨ j = w.heap.size + 2) w3 (by kernel_rfl) ?_
  refine mix_batch [0, 1] (by kernel_rfl) 3 _ _ _ (by kernel_rfl) (lat_mem (by (repeat (first | exact Ext.refl _ _ | assumption | apply Ext.alloc | apply Ext.drewN | apply Ext.drew | refine Ext.setCell ?_ (fun h => by first | rfl | exact absurd h (by dsimp only; omega)) _)))) ?_
  simp only [pickOps, List.getD_cons_zero, List.getD_cons_succ]
  repeat (go_big_quiet_step (fail))
  refine wpQuiet_nil ?_
  refine mix_loud (i := 2) (by kernel_rfl) rfl (fun K hK => ?_)
  go_simp
  obtain ⟨w4, hw4, p4, S4⟩ := set6 q3 rfl (.slice x.a0 x.n0 x.c0) (.slice (sl (some ad) x.c1 1 2) (x.n1 - 1) (x.c1 - 1)) (.slice x.a2 x.n2 x.c2) (.int .i64 x.s.most) (.int .i64 0) (.int .i64 x.s.total)
  rw [← hw4]
  have E4 : Ext (fun j => j = w.heap.size + 1 ∨ j = w.heap.size + 2) w3 w4 := S4.mono (fun j _ e => .inl e)
  have E4d : Ext (fun j => j = w.heap.size + 1 ∨ j = w.heap.size + 2) w3 w4.drew := E4.trans (show New w4 w4.drew by (repeat (first | exact Ext.refl _ _ | assumption | apply Ext.alloc | apply Ext.drewN | apply Ext.drew | refine Ext.setCell ?_ (fun h => by first | rfl | exact absurd h (by dsimp only; omega)) _))).to (fun _ _ h => h)
  refine hK.out _ _ (lat_mem (by first | exact E4d | exact E4)) ?_
  clear hK hw4 r0 r1 r2 r3 r4 r5 rf0 rf1 rf2 rf3 rf4 rf5
  have g4 := S4.keep g3 (by omega)
  have u0 := (blk_cell g4 0).trans rfl
  have uf0 := blk_free g4 0
  have u1 := (blk_cell g4 1).trans rfl
  have uf1 := blk_free g4 1
  refine mix_loud (i := 3) (by kernel_rfl) rfl (fun K hK => ?_)
  go_simp
  obtain ⟨w5, hw5, g5, S5⟩ := set2 g4 rfl (.int .i64 k.1) (.int .i64 k.2)
  rw [← hw5]
  have E5 : Ext (fun j => j = w.heap.size + 1 ∨ j = w.heap.size + 2) w3 w5 := E4.trans (S5.mono (fun j _ e => .inr e)) (fun _ _ h => h)
  have E5d : Ext (fun j => j = w.heap.size + 1 ∨ j = w.heap.size + 2) w3 w5.drew := E5.trans (show New w5 w5.drew by (repeat (first | exact Ext.refl _ _ | assumption | apply Ext.alloc | apply Ext.drewN | apply Ext.drew | refine Ext.setCell ?_ (fun h => by first | rfl | exact absurd h (by dsimp only; omega)) _))).to (fun _ _ h => h)
  refine hK.out _ _ (lat_mem (by first | exact E5d | exact E5)) ?_
  clear hK hw5 u0 u1 uf0 uf1
  refine mix_batch [4] (by kernel_rfl) 0 _ _ _ (by kernel_rfl) (lat_mem (by (repeat (first | exact Ext.refl _ _ | assumption | apply Ext.alloc | apply Ext.drewN | apply Ext.drew | refine Ext.setCell ?_ (fun h => by first | rfl | exact absurd h (by dsimp only; omega)) _)))) ?_
  simp only [pickOps, List.getD_cons_zero, List.getD_cons_succ]
  repeat (go_big_quiet_step (fail))
  refine wpQuiet_nil ?_
  refine wpAnyH_done (by kernel_rfl) (NoPanic.normal ?_) _
  have p5 := S5.keep p4 (by omega)
  have z0 := (blk_cell p5 0).trans rfl
  have z1 := (blk_cell p5 1).trans rfl
  have z2 := (blk_cell p5 2).trans rfl
  have z3 := (blk_cell p5 3).trans rfl
  have z4 := (blk_cell p5 4).trans rfl
  have z5 := (blk_cell p5 5).trans rfl
  have y0 := (blk_cell g5 0).trans rfl
  have y1 := (blk_cell g5 1).trans rfl
  go_wp2_with fail
  have N9 : New w w5.drew := N3.trans E5d (fun j hj e => by omega)
  refine bodyPost_ret (v := .tuple #[.agg #[.slice x.a0 x.n0 x.c0, .slice (sl (some ad) x.c1 1 2) (x.n1 - 1) (x.c1 - 1), .slice x.a2 x.n2 x.c2, .int .i64 x.s.most, .int .i64 0, .int .i64 x.s.total], kV k, .bool true]) (by simp [results, Try.results45, go_sem, z0, z1, z2, z3, z4, z5, y0, y1]) rfl ?_
  refine ⟨⟨turnS x.s 0 rest 0, x.a0, x.n0, x.c0, sl (some ad) x.c1 1 2, x.n1 - 1, x.c1 - 1, x.a2, x.n2, x.c2⟩, rfl, ⟨h.r0.new N9, (by show Rd _ 2 _ _ _ (kcs (upd x.s.u 0 rest 0)); rw [upd_same]; have h9 := h.r1.new N9; rw [HA.out, HU.out] at h9; exact h9.dropk 1 hpos), (by show Rd _ 2 x.a2 x.n2 x.c2 (kcs (upd x.s.u 0 rest 1)); rw [upd_other _ _ (by decide)]; exact h.r2.new N9), h.t0.new N9, (fun j hj => h.t1.new N9 j (by rw [HA.out]; exact sl_in hj)), h.t2.new N9⟩, rfl, N9⟩
end Go.Proofs.Ytmonhhodbinagaa
