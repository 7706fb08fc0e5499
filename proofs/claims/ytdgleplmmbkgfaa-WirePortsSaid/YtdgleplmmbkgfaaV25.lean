/- The law on packets that are trimmed and sent back. -/
import Derived.Test.YtdgleplmmbkgfaaV24
namespace Go.Proofs.Ytdgleplmmbkgfaa
open Go.RowKit
set_option maxRecDepth 100000

set_option maxHeartbeats 8000000 in
theorem law_ports (p0 q0 : PkA) (w : World) (hp0 : p0.ok w) (hq0 : q0.ok w) :
    Calls Try.prog 4 #[p0.v, q0.v] w fun e w' => e = .returned (.bool true) ∧ New w w' := by
  have hn1 := New.alloc1 w (p0.o 25)
  have hX1 := at_new w p0
  have hn2 := New.alloc1 (w.alloc (p0.o 25)) (q0.o 25)
  have hY2 := at_new (w.alloc (p0.o 25)) q0
  rw [World.size_alloc] at hY2
  have hX2 := hX1.new hn2
  have N2 := hn1.then hn2
  obtain ⟨w2, hw2⟩ : ∃ v, v = (w.alloc (p0.o 25)).alloc (q0.o 25) := ⟨_, rfl⟩
  obtain ⟨X, hX⟩ : ∃ X, X = w.heap.size := ⟨_, rfl⟩
  obtain ⟨Y, hY⟩ : ∃ X, X = w.heap.size + 1 := ⟨_, rfl⟩
  rw [← hw2] at hX2 hY2 N2
  rw [← hX] at hX2
  rw [← hY] at hY2
  go_enter Try.func4, Try.ntmps4
  go_upto_region 1 with (fail)
  rw [← hw2, ← hY, ← hX]
  have hXY : X ≠ Y := by omega
  have hXw : w.heap.size ≤ X := by omega
  have hYw : w.heap.size ≤ Y := by omega
  clear hw2 hX hY hn1 hn2 hX1
  obtain ⟨p, hp⟩ : ∃ p, p = p0.few := ⟨_, rfl⟩
  obtain ⟨q, hq⟩ : ∃ p, p = q0.few := ⟨_, rfl⟩
  have HP := hide hp
  have HQ := hide hq
  have hpo : p.ok w := by rw [hp]; exact hp0.few
  have hqo : q.ok w := by rw [hq]; exact hq0.few
  clear hp hq
  have x0 := fun y : Lat (fun _ => False) w2 => (hX2.keep y.ext (fun h => h)).c0
  have x1 := fun y : Lat (fun _ => False) w2 => (hX2.keep y.ext (fun h => h)).c1
  have x2 := fun y : Lat (fun _ => False) w2 => (hX2.keep y.ext (fun h => h)).c2
  have x3 := fun y : Lat (fun _ => False) w2 => (hX2.keep y.ext (fun h => h)).c3
  have x4 := fun y : Lat (fun _ => False) w2 => (hX2.keep y.ext (fun h => h)).c4
  have x5 := fun y : Lat (fun _ => False) w2 => (hX2.keep y.ext (fun h => h)).c5
  have x6 := fun y : Lat (fun _ => False) w2 => (hX2.keep y.ext (fun h => h)).c6
  have x7 := fun y : Lat (fun _ => False) w2 => (hX2.keep y.ext (fun h => h)).c7
  have x8 := fun y : Lat (fun _ => False) w2 => (hX2.keep y.ext (fun h => h)).c8
  have y0 := fun y : Lat (fun _ => False) w2 => (hY2.keep y.ext (fun h => h)).c0
  have y1 := fun y : Lat (fun _ => False) w2 => (hY2.keep y.ext (fun h => h)).c1
  have y2 := fun y : Lat (fun _ => False) w2 => (hY2.keep y.ext (fun h => h)).c2
  have y3 := fun y : Lat (fun _ => False) w2 => (hY2.keep y.ext (fun h => h)).c3
  have y4 := fun y : Lat (fun _ => False) w2 => (hY2.keep y.ext (fun h => h)).c4
  have y5 := fun y : Lat (fun _ => False) w2 => (hY2.keep y.ext (fun h => h)).c5
  have y6 := fun y : Lat (fun _ => False) w2 => (hY2.keep y.ext (fun h => h)).c6
  have y7 := fun y : Lat (fun _ => False) w2 => (hY2.keep y.ext (fun h => h)).c7
  have y8 := fun y : Lat (fun _ => False) w2 => (hY2.keep y.ext (fun h => h)).c8
  refine mixU_start 4 (fun _ => False) w2 (by kernel_rfl) ?_
  refine mixU_batch [0, 2] (by kernel_rfl) 4 _ _ _ (by kernel_rfl) (lat_mem (by (repeat (first | exact Ext.refl _ _ | assumption | apply Ext.alloc | apply Ext.drewN | apply Ext.drew | refine Ext.setCell ?_ (fun h => by first | rfl | exact absurd h (by dsimp only; omega)) _)))) ?_
  simp only [pickOps, List.getD_cons_zero, List.getD_cons_succ]
  repeat (go_big_quiet_step (fail))
  refine wpQuiet_nil ?_
  refine mixU_loud (i := 1) (by kernel_rfl) rfl (fun K hK => ?_)
  go_simp
  refine (few_r p0 p _ (hp0.new (N2.then (show New w2 _ by (repeat (first | exact Ext.refl _ _ | assumption | apply Ext.alloc | apply Ext.drewN | apply Ext.drew | refine Ext.setCell ?_ (fun h => by first | rfl | exact absurd h (by dsimp only; omega)) _))))) HP.out).mono ?_
  rintro e w3 ⟨rfl, hn3⟩
  have N23 : New w2 w3 := (show New w2 w2.drew by (repeat (first | exact Ext.refl _ _ | assumption | apply Ext.alloc | apply Ext.drewN | apply Ext.drew | refine Ext.setCell ?_ (fun h => by first | rfl | exact absurd h (by dsimp only; omega)) _))).then hn3
  refine hK.out _ _ (lat_mem N23) ?_
  clear hK
  refine mixU_loud (i := 3) (by kernel_rfl) rfl (fun K hK => ?_)
  go_simp
  refine (few_r q0 q _ (hq0.new (N2.then N23)) HQ.out).mono ?_
  rintro e w4 ⟨rfl, hn4⟩
  have N24 : New w2 w4 := N23.then hn4
  refine hK.out _ _ (lat_mem N24) ?_
  clear hK x0 x1 x2 x3 x4 x5 x6 x7 x8 y0 y1 y2 y3 y4 y5 y6 y7 y8
  have hX4 := hX2.new N24
  have hY4 := hY2.new N24
  have x0 := hX4.c0
  have d0 := hX4.fr 0
  have x1 := hX4.c1
  have d1 := hX4.fr 1
  have x2 := hX4.c2
  have d2 := hX4.fr 2
  have x3 := hX4.c3
  have d3 := hX4.fr 3
  have x4 := hX4.c4
  have d4 := hX4.fr 4
  have x5 := hX4.c5
  have d5 := hX4.fr 5
  have x6 := hX4.c6
  have d6 := hX4.fr 6
  have x7 := hX4.c7
  have d7 := hX4.fr 7
  have x8 := hX4.c8
  have d8 := hX4.fr 8
  refine mixU_last (by kernel_rfl) (by kernel_rfl) rfl (fun K hK => ?_)
  go_simp
  obtain ⟨w5, hw5, hX5, he5⟩ := at_set hX4 p
  rw [← hw5]
  refine hK.out _ _ (mixU_after (S' := fun W => ∃ x : Lat (fun j => j = X ∨ j = Y) w5, W = x.W) _ _ _ _ (by kernel_rfl) ?_)
  clear hK hw5 x0 x1 x2 x3 x4 x5 x6 x7 x8 d0 d1 d2 d3 d4 d5 d6 d7 d8
  have hY5 := hY4.keep he5 (fun e => hXY e.symm)
  have x0 := hY5.c0
  have d0 := hY5.fr 0
  have x1 := hY5.c1
  have d1 := hY5.fr 1
  have x2 := hY5.c2
  have d2 := hY5.fr 2
  have x3 := hY5.c3
  have d3 := hY5.fr 3
  have x4 := hY5.c4
  have d4 := hY5.fr 4
  have x5 := hY5.c5
  have d5 := hY5.fr 5
  have x6 := hY5.c6
  have d6 := hY5.fr 6
  have x7 := hY5.c7
  have d7 := hY5.fr 7
  have x8 := hY5.c8
  have d8 := hY5.fr 8
  refine mix_loud (i := 5) (by kernel_rfl) rfl (fun K hK => ?_)
  go_simp
  obtain ⟨w6, hw6, hY6, he6⟩ := at_set hY5 q
  rw [← hw6]
  refine hK.out _ _ (lat_mem (he6.mono (fun j _ e => .inr e))) ?_
  clear hK hw6 x0 x1 x2 x3 x4 x5 x6 x7 x8 d0 d1 d2 d3 d4 d5 d6 d7 d8
  refine wpAnyH_done (by kernel_rfl) (NoPanic.normal ?_) _
  have hX6 := hX5.keep he6 hXY
  have N6 : New w w6 := ((N2.then N24).trans he5 (fun j hj e => by omega)).trans he6 (fun j hj e => by omega)
  have hpo6 := hpo.new N6
  have hqo6 := hqo.new N6
  clear hX5 hY5 hX4 hY4 hX2 hY2 he5 he6 N24 N23
  obtain ⟨⟨a, ab⟩, ha⟩ : ∃ y, trR p = y := ⟨_, rfl⟩
  obtain ⟨⟨c, cb⟩, hc⟩ : ∃ y, boR p = y := ⟨_, rfl⟩
  have hao : a.ok w6 := by have := trR_ok hpo6; rw [ha] at this; exact this
  have hco : c.ok w6 := by have := boR_ok hpo6; rw [hc] at this; exact this
  obtain ⟨sb, hsb⟩ : ∃ b, smB p.p q.p = b := ⟨_, rfl⟩
  have HA := hide ha
  have HC := hide hc
  have HS := hide hsb
  clear ha hc hsb
  have M6 : New w6 w6 := Ext.refl _ _
  have x0 := (hX6.new M6).c0
  have x1 := (hX6.new M6).c1
  have x2 := (hX6.new M6).c2
  have x3 := (hX6.new M6).c3
  have x4 := (hX6.new M6).c4
  have x5 := (hX6.new M6).c5
  have x6 := (hX6.new M6).c6
  have x7 := (hX6.new M6).c7
  have x8 := (hX6.new M6).c8
  go_wp2_with fail
  refine (trim_r p a ab _ (hpo6.new M6) HA.out).mono ?_
  rintro e w7 ⟨rfl, hn7⟩
  clear x0 x1 x2 x3 x4 x5 x6 x7 x8
  have B8 := at_new w7 a
  have M8 : New w6 (w7.alloc (a.o 25)) := (M6.then hn7).then (New.alloc1 _ _)
  go_upto_region 3 with (fail)
  obtain ⟨w8, hw8⟩ : ∃ v, v = w7.alloc (a.o 25) := ⟨_, rfl⟩
  rw [← hw8] at B8 M8
  rw [← hw8]
  clear hw8
  have x0 := (hX6.new M8).c0
  have x1 := (hX6.new M8).c1
  have x2 := (hX6.new M8).c2
  have x3 := (hX6.new M8).c3
  have x4 := (hX6.new M8).c4
  have x5 := (hX6.new M8).c5
  have x6 := (hX6.new M8).c6
  have x7 := (hX6.new M8).c7
  have x8 := (hX6.new M8).c8
  go_wp2_with fail
  refine (rtrim_r p a ab _ (hpo6.new M8) HA.out).mono ?_
  rintro e w9 ⟨rfl, hn9⟩
  clear x0 x1 x2 x3 x4 x5 x6 x7 x8
  have B10 := at_new w9 a
  have S10 : New w8 (w9.alloc (a.o 25)) := hn9.then (New.alloc1 _ _)
  have M10 : New w6 (w9.alloc (a.o 25)) := (M8.then hn9).then (New.alloc1 _ _)
  go_upto_region 4 with (fail)
  obtain ⟨w10, hw10⟩ : ∃ v, v = w9.alloc (a.o 25) := ⟨_, rfl⟩
  rw [← hw10] at B10 M10 S10
  rw [← hw10]
  clear hw10
  have x0 := (hX6.new M10).c0
  have x1 := (hX6.new M10).c1
  have x2 := (hX6.new M10).c2
  have x3 := (hX6.new M10).c3
  have x4 := (hX6.new M10).c4
  have x5 := (hX6.new M10).c5
  have x6 := (hX6.new M10).c6
  have x7 := (hX6.new M10).c7
  have x8 := (hX6.new M10).c8
  go_wp2_with fail
  refine (bounce_r p c cb _ (hpo6.new M10) HC.out).mono ?_
  rintro e w11 ⟨rfl, hn11⟩
  clear x0 x1 x2 x3 x4 x5 x6 x7 x8
  have B12 := at_new w11 c
  have S12 : New w10 (w11.alloc (c.o 25)) := hn11.then (New.alloc1 _ _)
  have M12 : New w6 (w11.alloc (c.o 25)) := (M10.then hn11).then (New.alloc1 _ _)
  go_upto_region 5 with (fail)
  obtain ⟨w12, hw12⟩ : ∃ v, v = w11.alloc (c.o 25) := ⟨_, rfl⟩
  rw [← hw12] at B12 M12 S12
  rw [← hw12]
  clear hw12
  have x0 := (hX6.new M12).c0
  have x1 := (hX6.new M12).c1
  have x2 := (hX6.new M12).c2
  have x3 := (hX6.new M12).c3
  have x4 := (hX6.new M12).c4
  have x5 := (hX6.new M12).c5
  have x6 := (hX6.new M12).c6
  have x7 := (hX6.new M12).c7
  have x8 := (hX6.new M12).c8
  go_wp2_with fail
  refine (rbounce_r p c cb _ (hpo6.new M12) HC.out).mono ?_
  rintro e w13 ⟨rfl, hn13⟩
  clear x0 x1 x2 x3 x4 x5 x6 x7 x8
  have B14 := at_new w13 c
  have S14 : New w12 (w13.alloc (c.o 25)) := hn13.then (New.alloc1 _ _)
  have M14 : New w6 (w13.alloc (c.o 25)) := (M12.then hn13).then (New.alloc1 _ _)
  go_upto_region 6 with (fail)
  obtain ⟨w14, hw14⟩ : ∃ v, v = w13.alloc (c.o 25) := ⟨_, rfl⟩
  rw [← hw14] at B14 M14 S14
  rw [← hw14]
  clear hw14
  have L12 : New w12 w14 := S14
  have L10 : New w10 w14 := S12.then L12
  have L8 : New w8 w14 := S10.then L10
  have B8 := B8.new L8
  have B10 := B10.new L10
  have B12 := B12.new L12
  have hXf := hX6.new M14
  have hYf := hY6.new M14
  have e1 : (sb == sb) = true := by cases sb <;> rfl
  have e2 : (ab == ab) = true := by cases ab <;> rfl
  have e3 : (cb == cb) = true := by cases cb <;> rfl
  have fa0 := fun y : Lat (fun _ => False) w14 => (B8.keep y.ext (fun h => h)).c0
  have fa1 := fun y : Lat (fun _ => False) w14 => (B8.keep y.ext (fun h => h)).c1
  have fa2 := fun y : Lat (fun _ => False) w14 => (B8.keep y.ext (fun h => h)).c2
  have fa3 := fun y : Lat (fun _ => False) w14 => (B8.keep y.ext (fun h => h)).c3
  have fa4 := fun y : Lat (fun _ => False) w14 => (B8.keep y.ext (fun h => h)).c4
  have fa5 := fun y : Lat (fun _ => False) w14 => (B8.keep y.ext (fun h => h)).c5
  have fa6 := fun y : Lat (fun _ => False) w14 => (B8.keep y.ext (fun h => h)).c6
  have fa7 := fun y : Lat (fun _ => False) w14 => (B8.keep y.ext (fun h => h)).c7
  have fa8 := fun y : Lat (fun _ => False) w14 => (B8.keep y.ext (fun h => h)).c8
  have fb0 := fun y : Lat (fun _ => False) w14 => (B10.keep y.ext (fun h => h)).c0
  have fb1 := fun y : Lat (fun _ => False) w14 => (B10.keep y.ext (fun h => h)).c1
  have fb2 := fun y : Lat (fun _ => False) w14 => (B10.keep y.ext (fun h => h)).c2
  have fb3 := fun y : Lat (fun _ => False) w14 => (B10.keep y.ext (fun h => h)).c3
  have fb4 := fun y : Lat (fun _ => False) w14 => (B10.keep y.ext (fun h => h)).c4
  have fb5 := fun y : Lat (fun _ => False) w14 => (B10.keep y.ext (fun h => h)).c5
  have fb6 := fun y : Lat (fun _ => False) w14 => (B10.keep y.ext (fun h => h)).c6
  have fb7 := fun y : Lat (fun _ => False) w14 => (B10.keep y.ext (fun h => h)).c7
  have fb8 := fun y : Lat (fun _ => False) w14 => (B10.keep y.ext (fun h => h)).c8
  have fc0 := fun y : Lat (fun _ => False) w14 => (B12.keep y.ext (fun h => h)).c0
  have fc1 := fun y : Lat (fun _ => False) w14 => (B12.keep y.ext (fun h => h)).c1
  have fc2 := fun y : Lat (fun _ => False) w14 => (B12.keep y.ext (fun h => h)).c2
  have fc3 := fun y : Lat (fun _ => False) w14 => (B12.keep y.ext (fun h => h)).c3
  have fc4 := fun y : Lat (fun _ => False) w14 => (B12.keep y.ext (fun h => h)).c4
  have fc5 := fun y : Lat (fun _ => False) w14 => (B12.keep y.ext (fun h => h)).c5
  have fc6 := fun y : Lat (fun _ => False) w14 => (B12.keep y.ext (fun h => h)).c6
  have fc7 := fun y : Lat (fun _ => False) w14 => (B12.keep y.ext (fun h => h)).c7
  have fc8 := fun y : Lat (fun _ => False) w14 => (B12.keep y.ext (fun h => h)).c8
  have fd0 := fun y : Lat (fun _ => False) w14 => (B14.keep y.ext (fun h => h)).c0
  have fd1 := fun y : Lat (fun _ => False) w14 => (B14.keep y.ext (fun h => h)).c1
  have fd2 := fun y : Lat (fun _ => False) w14 => (B14.keep y.ext (fun h => h)).c2
  have fd3 := fun y : Lat (fun _ => False) w14 => (B14.keep y.ext (fun h => h)).c3
  have fd4 := fun y : Lat (fun _ => False) w14 => (B14.keep y.ext (fun h => h)).c4
  have fd5 := fun y : Lat (fun _ => False) w14 => (B14.keep y.ext (fun h => h)).c5
  have fd6 := fun y : Lat (fun _ => False) w14 => (B14.keep y.ext (fun h => h)).c6
  have fd7 := fun y : Lat (fun _ => False) w14 => (B14.keep y.ext (fun h => h)).c7
  have fd8 := fun y : Lat (fun _ => False) w14 => (B14.keep y.ext (fun h => h)).c8
  have fx0 := fun y : Lat (fun _ => False) w14 => (hXf.keep y.ext (fun h => h)).c0
  have fx1 := fun y : Lat (fun _ => False) w14 => (hXf.keep y.ext (fun h => h)).c1
  have fx2 := fun y : Lat (fun _ => False) w14 => (hXf.keep y.ext (fun h => h)).c2
  have fx3 := fun y : Lat (fun _ => False) w14 => (hXf.keep y.ext (fun h => h)).c3
  have fx4 := fun y : Lat (fun _ => False) w14 => (hXf.keep y.ext (fun h => h)).c4
  have fx5 := fun y : Lat (fun _ => False) w14 => (hXf.keep y.ext (fun h => h)).c5
  have fx6 := fun y : Lat (fun _ => False) w14 => (hXf.keep y.ext (fun h => h)).c6
  have fx7 := fun y : Lat (fun _ => False) w14 => (hXf.keep y.ext (fun h => h)).c7
  have fx8 := fun y : Lat (fun _ => False) w14 => (hXf.keep y.ext (fun h => h)).c8
  have fy0 := fun y : Lat (fun _ => False) w14 => (hYf.keep y.ext (fun h => h)).c0
  have fy1 := fun y : Lat (fun _ => False) w14 => (hYf.keep y.ext (fun h => h)).c1
  have fy2 := fun y : Lat (fun _ => False) w14 => (hYf.keep y.ext (fun h => h)).c2
  have fy3 := fun y : Lat (fun _ => False) w14 => (hYf.keep y.ext (fun h => h)).c3
  have fy4 := fun y : Lat (fun _ => False) w14 => (hYf.keep y.ext (fun h => h)).c4
  have fy5 := fun y : Lat (fun _ => False) w14 => (hYf.keep y.ext (fun h => h)).c5
  have fy6 := fun y : Lat (fun _ => False) w14 => (hYf.keep y.ext (fun h => h)).c6
  have fy7 := fun y : Lat (fun _ => False) w14 => (hYf.keep y.ext (fun h => h)).c7
  have fy8 := fun y : Lat (fun _ => False) w14 => (hYf.keep y.ext (fun h => h)).c8
  refine mix_start (fun _ => False) w14 (by kernel_rfl) ?_
  refine mix_batch [0, 1] (by kernel_rfl) 34 _ _ _ (by kernel_rfl) (lat_mem (by (repeat (first | exact Ext.refl _ _ | assumption | apply Ext.alloc | apply Ext.drewN | apply Ext.drew | refine Ext.setCell ?_ (fun h => by first | rfl | exact absurd h (by dsimp only; omega)) _)))) ?_
  simp only [pickOps, List.getD_cons_zero, List.getD_cons_succ]
  repeat (go_big_quiet_step (fail))
  refine wpQuiet_nil ?_
  refine mix_loud (i := 2) (by kernel_rfl) rfl (fun K hK => ?_)
  go_simp
  refine (rsame_r a a _ (hao.new (M14.then (show New w14 w14.drew by (repeat (first | exact Ext.refl _ _ | assumption | apply Ext.alloc | apply Ext.drewN | apply Ext.drew | refine Ext.setCell ?_ (fun h => by first | rfl | exact absurd h (by dsimp only; omega)) _))))) (hao.new (M14.then (show New w14 w14.drew by (repeat (first | exact Ext.refl _ _ | assumption | apply Ext.alloc | apply Ext.drewN | apply Ext.drew | refine Ext.setCell ?_ (fun h => by first | rfl | exact absurd h (by dsimp only; omega)) _))))) true (sm_self _)).mono ?_
  rintro e w20 ⟨rfl, hn20⟩
  have T20 : New w14 w20 := (show New w14 w14.drew by (repeat (first | exact Ext.refl _ _ | assumption | apply Ext.alloc | apply Ext.drewN | apply Ext.drew | refine Ext.setCell ?_ (fun h => by first | rfl | exact absurd h (by dsimp only; omega)) _))).then hn20
  refine hK.out _ _ (lat_mem T20) ?_
  clear hK
  refine mix_batch [3, 4, 5, 6, 7, 8, 9, 10] (by kernel_rfl) 25 _ _ _ (by kernel_rfl) (lat_mem (by (repeat (first | exact Ext.refl _ _ | assumption | apply Ext.alloc | apply Ext.drewN | apply Ext.drew | refine Ext.setCell ?_ (fun h => by first | rfl | exact absurd h (by dsimp only; omega)) _)))) ?_
  simp only [pickOps, List.getD_cons_zero, List.getD_cons_succ]
  repeat (go_big_quiet_step (fail))
  refine wpQuiet_nil ?_
  refine mix_loud (i := 11) (by kernel_rfl) rfl (fun K hK => ?_)
  go_simp
  refine (rsame_r c c _ (hco.new (M14.then T20)) (hco.new (M14.then T20)) true (sm_self _)).mono ?_
  rintro e w21 ⟨rfl, hn21⟩
  have T21 : New w14 w21 := T20.then hn21
  refine hK.out _ _ (lat_mem T21) ?_
  clear hK
  refine mix_batch [12, 13, 14, 15, 16, 17, 18, 19, 20, 22, 23] (by kernel_rfl) 13 _ _ _ (by kernel_rfl) (lat_mem (by (repeat (first | exact Ext.refl _ _ | assumption | apply Ext.alloc | apply Ext.drewN | apply Ext.drew | refine Ext.setCell ?_ (fun h => by first | rfl | exact absurd h (by dsimp only; omega)) _)))) ?_
  simp only [pickOps, List.getD_cons_zero, List.getD_cons_succ]
  repeat (go_big_quiet_step (fail))
  refine wpQuiet_nil ?_
  refine mix_loud (i := 21) (by kernel_rfl) rfl (fun K hK => ?_)
  go_simp
  refine (same_r p q _ (hpo6.new (M14.then T21)) (hqo6.new (M14.then T21)) sb HS.out).mono ?_
  rintro e w22 ⟨rfl, hn22⟩
  have T22 : New w14 w22 := T21.then hn22
  refine hK.out _ _ (lat_mem T22) ?_
  clear hK
  refine mix_loud (i := 24) (by kernel_rfl) rfl (fun K hK => ?_)
  go_simp
  refine (rsame_r p q _ (hpo6.new (M14.then T22)) (hqo6.new (M14.then T22)) sb HS.out).mono ?_
  rintro e w23 ⟨rfl, hn23⟩
  have T23 : New w14 w23 := T22.then hn23
  refine hK.out _ _ (lat_mem T23) ?_
  clear hK
  refine mix_batch [25, 26, 27, 28, 29] (by kernel_rfl) 6 _ _ _ (by kernel_rfl) (lat_mem (by (repeat (first | exact Ext.refl _ _ | assumption | apply Ext.alloc | apply Ext.drewN | apply Ext.drew | refine Ext.setCell ?_ (fun h => by first | rfl | exact absurd h (by dsimp only; omega)) _)))) ?_
  simp only [pickOps, List.getD_cons_zero, List.getD_cons_succ]
  repeat (go_big_quiet_step (fail))
  refine wpQuiet_nil ?_
  refine mix_loud (i := 30) (by kernel_rfl) rfl (fun K hK => ?_)
  go_simp
  refine (same_r p p _ (hpo6.new (M14.then T23)) (hpo6.new (M14.then T23)) true (sm_self _)).mono ?_
  rintro e w24 ⟨rfl, hn24⟩
  have T24 : New w14 w24 := T23.then hn24
  refine hK.out _ _ (lat_mem T24) ?_
  clear hK
  refine mix_batch [31, 32] (by kernel_rfl) 3 _ _ _ (by kernel_rfl) (lat_mem (by (repeat (first | exact Ext.refl _ _ | assumption | apply Ext.alloc | apply Ext.drewN | apply Ext.drew | refine Ext.setCell ?_ (fun h => by first | rfl | exact absurd h (by dsimp only; omega)) _)))) ?_
  simp only [pickOps, List.getD_cons_zero, List.getD_cons_succ]
  repeat (go_big_quiet_step (fail))
  refine wpQuiet_nil ?_
  refine mix_loud (i := 33) (by kernel_rfl) rfl (fun K hK => ?_)
  go_simp
  refine (awake_any _).mono ?_
  rintro e w25 ⟨rfl, hn25⟩
  have T25 : New w14 w25 := T24.then hn25
  refine hK.out _ _ (lat_mem T25) ?_
  clear hK
  refine mix_batch [34, 35] (by kernel_rfl) 0 _ _ _ (by kernel_rfl) (lat_mem (by (repeat (first | exact Ext.refl _ _ | assumption | apply Ext.alloc | apply Ext.drewN | apply Ext.drew | refine Ext.setCell ?_ (fun h => by first | rfl | exact absurd h (by dsimp only; omega)) _)))) ?_
  simp only [pickOps, List.getD_cons_zero, List.getD_cons_succ]
  repeat (go_big_quiet_step (fail))
  refine wpQuiet_nil ?_
  refine wpAnyH_done (by kernel_rfl) (NoPanic.normal ?_) _
  clear fa0 fa1 fa2 fa3 fa4 fa5 fa6 fa7 fa8 fb0 fb1 fb2 fb3 fb4 fb5 fb6 fb7 fb8 fc0 fc1 fc2 fc3 fc4 fc5 fc6 fc7 fc8 fd0 fd1 fd2 fd3 fd4 fd5 fd6 fd7 fd8 fx0 fx1 fx2 fx3 fx4 fx5 fx6 fx7 fx8 fy0 fy1 fy2 fy3 fy4 fy5 fy6 fy7 fy8
  go_wp2_with fail
  go_ret
  exact ⟨rfl, (N6.then M14).then T25⟩
end Go.Proofs.Ytdgleplmmbkgfaa
