/- The law's example; what is added, united, taken away. -/
import Derived.Test.YtkiplbhnnjfjaaaS13
namespace Go.Proofs.Ytkiplbhnnjfjaaa
set_option linter.unusedVariables false
set_option linter.unusedSimpArgs false
open Go.RowKit
set_option maxRecDepth 100000

theorem aw_of : ofP [5, 1, 2, 5] = ([(1, 3), (5, 6)], 0) := by
  rw [of_same]
  decide +kernel
theorem aw_gap : gapP [(1, 3), (5, 6)] (0, 6) = ([(0, 1), (3, 5)], 0) := by
  rw [gap_same]
  decide +kernel
theorem aw_cnt : cnt [(1, 3), (5, 6)] = 3 := by decide +kernel
set_option maxHeartbeats 1600000 in
theorem awake_c (w : World) : Calls Try.prog 10 #[] w fun e w' => e = .returned (.bool true) ∧ New w w' := by
  go_enter Try.func10, Try.ntmps10
  have hr0 : Rd (w.alloc (.cells #[.int .i64 5, .int .i64 1, .int .i64 2, .int .i64 5] 3)) 1 (some ⟨w.heap.size, 0, none⟩) 4 4 (([5, 1, 2, 5] : List Int).map (Value.int .i64)) := rd_lit w 3 1 4 #[.int .i64 5, .int .i64 1, .int .i64 2, .int .i64 5] (by omega) rfl (by simp [Value.oneCell'])
  have hn0 := New.alloc1 w (.cells #[.int .i64 5, .int .i64 1, .int .i64 2, .int .i64 5] 3)
  go_wp2_with fail
  refine (of_p _ 4 4 _ _ hr0 (by omega)).mono ?_
  rw [aw_of]
  rintro e w1 ⟨A1, c1, rfl, hr1, hn1⟩
  go_wp2_with fail
  refine (gap_c A1 2 c1 [(1, 3), (5, 6)] (0, 6) _ hr1 (by omega)).mono ?_
  rw [aw_gap]
  rintro e w2 ⟨A2, c2, rfl, hr2, hn2⟩
  have N2 := hn0.then (hn1.then hn2)
  have hr1b := hr1.new hn2
  go_wp2_with fail
  have hb : Rd (w2.alloc (.cells #[.int .i64 1, .int .i64 3, .int .i64 5, .int .i64 6] 30)) 2 (some ⟨w2.heap.size, 0, none⟩) 2 2 (kcs [(1, 3), (5, 6)]) := rd_lit w2 30 2 2 #[.int .i64 1, .int .i64 3, .int .i64 5, .int .i64 6] (by omega) rfl (by simp [Value.oneCell'])
  have hnb := New.alloc1 w2 (.cells #[.int .i64 1, .int .i64 3, .int .i64 5, .int .i64 6] 30)
  refine (same_c A1 _ 2 c1 2 2 _ _ _ (hr1b.new hnb) hb (by omega) true (by simp)).mono ?_
  rintro e w3 ⟨rfl, hn3⟩
  have N3 := hnb.then hn3
  go_wp2_with fail
  have hb2 : Rd (w3.alloc (.cells #[.int .i64 0, .int .i64 1, .int .i64 3, .int .i64 5] 30)) 2 (some ⟨w3.heap.size, 0, none⟩) 2 2 (kcs [(0, 1), (3, 5)]) := rd_lit w3 30 2 2 #[.int .i64 0, .int .i64 1, .int .i64 3, .int .i64 5] (by omega) rfl (by simp [Value.oneCell'])
  have hnb2 := New.alloc1 w3 (.cells #[.int .i64 0, .int .i64 1, .int .i64 3, .int .i64 5] 30)
  refine (same_c A2 _ 2 c2 2 2 _ _ _ ((hr2.new N3).new hnb2) hb2 (by omega) true (by simp)).mono ?_
  rintro e w4 ⟨rfl, hn4⟩
  have N4 := N3.then (hnb2.then hn4)
  go_wp2_with fail
  refine (count_c (hr1b.new N4) (by simp)).mono ?_
  rw [aw_cnt]
  rintro e w5 ⟨rfl, hn5⟩
  go_wp2_with fail
  go_ret
  exact ⟨rfl, N2.then (N4.then hn5)⟩
theorem Res2.new {r : List Rg × Int} {w w' : World} {e : Ending} (h : Res2 r w e w') : New w w' := by
  obtain ⟨_, _, _, _, h⟩ := h
  exact h
theorem bnd_256 (l : List Rg) : (bnd l).1.length ≤ 256 := by
  unfold bnd
  split
  · simp
  · show l.length ≤ 256
    omega
theorem addP_256 (l : List Rg) (r : Rg) : (addP l r).1.length ≤ 256 := by
  unfold addP
  split
  · split
    · exact bnd_256 _
    · simp
  · simp
theorem uniP_256 (a b : List Rg) : (uniP a b).1.length ≤ 256 := by
  unfold uniP
  split
  · exact bnd_256 _
  · simp
theorem minP_256 (a b : List Rg) : (minP a b).1.length ≤ 256 := by
  unfold minP
  split
  · exact bnd_256 _
  · simp
theorem gapP_256 (l : List Rg) (r : Rg) : (gapP l r).1.length ≤ 256 := by
  unfold gapP
  split
  · split
    · exact bnd_256 _
    · simp
  · simp
theorem ofP_256 (xs : List Int) : (ofP xs).1.length ≤ 256 := by
  unfold ofP
  split
  · exact bnd_256 _
  · simp
set_option maxHeartbeats 4000000 in
theorem sets_walk (A : Option Addr) (n c : Nat) (a : List Rg) (B : Option Addr) (m d : Nat) (b : List Rg) (r : Rg) (w : World) (h : Rd w 2 A n c (kcs a)) (g : Rd w 2 B m d (kcs b)) :
    Calls Try.prog 6 #[.slice A n c, .slice B m d, .agg #[.int .i64 r.1, .int .i64 r.2]] w fun e w' => e = .returned (.bool true) ∧ New w w' := by
  have b0 := blk_new w (.cells #[.int .i64 r.1, .int .i64 r.2] 53)
  have hn0 := New.alloc1 w (.cells #[.int .i64 r.1, .int .i64 r.2] 53)
  go_enter Try.func6, Try.ntmps6
  go_upto_region 1 with (fail)
  obtain ⟨w0, hw0⟩ : ∃ v, v = w.alloc (.cells #[.int .i64 r.1, .int .i64 r.2] 53) := ⟨_, rfl⟩
  rw [← hw0] at hn0 b0 ⊢
  clear hw0
  obtain ⟨X, hX⟩ : ∃ X, X = w.heap.size := ⟨_, rfl⟩
  rw [← hX] at b0 ⊢
  clear hX
  go_wp2_with fail
  refine (few_c A n c a _ (h.new hn0)).mono ?_
  rintro e w1 ⟨rfl, h1, rfl⟩
  go_wp2_with fail
  refine (few_c B m d b _ (g.new hn0)).mono ?_
  rintro e w1 ⟨rfl, g1, rfl⟩
  have la := few_len a
  have lb := few_len b
  generalize fewL a = a at *
  generalize fewL b = b at *
  clear h g
  have c0 := (blk_cell b0 0).trans rfl
  have c1 := (blk_cell b0 1).trans rfl
  go_upto_region 4 with (fail)
  have b1 := blk_new w0 (.cells #[.int .i64 r.1, .int .i64 r.2] 30)
  have hn1 := New.alloc1 w0 (.cells #[.int .i64 r.1, .int .i64 r.2] 30)
  obtain ⟨w1, hw1⟩ : ∃ v, v = w0.alloc (.cells #[.int .i64 r.1, .int .i64 r.2] 30) := ⟨_, rfl⟩
  rw [← hw1] at hn1 b1 ⊢
  clear hw1 c0 c1
  obtain ⟨Y, hY⟩ : ∃ Y, Y = w0.heap.size := ⟨_, rfl⟩
  rw [← hY] at b1 ⊢
  clear hY
  have N1 := hn0.then hn1
  replace b0 := hn1.keep b0
  replace h1 := h1.new hn1
  replace g1 := g1.new hn1
  clear hn0 hn1
  -- Add
  have q0 : ∀ y : Lat (fun _ => False) w1, y.W.cell? ⟨Y, 0, none⟩ = some (.int .i64 r.1) := fun y => (blk_cell (y.ext.keep b1 (fun h => h)) 0).trans rfl
  have q1 : ∀ y : Lat (fun _ => False) w1, y.W.cell? ⟨Y, 1, none⟩ = some (.int .i64 r.2) := fun y => (blk_cell (y.ext.keep b1 (fun h => h)) 1).trans rfl
  refine mix_start (fun _ => False) w1 (by kernel_rfl) ?_
  refine mix_batch [0, 2] (by kernel_rfl) 7 _ _ _ (by kernel_rfl) (lat_mem (by (repeat (first | exact Ext.refl _ _ | assumption | apply Ext.alloc | apply Ext.drewN | apply Ext.drew | refine Ext.setCell ?_ (fun h => by first | rfl | exact absurd h (by dsimp only; omega)) _)))) ?_
  simp only [pickOps, List.getD_cons_zero, List.getD_cons_succ]
  repeat (go_big_quiet_step (fail))
  refine wpQuiet_nil ?_
  refine mix_loud (i := 1) (by kernel_rfl) rfl (fun K hK => ?_)
  go_simp
  have M0 : New w1 w1.drew := by (repeat (first | exact Ext.refl _ _ | assumption | apply Ext.alloc | apply Ext.drewN | apply Ext.drew | refine Ext.setCell ?_ (fun h => by first | rfl | exact absurd h (by dsimp only; omega)) _))
  refine (of_c (h1.new M0) (by omega)).mono ?_
  rintro e w2 ⟨A2, c2, rfl, ho2, hn2⟩
  have M2 := M0.then hn2
  refine hK.out _ _ (lat_mem M2) ?_
  clear hK
  refine mix_loud (i := 3) (by kernel_rfl) rfl (fun K hK => ?_)
  go_simp
  refine (add_c A2 _ c2 a r _ ho2.rd (by omega)).mono ?_
  rintro e w3 ⟨A3, c3, rfl, hr3, hn3⟩
  have M3 := M2.then hn3
  refine hK.out _ _ (lat_mem M3) ?_
  clear hK
  refine mix_batch [4, 5, 6, 7, 8] (by kernel_rfl) 0 _ _ _ (by kernel_rfl) (lat_mem (by (repeat (first | exact Ext.refl _ _ | assumption | apply Ext.alloc | apply Ext.drewN | apply Ext.drew | refine Ext.setCell ?_ (fun h => by first | rfl | exact absurd h (by dsimp only; omega)) _)))) ?_
  simp only [pickOps, List.getD_cons_zero, List.getD_cons_succ]
  repeat (go_big_quiet_step (fail))
  refine wpQuiet_nil ?_
  refine wpAnyH_done (by kernel_rfl) (NoPanic.normal ?_) _
  clear q0 q1
  replace b0 := M3.keep b0
  replace b1 := M3.keep b1
  replace h1 := h1.new M3
  replace g1 := g1.new M3
  have N3 := N1.then M3
  clear M0 hn2 M2 ho2 hn3 M3 N1
  have c0 := (blk_cell b0 0).trans rfl
  have c1 := (blk_cell b0 1).trans rfl
  go_wp2_with fail
  refine (radd_c A _ c a r _ h1 (by omega)).mono ?_
  rintro e w4 ⟨A4, c4, rfl, hr4, hn4⟩
  clear c0 c1
  replace b0 := hn4.keep b0
  replace b1 := hn4.keep b1
  replace h1 := h1.new hn4
  replace g1 := g1.new hn4
  replace hr3 := hr3.new hn4
  have N4 := N3.then hn4
  clear hn4 N3
  -- Union
  go_wp2_with fail
  refine (of_c h1 (by omega)).mono ?_
  rintro e w5 ⟨A5, c5, rfl, ho5, hn5⟩
  go_wp2_with fail
  refine (of_c (g1.new hn5) (by omega)).mono ?_
  rintro e w6 ⟨A6, c6, rfl, ho6, hn6⟩
  go_wp2_with fail
  refine (uni_c A5 A6 _ c5 _ c6 a b _ (ho5.rd.new hn6) ho6.rd (by omega) (by omega)).mono ?_
  rintro e w7 ⟨A7, c7, rfl, hr7, hn7⟩
  have M := hn5.then (hn6.then hn7)
  replace b0 := M.keep b0
  replace b1 := M.keep b1
  replace h1 := h1.new M
  replace g1 := g1.new M
  replace hr3 := hr3.new M
  replace hr4 := hr4.new M
  have N7 := N4.then M
  clear hn5 hn6 hn7 ho5 ho6 M N4
  go_wp2_with fail
  refine (runi_c A B _ c _ d a b _ h1 g1 (by omega) (by omega)).mono ?_
  rintro e w8 ⟨A8, c8, rfl, hr8, hn8⟩
  replace b0 := hn8.keep b0
  replace b1 := hn8.keep b1
  replace h1 := h1.new hn8
  replace g1 := g1.new hn8
  replace hr3 := hr3.new hn8
  replace hr4 := hr4.new hn8
  replace hr7 := hr7.new hn8
  have N8 := N7.then hn8
  clear hn8 N7
  -- Minus
  go_wp2_with fail
  refine (of_c h1 (by omega)).mono ?_
  rintro e w9 ⟨A9, c9, rfl, ho9, hn9⟩
  go_wp2_with fail
  refine (of_c (g1.new hn9) (by omega)).mono ?_
  rintro e wa ⟨Aa, ca, rfl, hoa, hna⟩
  go_wp2_with fail
  refine (min_c A9 Aa _ c9 _ ca a b _ (ho9.rd.new hna) hoa.rd (by omega) (by omega)).mono ?_
  rintro e wb ⟨Ab, cb, rfl, hrb, hnb⟩
  have M := hn9.then (hna.then hnb)
  replace b0 := M.keep b0
  replace b1 := M.keep b1
  replace h1 := h1.new M
  replace g1 := g1.new M
  replace hr3 := hr3.new M
  replace hr4 := hr4.new M
  replace hr7 := hr7.new M
  replace hr8 := hr8.new M
  have Nb := N8.then M
  clear hn9 hna hnb ho9 hoa M N8
  go_wp2_with fail
  refine (rmin_c A B _ c _ d a b _ h1 g1 (by omega) (by omega)).mono ?_
  rintro e wd ⟨Ad, cd, rfl, hrd, hnd⟩
  replace b0 := hnd.keep b0
  replace b1 := hnd.keep b1
  replace h1 := h1.new hnd
  replace hr3 := hr3.new hnd
  replace hr4 := hr4.new hnd
  replace hr7 := hr7.new hnd
  replace hr8 := hr8.new hnd
  replace hrb := hrb.new hnd
  have Nd := Nb.then hnd
  clear hnd Nb g1
  -- Gaps
  go_wp2_with fail
  have q0 : ∀ y : Lat (fun _ => False) wd, y.W.cell? ⟨Y, 0, none⟩ = some (.int .i64 r.1) := fun y => (blk_cell (y.ext.keep b1 (fun h => h)) 0).trans rfl
  have q1 : ∀ y : Lat (fun _ => False) wd, y.W.cell? ⟨Y, 1, none⟩ = some (.int .i64 r.2) := fun y => (blk_cell (y.ext.keep b1 (fun h => h)) 1).trans rfl
  refine mix_start (fun _ => False) wd (by kernel_rfl) ?_
  refine mix_batch [0, 2] (by kernel_rfl) 7 _ _ _ (by kernel_rfl) (lat_mem (by (repeat (first | exact Ext.refl _ _ | assumption | apply Ext.alloc | apply Ext.drewN | apply Ext.drew | refine Ext.setCell ?_ (fun h => by first | rfl | exact absurd h (by dsimp only; omega)) _)))) ?_
  simp only [pickOps, List.getD_cons_zero, List.getD_cons_succ]
  repeat (go_big_quiet_step (fail))
  refine wpQuiet_nil ?_
  refine mix_loud (i := 1) (by kernel_rfl) rfl (fun K hK => ?_)
  go_simp
  have M0 : New wd wd.drew := by (repeat (first | exact Ext.refl _ _ | assumption | apply Ext.alloc | apply Ext.drewN | apply Ext.drew | refine Ext.setCell ?_ (fun h => by first | rfl | exact absurd h (by dsimp only; omega)) _))
  refine (of_c (h1.new M0) (by omega)).mono ?_
  rintro e we ⟨Ae, ce, rfl, hoe, hne⟩
  have M2 := M0.then hne
  refine hK.out _ _ (lat_mem M2) ?_
  clear hK
  refine mix_loud (i := 3) (by kernel_rfl) rfl (fun K hK => ?_)
  go_simp
  refine (gap_c Ae _ ce a r _ hoe.rd (by omega)).mono ?_
  rintro e wf ⟨Af, cf, rfl, hrf, hnf⟩
  have M3 := M2.then hnf
  refine hK.out _ _ (lat_mem M3) ?_
  clear hK
  refine mix_batch [4, 5, 6, 7, 8] (by kernel_rfl) 0 _ _ _ (by kernel_rfl) (lat_mem (by (repeat (first | exact Ext.refl _ _ | assumption | apply Ext.alloc | apply Ext.drewN | apply Ext.drew | refine Ext.setCell ?_ (fun h => by first | rfl | exact absurd h (by dsimp only; omega)) _)))) ?_
  simp only [pickOps, List.getD_cons_zero, List.getD_cons_succ]
  repeat (go_big_quiet_step (fail))
  refine wpQuiet_nil ?_
  refine wpAnyH_done (by kernel_rfl) (NoPanic.normal ?_) _
  clear q0 q1 b1
  replace b0 := M3.keep b0
  replace h1 := h1.new M3
  replace hr3 := hr3.new M3
  replace hr4 := hr4.new M3
  replace hr7 := hr7.new M3
  replace hr8 := hr8.new M3
  replace hrb := hrb.new M3
  replace hrd := hrd.new M3
  have Nf := Nd.then M3
  clear M0 hne M2 hoe hnf M3 Nd
  have c0 := (blk_cell b0 0).trans rfl
  have c1 := (blk_cell b0 1).trans rfl
  go_wp2_with fail
  refine (rgap_c A _ c a r _ h1 (by omega)).mono ?_
  rintro e wg ⟨Ag, cg, rfl, hrg, hng⟩
  clear c0 c1 b0 h1
  replace hr3 := hr3.new hng
  replace hr4 := hr4.new hng
  replace hr7 := hr7.new hng
  replace hr8 := hr8.new hng
  replace hrb := hrb.new hng
  replace hrd := hrd.new hng
  replace hrf := hrf.new hng
  have Ng := Nf.then hng
  clear hng Nf
  -- alike
  have l1 := addP_256 a r
  have l2 := uniP_256 a b
  have l3 := minP_256 a b
  have l4 := gapP_256 a r
  have s1 := add_same a r
  have s2 := uni_same a b
  have s3 := min_same a b
  have s4 := gap_same a r
  rw [← s1] at hr4 ⊢
  rw [← s2] at hr8 ⊢
  rw [← s3] at hrd ⊢
  rw [← s4] at hrg ⊢
  clear s1 s2 s3 s4
  generalize addP a r = p1 at *
  generalize uniP a b = p2 at *
  generalize minP a b = p3 at *
  generalize gapP a r = p4 at *
  have e1 : (p1.2 == p1.2) = true := by simp
  have e2 : (p2.2 == p2.2) = true := by simp
  have e3 : (p3.2 == p3.2) = true := by simp
  have e4 : (p4.2 == p4.2) = true := by simp
  go_wp2_with fail
  refine (back_c hr3 (by omega)).mono ?_
  rintro e x1 ⟨B1, d1, rfl, ob1, hb1⟩
  go_wp2_with fail
  refine (rsame_c B1 A4 _ d1 _ c4 p1.1 p1.1 _ ob1.rd (hr4.new hb1) (by omega) true (by simp)).mono ?_
  rintro e x2 ⟨rfl, hx2⟩
  have P2 := hb1.then hx2
  go_wp2_with fail
  refine (back_c (hr7.new P2) (by omega)).mono ?_
  rintro e x3 ⟨B3, d3, rfl, ob3, hb3⟩
  go_wp2_with fail
  refine (rsame_c B3 A8 _ d3 _ c8 p2.1 p2.1 _ ob3.rd ((hr8.new P2).new hb3) (by omega) true (by simp)).mono ?_
  rintro e x4 ⟨rfl, hx4⟩
  have P4 := P2.then (hb3.then hx4)
  go_wp2_with fail
  refine (back_c (hrb.new P4) (by omega)).mono ?_
  rintro e x5 ⟨B5, d5, rfl, ob5, hb5⟩
  go_wp2_with fail
  refine (rsame_c B5 Ad _ d5 _ cd p3.1 p3.1 _ ob5.rd ((hrd.new P4).new hb5) (by omega) true (by simp)).mono ?_
  rintro e x6 ⟨rfl, hx6⟩
  have P6 := P4.then (hb5.then hx6)
  go_wp2_with fail
  refine (back_c (hrf.new P6) (by omega)).mono ?_
  rintro e x7 ⟨B7, d7, rfl, ob7, hb7⟩
  go_wp2_with fail
  refine (rsame_c B7 Ag _ d7 _ cg p4.1 p4.1 _ ob7.rd ((hrg.new P6).new hb7) (by omega) true (by simp)).mono ?_
  rintro e x8 ⟨rfl, hx8⟩
  have P8 := P6.then (hb7.then hx8)
  go_wp2_with fail
  refine (awake_c _).mono ?_
  rintro e x9 ⟨rfl, hx9⟩
  go_wp2_with fail
  go_ret
  exact ⟨rfl, Ng.then (P8.then hx9)⟩
end Go.Proofs.Ytkiplbhnnjfjaaa
