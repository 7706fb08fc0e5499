/- The law on pacers that nobody made. -/
import Derived.Test.YtmonhhodbinagaaK20
namespace Go.Proofs.Ytmonhhodbinagaa
open Go.RowKit Go.Maps
set_option maxRecDepth 100000

set_option maxHeartbeats 4000000 in
theorem nobody_walk (a b : Int) (n : Int) (w : World) :
    Calls Try.prog 7 #[.agg #[.int .i64 a, .int .i64 b], .int .i64 n] w fun e w' => e = .returned (.bool true) ∧ New w w' := by
  go_enter Try.func7, Try.ntmps7
  go_wp2_with fail
  have hnk := New.alloc1 w (.cells #[.int .i64 a, .int .i64 b] 49)
  have hkb := blk_new w (.cells #[.int .i64 a, .int .i64 b] 49)
  obtain ⟨wk, hwk⟩ : ∃ wk, wk = w.alloc (.cells #[.int .i64 a, .int .i64 b] 49) := ⟨_, rfl⟩
  have hsz : w.heap.size + 1 = wk.heap.size := by rw [hwk]; simp
  rw [hsz]
  rw [← hwk] at hnk hkb ⊢
  clear hwk hsz
  obtain ⟨w0, hw0, hb0, hb1, hn0, hs0⟩ := twoNew wk #[.map none, .pointer none, .pointer none, .int .i64 0, .int .i64 0, .int .i64 0] #[.pointer none, .pointer (some ⟨wk.heap.size, 0, none⟩)] 69 23
  rw [← hw0]
  have HW := hide hw0
  clear hw0
  obtain ⟨ad, had⟩ : ∃ ad : Addr, ad = ⟨wk.heap.size + 1, 0, none⟩ := ⟨_, rfl⟩
  rw [← had]
  have hadd : ∀ k, ad.add k = ⟨wk.heap.size + 1, k, none⟩ := fun k => by rw [had, add_at, Nat.zero_add]
  clear had
  go_loopw [7] (fun s wr => New w0 wr ∧ ∃ k : Nat, k ≤ 2 ∧ s = .int .i64 (k : Nat)) (fun s _ => 2 - (intOf s).toNat)
  case atStart => exact ⟨Ext.refl _ _, 0, by omega, rfl⟩
  case round =>
    obtain ⟨hnw, k, hk, rfl⟩ := hrel
    have hcase : k = 2 ∨ ∃ q, DeadP w0 q ∧ w0.cell? (ad.add k) = some (.pointer q) ∧ k < 2 := by
      rw [hadd]
      rcases (show k = 0 ∨ k = 1 ∨ k = 2 by omega) with rfl | rfl | rfl
      · exact .inr ⟨none, .inl rfl, (blk_cell hb1 0).trans rfl, by omega⟩
      · exact .inr ⟨_, .inr ⟨_, rfl, hb0⟩, (blk_cell hb1 1).trans rfl, by omega⟩
      · exact .inl rfl
    rcases hcase with rfl | ⟨q, hd, hc, hk2⟩
    · go_wp2_with fail
      refine (awake_p _).mono ?_
      rintro e w3 ⟨rfl, hn3⟩
      go_wp2_with fail
      go_ret
      exact ⟨rfl, ((hnk.then hn0).then hnw).then hn3⟩
    · have d1 : decide ((k : Int) < 2) = true := decide_eq_true (by omega)
      have d2 : decide (k < 2) = true := decide_eq_true (by omega)
      have hcr : wr.cell? (ad.add k) = some (.pointer q) := newCell hnw hc
      have hdr := hd.new hnw
      have hk1 : (k : Int) < 2 := by omega
      have hkr := hnw.keep (hn0.keep hkb)
      clear hadd
      go_wp2_with fail
      refine (tick_dp q _ hdr).mono ?_
      rintro e w1 ⟨rfl, hn1⟩
      have hcr1 := newCell hn1 hcr
      have hdr1 := hdr.new hn1
      have hkr1 := hn1.keep hkr
      clear hcr
      have hxb := blk_new w1 (.cells #[.int .i64 0, .int .i64 0, .int .i64 0] 32)
      have hnx := New.alloc1 w1 (.cells #[.int .i64 0, .int .i64 0, .int .i64 0] 32)
      go_wp2_with fail
      have hcr2 := newCell hnx hcr1
      have hdr2 := hdr1.new hnx
      have hkr2 := hnx.keep hkr1
      generalize w1.alloc (.cells #[.int .i64 0, .int .i64 0, .int .i64 0] 32) = w2 at *
      clear hcr1
      have q0 : ∀ y : Lat (fun _ => False) w2, y.W.cell? (ad.add k) = some (.pointer q) := fun y => newCell y.ext hcr2
      have q1 : ∀ y : Lat (fun _ => False) w2, y.W.cell? ⟨w.heap.size, 0, none⟩ = some (.int .i64 a) := fun y => (blk_cell (New.keep y.ext hkr2) 0).trans rfl
      have q2 : ∀ y : Lat (fun _ => False) w2, y.W.cell? ⟨w.heap.size, 1, none⟩ = some (.int .i64 b) := fun y => (blk_cell (New.keep y.ext hkr2) 1).trans rfl
      refine mix_start (fun _ => False) w2 (by kernel_rfl) ?_
      refine mix_batch [0, 1, 2, 3, 4] (by kernel_rfl) 7 _ _ _ (by kernel_rfl) (lat_mem (by (repeat (first | exact Ext.refl _ _ | assumption | apply Ext.alloc | apply Ext.drewN | apply Ext.drew | refine Ext.setCell ?_ (fun h => by first | rfl | exact absurd h (by dsimp only; omega)) _)))) ?_
      simp only [pickOps, List.getD_cons_zero, List.getD_cons_succ]
      repeat (go_big_quiet_step (fail))
      refine wpQuiet_nil ?_
      refine mix_loud (i := 5) (by kernel_rfl) rfl (fun K hK => ?_)
      go_simp
      refine (of_k a b _).mono ?_
      rintro e w3 ⟨rfl, hn3⟩
      have hX : New w2 w3 := (show New w2 w2.drew by (repeat (first | exact Ext.refl _ _ | assumption | apply Ext.alloc | apply Ext.drewN | apply Ext.drew | refine Ext.setCell ?_ (fun h => by first | rfl | exact absurd h (by dsimp only; omega)) _))).then hn3
      refine hK.out _ _ (lat_mem hX) ?_
      clear hK
      refine mix_loud (i := 6) (by kernel_rfl) rfl (fun K hK => ?_)
      go_simp
      refine (forget_dp q a b _ (hdr2.new hX)).mono ?_
      rintro e w4 ⟨rfl, hn4⟩
      have hY4 := hX.then hn4
      refine hK.out _ _ (lat_mem hY4) (mix_next hY4 (fun _ _ h => h) ?_)
      clear hK
      refine mix_batch [7, 8, 9, 10, 11] (by kernel_rfl) 0 _ _ _ (by kernel_rfl) (lat_mem (by (repeat (first | exact Ext.refl _ _ | assumption | apply Ext.alloc | apply Ext.drewN | apply Ext.drew | refine Ext.setCell ?_ (fun h => by first | rfl | exact absurd h (by dsimp only; omega)) _)))) ?_
      simp only [pickOps, List.getD_cons_zero, List.getD_cons_succ]
      repeat (go_big_quiet_step (fail))
      refine wpQuiet_nil ?_
      refine wpAnyH_done (by kernel_rfl) (NoPanic.normal ?_) _
      clear q0 q1 q2
      have hcr4 := newCell hY4 hcr2
      have hdr4 := hdr2.new hY4
      have hkr4 := hY4.keep hkr2
      have hxb4 := hY4.keep hxb
      clear hcr2
      go_wp2_with fail
      have q0 : ∀ y : Lat (fun _ => False) w4, y.W.cell? (ad.add k) = some (.pointer q) := fun y => newCell y.ext hcr4
      have q1 : ∀ y : Lat (fun _ => False) w4, y.W.cell? ⟨w.heap.size, 0, none⟩ = some (.int .i64 a) := fun y => (blk_cell (New.keep y.ext hkr4) 0).trans rfl
      have q2 : ∀ y : Lat (fun _ => False) w4, y.W.cell? ⟨w.heap.size, 1, none⟩ = some (.int .i64 b) := fun y => (blk_cell (New.keep y.ext hkr4) 1).trans rfl
      have x0 : ∀ y : Lat (fun _ => False) w4, y.W.cell? ⟨w1.heap.size, 0, none⟩ = some (.int .i64 0) := fun y => (blk_cell (New.keep y.ext hxb4) 0).trans rfl
      have x1 : ∀ y : Lat (fun _ => False) w4, y.W.cell? ⟨w1.heap.size, 1, none⟩ = some (.int .i64 0) := fun y => (blk_cell (New.keep y.ext hxb4) 1).trans rfl
      have x2 : ∀ y : Lat (fun _ => False) w4, y.W.cell? ⟨w1.heap.size, 2, none⟩ = some (.int .i64 0) := fun y => (blk_cell (New.keep y.ext hxb4) 2).trans rfl
      simp only [List.append_eq, List.cons_append, List.nil_append]
      refine mix_start (fun _ => False) w4 (by kernel_rfl) ?_
      refine mix_batch [0, 1, 2, 3, 4, 5, 6, 7, 8, 9, 10, 11, 12, 13, 14] (by kernel_rfl) 62 _ _ _ (by kernel_rfl) (lat_mem (by (repeat (first | exact Ext.refl _ _ | assumption | apply Ext.alloc | apply Ext.drewN | apply Ext.drew | refine Ext.setCell ?_ (fun h => by first | rfl | exact absurd h (by dsimp only; omega)) _)))) ?_
      simp only [pickOps, List.getD_cons_zero, List.getD_cons_succ]
      repeat (go_big_quiet_step (fail))
      refine wpQuiet_nil ?_
      refine mix_loud (i := 15) (by kernel_rfl) rfl (fun K hK => ?_)
      go_simp
      refine (of_k a b _).mono ?_
      rintro e w5 ⟨rfl, hn5⟩
      have hX5 : New w4 w5 := (show New w4 w4.drew by (repeat (first | exact Ext.refl _ _ | assumption | apply Ext.alloc | apply Ext.drewN | apply Ext.drew | refine Ext.setCell ?_ (fun h => by first | rfl | exact absurd h (by dsimp only; omega)) _))).then hn5
      refine hK.out _ _ (lat_mem hX5) ?_
      clear hK
      refine mix_loud (i := 16) (by kernel_rfl) rfl (fun K hK => ?_)
      go_simp
      refine (know_dp q a b _ (hdr4.new hX5) 1).mono ?_
      rintro e w6 ⟨rfl, hn6⟩
      have hX6 : New w4 w6 := hX5.then hn6
      refine hK.out _ _ (lat_mem hX6) ?_
      clear hK
      refine mix_batch [17, 18, 19, 20, 21, 22, 23, 24, 26] (by kernel_rfl) 51 _ _ _ (by kernel_rfl) (lat_mem (by (repeat (first | exact Ext.refl _ _ | assumption | apply Ext.alloc | apply Ext.drewN | apply Ext.drew | refine Ext.setCell ?_ (fun h => by first | rfl | exact absurd h (by dsimp only; omega)) _)))) ?_
      simp only [pickOps, List.getD_cons_zero, List.getD_cons_succ]
      repeat (go_big_quiet_step (fail))
      refine wpQuiet_nil ?_
      refine mix_loud (i := 25) (by kernel_rfl) rfl (fun K hK => ?_)
      go_simp
      refine (of_k a b _).mono ?_
      rintro e w7 ⟨rfl, hn7⟩
      have hX7 : New w4 w7 := hX6.then hn7
      refine hK.out _ _ (lat_mem hX7) ?_
      clear hK
      refine mix_loud (i := 27) (by kernel_rfl) rfl (fun K hK => ?_)
      go_simp
      refine (owe_dp q a b _ (hdr4.new hX7) n).mono ?_
      rintro e w8 ⟨rfl, hn8⟩
      have hX8 : New w4 w8 := hX7.then hn8
      refine hK.out _ _ (lat_mem hX8) ?_
      clear hK
      refine mix_batch [28, 29, 30, 31, 32, 33, 34, 35, 36, 40, 41, 42, 43, 44, 48, 49, 50, 51, 54, 55, 56, 57, 60, 61, 62, 63] (by kernel_rfl) 23 _ _ _ (by kernel_rfl) (lat_mem (by (repeat (first | exact Ext.refl _ _ | assumption | apply Ext.alloc | apply Ext.drewN | apply Ext.drew | refine Ext.setCell ?_ (fun h => by first | rfl | exact absurd h (by dsimp only; omega)) _)))) ?_
      simp only [pickOps, List.getD_cons_zero, List.getD_cons_succ]
      repeat (go_big_quiet_step (fail))
      refine wpQuiet_nil ?_
      refine mix_loud (i := 37) (by kernel_rfl) rfl (fun K hK => ?_)
      go_simp
      refine (of_k a b _).mono ?_
      rintro e w9 ⟨rfl, hn9⟩
      have hX9 : New w4 w9 := hX8.then hn9
      refine hK.out _ _ (lat_mem hX9) ?_
      clear hK
      refine mix_loud (i := 38) (by kernel_rfl) rfl (fun K hK => ?_)
      go_simp
      refine (pending_dp q a b _ (hdr4.new hX9)).mono ?_
      rintro e w10 ⟨rfl, hn10⟩
      have hX10 : New w4 w10 := hX9.then hn10
      refine hK.out _ _ (lat_mem hX10) ?_
      clear hK
      refine mix_batch [39] (by kernel_rfl) 20 _ _ _ (by kernel_rfl) (lat_mem (by (repeat (first | exact Ext.refl _ _ | assumption | apply Ext.alloc | apply Ext.drewN | apply Ext.drew | refine Ext.setCell ?_ (fun h => by first | rfl | exact absurd h (by dsimp only; omega)) _)))) ?_
      simp only [pickOps, List.getD_cons_zero, List.getD_cons_succ]
      repeat (go_big_quiet_step (fail))
      refine wpQuiet_nil ?_
      refine mix_loud (i := 45) (by kernel_rfl) rfl (fun K hK => ?_)
      go_simp
      refine (of_k a b _).mono ?_
      rintro e w11 ⟨rfl, hn11⟩
      have hX11 : New w4 w11 := hX10.then hn11
      refine hK.out _ _ (lat_mem hX11) ?_
      clear hK
      refine mix_loud (i := 46) (by kernel_rfl) rfl (fun K hK => ?_)
      go_simp
      refine (issued_dp q a b _ (hdr4.new hX11)).mono ?_
      rintro e w12 ⟨rfl, hn12⟩
      have hX12 : New w4 w12 := hX11.then hn12
      refine hK.out _ _ (lat_mem hX12) ?_
      clear hK
      refine mix_batch [47] (by kernel_rfl) 17 _ _ _ (by kernel_rfl) (lat_mem (by (repeat (first | exact Ext.refl _ _ | assumption | apply Ext.alloc | apply Ext.drewN | apply Ext.drew | refine Ext.setCell ?_ (fun h => by first | rfl | exact absurd h (by dsimp only; omega)) _)))) ?_
      simp only [pickOps, List.getD_cons_zero, List.getD_cons_succ]
      repeat (go_big_quiet_step (fail))
      refine wpQuiet_nil ?_
      refine mix_loud (i := 52) (by kernel_rfl) rfl (fun K hK => ?_)
      go_simp
      refine (total_dp q _ (hdr4.new hX12)).mono ?_
      rintro e w13 ⟨rfl, rfl⟩
      refine hK.out _ _ (lat_mem hX12) ?_
      clear hK
      refine mix_batch [53] (by kernel_rfl) 15 _ _ _ (by kernel_rfl) (lat_mem (by (repeat (first | exact Ext.refl _ _ | assumption | apply Ext.alloc | apply Ext.drewN | apply Ext.drew | refine Ext.setCell ?_ (fun h => by first | rfl | exact absurd h (by dsimp only; omega)) _)))) ?_
      simp only [pickOps, List.getD_cons_zero, List.getD_cons_succ]
      repeat (go_big_quiet_step (fail))
      refine wpQuiet_nil ?_
      refine mix_loud (i := 58) (by kernel_rfl) rfl (fun K hK => ?_)
      go_simp
      refine (len_dp q _ (hdr4.new hX12)).mono ?_
      rintro e w13 ⟨rfl, rfl⟩
      refine hK.out _ _ (lat_mem hX12) ?_
      clear hK
      refine mix_batch [59] (by kernel_rfl) 13 _ _ _ (by kernel_rfl) (lat_mem (by (repeat (first | exact Ext.refl _ _ | assumption | apply Ext.alloc | apply Ext.drewN | apply Ext.drew | refine Ext.setCell ?_ (fun h => by first | rfl | exact absurd h (by dsimp only; omega)) _)))) ?_
      simp only [pickOps, List.getD_cons_zero, List.getD_cons_succ]
      repeat (go_big_quiet_step (fail))
      refine wpQuiet_nil ?_
      refine mix_loud (i := 64) (by kernel_rfl) rfl (fun K hK => ?_)
      go_simp
      refine (queue_dp q _ (hdr4.new hX12) 0).mono ?_
      rintro e w13 ⟨rfl, rfl⟩
      refine hK.out _ _ (lat_mem hX12) ?_
      clear hK
      refine mix_batch [65, 66, 67, 68, 69, 70, 71, 72, 73] (by kernel_rfl) 3 _ _ _ (by kernel_rfl) (lat_mem (by (repeat (first | exact Ext.refl _ _ | assumption | apply Ext.alloc | apply Ext.drewN | apply Ext.drew | refine Ext.setCell ?_ (fun h => by first | rfl | exact absurd h (by dsimp only; omega)) _)))) ?_
      simp only [pickOps, List.getD_cons_zero, List.getD_cons_succ]
      repeat (go_big_quiet_step (fail))
      refine wpQuiet_nil ?_
      refine mix_loud (i := 74) (by kernel_rfl) rfl (fun K hK => ?_)
      go_simp
      refine (fork_dp q _ (hdr4.new hX12)).mono ?_
      rintro e w13 ⟨rfl, rfl⟩
      refine hK.out _ _ (lat_mem hX12) ?_
      clear hK
      refine mix_batch [75, 76] (by kernel_rfl) 0 _ _ _ (by kernel_rfl) (lat_mem (by (repeat (first | exact Ext.refl _ _ | assumption | apply Ext.alloc | apply Ext.drewN | apply Ext.drew | refine Ext.setCell ?_ (fun h => by first | rfl | exact absurd h (by dsimp only; omega)) _)))) ?_
      simp only [pickOps, List.getD_cons_zero, List.getD_cons_succ]
      repeat (go_big_quiet_step (fail))
      refine wpQuiet_nil ?_
      refine wpAnyH_done (by kernel_rfl) (NoPanic.normal ?_) _
      clear q0 q1 q2 x0 x1 x2
      go_wp2_with fail
      exact ⟨⟨((hnw.then hn1).then (hnx)).then (hY4.then hX12), k + 1, by omega, by go_num⟩, by simp [intOf]; omega⟩
end Go.Proofs.Ytmonhhodbinagaa
