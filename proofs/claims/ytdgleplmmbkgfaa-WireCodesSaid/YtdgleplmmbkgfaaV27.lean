/- Walks: the document's bytes of a packet. -/
import Derived.Test.YtdgleplmmbkgfaaV26
import Derived.Lib.AppendZeros
namespace Go.Proofs.Ytdgleplmmbkgfaa
open Go.RowKit
set_option maxRecDepth 100000

set_option maxHeartbeats 1000000 in
theorem renc_no (P : Pk) (A : Option Addr) (n c : Nat) (w : World) (hn : P.b.length = n) (h : okB P = false) :
    Calls Try.prog 17 #[pkV P A n c] w fun e w' => e = .returned (.tuple #[.slice none 0 0, .int .i64 30]) ∧ New w w' := by
  have hn1 := New.alloc1 w (pkO P A n c 25)
  have HN := hide hn
  have HH := hide h
  clear hn h
  go_enter Try.func17, Try.ntmps17
  go_wp2_with fail
  refine (is_b P A n c false _ HN.out HH.out).mono ?_
  rintro e w2 ⟨rfl, hn2⟩
  go_wp2_with fail
  go_ret2
  exact ⟨rfl, hn1.then hn2⟩
set_option maxHeartbeats 4000000 in
theorem renc_yes (P : Pk) (A : Option Addr) (n c : Nat) (w : World) (hn : P.b.length = n) (h : okB P = true) (hr : Rd w 1 A n c (bts P.b)) (hB : isB P.b) :
    Calls Try.prog 17 #[pkV P A n c] w fun e w' => ∃ A' c', e = .returned (.tuple #[.slice A' (36 + n) c', .int .i64 0]) ∧ Own w' w.heap.size 5 1 A' (36 + n) c' (bts (enL P)) ∧ New w w' := by
  have hbd := ok_bnd h
  have hbd0 := hbd
  have hn1 := New.alloc1 w (pkO P A n c 25)
  have hb1 := blk_new w (pkO P A n c 25)
  have hle := hbd.n
  rw [hn] at hle
  obtain ⟨⟨h10, h11⟩, ⟨h20, h21⟩, ⟨h30, h31⟩, ⟨h40, h41⟩, ⟨h50, h51⟩, ⟨h60, h61⟩, ⟨h70, h71⟩, ⟨h80, h81⟩, _⟩ := hbd
  have HN := hide hn
  have HH := hide h
  clear hn h
  go_enter Try.func17, Try.ntmps17
  go_wp2_with fail
  refine (is_b P A n c true _ HN.out HH.out).mono ?_
  rintro e w2 ⟨rfl, hn2⟩
  have hk2 := hn2.keep hb1
  have N2 := hn1.then hn2
  dsimp only [pkO] at hk2
  have c0 := (blk_cell hk2 0).trans rfl
  have c1 := (blk_cell hk2 1).trans rfl
  have c2 := (blk_cell hk2 2).trans rfl
  have c3 := (blk_cell hk2 3).trans rfl
  have c4 := (blk_cell hk2 4).trans rfl
  have c5 := (blk_cell hk2 5).trans rfl
  have c6 := (blk_cell hk2 6).trans rfl
  have c7 := (blk_cell hk2 7).trans rfl
  have c8 := (blk_cell hk2 8).trans rfl
  have hr0 := rd_lit w2 5 1 8 #[.int .u8 78, .int .u8 90, .int .u8 1, .int .u8 P.kd, .int .u8 P.fl, .int .u8 P.pa, .int .u8 P.sr, .int .u8 P.ds] (by omega) rfl (by simp [Value.oneCell'])
  have hnl := New.alloc1 w2 (.cells #[.int .u8 78, .int .u8 90, .int .u8 1, .int .u8 P.kd, .int .u8 P.fl, .int .u8 P.pa, .int .u8 P.sr, .int .u8 P.ds] 5)
  have hlt2 := blk_lt hk2
  go_wp2_with fail
  refine (rput_lit _ 8 8 _ 4 4 P.cn _ rfl hr0 (by omega) (by omega) (by omega)).mono ?_
  rintro e w3 ⟨A3, d3, rfl, ho3, hn3⟩
  have hk3 := (hnl.then hn3).keep hk2
  have N3 := (N2.then hnl).then hn3
  clear c0 c1 c2 c3 c4 c5 c6 c7 c8
  have c6 := (blk_cell hk3 6).trans rfl
  go_wp2_with fail
  refine (rput_lit _ _ _ _ 8 8 P.sq _ rfl ho3.rd (by omega) (by omega) (by omega)).mono ?_
  rintro e w4 ⟨A4, d4, rfl, ho4, hn4⟩
  have hk4 := hn4.keep hk3
  have N4 := N3.then hn4
  clear c6
  have c7 := (blk_cell hk4 7).trans rfl
  go_wp2_with fail
  refine (rput_lit _ _ _ _ 8 8 P.pl _ rfl ho4.rd (by omega) (by omega) (by omega)).mono ?_
  rintro e w5 ⟨A5, d5, rfl, ho5, hn5⟩
  have hk5 := hn5.keep hk4
  have N5 := N4.then hn5
  clear c7
  have c8 := (blk_cell hk5 8).trans rfl
  go_wp2_with fail
  refine (rput_lit _ _ _ _ 2 2 (n : Int) _ rfl ho5.rd (by omega) (by omega) (by omega)).mono ?_
  rintro e w6 ⟨A6, d6, rfl, ho6, hn6⟩
  have N6 := N5.then hn6
  clear c8
  go_wp2_with fail
  refine (rput_lit _ _ _ _ 2 2 0 _ rfl ho6.rd (by omega) (by omega) (by omega)).mono ?_
  rintro e w7 ⟨A7, d7, rfl, ho7, hn7⟩
  have N7 := N6.then hn7
  have hk7 := (hn6.then hn7).keep hk5
  have ho : Own w7 w6.heap.size 5 1 A7 32 d7 (bts (hdL P)) := by
    unfold hdL
    rw [HN.out]
    simpa [bts] using ho7
  have hhB := hdL_isB hbd0
  go_wp2_with fail
  have q8 : ∀ y : Lat (fun _ => False) w7, y.W.cell? ⟨w.heap.size, 8, none⟩ = some (.slice A n c) := fun y => (blk_cell (New.keep y.ext hk7) 8).trans rfl
  refine mix_start (fun _ => False) w7 (by kernel_rfl) ?_
  refine mix_batch [0, 2, 3] (by kernel_rfl) 3 _ _ _ (by kernel_rfl) (lat_mem (by (repeat (first | exact Ext.refl _ _ | assumption | apply Ext.alloc | apply Ext.drewN | apply Ext.drew | refine Ext.setCell ?_ (fun h => by first | rfl | exact absurd h (by dsimp only; omega)) _)))) ?_
  simp only [pickOps, List.getD_cons_zero, List.getD_cons_succ]
  repeat (go_big_quiet_step (fail))
  refine wpQuiet_nil ?_
  refine mix_loud (i := 1) (by kernel_rfl) rfl (fun K hK => ?_)
  go_simp
  refine (rof_any A7 32 d7 (hdL P) _ (ho.rd.new (show New w7 _ by (repeat (first | exact Ext.refl _ _ | assumption | apply Ext.alloc | apply Ext.drewN | apply Ext.drew | refine Ext.setCell ?_ (fun h => by first | rfl | exact absurd h (by dsimp only; omega)) _)))) hhB).mono ?_
  rintro e w8 ⟨rfl, rfl⟩
  refine hK.out _ _ (lat_mem (by (repeat (first | exact Ext.refl _ _ | assumption | apply Ext.alloc | apply Ext.drewN | apply Ext.drew | refine Ext.setCell ?_ (fun h => by first | rfl | exact absurd h (by dsimp only; omega)) _)))) ?_
  clear hK
  refine mix_loud (i := 4) (by kernel_rfl) rfl (fun K hK => ?_)
  go_simp
  refine (ron_any _ (adf (1, 0) (hdL P)) rfl (adf_ok ad_one _) A n c P.b _ (hr.new (N7.then (show New w7 _ by (repeat (first | exact Ext.refl _ _ | assumption | apply Ext.alloc | apply Ext.drewN | apply Ext.drew | refine Ext.setCell ?_ (fun h => by first | rfl | exact absurd h (by dsimp only; omega)) _))))) hB).mono ?_
  rintro e w8 ⟨rfl, rfl⟩
  refine hK.out _ _ (lat_mem (by (repeat (first | exact Ext.refl _ _ | assumption | apply Ext.alloc | apply Ext.drewN | apply Ext.drew | refine Ext.setCell ?_ (fun h => by first | rfl | exact absurd h (by dsimp only; omega)) _)))) ?_
  clear hK
  refine mix_batch [5] (by kernel_rfl) 0 _ _ _ (by kernel_rfl) (lat_mem (by (repeat (first | exact Ext.refl _ _ | assumption | apply Ext.alloc | apply Ext.drewN | apply Ext.drew | refine Ext.setCell ?_ (fun h => by first | rfl | exact absurd h (by dsimp only; omega)) _)))) ?_
  simp only [pickOps, List.getD_cons_zero, List.getD_cons_succ]
  repeat (go_big_quiet_step (fail))
  refine wpQuiet_nil ?_
  refine wpAnyH_done (by kernel_rfl) (NoPanic.normal ?_) _
  clear q8
  have hn8 : New w7 w7.drew := by (repeat (first | exact Ext.refl _ _ | assumption | apply Ext.alloc | apply Ext.drewN | apply Ext.drew | refine Ext.setCell ?_ (fun h => by first | rfl | exact absurd h (by dsimp only; omega)) _))
  have hk8 := hn8.keep hk7
  have ho8 := ho.new hn8
  have N8 := N7.then hn8
  obtain ⟨ha0, ha1⟩ := ad2_b (hdL P) P.b
  generalize w7.drew = w8 at *
  rw [show adsum (adf (adf (1, 0) (hdL P)) P.b) = ad2 (hdL P) P.b from rfl]
  obtain ⟨sm, hsm⟩ : ∃ v, v = ad2 (hdL P) P.b := ⟨_, rfl⟩
  rw [← hsm] at ha0 ha1 ⊢
  have HSM := hide hsm
  clear hsm
  go_wp2_with fail
  have q8 : ∀ y : Lat (fun _ => False) w8, y.W.cell? ⟨w.heap.size, 8, none⟩ = some (.slice A n c) := fun y => (blk_cell (New.keep y.ext hk8) 8).trans rfl
  refine mix_start (fun _ => False) w8 (by kernel_rfl) ?_
  refine mix_batch [0, 1, 2, 4, 5] (by kernel_rfl) 4 _ _ _ (by kernel_rfl) (lat_mem (by (repeat (first | exact Ext.refl _ _ | assumption | apply Ext.alloc | apply Ext.drewN | apply Ext.drew | refine Ext.setCell ?_ (fun h => by first | rfl | exact absurd h (by dsimp only; omega)) _)))) ?_
  simp only [pickOps, List.getD_cons_zero, List.getD_cons_succ]
  repeat (go_big_quiet_step (fail))
  refine wpQuiet_nil ?_
  refine mix_loud (i := 3) (by kernel_rfl) rfl (fun K hK => ?_)
  go_simp
  refine (rput_lit _ _ _ _ 4 4 sm _ rfl (ho8.rd.new (show New w8 _ by (repeat (first | exact Ext.refl _ _ | assumption | apply Ext.alloc | apply Ext.drewN | apply Ext.drew | refine Ext.setCell ?_ (fun h => by first | rfl | exact absurd h (by dsimp only; omega)) _)))) (by omega) (by omega) (by omega)).mono ?_
  rintro e w9 ⟨A9, d9, rfl, ho9, hn9⟩
  have hn89 : New w8 w9 := (show New w8 w8.drew by (repeat (first | exact Ext.refl _ _ | assumption | apply Ext.alloc | apply Ext.drewN | apply Ext.drew | refine Ext.setCell ?_ (fun h => by first | rfl | exact absurd h (by dsimp only; omega)) _))).then hn9
  have hs9 : w8.heap.size ≤ w9.heap.size := hn89.size
  have N9 := N8.then hn89
  refine hK.out _ _ (lat_mem hn89) ?_
  clear hK q8
  refine mix_loud (i := 6) (by kernel_rfl) rfl (fun K hK => ?_)
  rw [if_pos (by kernel_rfl)]
  obtain ⟨A10, d10, w10, hrun, ho10, he10, hA10⟩ := run_app (P := Try.prog) w9 w8.drew.heap.size 23 23 5 (.int .u8 0) 1 1 Try.underlying23 info_u8 rfl (by decide) (by decide) ho9 (hr.new N9) (by omega) hs9
  refine Lib.wp_append_run _ _ _ _ _ rfl _ _ rfl rfl _ _ hrun ?_
  have N10 : New w8 w10 := hn89.trans he10 (fun k hk h => by have h2 : w8.heap.size ≤ k := (ho9.at_ h).1; omega)
  refine hK.out _ _ (lat_mem N10) ?_
  clear hK
  go_simp
  refine mix_batch [7, 8] (by kernel_rfl) 0 _ _ _ (by kernel_rfl) (lat_mem (by (repeat (first | exact Ext.refl _ _ | assumption | apply Ext.alloc | apply Ext.drewN | apply Ext.drew | refine Ext.setCell ?_ (fun h => by first | rfl | exact absurd h (by dsimp only; omega)) _)))) ?_
  simp only [pickOps, List.getD_cons_zero, List.getD_cons_succ]
  repeat (go_big_quiet_step (fail))
  refine wpQuiet_nil ?_
  refine wpAnyH_done (by kernel_rfl) (NoPanic.normal ?_) _
  go_wp2_with fail
  go_ret2
  refine ⟨A10, d10, rfl, ?_, N8.then N10⟩
  have hsz := N8.size
  have hb10 : w8.drew.heap.size = w8.heap.size := rfl
  have := ho10.rebase (base' := w.heap.size) (fun k hk => by have := (ho10.at_ hk).1; omega)
  unfold enL
  rw [← HSM.out, bts_append, bts_append]
  simpa using this
end Go.Proofs.Ytdgleplmmbkgfaa
