/- Walks: a key is known. -/
import Derived.Test.YtmonhhodbinagaaK4
namespace Go.Proofs.Ytmonhhodbinagaa
open Go.RowKit Go.Maps
set_option maxRecDepth 100000

set_option maxHeartbeats 1600000 in
theorem know_p {w : World} {p : Nat} {s : PS} {T : Nat → Prop} (h : Pq w p s T) (k : Int × Int) (c : Int) (hk : may k) (hc : c = 0 ∨ c = 1) (hn : fnd s.L k = none) (hm : (s.L.length : Int) < s.most) (hl : s.L.length < 1000000) :
    Calls Try.prog 10 #[.pointer (some ⟨p, 0, none⟩), kV k, .int .i64 c] w fun e w' => e = .returned (.int .i64 0) ∧ Pstep w w' p { s with L := s.L ++ [⟨k, c, 0, 0⟩] } T := by
  obtain ⟨b, r, U, h, hT⟩ := h
  have d1 : decide (k.1 < 0) = false := decide_eq_false (by have := hk.1; omega)
  have d2 : decide (8 ≤ k.1) = false := decide_eq_false (by have := hk.2.1; omega)
  have d3 : decide (k.2 < 1) = false := decide_eq_false (by have := hk.2.2.1; omega)
  have d4 : decide (1073741824 < k.2) = false := decide_eq_false (by have := hk.2.2.2; omega)
  have d5 : decide (c < 0) = false := decide_eq_false (by omega)
  have d6 : decide (2 ≤ c) = false := decide_eq_false (by omega)
  have d7 : decide (s.most ≤ s.L.length) = false := decide_eq_false (by omega)
  have HK := hide hk
  have HC := hide hc
  have HM := hide hm
  clear hk hc hm
  have hn1 := New.alloc1 w (.cells #[.int .i64 k.1, .int .i64 k.2] 30)
  have hq1 : Pq (w.alloc (.cells #[.int .i64 k.1, .int .i64 k.2] 30)) p s T := Pq.new ⟨b, r, U, h, hT⟩ hn1
  have h1 := h.new hn1
  have hkb := blk_new w (.cells #[.int .i64 k.1, .int .i64 k.2] 30)
  have hpk : p < w.heap.size := h.lt
  have hbk : b < w.heap.size := h.map.lt
  go_enter Try.func10, Try.ntmps10
  go_wp2_with fail
  refine (none_p hq1).mono ?_
  rintro e w1 ⟨rfl, e1⟩
  rw [e1] at hn1 hq1 h1 hkb
  clear e1
  have k0 := (blk_cell hkb 0).trans rfl
  have k1 := (blk_cell hkb 1).trans rfl
  go_wp2_with fail
  have q0 : ∀ x : Lat (fun _ => False) w1, x.W.cell? ⟨p, 0, none⟩ = some (.map (some b)) := fun x => (blk_cell (New.keep x.ext h1.blk) 0).trans rfl
  have qk0 : ∀ x : Lat (fun _ => False) w1, x.W.cell? ⟨w.heap.size, 0, none⟩ = some (.int .i64 k.1) := fun x => (blk_cell (New.keep x.ext hkb) 0).trans rfl
  have qk1 : ∀ x : Lat (fun _ => False) w1, x.W.cell? ⟨w.heap.size, 1, none⟩ = some (.int .i64 k.2) := fun x => (blk_cell (New.keep x.ext hkb) 1).trans rfl
  have ql : ∀ x : Lat (fun _ => False) w1, (Instr.lookup 65 (.map (some b)) (.agg #[.int .i64 k.1, .int .i64 k.2]) true).run Try.prog x.W = .ok (.tuple #[.agg #[.int .i64 0, .int .i64 0, .int .i64 0], .bool false]) x.W := fun x => by have := (h1.map.new x.ext).look HK.out.wf; rw [show ofK s.L k = ⟨(0, 0), 0, 0, 0⟩ by simp [ofK, hn], hn] at this; exact this
  refine mix_start (fun _ => False) w1 (by kernel_rfl) ?_
  refine mix_batch [0, 1, 2, 3, 4, 5, 6, 7, 8] (by kernel_rfl) 3 _ _ _ (by kernel_rfl) (lat_mem (by (repeat (first | exact Ext.refl _ _ | assumption | apply Ext.alloc | apply Ext.drewN | apply Ext.drew | refine Ext.setCell ?_ (fun h => by first | rfl | exact absurd h (by dsimp only; omega)) _)))) ?_
  simp only [pickOps, List.getD_cons_zero, List.getD_cons_succ]
  repeat (go_big_quiet_step (fail))
  refine wpQuiet_nil ?_
  refine mix_loud (i := 9) (by kernel_rfl) rfl (fun K hK => ?_)
  go_simp
  refine hK.out _ _ (lat_mem (by (repeat (first | exact Ext.refl _ _ | assumption | apply Ext.alloc | apply Ext.drewN | apply Ext.drew | refine Ext.setCell ?_ (fun h => by first | rfl | exact absurd h (by dsimp only; omega)) _)))) ?_
  clear hK
  have hxb := blk_new w1 (.cells #[.int .i64 0, .int .i64 0, .int .i64 0] 75)
  have x0 := (blk_cell hxb 0).trans rfl
  have x1 := (blk_cell hxb 1).trans rfl
  have x2 := (blk_cell hxb 2).trans rfl
  have y0 := blk_free hxb 0
  have y1 := blk_free hxb 1
  have y2 := blk_free hxb 2
  refine mix_loud (i := 10) (by kernel_rfl) rfl (fun K hK => ?_)
  go_simp
  refine hK.out _ _ (lat_mem (by (repeat (first | exact Ext.refl _ _ | assumption | apply Ext.alloc | apply Ext.drewN | apply Ext.drew | refine Ext.setCell ?_ (fun h => by first | rfl | exact absurd h (by dsimp only; omega)) _)))) ?_
  clear hK
  refine mix_batch [11] (by kernel_rfl) 0 _ _ _ (by kernel_rfl) (lat_mem (by (repeat (first | exact Ext.refl _ _ | assumption | apply Ext.alloc | apply Ext.drewN | apply Ext.drew | refine Ext.setCell ?_ (fun h => by first | rfl | exact absurd h (by dsimp only; omega)) _)))) ?_
  simp only [pickOps, List.getD_cons_zero, List.getD_cons_succ]
  repeat (go_big_quiet_step (fail))
  refine wpQuiet_nil ?_
  refine wpAnyH_done (by kernel_rfl) (NoPanic.normal ?_) _
  clear q0 qk0 qk1 ql x0 x1 x2 y0 y1 y2
  have hn3 : New w1 (w1.alloc (.cells #[.int .i64 0, .int .i64 0, .int .i64 0] 75)).drew := by (repeat (first | exact Ext.refl _ _ | assumption | apply Ext.alloc | apply Ext.drewN | apply Ext.drew | refine Ext.setCell ?_ (fun h => by first | rfl | exact absurd h (by dsimp only; omega)) _))
  generalize (w1.alloc (.cells #[.int .i64 0, .int .i64 0, .int .i64 0] 75)).drew = w3 at *
  clear k0 k1 hxb
  have h3 := h1.new hn3
  have hk3 := hn3.keep hkb
  have c0 := (blk_cell h3.blk 0).trans rfl
  have c3 := (blk_cell h3.blk 3).trans rfl
  have gl := fun (ty : TypeId) u => (h3.map.new (new_draw w3 u)).len ty
  go_wp2_with fail
  go_quiet (fail)
  have hn4 := new_draw w3 nq
  have h4 := h3.new hn4
  have hk4 := hn4.keep hk3
  generalize w3.drewN nq = w4 at *
  clear c0 c3 gl
  go_wp2_with fail
  have q0 : ∀ x : Lat (fun k => k = b) w4, x.W.cell? ⟨p, 0, none⟩ = some (.map (some b)) := fun x => (blk_cell (x.ext.keep h4.blk (by have := h.pb; omega)) 0).trans rfl
  have qk0 : ∀ x : Lat (fun k => k = b) w4, x.W.cell? ⟨w.heap.size, 0, none⟩ = some (.int .i64 k.1) := fun x => (blk_cell (x.ext.keep hk4 (by omega)) 0).trans rfl
  have qk1 : ∀ x : Lat (fun k => k = b) w4, x.W.cell? ⟨w.heap.size, 1, none⟩ = some (.int .i64 k.2) := fun x => (blk_cell (x.ext.keep hk4 (by omega)) 1).trans rfl
  obtain ⟨w5, hrun, hm5, he5⟩ := (show PMap w4.drew b s.L from h4.map.new (by (repeat (first | exact Ext.refl _ _ | assumption | apply Ext.alloc | apply Ext.drewN | apply Ext.drew | refine Ext.setCell ?_ (fun h => by first | rfl | exact absurd h (by dsimp only; omega)) _)))).put ⟨k, c, 0, 0⟩ HK.out.wf hn hl
  refine mix_start (fun k => k = b) w4 (by kernel_rfl) ?_
  refine mix_batch [0, 1, 2, 3, 4, 5, 6] (by kernel_rfl) 1 _ _ _ (by kernel_rfl) (lat_mem (by (repeat (first | exact Ext.refl _ _ | assumption | apply Ext.alloc | apply Ext.drewN | apply Ext.drew | refine Ext.setCell ?_ (fun h => by first | rfl | exact absurd h (by dsimp only; omega)) _)))) ?_
  simp only [pickOps, List.getD_cons_zero, List.getD_cons_succ]
  repeat (go_big_quiet_step (fail))
  refine wpQuiet_nil ?_
  refine mix_loud (i := 7) (by kernel_rfl) rfl (fun K hK => ?_)
  go_simp
  have he : Ext (fun k => k = b) w4 w5 := (show New w4 w4.drew by (repeat (first | exact Ext.refl _ _ | assumption | apply Ext.alloc | apply Ext.drewN | apply Ext.drew | refine Ext.setCell ?_ (fun h => by first | rfl | exact absurd h (by dsimp only; omega)) _))).to.trans he5 (fun _ _ h => h)
  refine hK.out _ _ (lat_mem he) ?_
  clear hK q0 qk0 qk1 hrun
  refine wpAnyH_done (by kernel_rfl) (NoPanic.normal ?_) _
  go_wp2_with fail
  go_ret
  refine ⟨rfl, T, ⟨b, r, U, ⟨he.keep h4.blk h.pb, hm5, fun c hc => (h4.q c hc).keep he (fun k hk e => h.db c hc (e ▸ hk)), h.pb, h.dp, h.db, h.dq⟩, hT⟩, ?_, fun k hk => .inl hk⟩
  exact (hn1.then (hn3.then hn4)).to.trans he (fun k _ e => (hT k).2 (.inr (.inl e)))
end Go.Proofs.Ytmonhhodbinagaa
