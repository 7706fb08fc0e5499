/- Walks: one call, of both: Peek and Clear. -/
import Derived.Test.YtafeeafccbdkfaaQ16
namespace Go.Proofs.Ytafeeafccbdkfaa
open Go.RowKit
set_option maxRecDepth 100000

set_option maxHeartbeats 2000000 in
theorem step_peek (p : Nat) (A : Option Addr) (n c : Nat) (xs : List Int) (room : Nat) (B : Option Addr) (d : Nat) (k : Int) (OA : Option Addr) (on oc : Nat) (ol : List Int) (t : Int) (w : World)
    (h : Rngi w p A n c xs room) (hB : Rd w 1 B n d (vsi xs)) (hs : ∀ k, inA B k → k < w.heap.size ∧ ¬ Tch p A k) (ho : Rd w 1 OA on oc (vsi ol)) (hos : on = 0 ∨ ∀ k, inA OA k → ¬ Tch p A k) (ht : (Lit.int .i64 t).wf = true)
    (k1 : ((k.tmod 10) == 4) = false) (k2 : ((k.tmod 10) == 5) = false) (k3 : ((k.tmod 10) == 6) = true) :
    Calls Try.prog 21 #[.pointer (some ⟨p, 0, none⟩), .agg #[.slice B n d, .int .i64 room], .agg #[.int .u8 k, .slice OA on oc, .int .i64 t]] w fun e w' => Stp w p A B room e w' := by
  obtain ⟨s, hs20⟩ : ∃ s, s = min on 20 := ⟨_, rfl⟩
  have hkn : s ≤ on := by omega
  have hk20 : s ≤ 20 := by omega
  have HK := hide hs20
  clear hs20
  have hr2 := h.r2
  have hle := h.le
  obtain ⟨w0, hw0, hb0, hb1, hb2, hn0, hs0⟩ := three_new w #[.slice B n d, .int .i64 room] #[.int .u8 k, .slice OA on oc, .int .i64 t] #[.slice none 0 0, .int .i64 0] 31 56 31
  go_enter Try.func21, Try.ntmps21
  go_wp2_with fail
  refine (short_any OA on oc s _ ho.cap HK.out).mono ?_
  rintro e w1 ⟨rfl, rfl⟩
  go_wp2_with fail
  rw [← hw0]
  have HW := hide hw0
  clear hw0
  have hring0 := h.new hn0
  have hB0 := hB.new hn0
  have q0 := Stq.of h
  by_cases hin : 0 ≤ t ∧ t < n
  · obtain ⟨i, rfl⟩ := Int.eq_ofNat_of_zero_le hin.1
    have hin2 : i < n := by omega
    obtain ⟨x, hx⟩ : ∃ x, xs[i]? = some x := ⟨_, List.getElem?_eq_getElem (by have := h.len; omega)⟩
    have g1 : decide ((i : Int) < 0) = false := decide_eq_false (by omega)
    have g2 : decide ((n : Int) ≤ i) = false := decide_eq_false (by omega)
    have g3 : decide (n ≤ i) = false := decide_eq_false (by omega)
    refine (peek_i p A n c xs room i x _ hring0 hx).mono ?_
    rintro e w2 ⟨rfl, hw2⟩
    have he2 : Ext (Tch p A) w0 w2 := by rw [hw2]; exact Ext.refl _ _
    have hr2' := hring0.new (show New w0 w2 by rw [hw2]; exact Ext.refl _ _)
    clear hw2
    have hbb0 := he2.keep hb0 q0.t0
    have hbb1 := he2.keep hb1 q0.t1
    have hbb2 := he2.keep hb2 q0.t2
    have c0 : w2.cell? ⟨w.heap.size, 0, none⟩ = some (.slice B n d) := (blk_cell hbb0 0).trans rfl
    have c1 : w2.cell? ⟨w.heap.size, 1, none⟩ = some (.int .i64 room) := (blk_cell hbb0 1).trans rfl
    have b2 : w2.cell? ⟨w.heap.size + 1, 2, none⟩ = some (.int .i64 i) := (blk_cell hbb1 2).trans rfl
    obtain ⟨bd, rfl⟩ := hB.some (by omega)
    have hB2 := hB0.keep he2 (fun k hk => (hs k hk).2)
    have cx := hB2.celli hx
    have HX := hide hx
    clear hx
    go_wp2_with fail
    clear c0 c1 b2 cx
    have hbd := (hs bd.block ((inA_some _ _).2 rfl)).1
    have y0 : ∀ x : Lat (fun k => k = w.heap.size + 1 + 1) w2, x.W.cell? ⟨w.heap.size, 0, none⟩ = some (.slice (some bd) n d) := fun x => (blk_cell (Ext.keep x.ext hbb0 (by omega)) 0).trans rfl
    have y1 : ∀ x : Lat (fun k => k = w.heap.size + 1 + 1) w2, x.W.cell? ⟨w.heap.size, 1, none⟩ = some (.int .i64 room) := fun x => (blk_cell (Ext.keep x.ext hbb0 (by omega)) 1).trans rfl
    have y2 : ∀ x : Lat (fun k => k = w.heap.size + 1 + 1) w2, x.W.cell? ⟨w.heap.size + 1, 2, none⟩ = some (.int .i64 i) := fun x => (blk_cell (Ext.keep x.ext hbb1 (by omega)) 2).trans rfl
    have y3 : ∀ y : Lat (fun k => k = w.heap.size + 1 + 1) w2, y.W.cell? (bd.add i) = some (.int .i64 x) := fun y => (hB2.keep y.ext (fun k hk e => by have := (hs k hk).1; omega)).celli HX.out
    refine mix_start (fun k => k = w.heap.size + 1 + 1) w2 (by kernel_rfl) ?_
    refine mix_batch [0, 1, 2, 3, 4, 5, 6, 7, 8, 9, 10, 11] (by kernel_rfl) 2 _ _ _ (by kernel_rfl) (lat_mem (by (repeat (first | exact Ext.refl _ _ | assumption | apply Ext.alloc | apply Ext.drewN | apply Ext.drew | refine Ext.setCell ?_ (fun h => by first | rfl | exact absurd h (by dsimp only; omega)) _)))) ?_
    simp only [pickOps, List.getD_cons_zero, List.getD_cons_succ]
    repeat (go_big_quiet_step (fail))
    refine wpQuiet_nil ?_
    have x0 := blk_cell hbb2 0
    have x1 := blk_cell hbb2 1
    have f0 := blk_free hbb2 0
    have f1 := blk_free hbb2 1
    refine mix_loud (i := 12) (by kernel_rfl) rfl (fun K hK => ?_)
    go_simp
    have he34 : Ext (fun k => k = w.heap.size + 1 + 1) w2 (((w2.setCell ⟨w.heap.size + 1 + 1, 0, none⟩ (.slice (some bd) n d)).setCell ⟨w.heap.size + 1 + 1, 1, none⟩ (.int .i64 room)).drew) := (((Ext.refl _ w2).set (by rfl)).set (by rfl)).drew
    have hb4 : (((w2.setCell ⟨w.heap.size + 1 + 1, 0, none⟩ (.slice (some bd) n d)).setCell ⟨w.heap.size + 1 + 1, 1, none⟩ (.int .i64 room)).drew).heap[w.heap.size + 1 + 1]? = _ := blk_set (blk_set hbb2 0 (.slice (some bd) n d)) 1 (.int .i64 room)
    refine hK.out _ _ (lat_mem he34) ?_
    clear hK x0 x1 f0 f1
    generalize ((w2.setCell ⟨w.heap.size + 1 + 1, 0, none⟩ (.slice (some bd) n d)).setCell ⟨w.heap.size + 1 + 1, 1, none⟩ (.int .i64 room)).drew = w4 at *
    refine mix_batch [13] (by kernel_rfl) 0 _ _ _ (by kernel_rfl) (lat_mem he34) ?_
    simp only [pickOps, List.getD_cons_zero, List.getD_cons_succ]
    repeat (go_big_quiet_step (fail))
    refine wpQuiet_nil ?_
    refine wpAnyH_done (by kernel_rfl) (NoPanic.normal ?_) _
    clear y0 y1 y2 y3
    have d0 : w4.cell? ⟨w.heap.size + 1 + 1, 0, none⟩ = some (.slice (some bd) n d) := (blk_cell hb4 0).trans rfl
    have d1 : w4.cell? ⟨w.heap.size + 1 + 1, 1, none⟩ = some (.int .i64 room) := (blk_cell hb4 1).trans rfl
    go_wp2_with fail
    refine bodyPost_ret (v := .tuple #[.agg #[.slice (some bd) n d, .int .i64 room], .bool true]) (by simp [results, Try.results21, go_sem, d0, d1]) rfl ?_
    refine Stp.fin (w3 := w2) hr2' hB2 (fun k hk => ?_) (hn0.to.trans (he2.mono (fun k _ hk => .inl hk)) (fun _ _ h => h)) (fun k hk => .inl hk) (fun k hk => (h.own.at_ hk).2) h.lt rfl he34
    have h1 := hs k hk
    have h2 := he2.size
    refine ⟨by omega, h1.2, by omega, .inl hk⟩
  · have hno : t < 0 ∨ (n : Int) ≤ t := by omega
    refine (peek_no_i p A n c xs room t _ hring0 hno).mono ?_
    rintro e w2 ⟨rfl, hw2⟩
    have he2 : Ext (Tch p A) w0 w2 := by rw [hw2]; exact Ext.refl _ _
    have hr2' := hring0.new (show New w0 w2 by rw [hw2]; exact Ext.refl _ _)
    clear hw2
    have hbb0 := he2.keep hb0 q0.t0
    have hbb1 := he2.keep hb1 q0.t1
    have hbb2 := he2.keep hb2 q0.t2
    have c0 : w2.cell? ⟨w.heap.size, 0, none⟩ = some (.slice B n d) := (blk_cell hbb0 0).trans rfl
    have c1 : w2.cell? ⟨w.heap.size, 1, none⟩ = some (.int .i64 room) := (blk_cell hbb0 1).trans rfl
    have b2 : w2.cell? ⟨w.heap.size + 1, 2, none⟩ = some (.int .i64 t) := (blk_cell hbb1 2).trans rfl
    have hd : (decide (t < 0) = true) ∨ (decide (t < 0) = false ∧ decide ((n : Int) ≤ t) = true) := by
      by_cases h0 : t < 0
      · exact .inl (decide_eq_true h0)
      · exact .inr ⟨decide_eq_false h0, decide_eq_true (by omega)⟩
    have x0 := blk_cell hbb2 0
    have x1 := blk_cell hbb2 1
    have f0 := blk_free hbb2 0
    have f1 := blk_free hbb2 1
    rcases hd with g1 | ⟨g1, g2⟩ <;> (
      go_wp2_with fail
      have d0 := (blk_cell (blk_set (blk_set hbb2 0 (.slice B n d)) 1 (.int .i64 room)) 0).trans rfl
      have d1 := (blk_cell (blk_set (blk_set hbb2 0 (.slice B n d)) 1 (.int .i64 room)) 1).trans rfl
      refine bodyPost_ret (v := .tuple #[.agg #[.slice B n d, .int .i64 room], .bool true]) (by simp [results, Try.results21, go_sem, d0, d1]) rfl ?_
      refine Stp.fin (w3 := w2) hr2' (hB0.keep he2 (fun k hk => (hs k hk).2)) (fun k hk => ?_) (hn0.to.trans (he2.mono (fun k _ hk => .inl hk)) (fun _ _ h => h)) (fun k hk => .inl hk) (fun k hk => (h.own.at_ hk).2) h.lt rfl (((Ext.refl _ w2).set (by rfl)).set (by rfl))
      have h1 := hs k hk
      have h2 := he2.size
      refine ⟨by omega, h1.2, by omega, .inl hk⟩)

set_option maxHeartbeats 2000000 in
theorem step_clear (p : Nat) (A : Option Addr) (n c : Nat) (xs : List Int) (room : Nat) (B : Option Addr) (d : Nat) (k : Int) (OA : Option Addr) (on oc : Nat) (ol : List Int) (t : Int) (w : World)
    (h : Rngi w p A n c xs room) (hB : Rd w 1 B n d (vsi xs)) (hs : ∀ k, inA B k → k < w.heap.size ∧ ¬ Tch p A k) (ho : Rd w 1 OA on oc (vsi ol)) (hos : on = 0 ∨ ∀ k, inA OA k → ¬ Tch p A k) (ht : (Lit.int .i64 t).wf = true)
    (k1 : ((k.tmod 10) == 4) = false) (k2 : ((k.tmod 10) == 5) = false) (k3 : ((k.tmod 10) == 6) = false) (k4 : ((k.tmod 10) == 7) = false) (k5 : ((k.tmod 10) == 8) = false) (k6 : ((k.tmod 10) == 9) = true) :
    Calls Try.prog 21 #[.pointer (some ⟨p, 0, none⟩), .agg #[.slice B n d, .int .i64 room], .agg #[.int .u8 k, .slice OA on oc, .int .i64 t]] w fun e w' => Stp w p A B room e w' := by
  obtain ⟨s, hs20⟩ : ∃ s, s = min on 20 := ⟨_, rfl⟩
  have hkn : s ≤ on := by omega
  have hk20 : s ≤ 20 := by omega
  have HK := hide hs20
  clear hs20
  have hr2 := h.r2
  have hle := h.le
  obtain ⟨w0, hw0, hb0, hb1, hb2, hn0, hs0⟩ := three_new w #[.slice B n d, .int .i64 room] #[.int .u8 k, .slice OA on oc, .int .i64 t] #[.slice none 0 0, .int .i64 0] 31 56 31
  go_enter Try.func21, Try.ntmps21
  go_wp2_with fail
  refine (short_any OA on oc s _ ho.cap HK.out).mono ?_
  rintro e w1 ⟨rfl, rfl⟩
  go_wp2_with fail
  rw [← hw0]
  have HW := hide hw0
  clear hw0
  have hring0 := h.new hn0
  have hB0 := hB.new hn0
  have q0 := Stq.of h
  · refine (clear_any p A n c xs room _ hring0).mono ?_
    rintro e w2 ⟨rfl, hr2', he2⟩
    have hbb0 := he2.keep hb0 q0.t0
    have hbb1 := he2.keep hb1 q0.t1
    have hbb2 := he2.keep hb2 q0.t2
    have c0 : w2.cell? ⟨w.heap.size, 0, none⟩ = some (.slice B n d) := (blk_cell hbb0 0).trans rfl
    have c1 : w2.cell? ⟨w.heap.size, 1, none⟩ = some (.int .i64 room) := (blk_cell hbb0 1).trans rfl
    have b2 : w2.cell? ⟨w.heap.size + 1, 2, none⟩ = some (.int .i64 t) := (blk_cell hbb1 2).trans rfl
    have x0 := blk_cell hbb2 0
    have x1 := blk_cell hbb2 1
    have f0 := blk_free hbb2 0
    have f1 := blk_free hbb2 1
    clear c0
    go_wp2_with fail
    have d0 := (blk_cell (blk_set (blk_set hbb2 0 (.slice none 0 0)) 1 (.int .i64 room)) 0).trans rfl
    have d1 := (blk_cell (blk_set (blk_set hbb2 0 (.slice none 0 0)) 1 (.int .i64 room)) 1).trans rfl
    refine bodyPost_ret (v := .tuple #[.agg #[.slice none 0 0, .int .i64 room], .bool true]) (by simp [results, Try.results21, go_sem, d0, d1]) rfl ?_
    exact Stp.fin (w3 := w2) hr2' (Rd.nil _ _) (fun k hk => absurd hk (inA_none k)) (hn0.to.trans (he2.mono (fun k _ hk => .inl hk)) (fun _ _ h => h)) (fun k hk => absurd hk (inA_none k)) (fun k hk => (h.own.at_ hk).2) h.lt rfl (((Ext.refl _ w2).set (by rfl)).set (by rfl))
end Go.Proofs.Ytafeeafccbdkfaa
