/- Walks: what Know, Owe, Forget and Queue refuse. -/
import Derived.Test.YtmonhhodbinagaaK5
namespace Go.Proofs.Ytmonhhodbinagaa
open Go.RowKit Go.Maps
set_option maxRecDepth 100000

set_option maxHeartbeats 1600000 in
theorem know_arg {w : World} {p : Nat} {s : PS} {T : Nat → Prop} (h : Pq w p s T) (k : Int × Int) (c : Int) (hb : ¬ (may k ∧ (c = 0 ∨ c = 1))) :
    Calls Try.prog 10 #[.pointer (some ⟨p, 0, none⟩), kV k, .int .i64 c] w fun e w' => e = .returned (.int .i64 1) ∧ New w w' := by
  have hq := h
  obtain ⟨b, r, U, h, hT⟩ := h
  have hn1 := New.alloc1 w (.cells #[.int .i64 k.1, .int .i64 k.2] 30)
  have hq1 : Pq (w.alloc (.cells #[.int .i64 k.1, .int .i64 k.2] 30)) p s T := hq.new hn1
  have h1 := h.new hn1
  have hkb := blk_new w (.cells #[.int .i64 k.1, .int .i64 k.2] 30)
  have hpk : p < w.heap.size := h.lt
  have hbk : b < w.heap.size := h.map.lt
  have hb2 : k.1 < 0 ∨ 8 ≤ k.1 ∨ k.2 < 1 ∨ 1073741824 < k.2 ∨ c < 0 ∨ 2 ≤ c := by
    unfold may at hb
    omega
  clear hb
  go_enter Try.func10, Try.ntmps10
  go_wp2_with fail
  refine (none_p hq1).mono ?_
  rintro e w1 ⟨rfl, e1⟩
  rw [e1] at hn1 hq1 h1 hkb
  clear e1
  have k0 := (blk_cell hkb 0).trans rfl
  have k1 := (blk_cell hkb 1).trans rfl
  by_cases c0 : k.1 < 0
  · have d0 : decide (k.1 < 0) = true := decide_eq_true c0
    clear c0 hb2
    go_wp2_with fail
    go_ret
    exact ⟨rfl, hn1⟩
  · have d0 : decide (k.1 < 0) = false := decide_eq_false c0
    by_cases c1 : 8 ≤ k.1
    · have d1 : decide (8 ≤ k.1) = true := decide_eq_true c1
      clear c1 hb2
      go_wp2_with fail
      go_ret
      exact ⟨rfl, hn1⟩
    · have d1 : decide (8 ≤ k.1) = false := decide_eq_false c1
      by_cases c2 : k.2 < 1
      · have d2 : decide (k.2 < 1) = true := decide_eq_true c2
        clear c2 hb2
        go_wp2_with fail
        go_ret
        exact ⟨rfl, hn1⟩
      · have d2 : decide (k.2 < 1) = false := decide_eq_false c2
        by_cases c3 : 1073741824 < k.2
        · have d3 : decide (1073741824 < k.2) = true := decide_eq_true c3
          clear c3 hb2
          go_wp2_with fail
          go_ret
          exact ⟨rfl, hn1⟩
        · have d3 : decide (1073741824 < k.2) = false := decide_eq_false c3
          by_cases c4 : c < 0
          · have d4 : decide (c < 0) = true := decide_eq_true c4
            clear c4 hb2
            go_wp2_with fail
            go_ret
            exact ⟨rfl, hn1⟩
          · have d4 : decide (c < 0) = false := decide_eq_false c4
            have d5 : decide (2 ≤ c) = true := decide_eq_true (by omega)
            clear c0 c1 c2 c3 c4 hb2
            go_wp2_with fail
            go_ret
            exact ⟨rfl, hn1⟩
set_option maxHeartbeats 1600000 in
theorem know_is {w : World} {p : Nat} {s : PS} {T : Nat → Prop} (h : Pq w p s T) (k : Int × Int) (c : Int) (hk : may k) (hc : c = 0 ∨ c = 1) (hx : (fnd s.L k).isSome = true) :
    Calls Try.prog 10 #[.pointer (some ⟨p, 0, none⟩), kV k, .int .i64 c] w fun e w' => e = .returned (.int .i64 180) ∧ New w w' := by
  have d1 : decide (k.1 < 0) = false := decide_eq_false (by have := hk.1; omega)
  have d2 : decide (8 ≤ k.1) = false := decide_eq_false (by have := hk.2.1; omega)
  have d3 : decide (k.2 < 1) = false := decide_eq_false (by have := hk.2.2.1; omega)
  have d4 : decide (1073741824 < k.2) = false := decide_eq_false (by have := hk.2.2.2; omega)
  have d5 : decide (c < 0) = false := decide_eq_false (by omega)
  have d6 : decide (2 ≤ c) = false := decide_eq_false (by omega)
  have HK := hide hk.wf
  have HX := hide hx
  clear hk hc hx
  have hq := h
  obtain ⟨b, r, U, h, hT⟩ := h
  have hn1 := New.alloc1 w (.cells #[.int .i64 k.1, .int .i64 k.2] 30)
  have hq1 : Pq (w.alloc (.cells #[.int .i64 k.1, .int .i64 k.2] 30)) p s T := hq.new hn1
  have h1 := h.new hn1
  have hkb := blk_new w (.cells #[.int .i64 k.1, .int .i64 k.2] 30)
  have hpk : p < w.heap.size := h.lt
  have hbk : b < w.heap.size := h.map.lt
  go_enter Try.func10, Try.ntmps10
  go_wp2_with fail
  refine (none_p hq1).mono ?_
  rintro e w1 ⟨rfl, e1⟩
  rw [e1] at hn1 hq1 h1 hkb
  clear e1
  have k0 := (blk_cell hkb 0).trans rfl
  have k1 := (blk_cell hkb 1).trans rfl
  go_wp2_with fail
  have q0 : ∀ x : Lat (fun _ => False) w1, x.W.cell? ⟨p, 0, none⟩ = some (.map (some b)) := fun x => (blk_cell (New.keep x.ext h1.blk) 0).trans rfl
  have qk0 : ∀ x : Lat (fun _ => False) w1, x.W.cell? ⟨w.heap.size, 0, none⟩ = some (.int .i64 k.1) := fun x => (blk_cell (New.keep x.ext hkb) 0).trans rfl
  have qk1 : ∀ x : Lat (fun _ => False) w1, x.W.cell? ⟨w.heap.size, 1, none⟩ = some (.int .i64 k.2) := fun x => (blk_cell (New.keep x.ext hkb) 1).trans rfl
  have ql : ∀ y : Lat (fun _ => False) w1, (Instr.lookup 65 (.map (some b)) (.agg #[.int .i64 k.1, .int .i64 k.2]) true).run Try.prog y.W = .ok (.tuple #[.agg #[.int .i64 (ofK s.L k).cls, .int .i64 (ofK s.L k).pend, .int .i64 (ofK s.L k).iss], .bool true]) y.W := fun y => by have := (h1.map.new y.ext).look HK.out; rw [HX.out] at this; exact this
  refine mix_start (fun _ => False) w1 (by kernel_rfl) ?_
  refine mix_batch [0, 1, 2, 3, 4, 5, 6, 7, 8] (by kernel_rfl) 3 _ _ _ (by kernel_rfl) (lat_mem (by (repeat (first | exact Ext.refl _ _ | assumption | apply Ext.alloc | apply Ext.drewN | apply Ext.drew | refine Ext.setCell ?_ (fun h => by first | rfl | exact absurd h (by dsimp only; omega)) _)))) ?_
  simp only [pickOps, List.getD_cons_zero, List.getD_cons_succ]
  repeat (go_big_quiet_step (fail))
  refine wpQuiet_nil ?_
  refine mix_loud (i := 9) (by kernel_rfl) rfl (fun K hK => ?_)
  go_simp
  refine hK.out _ _ (lat_mem (by (repeat (first | exact Ext.refl _ _ | assumption | apply Ext.alloc | apply Ext.drewN | apply Ext.drew | refine Ext.setCell ?_ (fun h => by first | rfl | exact absurd h (by dsimp only; omega)) _)))) ?_
  clear hK
  have hxb := blk_new w1 (.cells #[.int .i64 (ofK s.L k).cls, .int .i64 (ofK s.L k).pend, .int .i64 (ofK s.L k).iss] 75)
  have x0 := (blk_cell hxb 0).trans rfl
  have x1 := (blk_cell hxb 1).trans rfl
  have x2 := (blk_cell hxb 2).trans rfl
  have y0 := blk_free hxb 0
  have y1 := blk_free hxb 1
  have y2 := blk_free hxb 2
  refine mix_loud (i := 10) (by kernel_rfl) rfl (fun K hK => ?_)
  go_simp
  refine hK.out _ _ (lat_mem (by (repeat (first | exact Ext.refl _ _ | assumption | apply Ext.alloc | apply Ext.drewN | apply Ext.drew | refine Ext.setCell ?_ (fun h => by first | rfl | exact absurd h (by dsimp only; omega)) _)))) ?_
  clear hK
  refine mix_batch [11] (by kernel_rfl) 0 _ _ _ (by kernel_rfl) (lat_mem (by (repeat (first | exact Ext.refl _ _ | assumption | apply Ext.alloc | apply Ext.drewN | apply Ext.drew | refine Ext.setCell ?_ (fun h => by first | rfl | exact absurd h (by dsimp only; omega)) _)))) ?_
  simp only [pickOps, List.getD_cons_zero, List.getD_cons_succ]
  repeat (go_big_quiet_step (fail))
  refine wpQuiet_nil ?_
  refine wpAnyH_done (by kernel_rfl) (NoPanic.normal ?_) _
  clear q0 qk0 qk1 ql x0 x1 x2 y0 y1 y2
  have hn3 : New w1 (w1.alloc (.cells #[.int .i64 (ofK s.L k).cls, .int .i64 (ofK s.L k).pend, .int .i64 (ofK s.L k).iss] 75)).drew := by (repeat (first | exact Ext.refl _ _ | assumption | apply Ext.alloc | apply Ext.drewN | apply Ext.drew | refine Ext.setCell ?_ (fun h => by first | rfl | exact absurd h (by dsimp only; omega)) _))
  have hxb3 : (w1.alloc (.cells #[.int .i64 (ofK s.L k).cls, .int .i64 (ofK s.L k).pend, .int .i64 (ofK s.L k).iss] 75)).drew.heap[w1.heap.size]? = _ := hxb
  generalize (w1.alloc (.cells #[.int .i64 (ofK s.L k).cls, .int .i64 (ofK s.L k).pend, .int .i64 (ofK s.L k).iss] 75)).drew = w3 at *
  clear hxb
  clear k0 k1
  go_wp2_with fail
  go_ret
  exact ⟨rfl, hn1.then hn3⟩
set_option maxHeartbeats 1600000 in
theorem know_full {w : World} {p : Nat} {s : PS} {T : Nat → Prop} (h : Pq w p s T) (k : Int × Int) (c : Int) (hk : may k) (hc : c = 0 ∨ c = 1) (hx : (fnd s.L k).isSome = false) (hm : s.most ≤ (s.L.length : Int)) :
    Calls Try.prog 10 #[.pointer (some ⟨p, 0, none⟩), kV k, .int .i64 c] w fun e w' => e = .returned (.int .i64 3) ∧ New w w' := by
  have d1 : decide (k.1 < 0) = false := decide_eq_false (by have := hk.1; omega)
  have d2 : decide (8 ≤ k.1) = false := decide_eq_false (by have := hk.2.1; omega)
  have d3 : decide (k.2 < 1) = false := decide_eq_false (by have := hk.2.2.1; omega)
  have d4 : decide (1073741824 < k.2) = false := decide_eq_false (by have := hk.2.2.2; omega)
  have d5 : decide (c < 0) = false := decide_eq_false (by omega)
  have d6 : decide (2 ≤ c) = false := decide_eq_false (by omega)
  have d7 : decide (s.most ≤ s.L.length) = true := decide_eq_true hm
  have HK := hide hk.wf
  have HX := hide hx
  clear hk hc hx hm
  have hq := h
  obtain ⟨b, r, U, h, hT⟩ := h
  have hn1 := New.alloc1 w (.cells #[.int .i64 k.1, .int .i64 k.2] 30)
  have hq1 : Pq (w.alloc (.cells #[.int .i64 k.1, .int .i64 k.2] 30)) p s T := hq.new hn1
  have h1 := h.new hn1
  have hkb := blk_new w (.cells #[.int .i64 k.1, .int .i64 k.2] 30)
  have hpk : p < w.heap.size := h.lt
  have hbk : b < w.heap.size := h.map.lt
  go_enter Try.func10, Try.ntmps10
  go_wp2_with fail
  refine (none_p hq1).mono ?_
  rintro e w1 ⟨rfl, e1⟩
  rw [e1] at hn1 hq1 h1 hkb
  clear e1
  have k0 := (blk_cell hkb 0).trans rfl
  have k1 := (blk_cell hkb 1).trans rfl
  go_wp2_with fail
  have q0 : ∀ x : Lat (fun _ => False) w1, x.W.cell? ⟨p, 0, none⟩ = some (.map (some b)) := fun x => (blk_cell (New.keep x.ext h1.blk) 0).trans rfl
  have qk0 : ∀ x : Lat (fun _ => False) w1, x.W.cell? ⟨w.heap.size, 0, none⟩ = some (.int .i64 k.1) := fun x => (blk_cell (New.keep x.ext hkb) 0).trans rfl
  have qk1 : ∀ x : Lat (fun _ => False) w1, x.W.cell? ⟨w.heap.size, 1, none⟩ = some (.int .i64 k.2) := fun x => (blk_cell (New.keep x.ext hkb) 1).trans rfl
  have ql : ∀ y : Lat (fun _ => False) w1, (Instr.lookup 65 (.map (some b)) (.agg #[.int .i64 k.1, .int .i64 k.2]) true).run Try.prog y.W = .ok (.tuple #[.agg #[.int .i64 (ofK s.L k).cls, .int .i64 (ofK s.L k).pend, .int .i64 (ofK s.L k).iss], .bool false]) y.W := fun y => by have := (h1.map.new y.ext).look HK.out; rw [HX.out] at this; exact this
  refine mix_start (fun _ => False) w1 (by kernel_rfl) ?_
  refine mix_batch [0, 1, 2, 3, 4, 5, 6, 7, 8] (by kernel_rfl) 3 _ _ _ (by kernel_rfl) (lat_mem (by (repeat (first | exact Ext.refl _ _ | assumption | apply Ext.alloc | apply Ext.drewN | apply Ext.drew | refine Ext.setCell ?_ (fun h => by first | rfl | exact absurd h (by dsimp only; omega)) _)))) ?_
  simp only [pickOps, List.getD_cons_zero, List.getD_cons_succ]
  repeat (go_big_quiet_step (fail))
  refine wpQuiet_nil ?_
  refine mix_loud (i := 9) (by kernel_rfl) rfl (fun K hK => ?_)
  go_simp
  refine hK.out _ _ (lat_mem (by (repeat (first | exact Ext.refl _ _ | assumption | apply Ext.alloc | apply Ext.drewN | apply Ext.drew | refine Ext.setCell ?_ (fun h => by first | rfl | exact absurd h (by dsimp only; omega)) _)))) ?_
  clear hK
  have hxb := blk_new w1 (.cells #[.int .i64 (ofK s.L k).cls, .int .i64 (ofK s.L k).pend, .int .i64 (ofK s.L k).iss] 75)
  have x0 := (blk_cell hxb 0).trans rfl
  have x1 := (blk_cell hxb 1).trans rfl
  have x2 := (blk_cell hxb 2).trans rfl
  have y0 := blk_free hxb 0
  have y1 := blk_free hxb 1
  have y2 := blk_free hxb 2
  refine mix_loud (i := 10) (by kernel_rfl) rfl (fun K hK => ?_)
  go_simp
  refine hK.out _ _ (lat_mem (by (repeat (first | exact Ext.refl _ _ | assumption | apply Ext.alloc | apply Ext.drewN | apply Ext.drew | refine Ext.setCell ?_ (fun h => by first | rfl | exact absurd h (by dsimp only; omega)) _)))) ?_
  clear hK
  refine mix_batch [11] (by kernel_rfl) 0 _ _ _ (by kernel_rfl) (lat_mem (by (repeat (first | exact Ext.refl _ _ | assumption | apply Ext.alloc | apply Ext.drewN | apply Ext.drew | refine Ext.setCell ?_ (fun h => by first | rfl | exact absurd h (by dsimp only; omega)) _)))) ?_
  simp only [pickOps, List.getD_cons_zero, List.getD_cons_succ]
  repeat (go_big_quiet_step (fail))
  refine wpQuiet_nil ?_
  refine wpAnyH_done (by kernel_rfl) (NoPanic.normal ?_) _
  clear q0 qk0 qk1 ql x0 x1 x2 y0 y1 y2
  have hn3 : New w1 (w1.alloc (.cells #[.int .i64 (ofK s.L k).cls, .int .i64 (ofK s.L k).pend, .int .i64 (ofK s.L k).iss] 75)).drew := by (repeat (first | exact Ext.refl _ _ | assumption | apply Ext.alloc | apply Ext.drewN | apply Ext.drew | refine Ext.setCell ?_ (fun h => by first | rfl | exact absurd h (by dsimp only; omega)) _))
  have hxb3 : (w1.alloc (.cells #[.int .i64 (ofK s.L k).cls, .int .i64 (ofK s.L k).pend, .int .i64 (ofK s.L k).iss] 75)).drew.heap[w1.heap.size]? = _ := hxb
  generalize (w1.alloc (.cells #[.int .i64 (ofK s.L k).cls, .int .i64 (ofK s.L k).pend, .int .i64 (ofK s.L k).iss] 75)).drew = w3 at *
  clear hxb
  clear k0 k1
  have h3 := h1.new hn3
  have c0 := (blk_cell h3.blk 0).trans rfl
  have c3 := (blk_cell h3.blk 3).trans rfl
  have gl := fun (ty : TypeId) u => (h3.map.new (new_draw w3 u)).len ty
  go_wp2_with fail
  go_quiet (fail)
  have hn4 := new_draw w3 nq
  generalize w3.drewN nq = w4 at *
  clear c0 c3 gl
  go_wp2_with fail
  go_ret
  exact ⟨rfl, hn1.then (hn3.then hn4)⟩
set_option maxHeartbeats 1600000 in
theorem owe_no {w : World} {p : Nat} {s : PS} {T : Nat → Prop} (h : Pq w p s T) (k : Int × Int) (n : Int) (hk : kwf k) (hx : (fnd s.L k).isSome = false) :
    Calls Try.prog 11 #[.pointer (some ⟨p, 0, none⟩), kV k, .int .i64 n] w fun e w' => e = .returned (.int .i64 7) ∧ New w w' := by
  have HK := hide hk
  have HX := hide hx
  clear hk hx
  have hq := h
  obtain ⟨b, r, U, h, hT⟩ := h
  have hn1 := New.alloc1 w (.cells #[.int .i64 k.1, .int .i64 k.2] 30)
  have hq1 : Pq (w.alloc (.cells #[.int .i64 k.1, .int .i64 k.2] 30)) p s T := hq.new hn1
  have h1 := h.new hn1
  have hkb := blk_new w (.cells #[.int .i64 k.1, .int .i64 k.2] 30)
  have hpk : p < w.heap.size := h.lt
  have hbk : b < w.heap.size := h.map.lt
  go_enter Try.func11, Try.ntmps11
  go_wp2_with fail
  refine (none_p hq1).mono ?_
  rintro e w1 ⟨rfl, e1⟩
  rw [e1] at hn1 hq1 h1 hkb
  clear e1
  go_wp2_with fail
  have q0 : ∀ x : Lat (fun _ => False) w1, x.W.cell? ⟨p, 0, none⟩ = some (.map (some b)) := fun x => (blk_cell (New.keep x.ext h1.blk) 0).trans rfl
  have qk0 : ∀ x : Lat (fun _ => False) w1, x.W.cell? ⟨w.heap.size, 0, none⟩ = some (.int .i64 k.1) := fun x => (blk_cell (New.keep x.ext hkb) 0).trans rfl
  have qk1 : ∀ x : Lat (fun _ => False) w1, x.W.cell? ⟨w.heap.size, 1, none⟩ = some (.int .i64 k.2) := fun x => (blk_cell (New.keep x.ext hkb) 1).trans rfl
  have ql : ∀ y : Lat (fun _ => False) w1, (Instr.lookup 65 (.map (some b)) (.agg #[.int .i64 k.1, .int .i64 k.2]) true).run Try.prog y.W = .ok (.tuple #[.agg #[.int .i64 (ofK s.L k).cls, .int .i64 (ofK s.L k).pend, .int .i64 (ofK s.L k).iss], .bool false]) y.W := fun y => by have := (h1.map.new y.ext).look HK.out; rw [HX.out] at this; exact this
  refine mix_start (fun _ => False) w1 (by kernel_rfl) ?_
  refine mix_batch [0, 1, 2, 3, 4, 5, 6, 7, 8] (by kernel_rfl) 3 _ _ _ (by kernel_rfl) (lat_mem (by (repeat (first | exact Ext.refl _ _ | assumption | apply Ext.alloc | apply Ext.drewN | apply Ext.drew | refine Ext.setCell ?_ (fun h => by first | rfl | exact absurd h (by dsimp only; omega)) _)))) ?_
  simp only [pickOps, List.getD_cons_zero, List.getD_cons_succ]
  repeat (go_big_quiet_step (fail))
  refine wpQuiet_nil ?_
  refine mix_loud (i := 9) (by kernel_rfl) rfl (fun K hK => ?_)
  go_simp
  refine hK.out _ _ (lat_mem (by (repeat (first | exact Ext.refl _ _ | assumption | apply Ext.alloc | apply Ext.drewN | apply Ext.drew | refine Ext.setCell ?_ (fun h => by first | rfl | exact absurd h (by dsimp only; omega)) _)))) ?_
  clear hK
  have hxb := blk_new w1 (.cells #[.int .i64 (ofK s.L k).cls, .int .i64 (ofK s.L k).pend, .int .i64 (ofK s.L k).iss] 75)
  have x0 := (blk_cell hxb 0).trans rfl
  have x1 := (blk_cell hxb 1).trans rfl
  have x2 := (blk_cell hxb 2).trans rfl
  have y0 := blk_free hxb 0
  have y1 := blk_free hxb 1
  have y2 := blk_free hxb 2
  refine mix_loud (i := 10) (by kernel_rfl) rfl (fun K hK => ?_)
  go_simp
  refine hK.out _ _ (lat_mem (by (repeat (first | exact Ext.refl _ _ | assumption | apply Ext.alloc | apply Ext.drewN | apply Ext.drew | refine Ext.setCell ?_ (fun h => by first | rfl | exact absurd h (by dsimp only; omega)) _)))) ?_
  clear hK
  refine mix_batch [11] (by kernel_rfl) 0 _ _ _ (by kernel_rfl) (lat_mem (by (repeat (first | exact Ext.refl _ _ | assumption | apply Ext.alloc | apply Ext.drewN | apply Ext.drew | refine Ext.setCell ?_ (fun h => by first | rfl | exact absurd h (by dsimp only; omega)) _)))) ?_
  simp only [pickOps, List.getD_cons_zero, List.getD_cons_succ]
  repeat (go_big_quiet_step (fail))
  refine wpQuiet_nil ?_
  refine wpAnyH_done (by kernel_rfl) (NoPanic.normal ?_) _
  clear q0 qk0 qk1 ql x0 x1 x2 y0 y1 y2
  have hn3 : New w1 (w1.alloc (.cells #[.int .i64 (ofK s.L k).cls, .int .i64 (ofK s.L k).pend, .int .i64 (ofK s.L k).iss] 75)).drew := by (repeat (first | exact Ext.refl _ _ | assumption | apply Ext.alloc | apply Ext.drewN | apply Ext.drew | refine Ext.setCell ?_ (fun h => by first | rfl | exact absurd h (by dsimp only; omega)) _))
  have hxb3 : (w1.alloc (.cells #[.int .i64 (ofK s.L k).cls, .int .i64 (ofK s.L k).pend, .int .i64 (ofK s.L k).iss] 75)).drew.heap[w1.heap.size]? = _ := hxb
  generalize (w1.alloc (.cells #[.int .i64 (ofK s.L k).cls, .int .i64 (ofK s.L k).pend, .int .i64 (ofK s.L k).iss] 75)).drew = w3 at *
  clear hxb
  go_wp2_with fail
  go_ret
  exact ⟨rfl, hn1.then hn3⟩
set_option maxHeartbeats 1600000 in
theorem owe_arg {w : World} {p : Nat} {s : PS} {T : Nat → Prop} (h : Pq w p s T) (k : Int × Int) (n : Int) (hk : kwf k) (hx : (fnd s.L k).isSome = true) (hn : n < 1) :
    Calls Try.prog 11 #[.pointer (some ⟨p, 0, none⟩), kV k, .int .i64 n] w fun e w' => e = .returned (.int .i64 1) ∧ New w w' := by
  have d1 : decide (n < 1) = true := decide_eq_true hn
  clear hn
  have HK := hide hk
  have HX := hide hx
  clear hk hx
  have hq := h
  obtain ⟨b, r, U, h, hT⟩ := h
  have hn1 := New.alloc1 w (.cells #[.int .i64 k.1, .int .i64 k.2] 30)
  have hq1 : Pq (w.alloc (.cells #[.int .i64 k.1, .int .i64 k.2] 30)) p s T := hq.new hn1
  have h1 := h.new hn1
  have hkb := blk_new w (.cells #[.int .i64 k.1, .int .i64 k.2] 30)
  have hpk : p < w.heap.size := h.lt
  have hbk : b < w.heap.size := h.map.lt
  go_enter Try.func11, Try.ntmps11
  go_wp2_with fail
  refine (none_p hq1).mono ?_
  rintro e w1 ⟨rfl, e1⟩
  rw [e1] at hn1 hq1 h1 hkb
  clear e1
  go_wp2_with fail
  have q0 : ∀ x : Lat (fun _ => False) w1, x.W.cell? ⟨p, 0, none⟩ = some (.map (some b)) := fun x => (blk_cell (New.keep x.ext h1.blk) 0).trans rfl
  have qk0 : ∀ x : Lat (fun _ => False) w1, x.W.cell? ⟨w.heap.size, 0, none⟩ = some (.int .i64 k.1) := fun x => (blk_cell (New.keep x.ext hkb) 0).trans rfl
  have qk1 : ∀ x : Lat (fun _ => False) w1, x.W.cell? ⟨w.heap.size, 1, none⟩ = some (.int .i64 k.2) := fun x => (blk_cell (New.keep x.ext hkb) 1).trans rfl
  have ql : ∀ y : Lat (fun _ => False) w1, (Instr.lookup 65 (.map (some b)) (.agg #[.int .i64 k.1, .int .i64 k.2]) true).run Try.prog y.W = .ok (.tuple #[.agg #[.int .i64 (ofK s.L k).cls, .int .i64 (ofK s.L k).pend, .int .i64 (ofK s.L k).iss], .bool true]) y.W := fun y => by have := (h1.map.new y.ext).look HK.out; rw [HX.out] at this; exact this
  refine mix_start (fun _ => False) w1 (by kernel_rfl) ?_
  refine mix_batch [0, 1, 2, 3, 4, 5, 6, 7, 8] (by kernel_rfl) 3 _ _ _ (by kernel_rfl) (lat_mem (by (repeat (first | exact Ext.refl _ _ | assumption | apply Ext.alloc | apply Ext.drewN | apply Ext.drew | refine Ext.setCell ?_ (fun h => by first | rfl | exact absurd h (by dsimp only; omega)) _)))) ?_
  simp only [pickOps, List.getD_cons_zero, List.getD_cons_succ]
  repeat (go_big_quiet_step (fail))
  refine wpQuiet_nil ?_
  refine mix_loud (i := 9) (by kernel_rfl) rfl (fun K hK => ?_)
  go_simp
  refine hK.out _ _ (lat_mem (by (repeat (first | exact Ext.refl _ _ | assumption | apply Ext.alloc | apply Ext.drewN | apply Ext.drew | refine Ext.setCell ?_ (fun h => by first | rfl | exact absurd h (by dsimp only; omega)) _)))) ?_
  clear hK
  have hxb := blk_new w1 (.cells #[.int .i64 (ofK s.L k).cls, .int .i64 (ofK s.L k).pend, .int .i64 (ofK s.L k).iss] 75)
  have x0 := (blk_cell hxb 0).trans rfl
  have x1 := (blk_cell hxb 1).trans rfl
  have x2 := (blk_cell hxb 2).trans rfl
  have y0 := blk_free hxb 0
  have y1 := blk_free hxb 1
  have y2 := blk_free hxb 2
  refine mix_loud (i := 10) (by kernel_rfl) rfl (fun K hK => ?_)
  go_simp
  refine hK.out _ _ (lat_mem (by (repeat (first | exact Ext.refl _ _ | assumption | apply Ext.alloc | apply Ext.drewN | apply Ext.drew | refine Ext.setCell ?_ (fun h => by first | rfl | exact absurd h (by dsimp only; omega)) _)))) ?_
  clear hK
  refine mix_batch [11] (by kernel_rfl) 0 _ _ _ (by kernel_rfl) (lat_mem (by (repeat (first | exact Ext.refl _ _ | assumption | apply Ext.alloc | apply Ext.drewN | apply Ext.drew | refine Ext.setCell ?_ (fun h => by first | rfl | exact absurd h (by dsimp only; omega)) _)))) ?_
  simp only [pickOps, List.getD_cons_zero, List.getD_cons_succ]
  repeat (go_big_quiet_step (fail))
  refine wpQuiet_nil ?_
  refine wpAnyH_done (by kernel_rfl) (NoPanic.normal ?_) _
  clear q0 qk0 qk1 ql x0 x1 x2 y0 y1 y2
  have hn3 : New w1 (w1.alloc (.cells #[.int .i64 (ofK s.L k).cls, .int .i64 (ofK s.L k).pend, .int .i64 (ofK s.L k).iss] 75)).drew := by (repeat (first | exact Ext.refl _ _ | assumption | apply Ext.alloc | apply Ext.drewN | apply Ext.drew | refine Ext.setCell ?_ (fun h => by first | rfl | exact absurd h (by dsimp only; omega)) _))
  have hxb3 : (w1.alloc (.cells #[.int .i64 (ofK s.L k).cls, .int .i64 (ofK s.L k).pend, .int .i64 (ofK s.L k).iss] 75)).drew.heap[w1.heap.size]? = _ := hxb
  generalize (w1.alloc (.cells #[.int .i64 (ofK s.L k).cls, .int .i64 (ofK s.L k).pend, .int .i64 (ofK s.L k).iss] 75)).drew = w3 at *
  clear hxb
  go_wp2_with fail
  go_ret
  exact ⟨rfl, hn1.then hn3⟩
set_option maxHeartbeats 1600000 in
theorem owe_far {w : World} {p : Nat} {s : PS} {T : Nat → Prop} (h : Pq w p s T) (k : Int × Int) (n : Int) (hk : kwf k) (hx : (fnd s.L k).isSome = true) (hn : 1 ≤ n) (hf : 1152921504606846976 - (ofK s.L k).pend < n) (hp : 0 ≤ (ofK s.L k).pend) (hq : (ofK s.L k).pend ≤ 1152921504606846976) :
    Calls Try.prog 11 #[.pointer (some ⟨p, 0, none⟩), kV k, .int .i64 n] w fun e w' => e = .returned (.int .i64 5) ∧ New w w' := by
  have d1 : decide (n < 1) = false := decide_eq_false (by omega)
  have d2 : decide (1152921504606846976 - (ofK s.L k).pend < n) = true := decide_eq_true hf
  have hp0 := hp
  have hq0 := hq
  clear hn hf hp hq
  have HK := hide hk
  have HX := hide hx
  clear hk hx
  have hq := h
  obtain ⟨b, r, U, h, hT⟩ := h
  have hn1 := New.alloc1 w (.cells #[.int .i64 k.1, .int .i64 k.2] 30)
  have hq1 : Pq (w.alloc (.cells #[.int .i64 k.1, .int .i64 k.2] 30)) p s T := hq.new hn1
  have h1 := h.new hn1
  have hkb := blk_new w (.cells #[.int .i64 k.1, .int .i64 k.2] 30)
  have hpk : p < w.heap.size := h.lt
  have hbk : b < w.heap.size := h.map.lt
  go_enter Try.func11, Try.ntmps11
  go_wp2_with fail
  refine (none_p hq1).mono ?_
  rintro e w1 ⟨rfl, e1⟩
  rw [e1] at hn1 hq1 h1 hkb
  clear e1
  go_wp2_with fail
  have q0 : ∀ x : Lat (fun _ => False) w1, x.W.cell? ⟨p, 0, none⟩ = some (.map (some b)) := fun x => (blk_cell (New.keep x.ext h1.blk) 0).trans rfl
  have qk0 : ∀ x : Lat (fun _ => False) w1, x.W.cell? ⟨w.heap.size, 0, none⟩ = some (.int .i64 k.1) := fun x => (blk_cell (New.keep x.ext hkb) 0).trans rfl
  have qk1 : ∀ x : Lat (fun _ => False) w1, x.W.cell? ⟨w.heap.size, 1, none⟩ = some (.int .i64 k.2) := fun x => (blk_cell (New.keep x.ext hkb) 1).trans rfl
  have ql : ∀ y : Lat (fun _ => False) w1, (Instr.lookup 65 (.map (some b)) (.agg #[.int .i64 k.1, .int .i64 k.2]) true).run Try.prog y.W = .ok (.tuple #[.agg #[.int .i64 (ofK s.L k).cls, .int .i64 (ofK s.L k).pend, .int .i64 (ofK s.L k).iss], .bool true]) y.W := fun y => by have := (h1.map.new y.ext).look HK.out; rw [HX.out] at this; exact this
  refine mix_start (fun _ => False) w1 (by kernel_rfl) ?_
  refine mix_batch [0, 1, 2, 3, 4, 5, 6, 7, 8] (by kernel_rfl) 3 _ _ _ (by kernel_rfl) (lat_mem (by (repeat (first | exact Ext.refl _ _ | assumption | apply Ext.alloc | apply Ext.drewN | apply Ext.drew | refine Ext.setCell ?_ (fun h => by first | rfl | exact absurd h (by dsimp only; omega)) _)))) ?_
  simp only [pickOps, List.getD_cons_zero, List.getD_cons_succ]
  repeat (go_big_quiet_step (fail))
  refine wpQuiet_nil ?_
  refine mix_loud (i := 9) (by kernel_rfl) rfl (fun K hK => ?_)
  go_simp
  refine hK.out _ _ (lat_mem (by (repeat (first | exact Ext.refl _ _ | assumption | apply Ext.alloc | apply Ext.drewN | apply Ext.drew | refine Ext.setCell ?_ (fun h => by first | rfl | exact absurd h (by dsimp only; omega)) _)))) ?_
  clear hK
  have hxb := blk_new w1 (.cells #[.int .i64 (ofK s.L k).cls, .int .i64 (ofK s.L k).pend, .int .i64 (ofK s.L k).iss] 75)
  have x0 := (blk_cell hxb 0).trans rfl
  have x1 := (blk_cell hxb 1).trans rfl
  have x2 := (blk_cell hxb 2).trans rfl
  have y0 := blk_free hxb 0
  have y1 := blk_free hxb 1
  have y2 := blk_free hxb 2
  refine mix_loud (i := 10) (by kernel_rfl) rfl (fun K hK => ?_)
  go_simp
  refine hK.out _ _ (lat_mem (by (repeat (first | exact Ext.refl _ _ | assumption | apply Ext.alloc | apply Ext.drewN | apply Ext.drew | refine Ext.setCell ?_ (fun h => by first | rfl | exact absurd h (by dsimp only; omega)) _)))) ?_
  clear hK
  refine mix_batch [11] (by kernel_rfl) 0 _ _ _ (by kernel_rfl) (lat_mem (by (repeat (first | exact Ext.refl _ _ | assumption | apply Ext.alloc | apply Ext.drewN | apply Ext.drew | refine Ext.setCell ?_ (fun h => by first | rfl | exact absurd h (by dsimp only; omega)) _)))) ?_
  simp only [pickOps, List.getD_cons_zero, List.getD_cons_succ]
  repeat (go_big_quiet_step (fail))
  refine wpQuiet_nil ?_
  refine wpAnyH_done (by kernel_rfl) (NoPanic.normal ?_) _
  clear q0 qk0 qk1 ql x0 x1 x2 y0 y1 y2
  have hn3 : New w1 (w1.alloc (.cells #[.int .i64 (ofK s.L k).cls, .int .i64 (ofK s.L k).pend, .int .i64 (ofK s.L k).iss] 75)).drew := by (repeat (first | exact Ext.refl _ _ | assumption | apply Ext.alloc | apply Ext.drewN | apply Ext.drew | refine Ext.setCell ?_ (fun h => by first | rfl | exact absurd h (by dsimp only; omega)) _))
  have hxb3 : (w1.alloc (.cells #[.int .i64 (ofK s.L k).cls, .int .i64 (ofK s.L k).pend, .int .i64 (ofK s.L k).iss] 75)).drew.heap[w1.heap.size]? = _ := hxb
  generalize (w1.alloc (.cells #[.int .i64 (ofK s.L k).cls, .int .i64 (ofK s.L k).pend, .int .i64 (ofK s.L k).iss] 75)).drew = w3 at *
  clear hxb
  have z1 := (blk_cell hxb3 1).trans rfl
  go_wp2_with fail
  go_ret
  exact ⟨rfl, hn1.then hn3⟩
set_option maxHeartbeats 1600000 in
theorem forget_no {w : World} {p : Nat} {s : PS} {T : Nat → Prop} (h : Pq w p s T) (k : Int × Int) (hk : kwf k) (hx : (fnd s.L k).isSome = false) :
    Calls Try.prog 18 #[.pointer (some ⟨p, 0, none⟩), kV k] w fun e w' => e = .returned (.tuple #[.int .i64 0, .bool false]) ∧ New w w' := by
  have HK := hide hk
  have HX := hide hx
  clear hk hx
  have hq := h
  obtain ⟨b, r, U, h, hT⟩ := h
  have hn1 := New.alloc1 w (.cells #[.int .i64 k.1, .int .i64 k.2] 30)
  have hq1 : Pq (w.alloc (.cells #[.int .i64 k.1, .int .i64 k.2] 30)) p s T := hq.new hn1
  have h1 := h.new hn1
  have hkb := blk_new w (.cells #[.int .i64 k.1, .int .i64 k.2] 30)
  have hpk : p < w.heap.size := h.lt
  have hbk : b < w.heap.size := h.map.lt
  go_enter Try.func18, Try.ntmps18
  go_wp2_with fail
  refine (none_p hq1).mono ?_
  rintro e w1 ⟨rfl, e1⟩
  rw [e1] at hn1 hq1 h1 hkb
  clear e1
  go_wp2_with fail
  have q0 : ∀ x : Lat (fun _ => False) w1, x.W.cell? ⟨p, 0, none⟩ = some (.map (some b)) := fun x => (blk_cell (New.keep x.ext h1.blk) 0).trans rfl
  have qk0 : ∀ x : Lat (fun _ => False) w1, x.W.cell? ⟨w.heap.size, 0, none⟩ = some (.int .i64 k.1) := fun x => (blk_cell (New.keep x.ext hkb) 0).trans rfl
  have qk1 : ∀ x : Lat (fun _ => False) w1, x.W.cell? ⟨w.heap.size, 1, none⟩ = some (.int .i64 k.2) := fun x => (blk_cell (New.keep x.ext hkb) 1).trans rfl
  have ql : ∀ y : Lat (fun _ => False) w1, (Instr.lookup 65 (.map (some b)) (.agg #[.int .i64 k.1, .int .i64 k.2]) true).run Try.prog y.W = .ok (.tuple #[.agg #[.int .i64 (ofK s.L k).cls, .int .i64 (ofK s.L k).pend, .int .i64 (ofK s.L k).iss], .bool false]) y.W := fun y => by have := (h1.map.new y.ext).look HK.out; rw [HX.out] at this; exact this
  refine mix_start (fun _ => False) w1 (by kernel_rfl) ?_
  refine mix_batch [0, 1, 2, 3, 4, 5, 6, 7, 8] (by kernel_rfl) 3 _ _ _ (by kernel_rfl) (lat_mem (by (repeat (first | exact Ext.refl _ _ | assumption | apply Ext.alloc | apply Ext.drewN | apply Ext.drew | refine Ext.setCell ?_ (fun h => by first | rfl | exact absurd h (by dsimp only; omega)) _)))) ?_
  simp only [pickOps, List.getD_cons_zero, List.getD_cons_succ]
  repeat (go_big_quiet_step (fail))
  refine wpQuiet_nil ?_
  refine mix_loud (i := 9) (by kernel_rfl) rfl (fun K hK => ?_)
  go_simp
  refine hK.out _ _ (lat_mem (by (repeat (first | exact Ext.refl _ _ | assumption | apply Ext.alloc | apply Ext.drewN | apply Ext.drew | refine Ext.setCell ?_ (fun h => by first | rfl | exact absurd h (by dsimp only; omega)) _)))) ?_
  clear hK
  have hxb := blk_new w1 (.cells #[.int .i64 (ofK s.L k).cls, .int .i64 (ofK s.L k).pend, .int .i64 (ofK s.L k).iss] 75)
  have x0 := (blk_cell hxb 0).trans rfl
  have x1 := (blk_cell hxb 1).trans rfl
  have x2 := (blk_cell hxb 2).trans rfl
  have y0 := blk_free hxb 0
  have y1 := blk_free hxb 1
  have y2 := blk_free hxb 2
  refine mix_loud (i := 10) (by kernel_rfl) rfl (fun K hK => ?_)
  go_simp
  refine hK.out _ _ (lat_mem (by (repeat (first | exact Ext.refl _ _ | assumption | apply Ext.alloc | apply Ext.drewN | apply Ext.drew | refine Ext.setCell ?_ (fun h => by first | rfl | exact absurd h (by dsimp only; omega)) _)))) ?_
  clear hK
  refine mix_batch [11] (by kernel_rfl) 0 _ _ _ (by kernel_rfl) (lat_mem (by (repeat (first | exact Ext.refl _ _ | assumption | apply Ext.alloc | apply Ext.drewN | apply Ext.drew | refine Ext.setCell ?_ (fun h => by first | rfl | exact absurd h (by dsimp only; omega)) _)))) ?_
  simp only [pickOps, List.getD_cons_zero, List.getD_cons_succ]
  repeat (go_big_quiet_step (fail))
  refine wpQuiet_nil ?_
  refine wpAnyH_done (by kernel_rfl) (NoPanic.normal ?_) _
  clear q0 qk0 qk1 ql x0 x1 x2 y0 y1 y2
  have hn3 : New w1 (w1.alloc (.cells #[.int .i64 (ofK s.L k).cls, .int .i64 (ofK s.L k).pend, .int .i64 (ofK s.L k).iss] 75)).drew := by (repeat (first | exact Ext.refl _ _ | assumption | apply Ext.alloc | apply Ext.drewN | apply Ext.drew | refine Ext.setCell ?_ (fun h => by first | rfl | exact absurd h (by dsimp only; omega)) _))
  have hxb3 : (w1.alloc (.cells #[.int .i64 (ofK s.L k).cls, .int .i64 (ofK s.L k).pend, .int .i64 (ofK s.L k).iss] 75)).drew.heap[w1.heap.size]? = _ := hxb
  generalize (w1.alloc (.cells #[.int .i64 (ofK s.L k).cls, .int .i64 (ofK s.L k).pend, .int .i64 (ofK s.L k).iss] 75)).drew = w3 at *
  clear hxb
  go_wp2_with fail
  go_ret2
  exact ⟨rfl, hn1.then hn3⟩
set_option maxHeartbeats 1600000 in
theorem queue_no {w : World} {p : Nat} {s : PS} {T : Nat → Prop} (h : Pq w p s T) :
    Calls Try.prog 25 #[.pointer (some ⟨p, 0, none⟩), .int .i64 2] w fun e w' => e = .returned (.slice none 0 0) ∧ w = w' := by
  go_enter Try.func25, Try.ntmps25
  go_wp2_with fail
  refine (none_p h).mono ?_
  rintro e w1 ⟨rfl, rfl⟩
  go_wp2_with fail
  go_ret
  exact ⟨rfl, rfl⟩
end Go.Proofs.Ytmonhhodbinagaa
