/- Walks: a key of class 1 is forgotten. -/
import Derived.Test.YtmonhhodbinagaaK23
namespace Go.Proofs.Ytmonhhodbinagaa
open Go.RowKit Go.Maps
set_option maxRecDepth 100000

theorem drop_q1 {w : World} {r : Nat} {T : Nat → Prop} {xs : List (Int × Int)} (h : RQ w r T xs) (q : Nat) (t : Int × Int) (hq : Kb w q t) :
    Calls Try.prog 32 #[.pointer (some ⟨r, 0, none⟩), .func (.func 33) #[] #[.pointer (some ⟨q, 0, none⟩)]] w fun e w' => (∃ v, e = .returned v) ∧ ∃ T', RQ w' r T' (noQ xs t) ∧ Ext T w w' ∧ ∀ k, T' k → T k ∨ w.heap.size ≤ k := by
  obtain ⟨A, n, c, h, hT⟩ := h
  refine (drop_k r A n c xs 512 q t w h hq).mono ?_
  rintro e w' ⟨he0, A', c', h', he, hf⟩
  refine ⟨he0, Tch r A', ⟨A', _, c', h', fun k => Iff.rfl⟩, he.mono (fun k _ hk => (hT k).2 (.inl hk)), fun k hk => ?_⟩
  rcases hk with rfl | hk
  · exact .inl ((hT k).2 (.inl rfl))
  · exact .inr (hf k hk)
set_option maxHeartbeats 1600000 in
theorem forget_p1 {w : World} {p : Nat} {s : PS} {T : Nat → Prop} (h : Pq w p s T) (k : Int × Int) (x : Kn) (hk : kwf k) (hx : fnd s.L k = some x) (hc : x.cls = 1) :
    Calls Try.prog 18 #[.pointer (some ⟨p, 0, none⟩), kV k] w fun e w' => e = .returned (.tuple #[.int .i64 x.pend, .bool true]) ∧ Pstep w w' p { s with u := upd s.u 1 (noQ (s.u 1) k), L := noK s.L k } T := by
  obtain ⟨b, r, U, h, hT⟩ := h
  have hof : ofK s.L k = x := by simp [ofK, hx]
  have hTU : ∀ c, c < 2 → ∀ j, U c j → T j := fun c hc j hj => by
    obtain rfl | rfl : c = 0 ∨ c = 1 := by omega
    · exact (hT j).2 (.inr (.inr (.inl hj)))
    · exact (hT j).2 (.inr (.inr (.inr hj)))
  have hTb : T b := (hT b).2 (.inr (.inl rfl))
  have hn1 := New.alloc1 w (.cells #[.int .i64 k.1, .int .i64 k.2] 30)
  have hq1 : Pq (w.alloc (.cells #[.int .i64 k.1, .int .i64 k.2] 30)) p s T := Pq.new ⟨b, r, U, h, hT⟩ hn1
  have h1 := h.new hn1
  have hkb := blk_new w (.cells #[.int .i64 k.1, .int .i64 k.2] 30)
  have hpk : p < w.heap.size := h.lt
  have hbk : b < w.heap.size := h.map.lt
  have HX := hide hx
  have HC := hide hc
  have HO := hide hof
  have HK := hide hk
  clear hx hc hof hk
  go_enter Try.func18, Try.ntmps18
  go_wp2_with fail
  refine (none_p hq1).mono ?_
  rintro e w1 ⟨rfl, e1⟩
  rw [e1] at hn1 hq1 h1 hkb
  clear e1
  have q0 : ∀ x : Lat (fun _ => False) w1, x.W.cell? ⟨p, 0, none⟩ = some (.map (some b)) := fun x => (blk_cell (New.keep x.ext h1.blk) 0).trans rfl
  have qk0 : ∀ x : Lat (fun _ => False) w1, x.W.cell? ⟨w.heap.size, 0, none⟩ = some (.int .i64 k.1) := fun x => (blk_cell (New.keep x.ext hkb) 0).trans rfl
  have qk1 : ∀ x : Lat (fun _ => False) w1, x.W.cell? ⟨w.heap.size, 1, none⟩ = some (.int .i64 k.2) := fun x => (blk_cell (New.keep x.ext hkb) 1).trans rfl
  have ql : ∀ y : Lat (fun _ => False) w1, (Instr.lookup 65 (.map (some b)) (.agg #[.int .i64 k.1, .int .i64 k.2]) true).run Try.prog y.W = .ok (.tuple #[.agg #[.int .i64 1, .int .i64 x.pend, .int .i64 x.iss], .bool true]) y.W := fun y => by have := (h1.map.new y.ext).look HK.out; rw [HO.out, HX.out, HC.out] at this; exact this
  go_wp2_with fail
  refine mix_start (fun _ => False) w1 (by kernel_rfl) ?_
  refine mix_batch [0, 1, 2, 3, 4, 5, 6, 7, 8] (by kernel_rfl) 3 _ _ _ (by kernel_rfl) (lat_mem (by (repeat (first | exact Ext.refl _ _ | assumption | apply Ext.alloc | apply Ext.drewN | apply Ext.drew | refine Ext.setCell ?_ (fun h => by first | rfl | exact absurd h (by dsimp only; omega)) _)))) ?_
  simp only [pickOps, List.getD_cons_zero, List.getD_cons_succ]
  repeat (go_big_quiet_step (fail))
  refine wpQuiet_nil ?_
  refine mix_loud (i := 9) (by kernel_rfl) rfl (fun K hK => ?_)
  go_simp
  refine hK.out _ _ (lat_mem (by (repeat (first | exact Ext.refl _ _ | assumption | apply Ext.alloc | apply Ext.drewN | apply Ext.drew | refine Ext.setCell ?_ (fun h => by first | rfl | exact absurd h (by dsimp only; omega)) _)))) ?_
  clear hK
  have hxb := blk_new w1 (.cells #[.int .i64 0, .int .i64 0, .int .i64 0] 75)
  have x0 := (blk_cell hxb 0).trans rfl
  have x1 := (blk_cell hxb 1).trans rfl
  have x2 := (blk_cell hxb 2).trans rfl
  have y0 := blk_free hxb 0
  have y1 := blk_free hxb 1
  have y2 := blk_free hxb 2
  refine mix_loud (i := 10) (by kernel_rfl) rfl (fun K hK => ?_)
  go_simp
  refine hK.out _ _ (lat_mem (by (repeat (first | exact Ext.refl _ _ | assumption | apply Ext.alloc | apply Ext.drewN | apply Ext.drew | refine Ext.setCell ?_ (fun h => by first | rfl | exact absurd h (by dsimp only; omega)) _)))) ?_
  clear hK
  refine mix_batch [11] (by kernel_rfl) 0 _ _ _ (by kernel_rfl) (lat_mem (by (repeat (first | exact Ext.refl _ _ | assumption | apply Ext.alloc | apply Ext.drewN | apply Ext.drew | refine Ext.setCell ?_ (fun h => by first | rfl | exact absurd h (by dsimp only; omega)) _)))) ?_
  simp only [pickOps, List.getD_cons_zero, List.getD_cons_succ]
  repeat (go_big_quiet_step (fail))
  refine wpQuiet_nil ?_
  refine wpAnyH_done (by kernel_rfl) (NoPanic.normal ?_) _
  clear q0 qk0 qk1 ql x0 x1 x2 y0 y1 y2
  have hn3 : New w1 (w1.alloc (.cells #[.int .i64 1, .int .i64 x.pend, .int .i64 x.iss] 75)).drew := by (repeat (first | exact Ext.refl _ _ | assumption | apply Ext.alloc | apply Ext.drewN | apply Ext.drew | refine Ext.setCell ?_ (fun h => by first | rfl | exact absurd h (by dsimp only; omega)) _))
  have hxb3 : (w1.alloc (.cells #[.int .i64 1, .int .i64 x.pend, .int .i64 x.iss] 75)).drew.heap[w1.heap.size]? = _ := blk_new w1 (.cells #[.int .i64 1, .int .i64 x.pend, .int .i64 x.iss] 75)
  have hXw : w.heap.size < w1.heap.size := blk_lt hkb
  have hX3 := blk_lt hxb3
  generalize (w1.alloc (.cells #[.int .i64 1, .int .i64 x.pend, .int .i64 x.iss] 75)).drew = w3 at *
  clear hxb
  have h3 := h1.new hn3
  have hk3 := hn3.keep hkb
  go_wp2_with fail
  have hd0 := h3.new (show New w3 w3.drew by (repeat (first | exact Ext.refl _ _ | assumption | apply Ext.alloc | apply Ext.drewN | apply Ext.drew | refine Ext.setCell ?_ (fun h => by first | rfl | exact absurd h (by dsimp only; omega)) _)))
  obtain ⟨w4, hrun, hm4, he4⟩ := hd0.map.del HK.out HX.out 0
  have q0 : ∀ x : Lat (fun j => j = b) w3, x.W.cell? ⟨p, 0, none⟩ = some (.map (some b)) := fun x => (blk_cell (x.ext.keep h3.blk (by have := h.pb; omega)) 0).trans rfl
  have qk0 : ∀ x : Lat (fun j => j = b) w3, x.W.cell? ⟨w.heap.size, 0, none⟩ = some (.int .i64 k.1) := fun x => (blk_cell (x.ext.keep hk3 (by omega)) 0).trans rfl
  have qk1 : ∀ x : Lat (fun j => j = b) w3, x.W.cell? ⟨w.heap.size, 1, none⟩ = some (.int .i64 k.2) := fun x => (blk_cell (x.ext.keep hk3 (by omega)) 1).trans rfl
  refine mix_start (fun j => j = b) w3 (by kernel_rfl) ?_
  refine mix_batch [0, 1, 2, 3, 4] (by kernel_rfl) 1 _ _ _ (by kernel_rfl) (lat_mem (by (repeat (first | exact Ext.refl _ _ | assumption | apply Ext.alloc | apply Ext.drewN | apply Ext.drew | refine Ext.setCell ?_ (fun h => by first | rfl | exact absurd h (by dsimp only; omega)) _)))) ?_
  simp only [pickOps, List.getD_cons_zero, List.getD_cons_succ]
  repeat (go_big_quiet_step (fail))
  refine wpQuiet_nil ?_
  refine mix_loud (i := 5) (by kernel_rfl) rfl (fun K hK => ?_)
  go_simp
  have he : Ext (fun j => j = b) w3 w4 := (show New w3 w3.drew by (repeat (first | exact Ext.refl _ _ | assumption | apply Ext.alloc | apply Ext.drewN | apply Ext.drew | refine Ext.setCell ?_ (fun h => by first | rfl | exact absurd h (by dsimp only; omega)) _))).to.trans he4 (fun _ _ h => h)
  refine hK.out _ _ (lat_mem he) ?_
  clear hK q0 qk0 qk1 hrun
  refine wpAnyH_done (by kernel_rfl) (NoPanic.normal ?_) _
  clear hd0
  have h4 : Pac w4 p { s with L := noK s.L k } b r U := ⟨he.keep h3.blk h.pb, hm4, fun c hc => (h3.q c hc).keep he (fun j hj e => h.db c hc (e ▸ hj)), h.pb, h.dp, h.db, h.dq⟩
  have hk4 := he.keep hk3 (by omega)
  have hx4 := he.keep hxb3 (by omega)
  have hTlt : ∀ j, T j → j < w.heap.size := fun j hj => Pq.lt ⟨b, r, U, h, hT⟩ hj
  have hUX : ∀ j, U 1 j → j < w.heap.size := fun j hj => hTlt j (hTU 1 (by omega) j hj)
  have qp : ∀ y : Lat (U 1) w4, y.W.cell? ⟨p, 2, none⟩ = some (.pointer (some ⟨r 1, 0, none⟩)) := fun y => (blk_cell (y.ext.keep h4.blk (h.dp 1 (by omega))) (2)).trans rfl
  have qx0 : ∀ y : Lat (U 1) w4, y.W.cell? ⟨w1.heap.size, 0, none⟩ = some (.int .i64 1) := fun y => (blk_cell (y.ext.keep hx4 (fun e => absurd (hUX _ e) (by omega))) 0).trans rfl
  go_wp2_with fail
  refine mix_start (U 1) w4 (by kernel_rfl) ?_
  refine mix_batch [0, 1, 2, 3, 4, 5, 6] (by kernel_rfl) 2 _ _ _ (by kernel_rfl) (lat_mem (by (repeat (first | exact Ext.refl _ _ | assumption | apply Ext.alloc | apply Ext.drewN | apply Ext.drew | refine Ext.setCell ?_ (fun h => by first | rfl | exact absurd h (by dsimp only; omega)) _)))) ?_
  simp only [pickOps, List.getD_cons_zero, List.getD_cons_succ]
  repeat (go_big_quiet_step (fail))
  refine wpQuiet_nil ?_
  refine mix_loud (i := 7) (by kernel_rfl) rfl (fun K hK => ?_)
  go_simp
  refine hK.out _ _ (lat_mem (by (repeat (first | exact Ext.refl _ _ | assumption | apply Ext.alloc | apply Ext.drewN | apply Ext.drew | refine Ext.setCell ?_ (fun h => by first | rfl | exact absurd h (by dsimp only; omega)) _)))) ?_
  clear hK
  refine mix_loud (i := 8) (by kernel_rfl) rfl (fun K hK => ?_)
  go_simp
  refine (drop_q1 ((h4.q 1 (by omega)).keep (show New w4 w4.drew by (repeat (first | exact Ext.refl _ _ | assumption | apply Ext.alloc | apply Ext.drewN | apply Ext.drew | refine Ext.setCell ?_ (fun h => by first | rfl | exact absurd h (by dsimp only; omega)) _))) (fun _ _ h => h)) w.heap.size k ((show New w4 w4.drew by (repeat (first | exact Ext.refl _ _ | assumption | apply Ext.alloc | apply Ext.drewN | apply Ext.drew | refine Ext.setCell ?_ (fun h => by first | rfl | exact absurd h (by dsimp only; omega)) _))).keep hk4)).mono ?_
  rintro e w5 ⟨⟨v, rfl⟩, T', hq5, he5, hf5⟩
  have he45 : Ext (U 1) w4 w5 := (show New w4 w4.drew by (repeat (first | exact Ext.refl _ _ | assumption | apply Ext.alloc | apply Ext.drewN | apply Ext.drew | refine Ext.setCell ?_ (fun h => by first | rfl | exact absurd h (by dsimp only; omega)) _))).to.trans he5 (fun _ _ h => h)
  refine hK.out _ _ (lat_mem he45) ?_
  clear hK qp qx0
  refine wpAnyH_done (by kernel_rfl) (NoPanic.normal ?_) _
  have hs4 : w4.heap.size ≤ w4.drew.heap.size := Nat.le_refl _
  have hx5 := he45.keep hx4 (fun e => absurd (hUX _ e) (by omega))
  have x1 := (blk_cell hx5 1).trans rfl
  go_wp2_with fail
  go_ret2
  have hdis : ∀ j, U 0 j → ¬ U 1 j := fun j a b => h.dq j (a) (b)
  have hf6 : ∀ j, T' j → U 1 j ∨ w4.heap.size ≤ j := fun j hj => hf5 j hj
  have h45 : w.heap.size ≤ w4.heap.size := by have := he.size; omega
  refine ⟨rfl, fun j => j = p ∨ j = b ∨ upd U 1 T' 0 j ∨ upd U 1 T' 1 j, ⟨b, r, upd U 1 T', ⟨he45.keep h4.blk (h.dp 1 (by omega)), h4.map.keep he45 (h.db 1 (by omega)), ?_, h.pb, ?_, ?_, ?_⟩, fun j => Iff.rfl⟩, ?_, ?_⟩
  · intro c hc
    dsimp only
    by_cases e : c = 1
    · subst e
      rw [upd_same, upd_same]
      exact hq5
    · rw [upd_other _ _ e, upd_other _ _ e]
      obtain rfl : c = 0 := by omega
      exact (h4.q 0 (by omega)).keep he45 (fun j hj => hdis j hj)
  · intro c hc
    by_cases e : c = 1
    · subst e
      rw [upd_same]
      intro hj
      exact (hf6 p hj).elim (h.dp 1 (by omega)) (fun e => by omega)
    · rw [upd_other _ _ e]
      exact h.dp c hc
  · intro c hc
    by_cases e : c = 1
    · subst e
      rw [upd_same]
      intro hj
      exact (hf6 b hj).elim (h.db 1 (by omega)) (fun e => by omega)
    · rw [upd_other _ _ e]
      exact h.db c hc
  · intro j h0 h1
    have g : T' j → U 0 j → False := fun a c => (hf6 j a).elim (hdis j c) (fun e => by have := hTlt _ (hTU 0 (by omega) j c); omega)
    rw [show upd U 1 T' 1 = T' from upd_same _ _ _] at h1
    rw [show upd U 1 T' 0 = U 0 from upd_other _ _ (by omega)] at h0
    exact g h1 h0
  · exact (((hn1.then hn3).to.trans he (fun j _ e => e ▸ hTb)).trans he45 (fun j _ hj => hTU 1 (by omega) j hj))
  · have hg : ∀ c, c < 2 → ∀ j, upd U 1 T' c j → T j ∨ w.heap.size ≤ j := fun c hc j hj => by
      by_cases e : c = 1
      · subst e
        rw [upd_same] at hj
        exact (hf6 j hj).imp (hTU 1 (by omega) j) (fun e => by omega)
      · rw [upd_other _ _ e] at hj
        exact .inl (hTU c hc j hj)
    rintro j (rfl | rfl | hj | hj)
    · exact .inl ((hT j).2 (.inl rfl))
    · exact .inl hTb
    · exact hg 0 (by omega) j hj
    · exact hg 1 (by omega) j hj
end Go.Proofs.Ytmonhhodbinagaa
