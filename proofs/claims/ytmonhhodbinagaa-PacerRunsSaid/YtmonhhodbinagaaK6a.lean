/- Walks: something is owed to a key of class 0. -/
import Derived.Test.YtmonhhodbinagaaK5
namespace Go.Proofs.Ytmonhhodbinagaa
open Go.RowKit Go.Maps
set_option maxRecDepth 100000

/-- Where the walk stands behind the push. -/
def CutO0 (w w3 : World) (p b : Nat) (r : Nat → Nat) (s : PS) (T : Nat → Prop) (k : Int × Int) (x : Kn) (u' : Nat → List (Int × Int)) (X : Nat) (wc : World) : Prop :=
  ∃ U, Pac wc p { s with u := u' } b r U ∧ (∀ c, c < 2 → ∀ j, U c j → T j ∨ w3.heap.size ≤ j) ∧ Ext T w3 wc ∧ wc.heap[w.heap.size]? = some (.cells #[.int .i64 k.1, .int .i64 k.2] 30) ∧ wc.heap[X]? = some (.cells #[.int .i64 x.cls, .int .i64 x.pend, .int .i64 x.iss] 75)
set_option maxHeartbeats 1600000 in
theorem owe_p0 {w : World} {p : Nat} {s : PS} {T : Nat → Prop} (h : Pq w p s T) (k : Int × Int) (n : Int) (x : Kn) (hk : kwf k) (hx : fnd s.L k = some x) (hc : x.cls = 0) (h1 : 1 ≤ n) (h2 : n ≤ 1152921504606846976 - x.pend) (hp : 0 ≤ x.pend) (hq : x.pend ≤ 1152921504606846976) (hl : s.L.length < 1000000) (hu : x.pend = 0 → (s.u 0).length + 1 ≤ 512) :
    Calls Try.prog 11 #[.pointer (some ⟨p, 0, none⟩), kV k, .int .i64 n] w fun e w' => e = .returned (.int .i64 0) ∧ Pstep w w' p { s with u := if x.pend = 0 then upd s.u 0 (s.u 0 ++ [k]) else s.u, L := setK s.L { x with pend := x.pend + n } } T := by
  obtain ⟨u', hu'⟩ : ∃ u', u' = if x.pend = 0 then upd s.u 0 (s.u 0 ++ [k]) else s.u := ⟨_, rfl⟩
  rw [← hu']
  have HU := hide hu'
  clear hu'
  obtain ⟨b, r, U, h, hT⟩ := h
  have hof : ofK s.L k = x := by simp [ofK, hx]
  obtain ⟨hxm, hxk⟩ := fnd_mem hx
  have hTU : ∀ c, c < 2 → ∀ j, U c j → T j := fun c hc j hj => by
    obtain rfl | rfl : c = 0 ∨ c = 1 := by omega
    · exact (hT j).2 (.inr (.inr (.inl hj)))
    · exact (hT j).2 (.inr (.inr (.inr hj)))
  have d1 : decide (n < 1) = false := decide_eq_false (by omega)
  have d2 : decide (1152921504606846976 - x.pend < n) = false := decide_eq_false (by omega)
  have hn1 := New.alloc1 w (.cells #[.int .i64 k.1, .int .i64 k.2] 30)
  have hq1 : Pq (w.alloc (.cells #[.int .i64 k.1, .int .i64 k.2] 30)) p s T := Pq.new ⟨b, r, U, h, hT⟩ hn1
  have h1 := h.new hn1
  have hkb := blk_new w (.cells #[.int .i64 k.1, .int .i64 k.2] 30)
  have hpk : p < w.heap.size := h.lt
  have hbk : b < w.heap.size := h.map.lt
  have HX := hide hx
  have HC := hide hc
  have HO := hide hof
  have HK := hide hk
  have HXK := hide hxk
  clear hx hc hof hxm hk hxk
  go_enter Try.func11, Try.ntmps11
  go_wp2_with fail
  refine (none_p hq1).mono ?_
  rintro e w1 ⟨rfl, e1⟩
  rw [e1] at hn1 hq1 h1 hkb
  clear e1
  have q0 : ∀ x : Lat (fun _ => False) w1, x.W.cell? ⟨p, 0, none⟩ = some (.map (some b)) := fun x => (blk_cell (New.keep x.ext h1.blk) 0).trans rfl
  have qk0 : ∀ x : Lat (fun _ => False) w1, x.W.cell? ⟨w.heap.size, 0, none⟩ = some (.int .i64 k.1) := fun x => (blk_cell (New.keep x.ext hkb) 0).trans rfl
  have qk1 : ∀ x : Lat (fun _ => False) w1, x.W.cell? ⟨w.heap.size, 1, none⟩ = some (.int .i64 k.2) := fun x => (blk_cell (New.keep x.ext hkb) 1).trans rfl
  have ql : ∀ y : Lat (fun _ => False) w1, (Instr.lookup 65 (.map (some b)) (.agg #[.int .i64 k.1, .int .i64 k.2]) true).run Try.prog y.W = .ok (.tuple #[.agg #[.int .i64 0, .int .i64 x.pend, .int .i64 x.iss], .bool true]) y.W := fun y => by have := (h1.map.new y.ext).look HK.out; rw [HO.out, HX.out, HC.out] at this; exact this
  go_wp2_with fail
  refine mix_start (fun _ => False) w1 (by kernel_rfl) ?_
  refine mix_batch [0, 1, 2, 3, 4, 5, 6, 7, 8] (by kernel_rfl) 3 _ _ _ (by kernel_rfl) (lat_mem (by (repeat (first | exact Ext.refl _ _ | assumption | apply Ext.alloc | apply Ext.drewN | apply Ext.drew | refine Ext.setCell ?_ (fun h => by first | rfl | exact absurd h (by dsimp only; omega)) _)))) ?_
  simp only [pickOps, List.getD_cons_zero, List.getD_cons_succ]
  repeat (go_big_quiet_step (fail))
  refine wpQuiet_nil ?_
  refine mix_loud (i := 9) (by kernel_rfl) rfl (fun K hK => ?_)
  go_simp
  refine hK.out _ _ (lat_mem (by (repeat (first | exact Ext.refl _ _ | assumption | apply Ext.alloc | apply Ext.drewN | apply Ext.drew | refine Ext.setCell ?_ (fun h => by first | rfl | exact absurd h (by dsimp only; omega)) _)))) ?_
  clear hK
  have hxb := blk_new w1 (.cells #[.int .i64 0, .int .i64 0, .int .i64 0] 75)
  have x0 := (blk_cell hxb 0).trans rfl
  have x1 := (blk_cell hxb 1).trans rfl
  have x2 := (blk_cell hxb 2).trans rfl
  have y0 := blk_free hxb 0
  have y1 := blk_free hxb 1
  have y2 := blk_free hxb 2
  refine mix_loud (i := 10) (by kernel_rfl) rfl (fun K hK => ?_)
  go_simp
  refine hK.out _ _ (lat_mem (by (repeat (first | exact Ext.refl _ _ | assumption | apply Ext.alloc | apply Ext.drewN | apply Ext.drew | refine Ext.setCell ?_ (fun h => by first | rfl | exact absurd h (by dsimp only; omega)) _)))) ?_
  clear hK
  refine mix_batch [11] (by kernel_rfl) 0 _ _ _ (by kernel_rfl) (lat_mem (by (repeat (first | exact Ext.refl _ _ | assumption | apply Ext.alloc | apply Ext.drewN | apply Ext.drew | refine Ext.setCell ?_ (fun h => by first | rfl | exact absurd h (by dsimp only; omega)) _)))) ?_
  simp only [pickOps, List.getD_cons_zero, List.getD_cons_succ]
  repeat (go_big_quiet_step (fail))
  refine wpQuiet_nil ?_
  refine wpAnyH_done (by kernel_rfl) (NoPanic.normal ?_) _
  clear q0 qk0 qk1 ql x0 x1 x2 y0 y1 y2
  go_upto_if 34 with (fail)
  have hn3 : New w1 (w1.alloc (.cells #[.int .i64 0, .int .i64 x.pend, .int .i64 x.iss] 75)).drew := by (repeat (first | exact Ext.refl _ _ | assumption | apply Ext.alloc | apply Ext.drewN | apply Ext.drew | refine Ext.setCell ?_ (fun h => by first | rfl | exact absurd h (by dsimp only; omega)) _))
  have hxb3 : (w1.alloc (.cells #[.int .i64 0, .int .i64 x.pend, .int .i64 x.iss] 75)).drew.heap[w1.heap.size]? = _ := blk_new w1 (.cells #[.int .i64 0, .int .i64 x.pend, .int .i64 x.iss] 75)
  have hXw : w.heap.size < w1.heap.size := blk_lt hkb
  have hX3 := blk_lt hxb3
  generalize (w1.alloc (.cells #[.int .i64 0, .int .i64 x.pend, .int .i64 x.iss] 75)).drew = w3 at *
  clear hxb
  have h3 := h1.new hn3
  have hk3 := hn3.keep hkb
  go_cut [8] (fun s8 wc => s8 = .bool true ∧ CutO0 w w3 p b r s T k x u' w1.heap.size wc)
  case first =>
    by_cases hz : x.pend = 0
    · have z1 : (x.pend == 0) = true := by simpa using hz
      have qp : ∀ y : Lat (U 0) w3, y.W.cell? ⟨p, 1, none⟩ = some (.pointer (some ⟨r 0, 0, none⟩)) := fun y => (blk_cell (y.ext.keep h3.blk (h.dp 0 (by omega))) (1)).trans rfl
      have qk0 : ∀ y : Lat (U 0) w3, y.W.cell? ⟨w.heap.size, 0, none⟩ = some (.int .i64 k.1) := fun y => (blk_cell (y.ext.keep hk3 (fun e => absurd ((h.q 0 (by omega)).lt e) (by omega))) 0).trans rfl
      have qk1 : ∀ y : Lat (U 0) w3, y.W.cell? ⟨w.heap.size, 1, none⟩ = some (.int .i64 k.2) := fun y => (blk_cell (y.ext.keep hk3 (fun e => absurd ((h.q 0 (by omega)).lt e) (by omega))) 1).trans rfl
      have qx0 : ∀ y : Lat (U 0) w3, y.W.cell? ⟨w1.heap.size, 0, none⟩ = some (.int .i64 0) := fun y => (blk_cell (y.ext.keep hxb3 (fun e => absurd ((h.q 0 (by omega)).lt e) (by omega))) 0).trans rfl
      go_wp2_with fail
      refine mix_start (U 0) w3 (by kernel_rfl) ?_
      refine mix_batch [0, 1, 2, 3, 4, 5, 6, 7] (by kernel_rfl) 2 _ _ _ (by kernel_rfl) (lat_mem (by (repeat (first | exact Ext.refl _ _ | assumption | apply Ext.alloc | apply Ext.drewN | apply Ext.drew | refine Ext.setCell ?_ (fun h => by first | rfl | exact absurd h (by dsimp only; omega)) _)))) ?_
      simp only [pickOps, List.getD_cons_zero, List.getD_cons_succ]
      repeat (go_big_quiet_step (fail))
      refine wpQuiet_nil ?_
      refine mix_loud (i := 8) (by kernel_rfl) rfl (fun K hK => ?_)
      go_simp
      refine hK.out _ _ (lat_mem (by (repeat (first | exact Ext.refl _ _ | assumption | apply Ext.alloc | apply Ext.drewN | apply Ext.drew | refine Ext.setCell ?_ (fun h => by first | rfl | exact absurd h (by dsimp only; omega)) _)))) ?_
      clear hK
      have hb4 := blk_new w3.drew (.cells #[.int .i64 k.1, .int .i64 k.2] 30)
      have hn4 : New w3 (w3.drew.alloc (.cells #[.int .i64 k.1, .int .i64 k.2] 30)) := by (repeat (first | exact Ext.refl _ _ | assumption | apply Ext.alloc | apply Ext.drewN | apply Ext.drew | refine Ext.setCell ?_ (fun h => by first | rfl | exact absurd h (by dsimp only; omega)) _))
      have hrb : Rd (w3.drew.alloc (.cells #[.int .i64 k.1, .int .i64 k.2] 30)) 2 (some ⟨w3.heap.size, 0, none⟩) 1 1 (kcs [k]) := rd_lit w3.drew 30 2 1 #[.int .i64 k.1, .int .i64 k.2] (by omega) rfl (by simp [Value.oneCell'])
      refine mix_loud (i := 9) (by kernel_rfl) rfl (fun K hK => ?_)
      go_simp
      refine (push_q ((h3.q 0 (by omega)).keep hn4 (fun _ _ h => h)) _ 1 1 [k] hrb (by simpa using hu hz)).mono ?_
      rintro e w5 ⟨T', rfl, hq5, he5, hf5⟩
      have he : Ext (U 0) w3 w5 := hn4.to.trans he5 (fun _ _ h => h)
      have hsz4 : w3.heap.size ≤ (w3.drew.alloc (.cells #[.int .i64 k.1, .int .i64 k.2] 30)).heap.size := hn4.size
      refine hK.out _ _ (lat_mem he) ?_
      clear hK qp qk0 qk1 qx0
      refine wpAnyH_done (by kernel_rfl) (NoPanic.normal ?_) _
      go_wp2_with fail
      go_meet
      have hdis : ∀ j, U 1 j → ¬ U 0 j := fun j a b => h.dq j (b) (a)
      have hf6 : ∀ j, T' j → U 0 j ∨ w3.heap.size ≤ j := fun j hj => (hf5 j hj).imp id (fun e => by omega)
      refine ⟨rfl, upd U 0 T', ⟨he.keep h3.blk (h.dp 0 (by omega)), h3.map.keep he (h.db 0 (by omega)), ?_, h.pb, ?_, ?_, ?_⟩, ?_, he.mono (fun j _ hj => hTU 0 (by omega) j hj), he.keep hk3 (fun e => absurd ((h.q 0 (by omega)).lt e) (by omega)), by rw [HC.out]; exact he.keep hxb3 (fun e => absurd ((h.q 0 (by omega)).lt e) (by omega))⟩
      · intro c hc
        dsimp only
        rw [HU.out, if_pos hz]
        by_cases e : c = 0
        · subst e
          rw [upd_same, upd_same]
          exact hq5
        · rw [upd_other _ _ e, upd_other _ _ e]
          obtain rfl : c = 1 := by omega
          exact (h3.q 1 (by omega)).keep he (fun j hj => hdis j hj)
      · intro c hc
        by_cases e : c = 0
        · subst e
          rw [upd_same]
          intro hj
          exact (hf6 p hj).elim (h.dp 0 (by omega)) (fun e => by have := h3.lt; omega)
        · rw [upd_other _ _ e]
          exact h.dp c hc
      · intro c hc
        by_cases e : c = 0
        · subst e
          rw [upd_same]
          intro hj
          exact (hf6 b hj).elim (h.db 0 (by omega)) (fun e => by have := h3.map.lt; omega)
        · rw [upd_other _ _ e]
          exact h.db c hc
      · intro j h0 h1
        have g : T' j → U 1 j → False := fun a c => (hf6 j a).elim (hdis j c) (fun e => by have := (h3.q 1 (by omega)).lt c; omega)
        rw [show upd U 0 T' 0 = T' from upd_same _ _ _] at h0
        rw [show upd U 0 T' 1 = U 1 from upd_other _ _ (by omega)] at h1
        exact g h0 h1
      · intro c hc j hj
        by_cases e : c = 0
        · subst e
          rw [upd_same] at hj
          exact (hf6 j hj).imp (hTU 0 (by omega) j) id
        · rw [upd_other _ _ e] at hj
          exact .inl (hTU c hc j hj)
    · have z1 : (x.pend == 0) = false := by simpa using hz
      go_wp2_with fail
      go_meet
      refine ⟨rfl, U, ⟨h3.blk, h3.map, fun c hc => by dsimp only; rw [HU.out, if_neg hz]; exact h3.q c hc, h.pb, h.dp, h.db, h.dq⟩, fun c hc j hj => .inl (hTU c hc j hj), Ext.refl _ _, hk3, by rw [HC.out]; exact hxb3⟩
  case rest =>
    obtain ⟨rfl, U5, h5, hU5, he5, hk5, hx5⟩ := hcut
    have hX3 := blk_lt hxb3
    have hTlt : ∀ j, T j → j < w.heap.size := fun j hj => Pq.lt ⟨b, r, U, h, hT⟩ hj
    have hUX : ∀ c, c < 2 → ¬ U5 c w1.heap.size := fun c hc hj => (hU5 c hc _ hj).elim (fun e => by have := hTlt _ e; omega) (fun e => by omega)
    have x1 := (blk_cell hx5 1).trans rfl
    have y1 := blk_free hx5 1
    go_wp2_with fail
    have e6 : Ext (fun j => j = w1.heap.size) wc (wc.setCell ⟨w1.heap.size, 1, none⟩ (.int .i64 (x.pend + n))) := (Ext.refl _ _).set (by rfl)
    have h6 := h5.keep e6 (by omega) (by omega) (fun c hc j hj e => hUX c hc (e ▸ hj))
    have hk6 := e6.keep hk5 (by omega)
    have hx6 := blk_set hx5 1 (.int .i64 (x.pend + n))
    generalize wc.setCell ⟨w1.heap.size, 1, none⟩ (.int .i64 (x.pend + n)) = w6 at *
    clear x1 y1
    have hxc : x = ⟨k, 0, x.pend, x.iss⟩ := by
      rw [← HXK.out, ← HC.out]
    obtain ⟨w7, hrun, hm7, he7⟩ := (show PMap w6.drew b s.L from h6.map.new (by (repeat (first | exact Ext.refl _ _ | assumption | apply Ext.alloc | apply Ext.drewN | apply Ext.drew | refine Ext.setCell ?_ (fun h => by first | rfl | exact absurd h (by dsimp only; omega)) _)))).set ⟨k, 0, x.pend + n, x.iss⟩ (by rw [HX.out]; rfl) hl
    have HXC := hide hxc
    clear hxc
    have q0 : ∀ y : Lat (fun j => j = b) w6, y.W.cell? ⟨p, 0, none⟩ = some (.map (some b)) := fun y => (blk_cell (y.ext.keep h6.blk h.pb) 0).trans rfl
    have qk0 : ∀ y : Lat (fun j => j = b) w6, y.W.cell? ⟨w.heap.size, 0, none⟩ = some (.int .i64 k.1) := fun y => (blk_cell (y.ext.keep hk6 (by omega)) 0).trans rfl
    have qk1 : ∀ y : Lat (fun j => j = b) w6, y.W.cell? ⟨w.heap.size, 1, none⟩ = some (.int .i64 k.2) := fun y => (blk_cell (y.ext.keep hk6 (by omega)) 1).trans rfl
    have qx0 : ∀ y : Lat (fun j => j = b) w6, y.W.cell? ⟨w1.heap.size, 0, none⟩ = some (.int .i64 x.cls) := fun y => (blk_cell (y.ext.keep hx6 (by omega)) 0).trans rfl
    rw [HC.out] at qx0
    have qx1 : ∀ y : Lat (fun j => j = b) w6, y.W.cell? ⟨w1.heap.size, 1, none⟩ = some (.int .i64 (x.pend + n)) := fun y => (blk_cell (y.ext.keep hx6 (by omega)) 1).trans rfl
    have qx2 : ∀ y : Lat (fun j => j = b) w6, y.W.cell? ⟨w1.heap.size, 2, none⟩ = some (.int .i64 x.iss) := fun y => (blk_cell (y.ext.keep hx6 (by omega)) 2).trans rfl
    refine mix_start (fun j => j = b) w6 (by kernel_rfl) ?_
    refine mix_batch [0, 1, 2, 3, 4, 5] (by kernel_rfl) 1 _ _ _ (by kernel_rfl) (lat_mem (by (repeat (first | exact Ext.refl _ _ | assumption | apply Ext.alloc | apply Ext.drewN | apply Ext.drew | refine Ext.setCell ?_ (fun h => by first | rfl | exact absurd h (by dsimp only; omega)) _)))) ?_
    simp only [pickOps, List.getD_cons_zero, List.getD_cons_succ]
    repeat (go_big_quiet_step (fail))
    refine wpQuiet_nil ?_
    refine mix_loud (i := 6) (by kernel_rfl) rfl (fun K hK => ?_)
    go_simp
    have he : Ext (fun j => j = b) w6 w7 := (show New w6 w6.drew by (repeat (first | exact Ext.refl _ _ | assumption | apply Ext.alloc | apply Ext.drewN | apply Ext.drew | refine Ext.setCell ?_ (fun h => by first | rfl | exact absurd h (by dsimp only; omega)) _))).to.trans he7 (fun _ _ h => h)
    refine hK.out _ _ (lat_mem he) ?_
    clear hK q0 qk0 qk1 qx0 qx1 qx2 hrun
    refine wpAnyH_done (by kernel_rfl) (NoPanic.normal ?_) _
    go_wp2_with fail
    go_ret
    have hxe : ({ x with pend := x.pend + n } : Kn) = ⟨k, 0, x.pend + n, x.iss⟩ := by rw [HXC.out]
    rw [hxe]
    have hbT : T b := (hT b).2 (.inr (.inl rfl))
    refine ⟨rfl, fun j => j = p ∨ j = b ∨ U5 0 j ∨ U5 1 j, ⟨b, r, U5, ⟨he.keep h6.blk h.pb, hm7, fun c hc => (h6.q c hc).keep he (fun j hj e => h6.db c hc (e ▸ hj)), h.pb, h6.dp, h6.db, h6.dq⟩, fun j => Iff.rfl⟩, ?_, ?_⟩
    · have e1 : Ext T w w3 := (hn1.then hn3).to
      have e2 : Ext T w wc := e1.trans he5 (fun _ _ h => h)
      have e3 : Ext T w w6 := e2.trans e6 (fun j hj e => by omega)
      exact e3.trans he (fun j hj e => e ▸ hbT)
    · have hsz := (hn1.then hn3).size
      rintro j (rfl | rfl | hj | hj)
      · exact .inl ((hT j).2 (.inl rfl))
      · exact .inl hbT
      · exact (hU5 0 (by omega) j hj).imp id (fun e => by omega)
      · exact (hU5 1 (by omega) j hj).imp id (fun e => by omega)
end Go.Proofs.Ytmonhhodbinagaa
