/- Walks: a turn of class 1. -/
import Derived.Test.YtmonhhodbinagaaK7
namespace Go.Proofs.Ytmonhhodbinagaa
open Go.RowKit Go.Maps
set_option maxRecDepth 100000

theorem Pac.turned1 {w w' : World} {p : Nat} {s : PS} {b : Nat} {r : Nat → Nat} {U : Nat → Nat → Prop} {c : Nat} {T' : Nat → Prop} {l : List (Int × Int)} (h : Pac w p s b r U) (hc : c < 2) (hq : RQ w' (r c) T' l) (he : Ext (U c) w w') (hf : ∀ j, T' j → U c j ∨ w.heap.size ≤ j) :
    Pac w' p { s with u := upd s.u c l } b r (upd U c T') := by
  have hdis : ∀ d, d < 2 → d ≠ c → ∀ j, U d j → ¬ U c j := fun d hd hdc j a b => by
    obtain ⟨rfl, rfl⟩ | ⟨rfl, rfl⟩ : (d = 0 ∧ c = 1) ∨ (d = 1 ∧ c = 0) := by omega
    · exact h.dq j a b
    · exact h.dq j b a
  have hn : ∀ j, ¬ U c j → j < w.heap.size → ¬ T' j := fun j a b k => (hf j k).elim a (fun e => by omega)
  refine ⟨he.keep h.blk (h.dp c hc), h.map.keep he (h.db c hc), fun d hd => ?_, h.pb, fun d hd => ?_, fun d hd => ?_, ?_⟩
  · by_cases e : d = c
    · subst e
      dsimp only
      rw [upd_same, upd_same]
      exact hq
    · dsimp only
      rw [upd_other _ _ e, upd_other _ _ e]
      exact (h.q d hd).keep he (hdis d hd e)
  · by_cases e : d = c
    · subst e
      rw [upd_same]
      exact hn p (h.dp d hc) h.lt
    · rw [upd_other _ _ e]
      exact h.dp d hd
  · by_cases e : d = c
    · subst e
      rw [upd_same]
      exact hn b (h.db d hc) h.map.lt
    · rw [upd_other _ _ e]
      exact h.db d hd
  · intro j h0 h1
    obtain rfl | rfl : c = 0 ∨ c = 1 := by omega
    · rw [upd_same] at h0
      rw [upd_other _ _ (by omega)] at h1
      exact hn j (hdis 1 (by omega) (by omega) j h1) ((h.q 1 (by omega)).lt h1) h0
    · rw [upd_same] at h1
      rw [upd_other _ _ (by omega)] at h0
      exact hn j (hdis 0 (by omega) (by omega) j h0) ((h.q 0 (by omega)).lt h0) h1
theorem updFr1 {U : Nat → Nat → Prop} {c : Nat} {T' : Nat → Prop} {M : Nat} (hf : ∀ j, T' j → U c j ∨ M ≤ j) : ∀ d j, upd U c T' d j → U d j ∨ M ≤ j := fun d j hj => by
  by_cases e : d = c
  · subst e
    rw [upd_same] at hj
    exact hf j hj
  · rw [upd_other _ _ e] at hj
    exact .inl hj

set_option maxHeartbeats 1600000 in
theorem tick_p1 {w : World} {p : Nat} {s : PS} {T : Nat → Prop} (h : Pq w p s T) (h1 : 0 ≤ s.run) (h2 : s.run ≤ 4) (run : Int) (ht : turnOf s = (1, true, run)) (k : Int × Int) (rest : List (Int × Int)) (hu : s.u 1 = k :: rest) (hu2 : (s.u 1).length ≤ 512)
    (x : Kn) (hk : kwf k) (hx : fnd s.L k = some x) (hc : x.cls = 1) (hp : 1 ≤ x.pend) (hq : x.pend ≤ 1152921504606846976) (hi : 0 ≤ x.iss) (hi2 : x.iss ≤ s.total) (ht0 : s.total < 1152921504606846976) (hl : s.L.length < 1000000) :
    Calls Try.prog 12 #[.pointer (some ⟨p, 0, none⟩)] w fun e w' => e = .returned (.tuple #[.agg #[.int .i64 k.1, .int .i64 k.2, .int .i64 (x.iss + 1)], .bool true]) ∧
      Pstep w w' p { s with run := run, total := s.total + 1, u := upd s.u 1 (if 1 < x.pend then rest ++ [k] else rest), L := setK s.L { x with pend := x.pend - 1, iss := x.iss + 1 } } T := by
  obtain ⟨l', hl'⟩ : ∃ l', l' = if 1 < x.pend then rest ++ [k] else rest := ⟨_, rfl⟩
  rw [← hl']
  have HL := hide hl'
  clear hl'
  obtain ⟨b, r, U, h, hT⟩ := h
  have hof : ofK s.L k = x := by simp [ofK, hx]
  obtain ⟨hxm, hxk⟩ := fnd_mem hx
  have hTU : ∀ c, c < 2 → ∀ j, U c j → T j := fun c hc j hj => by
    obtain rfl | rfl : c = 0 ∨ c = 1 := by omega
    · exact (hT j).2 (.inr (.inr (.inl hj)))
    · exact (hT j).2 (.inr (.inr (.inr hj)))
  have hTp : T p := (hT p).2 (.inl rfl)
  have hTb : T b := (hT b).2 (.inr (.inl rfl))
  have hTlt : ∀ j, T j → j < w.heap.size := fun j hj => Pq.lt ⟨b, r, U, h, hT⟩ hj
  have hn1 := New.alloc1 w (.cells #[.int .i64 0, .int .i64 0, .int .i64 0] 32)
  have hq1 : Pq (w.alloc (.cells #[.int .i64 0, .int .i64 0, .int .i64 0] 32)) p s T := Pq.new ⟨b, r, U, h, hT⟩ hn1
  have h1' := h.new hn1
  have hrb := blk_new w (.cells #[.int .i64 0, .int .i64 0, .int .i64 0] 32)
  have hpk : p < w.heap.size := h.lt
  have hbk : b < w.heap.size := h.map.lt
  have HX := hide hx
  have HC := hide hc
  have HO := hide hof
  have HK := hide hk
  have HXK := hide hxk
  have HU := hide hu
  have HU2 := hide hu2
  have HT := hide ht
  clear hx hc hof hxm hk hxk hu hu2 ht
  go_enter Try.func12, Try.ntmps12
  go_wp2_with fail
  refine (none_p hq1).mono ?_
  rintro e w1 ⟨rfl, e1⟩
  rw [e1] at hn1 hq1 h1' hrb
  clear e1
  go_wp2_with fail
  refine (turn_p h1' h1 h2 1 true run HT.out).mono ?_
  rintro e w2 ⟨rfl, h2', he2⟩
  have hr2 := he2.keep hrb (by omega)
  have c2 := (blk_cell h2'.blk 2).trans rfl
  have hlt2 := he2.size
  go_wp2_with fail
  refine (pop_q (x := k) (xs := rest) (by have := h2'.q 1 (by omega); dsimp only at this; rw [HU.out] at this; exact this)).mono ?_
  rintro e w3 ⟨T3, rfl, hq3, he3, hf3⟩
  have h3 := h2'.turned1 (by omega) hq3 he3 hf3
  go_wp2_with fail
  have hlt3 := he3.size
  have hU2w : ∀ c, c < 2 → ∀ j, U c j → j < w.heap.size := fun c hc j hj => hTlt j (hTU c hc j hj)
  have hr3 := he3.keep hr2 (fun e => by have := hU2w 1 (by omega) _ e; omega)
  have hU3 : ∀ c, c < 2 → ∀ j, upd U 1 T3 c j → T j ∨ w2.heap.size ≤ j := fun c hc j hj => (updFr1 hf3 c j hj).imp (hTU c hc j) id
  have E3 : Ext T w w3 := ((hn1.to).trans he2 (fun j _ e => e ▸ hTp)).trans he3 (fun j _ e => hTU 1 (by omega) j e)
  have hsz1 := hn1.size
  have hw12 : w.heap.size + 1 ≤ w1.heap.size := by have := blk_lt hrb; omega
  clear hq3 c2
  have hn4 := New.alloc1 w3 (.cells #[.int .i64 k.1, .int .i64 k.2] 30)
  have hkb := blk_new w3 (.cells #[.int .i64 k.1, .int .i64 k.2] 30)
  have h4 := h3.new hn4
  have hr4 := hn4.keep hr3
  obtain ⟨w4, hw4⟩ : ∃ w4, w4 = w3.alloc (.cells #[.int .i64 k.1, .int .i64 k.2] 30) := ⟨_, rfl⟩
  rw [← hw4] at hn4 hkb h4 hr4 ⊢
  have hlt4 := blk_lt hkb
  clear hw4
  have q0 : ∀ y : Lat (fun _ => False) w4, y.W.cell? ⟨p, 0, none⟩ = some (.map (some b)) := fun y => (blk_cell (New.keep y.ext h4.blk) 0).trans rfl
  have qk0 : ∀ y : Lat (fun _ => False) w4, y.W.cell? ⟨w3.heap.size, 0, none⟩ = some (.int .i64 k.1) := fun y => (blk_cell (New.keep y.ext hkb) 0).trans rfl
  have qk1 : ∀ y : Lat (fun _ => False) w4, y.W.cell? ⟨w3.heap.size, 1, none⟩ = some (.int .i64 k.2) := fun y => (blk_cell (New.keep y.ext hkb) 1).trans rfl
  have ql : ∀ y : Lat (fun _ => False) w4, (Instr.lookup 65 (.map (some b)) (.agg #[.int .i64 k.1, .int .i64 k.2]) false).run Try.prog y.W = .ok (.agg #[.int .i64 1, .int .i64 x.pend, .int .i64 x.iss]) y.W := fun y => by have := (h4.map.new y.ext).get HK.out; dsimp only at this; rw [HO.out, HC.out] at this; exact this
  refine mix_start (fun _ => False) w4 (by kernel_rfl) ?_
  refine mix_batch [0, 1, 2, 3, 4, 5] (by kernel_rfl) 2 _ _ _ (by kernel_rfl) (lat_mem (by (repeat (first | exact Ext.refl _ _ | assumption | apply Ext.alloc | apply Ext.drewN | apply Ext.drew | refine Ext.setCell ?_ (fun h => by first | rfl | exact absurd h (by dsimp only; omega)) _)))) ?_
  simp only [pickOps, List.getD_cons_zero, List.getD_cons_succ]
  repeat (go_big_quiet_step (fail))
  refine wpQuiet_nil ?_
  refine mix_loud (i := 6) (by kernel_rfl) rfl (fun K hK => ?_)
  go_simp
  refine hK.out _ _ (lat_mem (by (repeat (first | exact Ext.refl _ _ | assumption | apply Ext.alloc | apply Ext.drewN | apply Ext.drew | refine Ext.setCell ?_ (fun h => by first | rfl | exact absurd h (by dsimp only; omega)) _)))) ?_
  clear hK
  have hxb := blk_new w4.drew (.cells #[.int .i64 0, .int .i64 0, .int .i64 0] 75)
  have x0 := (blk_cell hxb 0).trans rfl
  have x1 := (blk_cell hxb 1).trans rfl
  have x2 := (blk_cell hxb 2).trans rfl
  have y0 := blk_free hxb 0
  have y1 := blk_free hxb 1
  have y2 := blk_free hxb 2
  refine mix_loud (i := 7) (by kernel_rfl) rfl (fun K hK => ?_)
  go_simp
  refine hK.out _ _ (lat_mem (by (repeat (first | exact Ext.refl _ _ | assumption | apply Ext.alloc | apply Ext.drewN | apply Ext.drew | refine Ext.setCell ?_ (fun h => by first | rfl | exact absurd h (by dsimp only; omega)) _)))) ?_
  clear hK
  refine wpAnyH_done (by kernel_rfl) (NoPanic.normal ?_) _
  clear q0 qk0 qk1 ql x0 x1 x2 y0 y1 y2
  have hn5 : New w4 (w4.alloc (.cells #[.int .i64 1, .int .i64 x.pend, .int .i64 x.iss] 75)).drew := by (repeat (first | exact Ext.refl _ _ | assumption | apply Ext.alloc | apply Ext.drewN | apply Ext.drew | refine Ext.setCell ?_ (fun h => by first | rfl | exact absurd h (by dsimp only; omega)) _))
  have hx5 : (w4.alloc (.cells #[.int .i64 1, .int .i64 x.pend, .int .i64 x.iss] 75)).drew.heap[w4.heap.size]? = _ := blk_new w4 (.cells #[.int .i64 1, .int .i64 x.pend, .int .i64 x.iss] 75)
  clear hxb
  have h5 := h4.new hn5
  have hr5 := hn5.keep hr4
  have hk5 := hn5.keep hkb
  generalize (w4.alloc (.cells #[.int .i64 1, .int .i64 x.pend, .int .i64 x.iss] 75)).drew = w5 at *
  have hn35 : New w3 w5 := hn4.then hn5
  have x1 := (blk_cell hx5 1).trans rfl
  have x2 := (blk_cell hx5 2).trans rfl
  have y1 := blk_free hx5 1
  have y2 := blk_free hx5 2
  go_wp2_with fail
  have hX : ∀ c, c < 2 → ∀ j, upd U 1 T3 c j → j < w3.heap.size := fun c hc j hj => (h3.q c hc).lt hj
  have hlt5 := blk_lt hx5
  have e6 : Ext (fun j => j = w4.heap.size) w5 ((w5.setCell ⟨w4.heap.size, 1, none⟩ (.int .i64 (x.pend - 1))).setCell ⟨w4.heap.size, 2, none⟩ (.int .i64 (x.iss + 1))) := ((Ext.refl _ _).set (by rfl)).set (by rfl)
  have h6 := h5.keep e6 (by omega) (by omega) (fun c hc j hj e => by have := hX c hc j hj; omega)
  have hr6 := e6.keep hr5 (by omega)
  have hk6 := e6.keep hk5 (by omega)
  have hx6 := blk_set (blk_set hx5 1 (.int .i64 (x.pend - 1))) 2 (.int .i64 (x.iss + 1))
  have E6 : Ext T w ((w5.setCell ⟨w4.heap.size, 1, none⟩ (.int .i64 (x.pend - 1))).setCell ⟨w4.heap.size, 2, none⟩ (.int .i64 (x.iss + 1))) := (E3.trans hn35.to (fun _ _ h => h)).trans e6 (fun j hj e => by omega)
  have hlt6 := e6.size
  generalize (w5.setCell ⟨w4.heap.size, 1, none⟩ (.int .i64 (x.pend - 1))).setCell ⟨w4.heap.size, 2, none⟩ (.int .i64 (x.iss + 1)) = w6 at *
  clear x1 x2 y1 y2
  have hxc : x = ⟨k, 1, x.pend, x.iss⟩ := by
    rw [← HXK.out, ← HC.out]
  have HXC := hide hxc
  clear hxc
  obtain ⟨w7, hrun, hm7, he7⟩ := (show PMap w6.drew b s.L from h6.map.new (by (repeat (first | exact Ext.refl _ _ | assumption | apply Ext.alloc | apply Ext.drewN | apply Ext.drew | refine Ext.setCell ?_ (fun h => by first | rfl | exact absurd h (by dsimp only; omega)) _)))).set ⟨k, 1, x.pend - 1, x.iss + 1⟩ (by rw [HX.out]; rfl) hl
  have q0 : ∀ y : Lat (fun j => j = b) w6, y.W.cell? ⟨p, 0, none⟩ = some (.map (some b)) := fun y => (blk_cell (y.ext.keep h6.blk h.pb) 0).trans rfl
  have qk0 : ∀ y : Lat (fun j => j = b) w6, y.W.cell? ⟨w3.heap.size, 0, none⟩ = some (.int .i64 k.1) := fun y => (blk_cell (y.ext.keep hk6 (by omega)) 0).trans rfl
  have qk1 : ∀ y : Lat (fun j => j = b) w6, y.W.cell? ⟨w3.heap.size, 1, none⟩ = some (.int .i64 k.2) := fun y => (blk_cell (y.ext.keep hk6 (by omega)) 1).trans rfl
  have qx0 : ∀ y : Lat (fun j => j = b) w6, y.W.cell? ⟨w4.heap.size, 0, none⟩ = some (.int .i64 1) := fun y => (blk_cell (y.ext.keep hx6 (by omega)) 0).trans rfl
  have qx1 : ∀ y : Lat (fun j => j = b) w6, y.W.cell? ⟨w4.heap.size, 1, none⟩ = some (.int .i64 (x.pend - 1)) := fun y => (blk_cell (y.ext.keep hx6 (by omega)) 1).trans rfl
  have qx2 : ∀ y : Lat (fun j => j = b) w6, y.W.cell? ⟨w4.heap.size, 2, none⟩ = some (.int .i64 (x.iss + 1)) := fun y => (blk_cell (y.ext.keep hx6 (by omega)) 2).trans rfl
  refine mix_start (fun j => j = b) w6 (by kernel_rfl) ?_
  refine mix_batch [0, 1, 2, 3, 4, 5] (by kernel_rfl) 1 _ _ _ (by kernel_rfl) (lat_mem (by (repeat (first | exact Ext.refl _ _ | assumption | apply Ext.alloc | apply Ext.drewN | apply Ext.drew | refine Ext.setCell ?_ (fun h => by first | rfl | exact absurd h (by dsimp only; omega)) _)))) ?_
  simp only [pickOps, List.getD_cons_zero, List.getD_cons_succ]
  repeat (go_big_quiet_step (fail))
  refine wpQuiet_nil ?_
  refine mix_loud (i := 6) (by kernel_rfl) rfl (fun K hK => ?_)
  go_simp
  have he : Ext (fun j => j = b) w6 w7 := (show New w6 w6.drew by (repeat (first | exact Ext.refl _ _ | assumption | apply Ext.alloc | apply Ext.drewN | apply Ext.drew | refine Ext.setCell ?_ (fun h => by first | rfl | exact absurd h (by dsimp only; omega)) _))).to.trans he7 (fun _ _ h => h)
  refine hK.out _ _ (lat_mem he) ?_
  clear hK q0 qk0 qk1 qx0 qx1 qx2 hrun
  refine wpAnyH_done (by kernel_rfl) (NoPanic.normal ?_) _
  have h7 : Pac w7 p { s with run := run, u := upd s.u 1 rest, L := setK s.L ⟨k, 1, x.pend - 1, x.iss + 1⟩ } b r (upd U 1 T3) := ⟨he.keep h6.blk h.pb, hm7, fun c hc => (h6.q c hc).keep he (fun j hj e => h6.db c hc (e ▸ hj)), h.pb, h6.dp, h6.db, h6.dq⟩
  have hr7 := he.keep hr6 (by omega)
  have hk7 := he.keep hk6 (by omega)
  have hx7 := he.keep hx6 (by omega)
  have E7 := E6.trans he (fun j _ e => e ▸ hTb)
  have hlt7 := he.size
  obtain ⟨h8, he8⟩ := h7.totald (w' := w7) (s.total + 1)
  have hr8 := he8.keep hr7 (by omega)
  have hk8 := he8.keep hk7 (by omega)
  have hx8 := he8.keep hx7 (by omega)
  have E8 := E7.trans he8 (fun j _ e => e ▸ hTp)
  have hlt8 := he8.size
  have c5 := (blk_cell h7.blk 5).trans rfl
  have f5 := blk_free h7.blk 5
  clear h1' h2' h3 h4 h5 h6 h7 hm7
  have x1 := (blk_cell hx7 1).trans rfl
  go_upto_if 59 with (fail)
  clear c5 f5 x1
  generalize w7.setCell ⟨p, 5, none⟩ (.int .i64 (s.total + 1)) = w8 at *
  by_cases hpp : 1 < x.pend
  · have z1 : decide (0 < x.pend - 1) = true := decide_eq_true (by omega)
    have hL := HL.out
    rw [if_pos hpp] at hL
    have HL1 := hide hL
    clear hL
    have hxU : ∀ j, upd U 1 T3 1 j → j < w3.heap.size := hX 1 (by omega)
    have qp : ∀ y : Lat (upd U 1 T3 1) w8, y.W.cell? ⟨p, 2, none⟩ = some (.pointer (some ⟨r 1, 0, none⟩)) := fun y => (blk_cell (y.ext.keep h8.blk (h8.dp 1 (by omega))) 2).trans rfl
    have qk0 : ∀ y : Lat (upd U 1 T3 1) w8, y.W.cell? ⟨w3.heap.size, 0, none⟩ = some (.int .i64 k.1) := fun y => (blk_cell (y.ext.keep hk8 (fun e => absurd (hxU _ e) (by omega))) 0).trans rfl
    have qk1 : ∀ y : Lat (upd U 1 T3 1) w8, y.W.cell? ⟨w3.heap.size, 1, none⟩ = some (.int .i64 k.2) := fun y => (blk_cell (y.ext.keep hk8 (fun e => absurd (hxU _ e) (by omega))) 1).trans rfl
    go_wp2_with fail
    refine mix_start (upd U 1 T3 1) w8 (by kernel_rfl) ?_
    refine mix_batch [0, 1, 2, 3, 4, 5, 6] (by kernel_rfl) 2 _ _ _ (by kernel_rfl) (lat_mem (by (repeat (first | exact Ext.refl _ _ | assumption | apply Ext.alloc | apply Ext.drewN | apply Ext.drew | refine Ext.setCell ?_ (fun h => by first | rfl | exact absurd h (by dsimp only; omega)) _)))) ?_
    simp only [pickOps, List.getD_cons_zero, List.getD_cons_succ]
    repeat (go_big_quiet_step (fail))
    refine wpQuiet_nil ?_
    refine mix_loud (i := 7) (by kernel_rfl) rfl (fun K hK => ?_)
    go_simp
    refine hK.out _ _ (lat_mem (by (repeat (first | exact Ext.refl _ _ | assumption | apply Ext.alloc | apply Ext.drewN | apply Ext.drew | refine Ext.setCell ?_ (fun h => by first | rfl | exact absurd h (by dsimp only; omega)) _)))) ?_
    clear hK
    have hn9 : New w8 (w8.drew.alloc (.cells #[.int .i64 k.1, .int .i64 k.2] 30)) := by (repeat (first | exact Ext.refl _ _ | assumption | apply Ext.alloc | apply Ext.drewN | apply Ext.drew | refine Ext.setCell ?_ (fun h => by first | rfl | exact absurd h (by dsimp only; omega)) _))
    have hrb : Rd (w8.drew.alloc (.cells #[.int .i64 k.1, .int .i64 k.2] 30)) 2 (some ⟨w8.heap.size, 0, none⟩) 1 1 (kcs [k]) := rd_lit w8.drew 30 2 1 #[.int .i64 k.1, .int .i64 k.2] (by omega) rfl (by simp [Value.oneCell'])
    refine mix_loud (i := 8) (by kernel_rfl) rfl (fun K hK => ?_)
    go_simp
    have hq8 := h8.q 1 (by omega)
    have hul : rest.length + 1 ≤ 512 := by have := HU2.out; rw [HU.out] at this; simpa using this
    refine (push_q (xs := rest) ((show RQ w8 (r 1) (upd U 1 T3 1) rest by have := hq8; dsimp only at this; rwa [upd_same] at this).keep hn9 (fun _ _ h => h)) _ 1 1 [k] hrb (by simpa using hul)).mono ?_
    rintro e w9 ⟨T9, rfl, hq9, he9, hf9⟩
    have he : Ext (upd U 1 T3 1) w8 w9 := hn9.to.trans he9 (fun _ _ h => h)
    have hsz9 : w8.heap.size ≤ (w8.drew.alloc (.cells #[.int .i64 k.1, .int .i64 k.2] 30)).heap.size := hn9.size
    have hf10 : ∀ j, T9 j → upd U 1 T3 1 j ∨ w8.heap.size ≤ j := fun j hj => (hf9 j hj).imp id (fun e => by omega)
    refine hK.out _ _ (lat_mem he) ?_
    clear hK qp qk0 qk1
    refine wpAnyH_done (by kernel_rfl) (NoPanic.normal ?_) _
    have h9 := h8.turned1 (by omega) hq9 he hf10
    dsimp only at h9
    rw [show upd (upd s.u 1 rest) 1 (rest ++ [k]) = upd s.u 1 (rest ++ [k]) from by funext d; unfold upd; split <;> rfl] at h9
    have hlt9 := he.size
    have E9 : Ext T w w9 := E8.trans he (fun j hj e => (hU3 1 (by omega) j e).elim id (fun e => by omega))
    have hU9 : ∀ c, c < 2 → ∀ j, upd (upd U 1 T3) 1 T9 c j → T j ∨ w2.heap.size ≤ j := fun c hc j hj => (updFr1 hf10 c j hj).elim (fun e => hU3 c hc j e) (fun e => .inr (by omega))
    have hr9 := he.keep hr8 (fun e => absurd (hU3 1 (by omega) _ e) (fun e => e.elim (fun e => by have := hTlt _ e; omega) (fun e => by omega)))
    have hk9 := he.keep hk8 (fun e => absurd (hxU _ e) (by omega))
    have hx9 := he.keep hx8 (fun e => absurd (hxU _ e) (by omega))
    have a0 := (blk_cell hr9 0).trans rfl
    have a1 := (blk_cell hr9 1).trans rfl
    have a2 := (blk_cell hr9 2).trans rfl
    have b0 := blk_free hr9 0
    have b1 := blk_free hr9 1
    have b2 := blk_free hr9 2
    have k0 := (blk_cell hk9 0).trans rfl
    have k1 := (blk_cell hk9 1).trans rfl
    have x2 := (blk_cell hx9 2).trans rfl
    go_wp2_with fail
    have e10 : Ext (fun j => j = w.heap.size) w9 (((w9.setCell ⟨w.heap.size, 0, none⟩ (.int .i64 k.1)).setCell ⟨w.heap.size, 1, none⟩ (.int .i64 k.2)).setCell ⟨w.heap.size, 2, none⟩ (.int .i64 (x.iss + 1))) := (((Ext.refl _ _).set (by rfl)).set (by rfl)).set (by rfl)
    have hb10 := blk_set (blk_set (blk_set hr9 0 (.int .i64 k.1)) 1 (.int .i64 k.2)) 2 (.int .i64 (x.iss + 1))
    have g0 := (blk_cell hb10 0).trans rfl
    have g1 := (blk_cell hb10 1).trans rfl
    have g2 := (blk_cell hb10 2).trans rfl
    have hnU : ∀ c, c < 2 → ∀ j, (upd (upd U 1 T3) 1 T9) c j → j ≠ w.heap.size := fun c hc j hj e => (hU9 c hc j hj).elim (fun a => by have := hTlt j a; omega) (fun a => by omega)
    have h10 := h9.keep e10 (by omega) (by omega) (fun c hc j hj e => hnU c hc j hj e)
    refine bodyPost_ret (v := .tuple #[.agg #[.int .i64 k.1, .int .i64 k.2, .int .i64 (x.iss + 1)], .bool true]) (by simp [results, Try.results12, go_sem, g0, g1, g2]) rfl ?_
    have hxe : ({ x with pend := x.pend - 1, iss := x.iss + 1 } : Kn) = ⟨k, 1, x.pend - 1, x.iss + 1⟩ := by rw [HXC.out]
    rw [hxe, HL1.out]
    refine ⟨rfl, fun j => j = p ∨ j = b ∨ (upd (upd U 1 T3) 1 T9) 0 j ∨ (upd (upd U 1 T3) 1 T9) 1 j, ⟨b, r, (upd (upd U 1 T3) 1 T9), h10, fun j => Iff.rfl⟩, E9.trans e10 (fun j hj e => by omega), ?_⟩
    rintro j (rfl | rfl | hj | hj)
    · exact .inl hTp
    · exact .inl hTb
    · exact (hU9 0 (by omega) j hj).imp id (fun e => by omega)
    · exact (hU9 1 (by omega) j hj).imp id (fun e => by omega)
  · have z1 : decide (0 < x.pend - 1) = false := decide_eq_false (by omega)
    have hL := HL.out
    rw [if_neg hpp] at hL
    have HL1 := hide hL
    clear hL
    have E9 := E8
    have hU9 := hU3
    have hr9 := hr8
    have hk9 := hk8
    have hx9 := hx8
    have a0 := (blk_cell hr9 0).trans rfl
    have a1 := (blk_cell hr9 1).trans rfl
    have a2 := (blk_cell hr9 2).trans rfl
    have b0 := blk_free hr9 0
    have b1 := blk_free hr9 1
    have b2 := blk_free hr9 2
    have k0 := (blk_cell hk9 0).trans rfl
    have k1 := (blk_cell hk9 1).trans rfl
    have x2 := (blk_cell hx9 2).trans rfl
    have z2 : decide (1 < x.pend) = false := decide_eq_false hpp
    go_wp2_with fail
    have e10 : Ext (fun j => j = w.heap.size) w8 (((w8.setCell ⟨w.heap.size, 0, none⟩ (.int .i64 k.1)).setCell ⟨w.heap.size, 1, none⟩ (.int .i64 k.2)).setCell ⟨w.heap.size, 2, none⟩ (.int .i64 (x.iss + 1))) := (((Ext.refl _ _).set (by rfl)).set (by rfl)).set (by rfl)
    have hb10 := blk_set (blk_set (blk_set hr9 0 (.int .i64 k.1)) 1 (.int .i64 k.2)) 2 (.int .i64 (x.iss + 1))
    have g0 := (blk_cell hb10 0).trans rfl
    have g1 := (blk_cell hb10 1).trans rfl
    have g2 := (blk_cell hb10 2).trans rfl
    have hnU : ∀ c, c < 2 → ∀ j, (upd U 1 T3) c j → j ≠ w.heap.size := fun c hc j hj e => (hU9 c hc j hj).elim (fun a => by have := hTlt j a; omega) (fun a => by omega)
    have h10 := h8.keep e10 (by omega) (by omega) (fun c hc j hj e => hnU c hc j hj e)
    refine bodyPost_ret (v := .tuple #[.agg #[.int .i64 k.1, .int .i64 k.2, .int .i64 (x.iss + 1)], .bool true]) (by simp [results, Try.results12, go_sem, g0, g1, g2]) rfl ?_
    have hxe : ({ x with pend := x.pend - 1, iss := x.iss + 1 } : Kn) = ⟨k, 1, x.pend - 1, x.iss + 1⟩ := by rw [HXC.out]
    rw [hxe, HL1.out]
    refine ⟨rfl, fun j => j = p ∨ j = b ∨ (upd U 1 T3) 0 j ∨ (upd U 1 T3) 1 j, ⟨b, r, (upd U 1 T3), h10, fun j => Iff.rfl⟩, E9.trans e10 (fun j hj e => by omega), ?_⟩
    rintro j (rfl | rfl | hj | hj)
    · exact .inl hTp
    · exact .inl hTb
    · exact (hU9 0 (by omega) j hj).imp id (fun e => by omega)
    · exact (hU9 1 (by omega) j hj).imp id (fun e => by omega)
end Go.Proofs.Ytmonhhodbinagaa
