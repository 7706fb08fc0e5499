/- Walks: the document's Of. -/
import Derived.Test.YtconaojkonjheaaT14x
import Derived.Test.YtconaojkonjheaaT14l
namespace Go.Proofs.Ytconaojkonjheaa
open Go.RowKit Go.Maps
set_option maxRecDepth 100000

/-- Block q is a report. -/
def RBk (w : World) (q : Nat) (came rep reo ext late held : Int) : Prop := w.heap[q]? = some (.cells #[.int .i64 came, .int .i64 rep, .int .i64 reo, .int .i64 ext, .int .i64 late, .int .i64 held] 29)
theorem RP_take (l : List Int) (k : Nat) (x : Int) (hx : l[k]? = some x) : RP (l.take (k + 1)) = ⟨(RP (l.take k)).came + 1, if x ∈ l.take k then (RP (l.take k)).rep + 1 else (RP (l.take k)).rep, if 0 < extF (l.take k) x then (RP (l.take k)).reo + 1 else (RP (l.take k)).reo, mx (RP (l.take k)).ext (extF (l.take k) x), mx (RP (l.take k)).late (lateF (l.take k) x), mx (RP (l.take k)).held (heldF (l.take (k + 1)))⟩ := by
  have := RP_snoc (l.take k) x
  rwa [← take_snoc l k x hx] at this
set_option maxHeartbeats 4000000 in
theorem rof_any (A : Option Addr) (n c : Nat) (l : List Int) (w : World) (h : Rd w 1 A n c (vsi l)) :
    Calls Try.prog 11 #[.slice A n c] w fun e w' => e = .returned (.tuple #[rpV (if mayL l then RP l else ⟨0, 0, 0, 0, 0, 0⟩), .int .i64 (errL l)]) ∧ New w w' := by
  have hlen := h.leni
  by_cases hm : mayL l
  · rw [if_pos hm, errL_yes hm]
    have HM := hide hm
    have he0 := hide (errL_yes hm)
    have HL := hide hlen
    have hn4 : n ≤ 4096 := by have := hm.1; omega
    have hcap := h.cap
    clear hm hlen
    go_enter Try.func11, Try.ntmps11
    go_wp2_with fail
    refine (rcheck_any A n c l _ (h.new (New.alloc1 _ _))).mono ?_
    rintro e w1 ⟨rfl, rfl⟩
    rw [he0.out]
    obtain ⟨w0, hw0, hb0, hb1, hn0, hs0⟩ := two_new w #[.int .i64 0, .int .i64 0, .int .i64 0, .int .i64 0, .int .i64 0, .int .i64 0] #[.int .i64 n, .int .i64 0, .int .i64 0, .int .i64 0, .int .i64 0, .int .i64 0] 29 29
    go_wp2_with fail
    rw [← hw0]
    clear hw0
    obtain ⟨q, hq⟩ : ∃ q, q = w.heap.size + 1 := ⟨_, rfl⟩
    rw [← hq] at hb1 ⊢
    have hq1 : w.heap.size ≤ q := by omega
    have hq2 : w.heap.size ≠ q := by omega
    have hq3 : q ≠ w.heap.size := by omega
    have HQ := hide hq
    clear hq
    go_loopw [6] (fun s wr => Ext (fun k => k = q) w0 wr ∧ ∃ k : Nat, k ≤ n ∧ s = .int .i64 (k : Nat) ∧ RBk wr q n (RP (l.take k)).rep (RP (l.take k)).reo (RP (l.take k)).ext (RP (l.take k)).late (RP (l.take k)).held) (fun s _ => n - (intOf s).toNat)
    case atStart => exact ⟨Ext.refl _ _, 0, Nat.zero_le _, rfl, hb1⟩
    case round =>
      obtain ⟨hew, k, hk, rfl, hbr⟩ := hrel
      have hnw : New w wr := hn0.trans hew (fun k hk e => by omega)
      by_cases hkn : k < n
      · have d1 : decide ((k : Int) < n) = true := decide_eq_true (by omega)
        have d2 : decide (k < n) = true := decide_eq_true (by omega)
        have hkn2 : (k : Int) < n := by omega
        obtain ⟨x, hx⟩ : ∃ x, l[k]? = some x := ⟨_, List.getElem?_eq_getElem (by have := HL.out; omega)⟩
        have hrp := RP_take l k x hx
        have hbd := RP_bounds (l.take k)
        have hlt : (l.take k).length = k := by rw [List.length_take]; have := HL.out; omega
        rw [hlt] at hbd
        obtain ⟨_, b1, b2, b3, b4, _⟩ := hbd
        have HRP := hide hrp
        have HX := hide hx
        clear hx hrp hlt
        obtain ⟨R, hR⟩ : ∃ R, R = RP (l.take k) := ⟨_, rfl⟩
        rw [← hR] at hbr b1 b2 b3 b4
        have HR := hide hR
        clear hR
        obtain ⟨X, hX⟩ : ∃ X, X = extF (l.take k) x := ⟨_, rfl⟩
        have HXX := hide hX
        go_wp2_with fail
        refine (rextent_any A n c l k x _ (h.new hnw) HX.out hn4).mono ?_
        rintro e w2 ⟨rfl, hn2⟩
        rw [← hX]
        clear hX
        have hbr2 := hn2.keep hbr
        have hnw2 := hnw.then hn2
        have hew2 := hew.trans hn2.to (fun _ _ h => h)
        obtain ⟨rep, hrep⟩ : ∃ r, r = if x ∈ l.take k then R.rep + 1 else R.rep := ⟨_, rfl⟩
        obtain ⟨reo, hreo⟩ : ∃ r, r = if 0 < X then R.reo + 1 else R.reo := ⟨_, rfl⟩
        have HREP := hide hrep
        have HREO := hide hreo
        clear hrep hreo
        obtain ⟨D, hD⟩ : ∃ D, D = decide (x ∈ l.take k) := ⟨_, rfl⟩
        have HDD := hide hD
        clear hD
        have s1 := run_cut_h (P := Try.prog) 22 3 1 Try.underlying22 size_i A n c k k rfl (by omega) .i64
        obtain ⟨ad, rfl⟩ := h.some (by omega)
        have hcx : ∀ u, (w2.drewN u).cell? (ad.add k) = some (.int .i64 x) := fun u => (h.new (hnw2.then (new_draw w2 u))).celli HX.out
        have hrin : ∀ u, Calls Try.prog 35 #[.slice (some ad) k c, .int .i64 x] (w2.drewN u) fun e w' => e = .returned (.bool D) ∧ w2.drewN u = w' := fun u => by
          rw [HDD.out]
          exact rin_any (some ad) k c (l.take k) x _ ((h.takei k (by omega)).new (hnw2.then (new_draw w2 u)))
        go_upto_if 33 with (fail)
        go_quiet ((go_at_call 35; exact quiet_same (hrin _)))
        have hbr3 := (new_draw w2 nq).keep hbr2
        have hew3 := hew2.trans (new_draw w2 nq).to (fun _ _ h => h)
        clear hbr2 hbr hew hew2 hnw hnw2 hn2 hcx hrin
        generalize w2.drewN nq = w3 at *
        go_upto_if 33 with (fail)
        go_cut [] (fun wc => Ext (fun k => k = q) w0 wc ∧ RBk wc q n rep R.reo R.ext R.late R.held)
        case first =>
          have q1 := (blk_cell hbr3 1).trans rfl
          have qf := blk_free hbr3 1
          cases D with
          | true =>
            go_wp2_with fail
            go_meet
            have hr2 : rep = R.rep + 1 := by rw [HREP.out, if_pos (of_decide_eq_true HDD.out.symm)]
            rw [hr2]
            exact ⟨hew3.set (by rfl), blk_set hbr3 1 (.int .i64 (R.rep + 1))⟩
          | false =>
            go_wp2_with fail
            go_meet
            have hr2 : rep = R.rep := by rw [HREP.out, if_neg (of_decide_eq_false HDD.out.symm)]
            rw [hr2]
            exact ⟨hew3, hbr3⟩
        case rest =>
          clear hbr3 hew3
          obtain ⟨hew3, hbr3⟩ := hcut
          go_upto_if 39 with (fail)
          go_cut [] (fun wc => Ext (fun k => k = q) w0 wc ∧ RBk wc q n rep reo R.ext R.late R.held)
          case first =>
            have q1 := (blk_cell hbr3 2).trans rfl
            have qf := blk_free hbr3 2
            by_cases hX0 : 0 < X
            · have d3 : decide (0 < X) = true := decide_eq_true hX0
              go_wp2_with fail
              go_meet
              have hr2 : reo = R.reo + 1 := by rw [HREO.out, if_pos (by omega)]
              rw [hr2]
              exact ⟨hew3.set (by rfl), blk_set hbr3 2 (.int .i64 (R.reo + 1))⟩
            · have d3 : decide (0 < X) = false := decide_eq_false hX0
              go_wp2_with fail
              go_meet
              have hr2 : reo = R.reo := by rw [HREO.out, if_neg (by omega)]
              rw [hr2]
              exact ⟨hew3, hbr3⟩
          case rest =>
            clear hbr3 hew3
            obtain ⟨hew4, hbr4⟩ := hcut
            have q3 := (blk_cell hbr4 3).trans rfl
            have qf3 := blk_free hbr4 3
            have hm1 : (if R.ext < X then X else R.ext) = mx R.ext X := rfl
            go_wp2_with fail
            have hew5 : Ext (fun k => k = q) w0 (wc.setCell ⟨q, 3, none⟩ (.int .i64 (mx R.ext X))) := hew4.set (by rfl)
            have hbr5 := blk_set hbr4 3 (.int .i64 (mx R.ext X))
            clear q3 qf3 hbr4 hew4 hm1
            generalize wc.setCell ⟨q, 3, none⟩ (.int .i64 (mx R.ext X)) = w5 at *
            have hnw5 : New w w5 := hn0.trans hew5 (fun k hk e => by omega)
            have q4 : ∀ y : Lat (fun _ => False) w5, y.W.cell? ⟨q, 4, none⟩ = some (.int .i64 R.late) := fun y => (blk_cell (New.keep y.ext hbr5) 4).trans rfl
            obtain ⟨Y, hY⟩ : ∃ Y, Y = lateF (l.take k) x := ⟨_, rfl⟩
            have HYY := hide hY
            have hm1 : (if R.late < Y then Y else R.late) = mx R.late Y := rfl
            refine mixU_start 7 (fun _ => False) w5 (by kernel_rfl) ?_
            refine mixU_batch [0, 1, 2, 3] (by kernel_rfl) 4 _ _ _ (by kernel_rfl) (lat_mem (by (repeat (first | exact Ext.refl _ _ | assumption | apply Ext.alloc | apply Ext.drewN | apply Ext.drew | refine Ext.setCell ?_ (fun h => by first | rfl | exact absurd h (by dsimp only; omega)) _)))) ?_
            simp only [pickOps, List.getD_cons_zero, List.getD_cons_succ]
            repeat (go_big_quiet_step (fail))
            refine wpQuiet_nil ?_
            refine mixU_loud (i := 4) (by kernel_rfl) rfl (fun K hK => ?_)
            go_simp
            have h5d : New w5 w5.drew := by (repeat (first | exact Ext.refl _ _ | assumption | apply Ext.alloc | apply Ext.drewN | apply Ext.drew | refine Ext.setCell ?_ (fun h => by first | rfl | exact absurd h (by dsimp only; omega)) _))
            refine (rlate_any (some ad) n c l k x _ (h.new (hnw5.then h5d)) HX.out hn4 HM.out.2).mono ?_
            rintro e w6 ⟨rfl, hn6⟩
            rw [← hY]
            clear hY
            have h56 := h5d.then hn6
            refine hK.out _ _ (lat_mem (by (repeat (first | exact Ext.refl _ _ | assumption | apply Ext.alloc | apply Ext.drewN | apply Ext.drew | refine Ext.setCell ?_ (fun h => by first | rfl | exact absurd h (by dsimp only; omega)) _)))) ?_
            clear hK
            refine mixU_batch [5, 6] (by kernel_rfl) 1 _ _ _ (by kernel_rfl) (lat_mem (by (repeat (first | exact Ext.refl _ _ | assumption | apply Ext.alloc | apply Ext.drewN | apply Ext.drew | refine Ext.setCell ?_ (fun h => by first | rfl | exact absurd h (by dsimp only; omega)) _)))) ?_
            simp only [pickOps, List.getD_cons_zero, List.getD_cons_succ]
            repeat (go_big_quiet_step (fail))
            refine wpQuiet_nil ?_
            have hbr6 := h56.keep hbr5
            have j4 := (blk_cell hbr6 4).trans rfl
            have jf4 := blk_free hbr6 4
            refine mixU_last (by kernel_rfl) (by kernel_rfl) rfl (fun K hK => ?_)
            go_simp
            refine hK.out _ _ (mixU_after (S' := fun W => ∃ x : Lat (fun k => k = q) w6, W = x.W) _ _ _ _ (by kernel_rfl) ?_)
            clear hK
            refine wpAnyH_done (by kernel_rfl) (NoPanic.normal ?_) _
            clear q4 j4 jf4 hm1
            have hew7 : Ext (fun k => k = q) w0 (w6.setCell ⟨q, 4, none⟩ (.int .i64 (mx R.late Y))) := (hew5.trans h56.to (fun _ _ h => h)).set (by rfl)
            have hbr7 := blk_set hbr6 4 (.int .i64 (mx R.late Y))
            clear hbr6 hbr5 hew5 hnw5 h56 h5d hn6
            go_wp2_with fail
            generalize w6.setCell ⟨q, 4, none⟩ (.int .i64 (mx R.late Y)) = w7 at *
            have hnw7 : New w w7 := hn0.trans hew7 (fun k hk e => by omega)
            have q5 : ∀ y : Lat (fun _ => False) w7, y.W.cell? ⟨q, 5, none⟩ = some (.int .i64 R.held) := fun y => (blk_cell (New.keep y.ext hbr7) 5).trans rfl
            have s2 := run_cut_h (P := Try.prog) 22 3 1 Try.underlying22 size_i (some ad) n c ((k : Int) + 1) (k + 1) (by omega) (by omega) .i64
            obtain ⟨Z, hZ⟩ : ∃ Z, Z = heldF (l.take (k + 1)) := ⟨_, rfl⟩
            have HZZ := hide hZ
            have hm1 : (if R.held < Z then Z else R.held) = mx R.held Z := rfl
            refine mixU_start 9 (fun _ => False) w7 (by kernel_rfl) ?_
            refine mixU_batch [0, 1, 2, 3, 4, 5] (by kernel_rfl) 4 _ _ _ (by kernel_rfl) (lat_mem (by (repeat (first | exact Ext.refl _ _ | assumption | apply Ext.alloc | apply Ext.drewN | apply Ext.drew | refine Ext.setCell ?_ (fun h => by first | rfl | exact absurd h (by dsimp only; omega)) _)))) ?_
            simp only [pickOps, List.getD_cons_zero, List.getD_cons_succ]
            repeat (go_big_quiet_step (fail))
            refine wpQuiet_nil ?_
            refine mixU_loud (i := 6) (by kernel_rfl) rfl (fun K hK => ?_)
            go_simp
            have h7d : New w7 w7.drew := by (repeat (first | exact Ext.refl _ _ | assumption | apply Ext.alloc | apply Ext.drewN | apply Ext.drew | refine Ext.setCell ?_ (fun h => by first | rfl | exact absurd h (by dsimp only; omega)) _))
            refine (rheld_any (some ad) (k + 1) c (l.take (k + 1)) _ ((h.takei (k + 1) (by omega)).new (hnw7.then h7d)) (by omega) (fun y hy => HM.out.2 y (List.mem_of_mem_take hy))).mono ?_
            rintro e w8 ⟨rfl, hn8⟩
            rw [← hZ]
            clear hZ
            have h78 := h7d.then hn8
            refine hK.out _ _ (lat_mem (by (repeat (first | exact Ext.refl _ _ | assumption | apply Ext.alloc | apply Ext.drewN | apply Ext.drew | refine Ext.setCell ?_ (fun h => by first | rfl | exact absurd h (by dsimp only; omega)) _)))) ?_
            clear hK
            refine mixU_batch [7, 8] (by kernel_rfl) 1 _ _ _ (by kernel_rfl) (lat_mem (by (repeat (first | exact Ext.refl _ _ | assumption | apply Ext.alloc | apply Ext.drewN | apply Ext.drew | refine Ext.setCell ?_ (fun h => by first | rfl | exact absurd h (by dsimp only; omega)) _)))) ?_
            simp only [pickOps, List.getD_cons_zero, List.getD_cons_succ]
            repeat (go_big_quiet_step (fail))
            refine wpQuiet_nil ?_
            have hbr8 := h78.keep hbr7
            have j5 := (blk_cell hbr8 5).trans rfl
            have jf5 := blk_free hbr8 5
            refine mixU_last (by kernel_rfl) (by kernel_rfl) rfl (fun K hK => ?_)
            go_simp
            refine hK.out _ _ (mixU_after (S' := fun W => ∃ x : Lat (fun k => k = q) w8, W = x.W) _ _ _ _ (by kernel_rfl) ?_)
            clear hK
            refine wpAnyH_done (by kernel_rfl) (NoPanic.normal ?_) _
            clear q5 j5 jf5 hm1 s2
            have hew9 : Ext (fun k => k = q) w0 (w8.setCell ⟨q, 5, none⟩ (.int .i64 (mx R.held Z))) := (hew7.trans h78.to (fun _ _ h => h)).set (by rfl)
            have hbr9 := blk_set hbr8 5 (.int .i64 (mx R.held Z))
            clear hbr8 hbr7 hew7 hnw7 h78 h7d hn8
            go_wp2_with fail
            refine ⟨⟨hew9, k + 1, by omega, by go_num, ?_⟩, by simp [intOf]; omega⟩
            rw [HRP.out, ← HR.out, ← HXX.out, ← HYY.out, ← HZZ.out]
            show RBk _ q n (if x ∈ l.take k then R.rep + 1 else R.rep) (if 0 < X then R.reo + 1 else R.reo) (mx R.ext X) (mx R.late Y) (mx R.held Z)
            rw [← HREP.out, ← HREO.out]
            exact hbr9
      · have d1 : decide ((k : Int) < n) = false := decide_eq_false (by omega)
        have d2 : decide (k < n) = false := decide_eq_false (by omega)
        have hfin : l.take k = l := List.take_of_length_le (by have := HL.out; omega)
        rw [hfin] at hbr
        clear hfin
        have hbr0 := hew.keep hb0 (by omega)
        have c0 := (blk_cell hbr 0).trans rfl
        have c1 := (blk_cell hbr 1).trans rfl
        have c2 := (blk_cell hbr 2).trans rfl
        have c3 := (blk_cell hbr 3).trans rfl
        have c4 := (blk_cell hbr 4).trans rfl
        have c5 := (blk_cell hbr 5).trans rfl
        have r0 := (blk_cell hbr0 0).trans rfl
        have r1 := (blk_cell hbr0 1).trans rfl
        have r2 := (blk_cell hbr0 2).trans rfl
        have r3 := (blk_cell hbr0 3).trans rfl
        have r4 := (blk_cell hbr0 4).trans rfl
        have r5 := (blk_cell hbr0 5).trans rfl
        have f0 := blk_free hbr0 0
        have f1 := blk_free hbr0 1
        have f2 := blk_free hbr0 2
        have f3 := blk_free hbr0 3
        have f4 := blk_free hbr0 4
        have f5 := blk_free hbr0 5
        go_wp2_with fail
        have hb6 := blk_set (blk_set (blk_set (blk_set (blk_set (blk_set hbr0 0 (.int .i64 n)) 1 (.int .i64 (RP l).rep)) 2 (.int .i64 (RP l).reo)) 3 (.int .i64 (RP l).ext)) 4 (.int .i64 (RP l).late)) 5 (.int .i64 (RP l).held)
        have g0 := (blk_cell hb6 0).trans rfl
        have g1 := (blk_cell hb6 1).trans rfl
        have g2 := (blk_cell hb6 2).trans rfl
        have g3 := (blk_cell hb6 3).trans rfl
        have g4 := (blk_cell hb6 4).trans rfl
        have g5 := (blk_cell hb6 5).trans rfl
        have e6 : Ext (fun k => w.heap.size ≤ k) wr ((((((wr.setCell ⟨w.heap.size, 0, none⟩ (.int .i64 n)).setCell ⟨w.heap.size, 1, none⟩ (.int .i64 (RP l).rep)).setCell ⟨w.heap.size, 2, none⟩ (.int .i64 (RP l).reo)).setCell ⟨w.heap.size, 3, none⟩ (.int .i64 (RP l).ext)).setCell ⟨w.heap.size, 4, none⟩ (.int .i64 (RP l).late)).setCell ⟨w.heap.size, 5, none⟩ (.int .i64 (RP l).held)) :=
          ((((((Ext.refl _ wr).set (Nat.le_refl _)).set (Nat.le_refl _)).set (Nat.le_refl _)).set (Nat.le_refl _)).set (Nat.le_refl _)).set (Nat.le_refl _)
        have hcame : (RP l).came = n := by rw [(RP_bounds l).1, HL.out]
        have HCA := hide hcame
        clear hcame
        refine bodyPost_ret (v := .tuple #[.agg #[.int .i64 n, .int .i64 (RP l).rep, .int .i64 (RP l).reo, .int .i64 (RP l).ext, .int .i64 (RP l).late, .int .i64 (RP l).held], .int .i64 0]) (by simp [results, Try.results11, go_sem, g0, g1, g2, g3, g4, g5]) rfl ⟨?_, hnw.trans e6 (fun k hk h => by omega)⟩
        unfold rpV
        rw [HCA.out]
  · rw [if_neg hm]
    have hz : (errL l == 0) = false := by rcases errL_no hm with e | e <;> rw [e] <;> rfl
    clear hm
    go_enter Try.func11, Try.ntmps11
    go_wp2_with fail
    refine (rcheck_any A n c l _ (h.new (New.alloc1 _ _))).mono ?_
    rintro e w1 ⟨rfl, rfl⟩
    go_wp2_with fail
    refine bodyPost_ret (v := .tuple #[rpV ⟨0, 0, 0, 0, 0, 0⟩, .int .i64 (errL l)]) (by simp [results, Try.results11, go_sem, rpV]) rfl ⟨rfl, by (repeat (first | exact Ext.refl _ _ | assumption | apply Ext.alloc | apply Ext.drewN | apply Ext.drew | refine Ext.setCell ?_ (fun h => by first | rfl | exact absurd h (by dsimp only; omega)) _))⟩
end Go.Proofs.Ytconaojkonjheaa
