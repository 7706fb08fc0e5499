/- Walks: another pacer like one. -/
import Derived.Test.YtmonhhodbinagaaK28
import Derived.Test.YtmonhhodbinagaaK27a
import Derived.Test.YtmonhhodbinagaaK27b
namespace Go.Proofs.Ytmonhhodbinagaa
open Go.RowKit Go.Maps
set_option maxRecDepth 100000

theorem knR_form {v : Value} {y : DataW Unit × List MemPlace} (h : knR v = some y) : ∃ x : Kn, v = knV x ∧ y = (knD x, []) := by
  unfold knR at h
  split at h
  · next a b c =>
    simp only [Option.some.injEq] at h
    exact ⟨⟨(0, 0), a, b, c⟩, rfl, h.symm⟩
  · cases h
/-- How far Fork is: block X with its map b and its rings. -/
structure Fk (w wr : World) (X b : Nat) (s : PS) (v1 v2 : Value) : Prop where
  x : wr.heap[X]? = some (.cells #[.map (some b), v1, v2, .int .i64 s.most, .int .i64 s.run, .int .i64 s.total] 69)
  n : New w wr
  lo : w.heap.size ≤ X
  lob : w.heap.size ≤ b
  ne : X ≠ b
theorem Fk.nx {w wr wr' : World} {X b : Nat} {s : PS} {v1 v2 : Value} (h : Fk w wr X b s v1 v2) (he : New wr wr') : Fk w wr' X b s v1 v2 := ⟨he.keep h.x, h.n.then he, h.lo, h.lob, h.ne⟩
theorem Fk.keep {S : Nat → Prop} {w wr wr' : World} {X b : Nat} {s : PS} {v1 v2 : Value} (h : Fk w wr X b s v1 v2) (he : Ext S wr wr') (hX : ¬ S X) (hS : ∀ k, S k → w.heap.size ≤ k) : Fk w wr' X b s v1 v2 := ⟨he.keep h.x hX, h.n.trans he (fun k hk e => by have := hS k e; omega), h.lo, h.lob, h.ne⟩
theorem Fk.st1 {w wr : World} {X b : Nat} {s : PS} {v1 v2 : Value} (h : Fk w wr X b s v1 v2) (v : Value) : Fk w (wr.setCell ⟨X, 1, none⟩ v) X b s v v2 ∧ Ext (fun k => k = X) wr (wr.setCell ⟨X, 1, none⟩ v) := by
  have hs : Ext (fun k => k = X) wr (wr.setCell ⟨X, 1, none⟩ v) := (Ext.refl _ _).set (by rfl)
  exact ⟨⟨blk_set h.x 1 v, h.n.trans hs (fun k hk e => by have := h.lo; omega), h.lo, h.lob, h.ne⟩, hs⟩
theorem Fk.st2 {w wr : World} {X b : Nat} {s : PS} {v1 v2 : Value} (h : Fk w wr X b s v1 v2) (v : Value) : Fk w (wr.setCell ⟨X, 2, none⟩ v) X b s v1 v ∧ Ext (fun k => k = X) wr (wr.setCell ⟨X, 2, none⟩ v) := by
  have hs : Ext (fun k => k = X) wr (wr.setCell ⟨X, 2, none⟩ v) := (Ext.refl _ _).set (by rfl)
  exact ⟨⟨blk_set h.x 2 v, h.n.trans hs (fun k hk e => by have := h.lo; omega), h.lo, h.lob, h.ne⟩, hs⟩
set_option maxHeartbeats 4000000 in
theorem fork_p {w : World} {p : Nat} {s : PS} {T : Nat → Prop} (h : Pq w p s T) (hw : s.Wf) :
    Calls Try.prog 17 #[.pointer (some ⟨p, 0, none⟩)] w fun e w' => ∃ p' T', e = .returned (.pointer (some ⟨p', 0, none⟩)) ∧ Pq w' p' s T' ∧ New w w' ∧ ∀ k, T' k → w.heap.size ≤ k := by
  have hq := h
  obtain ⟨b, r, U, h, hT⟩ := h
  have hmm := @run_makeMap Try.prog
  have c0 := (blk_cell h.blk 0).trans rfl
  have c1 := (blk_cell h.blk 1).trans rfl
  have c2 := (blk_cell h.blk 2).trans rfl
  have c3 := (blk_cell h.blk 3).trans rfl
  have c4 := (blk_cell h.blk 4).trans rfl
  have c5 := (blk_cell h.blk 5).trans rfl
  have hplt := h.lt
  go_enter Try.func17, Try.ntmps17
  go_wp2_with fail
  refine (none_p hq).mono ?_
  rintro e w1 ⟨rfl, rfl⟩
  go_upto_region 5 with (fail)
  have hx0 := blk_alloc (blk_new w (.cells #[.map (some (w.heap.size + 1)), .pointer (some ⟨r 0, 0, none⟩), .pointer (some ⟨r 1, 0, none⟩), .int .i64 s.most, .int .i64 s.run, .int .i64 s.total] 69)) (.map #[] 0)
  have hN0 : New w ((w.alloc (.cells #[.map (some (w.heap.size + 1)), .pointer (some ⟨r 0, 0, none⟩), .pointer (some ⟨r 1, 0, none⟩), .int .i64 s.most, .int .i64 s.run, .int .i64 s.total] 69)).alloc (.map #[] 0)) := by (repeat (first | exact Ext.refl _ _ | assumption | apply Ext.alloc | apply Ext.drewN | apply Ext.drew | refine Ext.setCell ?_ (fun h => by first | rfl | exact absurd h (by dsimp only; omega)) _))
  have hM0 := PMap.made (w.alloc (.cells #[.map (some (w.heap.size + 1)), .pointer (some ⟨r 0, 0, none⟩), .pointer (some ⟨r 1, 0, none⟩), .int .i64 s.most, .int .i64 s.run, .int .i64 s.total] 69))
  rw [World.size_alloc] at hM0
  clear c0 c1 c2 c3 c4 c5
  obtain ⟨w0, hw0⟩ : ∃ v, v = (w.alloc (.cells #[.map (some (w.heap.size + 1)), .pointer (some ⟨r 0, 0, none⟩), .pointer (some ⟨r 1, 0, none⟩), .int .i64 s.most, .int .i64 s.run, .int .i64 s.total] 69)).alloc (.map #[] 0) := ⟨_, rfl⟩
  obtain ⟨X, hX⟩ : ∃ X, X = w.heap.size := ⟨_, rfl⟩
  obtain ⟨bm, hbm⟩ : ∃ X, X = w.heap.size + 1 := ⟨_, rfl⟩
  rw [← hw0, ← hbm, ← hX] at hx0
  rw [← hw0] at hN0
  rw [← hw0, ← hbm] at hM0
  rw [← hw0, ← hX]
  have hF0 : Fk w w0 X bm s (.pointer (some ⟨r 0, 0, none⟩)) (.pointer (some ⟨r 1, 0, none⟩)) := ⟨hx0, hN0, by omega, by omega, by omega⟩
  clear hw0 hx0
  have hXp : X ≠ p := by omega
  have hbk := h.map.lt
  have hbX : b ≠ X := by omega
  have hbbm : b ≠ bm := by omega
  have hXbm : X < bm := by omega
  clear hX hbm
  have hbmlt := hM0.lt
  obtain ⟨hk0, hnd, D, hown, hsize, hhas⟩ := h.map.new hN0
  have p0 := (blk_cell (hN0.keep h.blk) 0).trans rfl
  go_wp2_with (first | (at_range; refine wpList_range_own _ rfl _ 65 rfl 30 75 law30 Try.underlying65 _ b _ _ rfl hown ?_; intro w1 hrg0 hg0 hs0) | go_in)
  go_frame
  clear p0
  have hn1 : New w0 w1 := ⟨hg0.os, hg0.tape, hg0.output, hg0.size, fun k hk _ => hg0.block k hk (by simp)⟩
  obtain ⟨rg, hr⟩ : ∃ r, r = w0.heap.size := ⟨_, rfl⟩
  rw [← hr] at hrg0 ⊢
  have hlr : rg < w1.heap.size := by omega
  have hrlo : w.heap.size ≤ rg := by have := hN0.size; omega
  have hrX : rg ≠ X := by have := blk_lt hF0.x; omega
  have hrb : rg ≠ bm := by omega
  have hrb2 : rg ≠ b := by omega
  have hrp : rg ≠ p := by omega
  clear hr
  have hF1 := hF0.nx hn1
  have hM1 := hM0.new hn1
  go_loopw [4] (fun _ wr => ∃ (left : Lit → Bool) (cnt : Nat) (ys : List Kn), wr.ranges Try.prog 30 knR b rg s.L.length D left cnt ∧ PMap wr bm ys ∧ (ys.map Kn.k).Nodup ∧ (∀ y ∈ ys, y ∈ s.L) ∧ (∀ x ∈ s.L, left (klit x.k) = !decide (x.k ∈ ys.map Kn.k)) ∧ Fk w wr X bm s (.pointer (some ⟨r 0, 0, none⟩)) (.pointer (some ⟨r 1, 0, none⟩)))
    (fun _ wr => wr.rangeLeft b rg)
  case atStart =>
    exact ⟨_, _, [], hrg0, hM1, List.nodup_nil, by simp, (fun x hx => by rw [(hhas x.k (hk0 x hx)).1, fnd_of hnd hx]; simp), hF1⟩
  case round =>
    obtain ⟨left, cnt, ys, hrg, hmp, hynd, hsub, hleft, hF⟩ := hrel
    go_wp2_with (first
      | (at_next; refine wpList_next_ranges _ rfl _ rfl 30 law30 knR kV (fun x : Kn => knV x) (fun key kl hk => by obtain ⟨x, rfl, _⟩ := keyK_inv hk; exact ⟨x, rfl⟩) (fun v y hv => by obtain ⟨x, rfl, _⟩ := knR_form hv; exact ⟨x, rfl⟩) b rg _ D left cnt rfl hrg ?_ ?_)
      | go_in)
    · intro hc0 hl0
      have hall : ∀ x ∈ s.L, x.k ∈ ys.map Kn.k := fun x hx => by
        have h1 := hleft x hx
        rw [hl0] at h1
        by_cases hh : x.k ∈ ys.map Kn.k
        · exact hh
        · rw [decide_eq_false hh] at h1; cases h1
      have hmL := hmp.as hk0 hnd hsub hall
      have hm := hmL
      clear hmp hrg hleft hc0 hl0 hall hmL
      obtain ⟨wq, hwq⟩ : ∃ v, v = wr := ⟨_, rfl⟩
      rw [← hwq] at hm hF
      rw [← hwq]
      clear hwq
      go_wp2_with fail
      go_loopw [28] (fun s28 wr => PMap wr bm s.L ∧ ((s28 = .int .i64 0 ∧ Fk w wr X bm s (.pointer (some ⟨r 0, 0, none⟩)) (.pointer (some ⟨r 1, 0, none⟩))) ∨ (s28 = .int .i64 1 ∧ ∃ q0 T0, Fk w wr X bm s (.pointer (some ⟨q0, 0, none⟩)) (.pointer (some ⟨r 1, 0, none⟩)) ∧ RQ wr q0 T0 (s.u 0) ∧ ∀ k, T0 k → k ≠ X ∧ k ≠ bm ∧ w.heap.size ≤ k) ∨ (s28 = .int .i64 2 ∧ ∃ q0 T0 q1 T1, Fk w wr X bm s (.pointer (some ⟨q0, 0, none⟩)) (.pointer (some ⟨q1, 0, none⟩)) ∧ RQ wr q0 T0 (s.u 0) ∧ RQ wr q1 T1 (s.u 1) ∧ (∀ k, T0 k → k ≠ X ∧ k ≠ bm ∧ w.heap.size ≤ k) ∧ (∀ k, T1 k → k ≠ X ∧ k ≠ bm ∧ w.heap.size ≤ k ∧ ¬ T0 k)))) (fun a _ => 2 - (intOf a).toNat)
      case atStart => exact ⟨hm, .inl ⟨rfl, hF⟩⟩
      case round =>
        clear hm hF
        obtain ⟨hm, ⟨rfl, hF⟩ | ⟨rfl, q0, T0, hF, hq0, hT0⟩ | ⟨rfl, q0, T0, q1, T1, hF, hq0, hq1, hT0, hT1⟩⟩ := hrel
        · skip
          have x1 := (blk_cell hF.x 1).trans rfl
          have y1 := blk_free hF.x 1
          go_wp2_with fail
          refine (new_k 512 _ (by omega) (by omega)).mono ?_
          rintro e w2 ⟨rfl, hr2, hn2⟩
          have hF2 := hF.nx hn2
          have hXlt := blk_lt hF.x
          clear x1 y1
          have x1 := (blk_cell hF2.x 1).trans rfl
          have y1 := blk_free hF2.x 1
          go_upto_region 13 with (fail)
          obtain ⟨hF3, he3⟩ := hF2.st1 (.pointer (some ⟨wr.heap.size, 0, none⟩))
          obtain ⟨q, hqe⟩ : ∃ q, q = wr.heap.size := ⟨_, rfl⟩
          rw [← hqe] at hr2 hF3 he3 ⊢
          have hqX : q ≠ X := by omega
          have hqlo : w.heap.size ≤ q := by have := hF.n.size; omega
          have hqbm : q ≠ bm := by have := hm.lt; omega
          have hr3 := hr2.keep he3 hqX (fun k hk => absurd hk (inA_none k))
          have hm3 := (hm.new hn2).keep he3 (fun e => hF.ne e.symm)
          generalize w2.setCell ⟨X, 1, none⟩ (.pointer (some ⟨q, 0, none⟩)) = w3 at *
          clear x1 y1 hqe
          have hpq : Pq w3 p s T := hq.keep (S := fun k => w.heap.size ≤ k) (hF3.n.mono (fun _ _ h => h.elim)) (fun k hk e => by have := hq.lt hk; omega)
          have g0 : ∀ y : Lat (fun k => k = q) w3, y.W.cell? ⟨X, 1, none⟩ = some (.pointer (some ⟨q, 0, none⟩)) := fun y => (blk_cell (y.ext.keep hF3.x (fun e => hqX e.symm)) 1).trans rfl
          refine mix_start (fun k => k = q) w3 (by kernel_rfl) ?_
          refine mix_batch [0, 1, 2, 3, 4, 5] (by kernel_rfl) 3 _ _ _ (by kernel_rfl) (lat_mem (by (repeat (first | exact Ext.refl _ _ | assumption | apply Ext.alloc | apply Ext.drewN | apply Ext.drew | refine Ext.setCell ?_ (fun h => by first | rfl | exact absurd h (by dsimp only; omega)) _)))) ?_
          simp only [pickOps, List.getD_cons_zero, List.getD_cons_succ]
          repeat (go_big_quiet_step (fail))
          refine wpQuiet_nil ?_
          refine mix_loud (i := 6) (by kernel_rfl) rfl (fun K hK => ?_)
          go_simp
          refine (queue_p0 (hpq.new (show New w3 w3.drew by (repeat (first | exact Ext.refl _ _ | assumption | apply Ext.alloc | apply Ext.drewN | apply Ext.drew | refine Ext.setCell ?_ (fun h => by first | rfl | exact absurd h (by dsimp only; omega)) _))))).mono ?_
          rintro e w4 ⟨A4, c4, rfl, ho4, hn4⟩
          have N34 : New w3 w4 := (show New w3 w3.drew by (repeat (first | exact Ext.refl _ _ | assumption | apply Ext.alloc | apply Ext.drewN | apply Ext.drew | refine Ext.setCell ?_ (fun h => by first | rfl | exact absurd h (by dsimp only; omega)) _))).then hn4
          refine hK.out _ _ (lat_mem N34.to) ?_
          clear hK
          refine mix_loud (i := 7) (by kernel_rfl) rfl (fun K hK => ?_)
          go_simp
          refine (clone_k A4 _ c4 _ _ ho4.rd (by have := hw.ulen 0; omega)).mono ?_
          rintro e w5 ⟨A5, c5, rfl, ho5, hn5⟩
          have N35 : New w3 w5 := N34.then hn5
          refine hK.out _ _ (lat_mem N35.to) ?_
          clear hK
          refine mix_loud (i := 8) (by kernel_rfl) rfl (fun K hK => ?_)
          go_simp
          refine (push_k q none 0 0 [] 512 A5 _ c5 (s.u 0) _ (hr3.new N35) ho5.rd (by have := hw.ulen 0; omega)).mono ?_
          rintro e w6 ⟨A6, c6, rfl, hr6, he6, hf6⟩
          have he56 : Ext (fun k => k = q) w5 w6 := he6.mono (fun k _ hk => hk.elim id (fun h => absurd h (inA_none k)))
          have he36 : Ext (fun k => k = q) w3 w6 := N35.to.trans he56 (fun _ _ h => h)
          refine hK.out _ _ (lat_mem he36) ?_
          clear hK g0
          refine wpAnyH_done (by kernel_rfl) (NoPanic.normal ?_) _
          have hF6 := hF3.keep he36 (fun e => hqX e.symm) (fun k hk => by omega)
          have hm6 := hm3.keep he36 (fun e => hqbm e.symm)
          have hq6 : RQ w6 q (Tch q A6) (s.u 0) := ⟨A6, _, c6, by rw [Nat.zero_add, List.nil_append] at hr6; exact hr6, fun k => Iff.rfl⟩
          have h35 := N35.size
          have hT6 : ∀ k, Tch q A6 k → k ≠ X ∧ k ≠ bm ∧ w.heap.size ≤ k ∧ True := fun k hk => by
            rcases hk with rfl | hk
            · exact ⟨hqX, hqbm, hqlo, trivial⟩
            · have h5 := (hf6 k hk).resolve_left (inA_none k)
              have hX3 := blk_lt hF3.x
              have hb3 := hm3.lt
              exact ⟨by omega, by omega, by have := hF3.n.size; omega, trivial⟩
          go_wp2_with fail
          exact ⟨⟨hm6, .inr (.inl ⟨rfl, q, _, hF6, hq6, fun k hk => ⟨(hT6 k hk).1, (hT6 k hk).2.1, (hT6 k hk).2.2.1⟩⟩)⟩, by simp [intOf]⟩
        · have hTX : ∀ k, T0 k → k ≠ X := fun k hk => (hT0 k hk).1
          have x2 := (blk_cell hF.x 2).trans rfl
          have y2 := blk_free hF.x 2
          go_wp2_with fail
          refine (new_k 512 _ (by omega) (by omega)).mono ?_
          rintro e w2 ⟨rfl, hr2, hn2⟩
          have hF2 := hF.nx hn2
          have hXlt := blk_lt hF.x
          clear x2 y2
          have x2 := (blk_cell hF2.x 2).trans rfl
          have y2 := blk_free hF2.x 2
          go_upto_region 13 with (fail)
          obtain ⟨hF3, he3⟩ := hF2.st2 (.pointer (some ⟨wr.heap.size, 0, none⟩))
          obtain ⟨q, hqe⟩ : ∃ q, q = wr.heap.size := ⟨_, rfl⟩
          rw [← hqe] at hr2 hF3 he3 ⊢
          have hqX : q ≠ X := by omega
          have hqlo : w.heap.size ≤ q := by have := hF.n.size; omega
          have hqbm : q ≠ bm := by have := hm.lt; omega
          have hr3 := hr2.keep he3 hqX (fun k hk => absurd hk (inA_none k))
          have hm3 := (hm.new hn2).keep he3 (fun e => hF.ne e.symm)
          have hqT : ∀ k, T0 k → k ≠ q := fun k hk e => by have := hq0.lt hk; omega
          have hq03 := (hq0.keep hn2 (fun _ _ h => h)).keep he3 (fun k hk e => hTX k hk e)
          generalize w2.setCell ⟨X, 2, none⟩ (.pointer (some ⟨q, 0, none⟩)) = w3 at *
          clear x2 y2 hqe
          have hpq : Pq w3 p s T := hq.keep (S := fun k => w.heap.size ≤ k) (hF3.n.mono (fun _ _ h => h.elim)) (fun k hk e => by have := hq.lt hk; omega)
          have g0 : ∀ y : Lat (fun k => k = q) w3, y.W.cell? ⟨X, 2, none⟩ = some (.pointer (some ⟨q, 0, none⟩)) := fun y => (blk_cell (y.ext.keep hF3.x (fun e => hqX e.symm)) 2).trans rfl
          refine mix_start (fun k => k = q) w3 (by kernel_rfl) ?_
          refine mix_batch [0, 1, 2, 3, 4, 5] (by kernel_rfl) 3 _ _ _ (by kernel_rfl) (lat_mem (by (repeat (first | exact Ext.refl _ _ | assumption | apply Ext.alloc | apply Ext.drewN | apply Ext.drew | refine Ext.setCell ?_ (fun h => by first | rfl | exact absurd h (by dsimp only; omega)) _)))) ?_
          simp only [pickOps, List.getD_cons_zero, List.getD_cons_succ]
          repeat (go_big_quiet_step (fail))
          refine wpQuiet_nil ?_
          refine mix_loud (i := 6) (by kernel_rfl) rfl (fun K hK => ?_)
          go_simp
          refine (queue_p1 (hpq.new (show New w3 w3.drew by (repeat (first | exact Ext.refl _ _ | assumption | apply Ext.alloc | apply Ext.drewN | apply Ext.drew | refine Ext.setCell ?_ (fun h => by first | rfl | exact absurd h (by dsimp only; omega)) _))))).mono ?_
          rintro e w4 ⟨A4, c4, rfl, ho4, hn4⟩
          have N34 : New w3 w4 := (show New w3 w3.drew by (repeat (first | exact Ext.refl _ _ | assumption | apply Ext.alloc | apply Ext.drewN | apply Ext.drew | refine Ext.setCell ?_ (fun h => by first | rfl | exact absurd h (by dsimp only; omega)) _))).then hn4
          refine hK.out _ _ (lat_mem N34.to) ?_
          clear hK
          refine mix_loud (i := 7) (by kernel_rfl) rfl (fun K hK => ?_)
          go_simp
          refine (clone_k A4 _ c4 _ _ ho4.rd (by have := hw.ulen 1; omega)).mono ?_
          rintro e w5 ⟨A5, c5, rfl, ho5, hn5⟩
          have N35 : New w3 w5 := N34.then hn5
          refine hK.out _ _ (lat_mem N35.to) ?_
          clear hK
          refine mix_loud (i := 8) (by kernel_rfl) rfl (fun K hK => ?_)
          go_simp
          refine (push_k q none 0 0 [] 512 A5 _ c5 (s.u 1) _ (hr3.new N35) ho5.rd (by have := hw.ulen 1; omega)).mono ?_
          rintro e w6 ⟨A6, c6, rfl, hr6, he6, hf6⟩
          have he56 : Ext (fun k => k = q) w5 w6 := he6.mono (fun k _ hk => hk.elim id (fun h => absurd h (inA_none k)))
          have he36 : Ext (fun k => k = q) w3 w6 := N35.to.trans he56 (fun _ _ h => h)
          refine hK.out _ _ (lat_mem he36) ?_
          clear hK g0
          refine wpAnyH_done (by kernel_rfl) (NoPanic.normal ?_) _
          have hF6 := hF3.keep he36 (fun e => hqX e.symm) (fun k hk => by omega)
          have hm6 := hm3.keep he36 (fun e => hqbm e.symm)
          have hq6 : RQ w6 q (Tch q A6) (s.u 1) := ⟨A6, _, c6, by rw [Nat.zero_add, List.nil_append] at hr6; exact hr6, fun k => Iff.rfl⟩
          have h35 := N35.size
          have hT6 : ∀ k, Tch q A6 k → k ≠ X ∧ k ≠ bm ∧ w.heap.size ≤ k ∧ ¬ T0 k := fun k hk => by
            rcases hk with rfl | hk
            · exact ⟨hqX, hqbm, hqlo, fun h => hqT _ h rfl⟩
            · have h5 := (hf6 k hk).resolve_left (inA_none k)
              have hX3 := blk_lt hF3.x
              have hb3 := hm3.lt
              exact ⟨by omega, by omega, by have := hF3.n.size; omega, fun h => by have := hq03.lt h; omega⟩
          go_wp2_with fail
          exact ⟨⟨hm6, .inr (.inr ⟨rfl, q0, T0, q, _, hF6, hq03.keep he36 (fun k hk e => hqT k hk e), hq6, hT0, fun k hk => hT6 k hk⟩)⟩, by simp [intOf]⟩
        · go_wp2_with fail
          go_ret
          have hd : ∀ c, c < 2 → c = 0 ∨ c = 1 := fun c hc => by omega
          refine ⟨X, fun j => j = X ∨ j = bm ∨ (fun c => if c = 0 then T0 else T1) 0 j ∨ (fun c => if c = 0 then T0 else T1) 1 j, rfl, ⟨bm, fun c => if c = 0 then q0 else q1, fun c => if c = 0 then T0 else T1, ⟨hF.x, hm, ?_, hF.ne, ?_, ?_, ?_⟩, fun j => Iff.rfl⟩, hF.n, ?_⟩
          · intro c hc
            rcases hd c hc with rfl | rfl
            · exact hq0
            · exact hq1
          · intro c hc hj
            rcases hd c hc with rfl | rfl
            · exact (hT0 _ hj).1 rfl
            · exact (hT1 _ hj).1 rfl
          · intro c hc hj
            rcases hd c hc with rfl | rfl
            · exact (hT0 _ hj).2.1 rfl
            · exact (hT1 _ hj).2.1 rfl
          · intro j h0 h1
            exact (hT1 j h1).2.2.2 h0
          · rintro j (rfl | rfl | hj | hj)
            · exact hF.lo
            · exact hF.lob
            · exact (hT0 j hj).2.2
            · exact (hT1 j hj).2.2.1
    · intro x1 x2 c kl y1 y2 w2 cnt2 hkey hlk hv hat hrg2 hlt hg2 hs2 hen
      obtain ⟨x, hxd⟩ : ∃ x : Int × Int, x = (x1, x2) := ⟨_, rfl⟩
      rw [← hxd] at hkey hen ⊢
      have e1 : x.1 = x1 := by rw [hxd]
      have e2 : x.2 = x2 := by rw [hxd]
      clear hxd e1 e2
      obtain ⟨x', ex, hwx, rfl⟩ := keyK_inv hkey
      have hxx : x = x' := by
        simp only [kV, Value.agg.injEq, Array.mk.injEq, List.cons.injEq, Value.int.injEq, true_and, and_true] at ex
        exact Prod.ext ex.1 ex.2
      subst hxx
      obtain ⟨c', ec, ey⟩ := knR_form hv
      cases ey
      have h1 := has_true_of_atKey hat
      rw [(hhas x hwx).1] at h1
      obtain ⟨u, hu⟩ := Option.isSome_iff_exists.1 h1
      have hat2 := (hhas x hwx).2 u hu (.map [])
      rw [hat] at hat2
      obtain ⟨hum, huk⟩ := fnd_mem hu
      have hcu : c.cls = u.cls ∧ c.pend = u.pend ∧ c.iss = u.iss := by
        simp only [knV, Value.agg.injEq, Array.mk.injEq, List.cons.injEq, Value.int.injEq, true_and, and_true] at ec
        simp only [knD, DataW.agg.injEq, List.cons.injEq, DataW.lit.injEq, Lit.int.injEq, true_and, and_true] at hat2
        exact ⟨ec.1.trans hat2.1, ec.2.1.trans hat2.2.1, ec.2.2.trans hat2.2.2⟩
      have hxy : x ∉ ys.map Kn.k := fun hh => by
        have h1 := hleft u hum
        rw [huk, hlk, decide_eq_true hh] at h1
        cases h1
      have hfy : fnd ys u.k = none := fnd_none.2 (fun z hz e => hxy (by rw [← huk, ← e]; exact List.mem_map_of_mem hz))
      have he2 : Ext (fun k => k = rg) wr w2 := ⟨hg2.os, hg2.tape, hg2.output, hg2.size, fun k hk hs => hg2.block k hk (fun e => hs (Option.some.inj e))⟩
      have hF2 := hF.keep he2 (fun e => hrX e.symm) (fun k hk => by omega)
      have hmp2 := hmp.keep he2 (fun e => hrb e.symm)
      have hyl : ys.length < 1000000 := by
        have p1 := nodup_le (xs := s.L.map Kn.k) hynd (fun k hk' => by
          obtain ⟨y, hy, rfl⟩ := List.mem_map.1 hk'
          exact List.mem_map_of_mem (hsub y hy))
        simp only [List.length_map] at p1
        have := hw.m1
        have := hw.m2
        omega
      obtain ⟨w3, hrun, hmp3, he3⟩ := (hmp2.new (show New w2 ((w2.alloc (.cells #[.int .i64 x.1, .int .i64 x.2] 30)).alloc (.cells #[.int .i64 c.cls, .int .i64 c.pend, .int .i64 c.iss] 75)) by (repeat (first | exact Ext.refl _ _ | assumption | apply Ext.alloc | apply Ext.drewN | apply Ext.drew | refine Ext.setCell ?_ (fun h => by first | rfl | exact absurd h (by dsimp only; omega)) _)))).put u (by rw [huk]; exact hwx) hfy hyl
      rw [huk, ← hcu.1, ← hcu.2.1, ← hcu.2.2] at hrun
      have hXlt2 := blk_lt hF2.x
      have hbl2 := hmp2.lt
      have d0 : w2.cell? ⟨X, 0, none⟩ = some (.map (some bm)) := (blk_cell hF2.x 0).trans rfl
      have hN23 : New w2 ((w2.alloc (.cells #[.int .i64 x.1, .int .i64 x.2] 30)).alloc (.cells #[.int .i64 c.cls, .int .i64 c.pend, .int .i64 c.iss] 75)) := by (repeat (first | exact Ext.refl _ _ | assumption | apply Ext.alloc | apply Ext.drewN | apply Ext.drew | refine Ext.setCell ?_ (fun h => by first | rfl | exact absurd h (by dsimp only; omega)) _))
      have d1 : ((w2.alloc (.cells #[.int .i64 x.1, .int .i64 x.2] 30)).alloc (.cells #[.int .i64 c.cls, .int .i64 c.pend, .int .i64 c.iss] 75)).cell? ⟨X, 0, none⟩ = some (.map (some bm)) := (blk_cell (hF2.nx hN23).x 0).trans rfl
      have HUM := hide hum
      have HUK := hide huk
      have HXY := hide hxy
      clear hum huk hxy hcu hat2 ec hu h1 hfy hat
      go_wp2_with fail
      have he23 : Ext (fun k => k = bm) w2 w3 := hN23.to.trans he3 (fun _ _ h => h)
      have hg3 : w2.grownBy w3 (some bm) := ⟨he23.os, he23.tape, he23.output, he23.size, fun k hk hs => he23.block k hk (fun e => hs (by rw [e]))⟩
      have hrg3 := hrg2.kept hg3 (fun e => by have := Option.some.inj e; omega) (fun e => by have := Option.some.inj e; omega)
      refine ⟨⟨_, cnt2, ys ++ [u], hrg3, hmp3, ?_, ?_, ?_, hF2.keep he23 (by omega) (fun k hk => by have := hF.lob; omega)⟩, ?_⟩
      · rw [List.map_append]
        exact List.nodup_append.2 ⟨hynd, by simp, fun a ha b hb e => by
          simp only [List.map_cons, List.map_nil, List.mem_singleton] at hb
          rw [hb, HUK.out] at e
          exact HXY.out (e ▸ ha)⟩
      · intro y hy
        rcases List.mem_append.1 hy with hy | hy
        · exact hsub y hy
        · cases List.mem_singleton.1 hy; exact HUM.out
      · intro z hz
        show (left (klit z.k) && !(klit z.k).sameKey (klit x)) = _
        rw [hleft z hz, klit_same z.k x (hk0 z hz) hwx, List.map_append]
        by_cases h1 : z.k ∈ ys.map Kn.k
        · simp [h1]
        · by_cases h2 : z.k = x
          · simp [h1, h2, HUK.out]
          · simp [h1, h2, HUK.out]
      · rw [hrg3.left_eq, hrg.left_eq]
        exact hlt
end Go.Proofs.Ytmonhhodbinagaa
