/- The law on any calls: the walk. -/
import Derived.Test.YtmonhhodbinagaaK50
import Derived.Test.YtmonhhodbinagaaK27a
import Derived.Test.YtmonhhodbinagaaK27b
import Derived.Test.YtmonhhodbinagaaK29
import Derived.Test.YtmonhhodbinagaaK12
namespace Go.Proofs.Ytmonhhodbinagaa
open Go.RowKit Go.Maps
set_option maxRecDepth 100000

def RelP (w : World) (X : Nat) (g : Nat) (s5 s9 : Value) (wr : World) : Prop :=
  ∃ (i p : Nat) (s : PS) (T : Nat → Prop) (x : DA), g = 60 - i ∧ i ≤ 60 ∧ s9 = .int .i64 (i : Nat) ∧ s5 = .pointer (some ⟨p, 0, none⟩) ∧ Rn w wr p s T x X ∧ s.total ≤ i
set_option maxHeartbeats 8000000 in
theorem runs_good (m : Int) (A : Option Addr) (n c : Nat) (l : List OpA) (w : World) (hm : 1 ≤ m ∧ m ≤ 512) (h : Rd w 5 A n c (l.flatMap OpA.E)) (hl : ∀ o ∈ l, o.wf) :
    Calls Try.prog 6 #[.int .i64 m, .slice A n c] w fun e w' => e = .returned (.bool true) ∧ New w w' := by
  go_enter Try.func6, Try.ntmps6
  go_wp2_with fail
  refine (new_p m _ hm.1 hm.2).mono ?_
  rintro e w1 ⟨p0, T0, rfl, hq1, hn1, hT0⟩
  go_wp2_with fail
  refine (new_d m _).mono ?_
  rintro e w2 ⟨he, hn2⟩
  rw [if_neg (by omega), if_neg (by omega)] at he
  replace he : e = .returned (.tuple #[.agg #[.slice none 0 0, .slice none 0 0, .slice none 0 0, .int .i64 m, .int .i64 0, .int .i64 0], .int .i64 0]) := he
  subst he
  have b3 := blk_new w2 (.cells #[.slice none 0 0, .slice none 0 0, .slice none 0 0, .int .i64 m, .int .i64 0, .int .i64 0] 46)
  have hn3 := New.alloc1 w2 (.cells #[.slice none 0 0, .slice none 0 0, .slice none 0 0, .int .i64 m, .int .i64 0, .int .i64 0] 46)
  go_wp2_with fail
  refine (awake_p _).mono ?_
  rintro e w4 ⟨rfl, hn4⟩
  go_wp2_with fail
  obtain ⟨X, hX⟩ : ∃ X, X = w2.heap.size := ⟨_, rfl⟩
  rw [← hX] at b3 ⊢
  have hRn : Rn w w4 p0 (fresh m) T0 (DA.new m) X := by
    have hXl := blk_lt (hn4.keep b3)
    refine ⟨⟨hq1.new (hn2.then (hn3.then hn4)), ?_, DA.new_ok _ _ _, rfl, fun j hj => by subst hj; exact hXl⟩, hn4.keep b3, hn1.then (hn2.then (hn3.then hn4)), ?_, ?_, hT0⟩
    · exact PS.Wf.fresh hm.1 hm.2
    · have := hn1.size; have := hn2.size; omega
    · intro ht; have := hq1.lt ht; have := hn2.size; omega
  clear b3 hX hn1 hn2 hn3 hn4 hq1 hT0
  have hlen := h.len
  rw [flat_len (sz := 5) (fun _ => rfl)] at hlen
  have hlen : l.length = n := by omega
  have HL := hide hlen
  clear hlen
  go_loopg [5, 9] 60 (fun g s5 s9 wr => RelP w X g s5 s9 wr)
  case atStart => exact ⟨0, _, _, _, _, rfl, by omega, rfl, rfl, hRn, by simp [fresh]⟩
  case round =>
    clear hRn
    obtain ⟨i, p, s, T, x, hgk, hi, rfl, rfl, hR, htot⟩ := hrel
    have HG := hide hgk
    clear hgk
    by_cases hgo : i < n ∧ i < 60
    · obtain ⟨hi2, hi60⟩ := hgo
      have hz : decide ((i : Int) < n) = true := decide_eq_true (by omega)
      have hz2 : decide (i < n) = true := decide_eq_true (by omega)
      have hz6 : decide ((i : Int) < 60) = true := decide_eq_true (by omega)
      obtain ⟨ad, rfl⟩ := h.some (by omega)
      obtain ⟨o, ho⟩ : ∃ o, l[i]? = some o := ⟨_, List.getElem?_eq_getElem (by have := HL.out; omega)⟩
      have hwf := hl o (List.mem_of_getElem? ho)
      have HO := hide ho
      have g0 := (opa_at (h.new hR.n) ho).1
      clear ho
      obtain ⟨⟨hd0, hd255⟩, hkw⟩ := hwf
      go_upto_if 59 with (fail)
      go_cut [5, 10] (fun v5 v10 wc => CutI w X (i + 1) v5 v10 wc)
      case first =>
        by_cases h7 : o.d % 8 = 7
        · have e7 : (o.d % 8 == 7) = true := by simp [h7]
          clear h7
          go_wp2_with fail
          refine (fork_p hR.b.q hR.b.wf).mono ?_
          rintro e w2 ⟨p', T', rfl, hq', hn', hT'⟩
          go_wp2_with fail
          obtain ⟨t2, tk, tm, tb, htr⟩ : ∃ t2 tk tm tb, tickR s = (t2, tk, tm, tb) := ⟨_, _, _, _, rfl⟩
          have HTR := hide htr
          clear htr
          refine (tick_any (hR.b.q.new hn') hR.b.wf (by omega) tk tm tb HTR.out).mono ?_
          rintro e w3 ⟨rfl, ⟨T2, hq2, he2, hf2⟩, hwf2⟩
          have N3 : New w w3 := (hR.n.then hn').trans he2 (fun k hk ht => absurd hk (by have := hR.tn k ht; omega))
          have k1 := (opa_at (h.new N3) HO.out).2.1
          have k2 := (opa_at (h.new N3) HO.out).2.2.1
          go_wp2_with fail
          refine (of_k o.k _).mono ?_
          rintro e w3' ⟨rfl, hn3⟩
          clear k1 k2
          go_wp2_with fail
          obtain ⟨t3, fm, fb, hfr⟩ : ∃ t3 fm fb, forgetR t2 o.k = (t3, fm, fb) := ⟨_, _, _, rfl⟩
          have HFR := hide hfr
          clear hfr
          refine (forget_any (hq2.new hn3) hwf2 o.k hkw fm fb HFR.out).mono ?_
          rintro e w5 ⟨rfl, ⟨T3, hq3, he3, hf3⟩, hwf3⟩
          go_wp2_with fail
          go_meet
          exact ⟨p', s, T', x, rfl, rfl, hR.forked hq' hn' hT' he2 hf2 hn3 he3, by omega⟩
        · have e7 : (o.d % 8 == 7) = false := by simpa using h7
          clear h7
          clear g0
          go_upto_region 16 with (fail)
          go_cut [12, 13] (fun v12 v13 wc => CutP w wr X p (stepR s o) v12 v13 wc)
          case first =>
            have q0 : ∀ y : Lat T wr, y.W.cell? ⟨X, 0, none⟩ = some (.slice x.a0 x.n0 x.c0) := fun y => (blk_cell (y.ext.keep hR.rb hR.tx) 0).trans rfl
            have q1 : ∀ y : Lat T wr, y.W.cell? ⟨X, 1, none⟩ = some (.slice x.a1 x.n1 x.c1) := fun y => (blk_cell (y.ext.keep hR.rb hR.tx) 1).trans rfl
            have q2 : ∀ y : Lat T wr, y.W.cell? ⟨X, 2, none⟩ = some (.slice x.a2 x.n2 x.c2) := fun y => (blk_cell (y.ext.keep hR.rb hR.tx) 2).trans rfl
            have q3 : ∀ y : Lat T wr, y.W.cell? ⟨X, 3, none⟩ = some (.int .i64 x.s.most) := fun y => (blk_cell (y.ext.keep hR.rb hR.tx) 3).trans rfl
            have q4 : ∀ y : Lat T wr, y.W.cell? ⟨X, 4, none⟩ = some (.int .i64 x.s.run) := fun y => (blk_cell (y.ext.keep hR.rb hR.tx) 4).trans rfl
            have q5 : ∀ y : Lat T wr, y.W.cell? ⟨X, 5, none⟩ = some (.int .i64 x.s.total) := fun y => (blk_cell (y.ext.keep hR.rb hR.tx) 5).trans rfl
            have hN : ∀ y : Lat T wr, New w y.W := fun y => hR.n.trans y.ext (fun k hk ht => absurd hk (by have := hR.tn k ht; omega))
            have g0 : ∀ y : Lat T wr, y.W.cell? (ad.add (i * 5)) = some (.int .u8 o.d) := fun y => (opa_at (h.new (hN y)) HO.out).1
            have g1 : ∀ y : Lat T wr, y.W.cell? ⟨(ad.add (i * 5)).block, (ad.add (i * 5)).off + 1, none⟩ = some (.int .i64 o.k.1) := fun y => (opa_at (h.new (hN y)) HO.out).2.1
            have g2 : ∀ y : Lat T wr, y.W.cell? ⟨(ad.add (i * 5)).block, (ad.add (i * 5)).off + 2, none⟩ = some (.int .i64 o.k.2) := fun y => (opa_at (h.new (hN y)) HO.out).2.2.1
            have g3 : ∀ y : Lat T wr, y.W.cell? ⟨(ad.add (i * 5)).block, (ad.add (i * 5)).off + 3, none⟩ = some (.int .i64 o.cls) := fun y => (opa_at (h.new (hN y)) HO.out).2.2.2.1
            have g4 : ∀ y : Lat T wr, y.W.cell? ⟨(ad.add (i * 5)).block, (ad.add (i * 5)).off + 4, none⟩ = some (.int .i64 o.n) := fun y => (opa_at (h.new (hN y)) HO.out).2.2.2.2
            refine mix_start T wr (by kernel_rfl) ?_
            refine mix_batch [0, 1, 2, 3, 4, 5] (by kernel_rfl) 7 _ _ _ (by kernel_rfl) (lat_mem (by (repeat (first | exact Ext.refl _ _ | assumption | apply Ext.alloc | apply Ext.drewN | apply Ext.drew | refine Ext.setCell ?_ (fun h => by first | rfl | exact absurd h (by dsimp only; omega)) _)))) ?_
            simp only [pickOps, List.getD_cons_zero, List.getD_cons_succ]
            repeat (go_big_quiet_step (fail))
            refine wpQuiet_nil ?_
            clear q0 q1 q2 q3 q4 q5 g0 g1 g2 g3 g4 hN
            refine mix_two (i := 6) (j := 10) (by kernel_rfl) rfl rfl (fun K hK => ?_) (fun K hK => ?_)
            · go_simp
              have hnd : New wr wr.drew := by (repeat (first | exact Ext.refl _ _ | assumption | apply Ext.alloc | apply Ext.drewN | apply Ext.drew | refine Ext.setCell ?_ (fun h => by first | rfl | exact absurd h (by dsimp only; omega)) _))
              refine (step_any _ p s T x o (hR.b.new hnd) hkw (by omega) hd0 hd255).mono ?_
              rintro e w2 ⟨y, T', he, hb2, he2, hf2⟩
              replace he : e = .returned (.tuple #[.agg #[.slice y.a0 y.n0 y.c0, .slice y.a1 y.n1 y.c1, .slice y.a2 y.n2 y.c2, .int .i64 y.s.most, .int .i64 y.s.run, .int .i64 y.s.total], .bool true]) := he
              subst he
              have he2' : Ext T wr w2 := hnd.to.trans he2 (fun _ _ h => h)
              refine hK.out _ _ (lat_mem he2') (mix_next he2' (fun _ _ (h : False) => h.elim) ?_)
              clear hK
              refine mix_batch [7, 8, 9] (by kernel_rfl) 3 _ _ _ (by kernel_rfl) (lat_mem (by (repeat (first | exact Ext.refl _ _ | assumption | apply Ext.alloc | apply Ext.drewN | apply Ext.drew | refine Ext.setCell ?_ (fun h => by first | rfl | exact absurd h (by dsimp only; omega)) _)))) ?_
              simp only [pickOps, List.getD_cons_zero, List.getD_cons_succ]
              repeat (go_big_quiet_step (fail))
              refine wpQuiet_nil ?_
              refine mix_loud (i := 10) (by kernel_rfl) rfl (fun K hK => ?_)
              go_simp
              refine hK.out _ _ (lat_mem (by (repeat (first | exact Ext.refl _ _ | assumption | apply Ext.alloc | apply Ext.drewN | apply Ext.drew | refine Ext.setCell ?_ (fun h => by first | rfl | exact absurd h (by dsimp only; omega)) _)))) ?_
              clear hK
              have bz := blk_new w2 (.cells zP 46)
              have hnz := New.alloc1 w2 (.cells zP 46)
              obtain ⟨w3, hw3⟩ : ∃ v, v = w2.alloc (.cells zP 46) := ⟨_, rfl⟩
              rw [← hw3] at bz hnz
              rw [show w2.alloc (.cells #[.slice none 0 0, .slice none 0 0, .slice none 0 0, .int .i64 0, .int .i64 0, .int .i64 0] 46) = w3 from hw3.symm]
              clear hw3
              have r0 := (blk_cell bz 0).trans rfl
              have rf0 := blk_free bz 0
              have r1 := (blk_cell bz 1).trans rfl
              have rf1 := blk_free bz 1
              have r2 := (blk_cell bz 2).trans rfl
              have rf2 := blk_free bz 2
              have r3 := (blk_cell bz 3).trans rfl
              have rf3 := blk_free bz 3
              have r4 := (blk_cell bz 4).trans rfl
              have rf4 := blk_free bz 4
              have r5 := (blk_cell bz 5).trans rfl
              have rf5 := blk_free bz 5
              refine mix_loud (i := 11) (by kernel_rfl) rfl (fun K hK => ?_)
              go_simp
              obtain ⟨wz, hwz, Yz, Sz⟩ := set6 bz rfl (.slice y.a0 y.n0 y.c0) (.slice y.a1 y.n1 y.c1) (.slice y.a2 y.n2 y.c2) (.int .i64 y.s.most) (.int .i64 y.s.run) (.int .i64 y.s.total)
              rw [← hwz]
              have Ez : New w2 wz := hnz.trans Sz (fun j hj e => by rw [show j = w2.heap.size from e] at hj; omega)
              have Ezd : New w2 wz.drew := Ez.then (show New wz wz.drew by (repeat (first | exact Ext.refl _ _ | assumption | apply Ext.alloc | apply Ext.drewN | apply Ext.drew | refine Ext.setCell ?_ (fun h => by first | rfl | exact absurd h (by dsimp only; omega)) _)))
              refine hK.out _ _ (lat_mem (by first | exact Ez | exact Ezd)) ?_
              clear hK hwz r0 r1 r2 r3 r4 r5 rf0 rf1 rf2 rf3 rf4 rf5
              refine mix_batch [12] (by kernel_rfl) 0 _ _ _ (by kernel_rfl) (lat_mem (by (repeat (first | exact Ext.refl _ _ | assumption | apply Ext.alloc | apply Ext.drewN | apply Ext.drew | refine Ext.setCell ?_ (fun h => by first | rfl | exact absurd h (by dsimp only; omega)) _)))) ?_
              simp only [pickOps, List.getD_cons_zero, List.getD_cons_succ]
              repeat (go_big_quiet_step (fail))
              refine wpQuiet_nil ?_
              refine wpAnyH_done (by kernel_rfl) (NoPanic.normal ?_) _
              go_wp2_with fail
              go_meet
              exact hR.cut (Z := fun j => j = X) rfl hb2 hnd he2 hf2 Yz (Ez.to) (.inr (Nat.le_refl _))
            · go_simp
              refine hK.out _ _ (lat_mem (by (repeat (first | exact Ext.refl _ _ | assumption | apply Ext.alloc | apply Ext.drewN | apply Ext.drew | refine Ext.setCell ?_ (fun h => by first | rfl | exact absurd h (by dsimp only; omega)) _)))) ?_
              clear hK
              have hnd : New wr (wr.alloc (.cells zP 46)) := by (repeat (first | exact Ext.refl _ _ | assumption | apply Ext.alloc | apply Ext.drewN | apply Ext.drew | refine Ext.setCell ?_ (fun h => by first | rfl | exact absurd h (by dsimp only; omega)) _))
              have bz := blk_new wr (.cells zP 46)
              obtain ⟨w1', hw1⟩ : ∃ v, v = wr.alloc (.cells zP 46) := ⟨_, rfl⟩
              rw [← hw1] at hnd bz
              try rw [show wr.alloc (.cells #[.slice none 0 0, .slice none 0 0, .slice none 0 0, .int .i64 0, .int .i64 0, .int .i64 0] 46) = w1' from hw1.symm]
              clear hw1
              have hnd2 : New wr w1'.drew := hnd.then (show New w1' w1'.drew by (repeat (first | exact Ext.refl _ _ | assumption | apply Ext.alloc | apply Ext.drewN | apply Ext.drew | refine Ext.setCell ?_ (fun h => by first | rfl | exact absurd h (by dsimp only; omega)) _)))
              have bz' : w1'.drew.heap[wr.heap.size]? = some (.cells zP 46) := bz
              have hXl := blk_lt hR.rb
              have hzl := blk_lt bz'
              have hb' : Bth (fun j => j = X ∨ j = wr.heap.size) w1'.drew p s T x := ⟨hR.b.q.new hnd2, hR.b.wf, (hR.b.ok.wide (fun k hk => hk.elim (fun e => .inl (.inl e)) (fun e => e.elim (fun e => .inl (.inr e)) (fun e => .inr (by omega))))).new hnd2, hR.b.s, fun j hj => hj.elim (fun e => by have := hnd2.size; omega) (fun e => by omega)⟩
              have hTz : ¬ T wr.heap.size := fun ht => by have := hR.b.q.lt ht; omega
              refine mix_loud (i := 6) (by kernel_rfl) rfl (fun K hK => ?_)
              go_simp
              refine (step_any _ p s T x o hb' hkw (by omega) hd0 hd255).mono ?_
              rintro e w2 ⟨y, T', he, hb2, he2, hf2⟩
              replace he : e = .returned (.tuple #[.agg #[.slice y.a0 y.n0 y.c0, .slice y.a1 y.n1 y.c1, .slice y.a2 y.n2 y.c2, .int .i64 y.s.most, .int .i64 y.s.run, .int .i64 y.s.total], .bool true]) := he
              subst he
              have he2' : Ext T wr w2 := hnd2.to.trans he2 (fun _ _ h => h)
              have bz2 := he2.keep bz' hTz
              refine hK.out _ _ (lat_mem he2') (mix_next he2' (F' := fun k => k = wr.heap.size) (fun _ hk e => by subst e; exact absurd hk (by omega)) ?_)
              clear hK
              refine mix_batch [7, 8, 9] (by kernel_rfl) 2 _ _ _ (by kernel_rfl) (lat_mem (by (repeat (first | exact Ext.refl _ _ | assumption | apply Ext.alloc | apply Ext.drewN | apply Ext.drew | refine Ext.setCell ?_ (fun h => by first | rfl | exact absurd h (by dsimp only; omega)) _)))) ?_
              simp only [pickOps, List.getD_cons_zero, List.getD_cons_succ]
              repeat (go_big_quiet_step (fail))
              refine wpQuiet_nil ?_
              have r0 := (blk_cell bz2 0).trans rfl
              have rf0 := blk_free bz2 0
              have r1 := (blk_cell bz2 1).trans rfl
              have rf1 := blk_free bz2 1
              have r2 := (blk_cell bz2 2).trans rfl
              have rf2 := blk_free bz2 2
              have r3 := (blk_cell bz2 3).trans rfl
              have rf3 := blk_free bz2 3
              have r4 := (blk_cell bz2 4).trans rfl
              have rf4 := blk_free bz2 4
              have r5 := (blk_cell bz2 5).trans rfl
              have rf5 := blk_free bz2 5
              refine mix_loud (i := 11) (by kernel_rfl) rfl (fun K hK => ?_)
              go_simp
              obtain ⟨wz, hwz, Yz, Sz⟩ := set6 bz2 rfl (.slice y.a0 y.n0 y.c0) (.slice y.a1 y.n1 y.c1) (.slice y.a2 y.n2 y.c2) (.int .i64 y.s.most) (.int .i64 y.s.run) (.int .i64 y.s.total)
              rw [← hwz]
              have Szd : Ext (fun k => k = wr.heap.size) w2 wz.drew := Sz.trans (show New wz wz.drew by (repeat (first | exact Ext.refl _ _ | assumption | apply Ext.alloc | apply Ext.drewN | apply Ext.drew | refine Ext.setCell ?_ (fun h => by first | rfl | exact absurd h (by dsimp only; omega)) _))).to (fun _ _ h => h)
              refine hK.out _ _ (lat_mem (by first | exact Sz | exact Szd)) ?_
              clear hK hwz r0 r1 r2 r3 r4 r5 rf0 rf1 rf2 rf3 rf4 rf5
              refine mix_batch [12] (by kernel_rfl) 0 _ _ _ (by kernel_rfl) (lat_mem (by (repeat (first | exact Ext.refl _ _ | assumption | apply Ext.alloc | apply Ext.drewN | apply Ext.drew | refine Ext.setCell ?_ (fun h => by first | rfl | exact absurd h (by dsimp only; omega)) _)))) ?_
              simp only [pickOps, List.getD_cons_zero, List.getD_cons_succ]
              repeat (go_big_quiet_step (fail))
              refine wpQuiet_nil ?_
              refine wpAnyH_done (by kernel_rfl) (NoPanic.normal ?_) _
              go_wp2_with fail
              go_meet
              exact hR.cut (Z := fun j => j = X ∨ j = wr.heap.size) (.inl rfl) hb2 hnd2 he2 hf2 Yz Sz (.inl ⟨.inr rfl, Nat.le_refl _, hzl⟩)
          case rest =>
            obtain ⟨pn, y, T', x2, rfl, rfl, hpn, hb, hX2, hNc, hTX, hTn⟩ := hcut
            have c0 := (blk_cell hpn 0).trans rfl
            have c1 := (blk_cell hpn 1).trans rfl
            have c2 := (blk_cell hpn 2).trans rfl
            have c3 := (blk_cell hpn 3).trans rfl
            have c4 := (blk_cell hpn 4).trans rfl
            have c5 := (blk_cell hpn 5).trans rfl
            have r0 := (blk_cell hX2 0).trans rfl
            have rf0 := blk_free hX2 0
            have r1 := (blk_cell hX2 1).trans rfl
            have rf1 := blk_free hX2 1
            have r2 := (blk_cell hX2 2).trans rfl
            have rf2 := blk_free hX2 2
            have r3 := (blk_cell hX2 3).trans rfl
            have rf3 := blk_free hX2 3
            have r4 := (blk_cell hX2 4).trans rfl
            have rf4 := blk_free hX2 4
            have r5 := (blk_cell hX2 5).trans rfl
            have rf5 := blk_free hX2 5
            go_wp2_with fail
            go_meet
            obtain ⟨wz, hwz, Yz, Sz⟩ := set6 hX2 rfl (.slice y.a0 y.n0 y.c0) (.slice y.a1 y.n1 y.c1) (.slice y.a2 y.n2 y.c2) (.int .i64 y.s.most) (.int .i64 y.s.run) (.int .i64 y.s.total)
            rw [← hwz]
            clear hwz c0 c1 c2 c3 c4 c5 r0 r1 r2 r3 r4 r5 rf0 rf1 rf2 rf3 rf4 rf5
            have hlo := hR.lo
            exact ⟨p, stepR s o, T', y, rfl, rfl, ⟨⟨hb.q.keep Sz (fun j hj e => hTX (by rw [show j = X from e] at hj; exact hj)), hb.wf, hb.ok.keep Sz (fun j e => .inl (.inr e)), hb.s, fun j hj => Nat.lt_of_lt_of_le (hb.zl j hj) Sz.size⟩, Yz, hNc.trans Sz (fun j hj e => by rw [show j = X from e] at hj; omega), hlo, hTX, hTn⟩, by have := stepR_total s o; omega⟩
      case rest =>
        clear hR htot g0
        obtain ⟨p, s, T, x, rfl, rfl, hR, htot⟩ := hcut
        obtain rfl := hR.b.s
        have hl0 := hR.b.ok.l0
        have hl1 := hR.b.ok.l1
        have hl2 := hR.b.ok.l2
        have hu0 := hR.b.wf.ulen 0
        have hu1 := hR.b.wf.ulen 1
        have hm1 := hR.b.wf.m1
        have hm2 := hR.b.wf.m2
        have hn0s : x.n0 ≤ 1000 := by omega
        have HL0 := hide hl0
        have HL1 := hide hl1
        have HL2 := hide hl2
        clear hl0 hl1 hl2
        obtain ⟨y, hy⟩ : ∃ y, ofK x.s.L o.k = y := ⟨_, rfl⟩
        have HY := hide hy
        clear hy
        go_upto_region 19 with (fail)
        go_cut [14] (fun v14 w9 => ∃ b, v14 = .pointer (some ⟨b, 0, none⟩) ∧ w9.heap[b]? = some (.cells (kn5 y) 59) ∧ New wc w9)
        case first =>
          have HRB := hR.rb
          have q0 : ∀ y : Lat (fun _ => False) wc, y.W.cell? ⟨X, 0, none⟩ = some (.slice x.a0 x.n0 x.c0) := fun y => (blk_cell (y.ext.keep HRB (fun h => h)) 0).trans rfl
          have q1 : ∀ y : Lat (fun _ => False) wc, y.W.cell? ⟨X, 1, none⟩ = some (.slice x.a1 x.n1 x.c1) := fun y => (blk_cell (y.ext.keep HRB (fun h => h)) 1).trans rfl
          have q2 : ∀ y : Lat (fun _ => False) wc, y.W.cell? ⟨X, 2, none⟩ = some (.slice x.a2 x.n2 x.c2) := fun y => (blk_cell (y.ext.keep HRB (fun h => h)) 2).trans rfl
          have q3 : ∀ y : Lat (fun _ => False) wc, y.W.cell? ⟨X, 3, none⟩ = some (.int .i64 x.s.most) := fun y => (blk_cell (y.ext.keep HRB (fun h => h)) 3).trans rfl
          have q4 : ∀ y : Lat (fun _ => False) wc, y.W.cell? ⟨X, 4, none⟩ = some (.int .i64 x.s.run) := fun y => (blk_cell (y.ext.keep HRB (fun h => h)) 4).trans rfl
          have q5 : ∀ y : Lat (fun _ => False) wc, y.W.cell? ⟨X, 5, none⟩ = some (.int .i64 x.s.total) := fun y => (blk_cell (y.ext.keep HRB (fun h => h)) 5).trans rfl
          have g1 : ∀ z : Lat (fun _ => False) wc, z.W.cell? ⟨(ad.add (i * 5)).block, (ad.add (i * 5)).off + 1, none⟩ = some (.int .i64 o.k.1) := fun z => (opa_at (h.new (hR.n.then z.ext)) HO.out).2.1
          have g2 : ∀ z : Lat (fun _ => False) wc, z.W.cell? ⟨(ad.add (i * 5)).block, (ad.add (i * 5)).off + 2, none⟩ = some (.int .i64 o.k.2) := fun z => (opa_at (h.new (hR.n.then z.ext)) HO.out).2.2.1
          clear HRB
          refine mix_start (fun _ => False) wc (by kernel_rfl) ?_
          refine mix_batch [0, 1, 2, 3, 4, 5] (by kernel_rfl) 3 _ _ _ (by kernel_rfl) (lat_mem (by (repeat (first | exact Ext.refl _ _ | assumption | apply Ext.alloc | apply Ext.drewN | apply Ext.drew | refine Ext.setCell ?_ (fun h => by first | rfl | exact absurd h (by dsimp only; omega)) _)))) ?_
          simp only [pickOps, List.getD_cons_zero, List.getD_cons_succ]
          repeat (go_big_quiet_step (fail))
          refine wpQuiet_nil ?_
          clear q0 q1 q2 q3 q4 q5 g1 g2
          refine mix_two (i := 6) (j := 7) (by kernel_rfl) rfl rfl (fun K hK => ?_) (fun K hK => ?_)
          · go_simp
            have hnd : New wc wc.drew := by (repeat (first | exact Ext.refl _ _ | assumption | apply Ext.alloc | apply Ext.drewN | apply Ext.drew | refine Ext.setCell ?_ (fun h => by first | rfl | exact absurd h (by dsimp only; omega)) _))
            refine (of_d x o.k (fun j => T j ∨ j = X) _ (hR.b.ok.new hnd) hn0s hR.b.wf.nd y HY.out).mono ?_
            rintro e w2 ⟨he, hn2⟩
            replace he : e = .returned (.agg #[.int .i64 y.k.1, .int .i64 y.k.2, .int .i64 y.cls, .int .i64 y.pend, .int .i64 y.iss]) := he
            subst he
            have N2 := hnd.then hn2
            refine hK.out _ _ (lat_mem N2) ?_
            clear hK
            refine mix_loud (i := 7) (by kernel_rfl) rfl (fun K hK => ?_)
            go_simp
            refine hK.out _ _ (lat_mem (by (repeat (first | exact Ext.refl _ _ | assumption | apply Ext.alloc | apply Ext.drewN | apply Ext.drew | refine Ext.setCell ?_ (fun h => by first | rfl | exact absurd h (by dsimp only; omega)) _)))) ?_
            clear hK
            have bz := blk_new w2 (.cells #[.int .i64 0, .int .i64 0, .int .i64 0, .int .i64 0, .int .i64 0] 59)
            have hnz := New.alloc1 w2 (.cells #[.int .i64 0, .int .i64 0, .int .i64 0, .int .i64 0, .int .i64 0] 59)
            obtain ⟨w3, hw3⟩ : ∃ v, v = w2.alloc (.cells #[.int .i64 0, .int .i64 0, .int .i64 0, .int .i64 0, .int .i64 0] 59) := ⟨_, rfl⟩
            rw [← hw3] at bz hnz
            rw [← hw3]
            clear hw3
            have r0 := (blk_cell bz 0).trans rfl
            have rf0 := blk_free bz 0
            have r1 := (blk_cell bz 1).trans rfl
            have rf1 := blk_free bz 1
            have r2 := (blk_cell bz 2).trans rfl
            have rf2 := blk_free bz 2
            have r3 := (blk_cell bz 3).trans rfl
            have rf3 := blk_free bz 3
            have r4 := (blk_cell bz 4).trans rfl
            have rf4 := blk_free bz 4
            refine mix_loud (i := 8) (by kernel_rfl) rfl (fun K hK => ?_)
            go_simp
            obtain ⟨wz, hwz, Yz, Sz⟩ := set5 bz rfl (.int .i64 y.k.1) (.int .i64 y.k.2) (.int .i64 y.cls) (.int .i64 y.pend) (.int .i64 y.iss)
            rw [← hwz]
            have Ez : New wc wz := N2.then (hnz.trans Sz (fun j hj e => by rw [show j = w2.heap.size from e] at hj; omega))
            have Ezd : New wc wz.drew := Ez.then (show New wz wz.drew by (repeat (first | exact Ext.refl _ _ | assumption | apply Ext.alloc | apply Ext.drewN | apply Ext.drew | refine Ext.setCell ?_ (fun h => by first | rfl | exact absurd h (by dsimp only; omega)) _)))
            refine hK.out _ _ (lat_mem (by first | exact Ez | exact Ezd)) ?_
            clear hK hwz r0 r1 r2 r3 r4 rf0 rf1 rf2 rf3 rf4
            refine wpAnyH_done (by kernel_rfl) (NoPanic.normal ?_) _
            go_wp2_with fail
            go_meet
            exact ⟨_, rfl, Yz, (by first | exact Ez | exact Ezd)⟩
          · go_simp
            refine hK.out _ _ (lat_mem (by (repeat (first | exact Ext.refl _ _ | assumption | apply Ext.alloc | apply Ext.drewN | apply Ext.drew | refine Ext.setCell ?_ (fun h => by first | rfl | exact absurd h (by dsimp only; omega)) _)))) ?_
            clear hK
            have bz := blk_new wc (.cells #[.int .i64 0, .int .i64 0, .int .i64 0, .int .i64 0, .int .i64 0] 59)
            have hnz := New.alloc1 wc (.cells #[.int .i64 0, .int .i64 0, .int .i64 0, .int .i64 0, .int .i64 0] 59)
            obtain ⟨w3, hw3⟩ : ∃ v, v = wc.alloc (.cells #[.int .i64 0, .int .i64 0, .int .i64 0, .int .i64 0, .int .i64 0] 59) := ⟨_, rfl⟩
            rw [← hw3] at bz hnz
            rw [← hw3]
            clear hw3
            have hnd : New wc w3.drew := hnz.then (show New w3 w3.drew by (repeat (first | exact Ext.refl _ _ | assumption | apply Ext.alloc | apply Ext.drewN | apply Ext.drew | refine Ext.setCell ?_ (fun h => by first | rfl | exact absurd h (by dsimp only; omega)) _)))
            refine mix_loud (i := 6) (by kernel_rfl) rfl (fun K hK => ?_)
            go_simp
            refine (of_d x o.k (fun j => T j ∨ j = X) _ (hR.b.ok.new hnd) hn0s hR.b.wf.nd y HY.out).mono ?_
            rintro e w2 ⟨he, hn2⟩
            replace he : e = .returned (.agg #[.int .i64 y.k.1, .int .i64 y.k.2, .int .i64 y.cls, .int .i64 y.pend, .int .i64 y.iss]) := he
            subst he
            have N2 := hnd.then hn2
            have bz2 := hn2.keep (show w3.drew.heap[wc.heap.size]? = _ from bz)
            refine hK.out _ _ (lat_mem N2) ?_
            clear hK
            have r0 := (blk_cell bz2 0).trans rfl
            have rf0 := blk_free bz2 0
            have r1 := (blk_cell bz2 1).trans rfl
            have rf1 := blk_free bz2 1
            have r2 := (blk_cell bz2 2).trans rfl
            have rf2 := blk_free bz2 2
            have r3 := (blk_cell bz2 3).trans rfl
            have rf3 := blk_free bz2 3
            have r4 := (blk_cell bz2 4).trans rfl
            have rf4 := blk_free bz2 4
            refine mix_loud (i := 8) (by kernel_rfl) rfl (fun K hK => ?_)
            go_simp
            obtain ⟨wz, hwz, Yz, Sz⟩ := set5 bz2 rfl (.int .i64 y.k.1) (.int .i64 y.k.2) (.int .i64 y.cls) (.int .i64 y.pend) (.int .i64 y.iss)
            rw [← hwz]
            have Ez : New wc wz := N2.trans Sz (fun j hj e => by rw [show j = wc.heap.size from e] at hj; omega)
            have Ezd : New wc wz.drew := Ez.then (show New wz wz.drew by (repeat (first | exact Ext.refl _ _ | assumption | apply Ext.alloc | apply Ext.drewN | apply Ext.drew | refine Ext.setCell ?_ (fun h => by first | rfl | exact absurd h (by dsimp only; omega)) _)))
            refine hK.out _ _ (lat_mem (by first | exact Ez | exact Ezd)) ?_
            clear hK hwz r0 r1 r2 r3 r4 rf0 rf1 rf2 rf3 rf4
            refine wpAnyH_done (by kernel_rfl) (NoPanic.normal ?_) _
            go_wp2_with fail
            go_meet
            exact ⟨_, rfl, Yz, (by first | exact Ez | exact Ezd)⟩
        case rest =>
          obtain ⟨b, rfl, hyb, hn9⟩ := hcut
          have hR9 := hR.new hn9
          clear hR hn9
          have hpend : ∀ W, New wc W → Calls Try.prog 15 #[.pointer (some ⟨p, 0, none⟩), kV o.k] W fun e w' => e = .returned (.int .i64 y.pend) ∧ New W w' := fun W hW => by
            have := pending_p (hR9.b.q.new hW) o.k hkw
            rwa [HY.out] at this
          have hiss : ∀ W, New wc W → Calls Try.prog 13 #[.pointer (some ⟨p, 0, none⟩), kV o.k] W fun e w' => e = .returned (.int .i64 y.iss) ∧ New W w' := fun W hW => by
            have := issued_p (hR9.b.q.new hW) o.k hkw
            rwa [HY.out] at this
          have hlenp : ∀ W, New wc W → Calls Try.prog 22 #[.pointer (some ⟨p, 0, none⟩)] W fun e w' => e = .returned (.int .i64 (x.n0 : Nat)) ∧ W = w' := fun W hW => by
            have := len_p (hR9.b.q.new hW)
            rwa [HL0.out] at this
          have q0 : ∀ z : Lat (fun _ => False) wc, z.W.cell? ⟨X, 0, none⟩ = some (.slice x.a0 x.n0 x.c0) := fun z => (blk_cell (z.ext.keep hR9.rb (fun h => h)) 0).trans rfl
          have q1 : ∀ z : Lat (fun _ => False) wc, z.W.cell? ⟨X, 1, none⟩ = some (.slice x.a1 x.n1 x.c1) := fun z => (blk_cell (z.ext.keep hR9.rb (fun h => h)) 1).trans rfl
          have q2 : ∀ z : Lat (fun _ => False) wc, z.W.cell? ⟨X, 2, none⟩ = some (.slice x.a2 x.n2 x.c2) := fun z => (blk_cell (z.ext.keep hR9.rb (fun h => h)) 2).trans rfl
          have q5 : ∀ z : Lat (fun _ => False) wc, z.W.cell? ⟨X, 5, none⟩ = some (.int .i64 x.s.total) := fun z => (blk_cell (z.ext.keep hR9.rb (fun h => h)) 5).trans rfl
          have g1 : ∀ z : Lat (fun _ => False) wc, z.W.cell? ⟨(ad.add (i * 5)).block, (ad.add (i * 5)).off + 1, none⟩ = some (.int .i64 o.k.1) := fun z => (opa_at (h.new (hR9.n.then z.ext)) HO.out).2.1
          have g2 : ∀ z : Lat (fun _ => False) wc, z.W.cell? ⟨(ad.add (i * 5)).block, (ad.add (i * 5)).off + 2, none⟩ = some (.int .i64 o.k.2) := fun z => (opa_at (h.new (hR9.n.then z.ext)) HO.out).2.2.1
          have y2 : ∀ z : Lat (fun _ => False) wc, z.W.cell? ⟨b, 2, none⟩ = some (.int .i64 y.cls) := fun z => (blk_cell (z.ext.keep hyb (fun h => h)) 2).trans rfl
          have y3 : ∀ z : Lat (fun _ => False) wc, z.W.cell? ⟨b, 3, none⟩ = some (.int .i64 y.pend) := fun z => (blk_cell (z.ext.keep hyb (fun h => h)) 3).trans rfl
          have y4 : ∀ z : Lat (fun _ => False) wc, z.W.cell? ⟨b, 4, none⟩ = some (.int .i64 y.iss) := fun z => (blk_cell (z.ext.keep hyb (fun h => h)) 4).trans rfl
          have ep : (y.pend != y.pend) = false := by simp
          have ei : (y.iss != y.iss) = false := by simp
          have et : (x.s.total != x.s.total) = false := by simp
          have en : ((x.n0 : Int) != (x.n0 : Int)) = false := by simp
          go_wp2_with fail
          refine mix_start (fun _ => False) wc (by kernel_rfl) ?_
          refine mix_batch [0, 1, 2, 3, 4, 5, 6, 7, 8, 11, 12] (by kernel_rfl) 32 _ _ _ (by kernel_rfl) (lat_mem (by (repeat (first | exact Ext.refl _ _ | assumption | apply Ext.alloc | apply Ext.drewN | apply Ext.drew | refine Ext.setCell ?_ (fun h => by first | rfl | exact absurd h (by dsimp only; omega)) _)))) ?_
          simp only [pickOps, List.getD_cons_zero, List.getD_cons_succ]
          repeat (go_big_quiet_step (fail))
          refine wpQuiet_nil ?_
          refine mix_loud (i := 9) (by kernel_rfl) rfl (fun K hK => ?_)
          go_simp
          refine (of_k o.k _).mono ?_
          rintro e v1 ⟨rfl, hv1⟩
          have M1 : New wc v1 := (show New wc wc.drew by (repeat (first | exact Ext.refl _ _ | assumption | apply Ext.alloc | apply Ext.drewN | apply Ext.drew | refine Ext.setCell ?_ (fun h => by first | rfl | exact absurd h (by dsimp only; omega)) _))).then hv1
          refine hK.out _ _ (lat_mem M1) ?_
          clear hK
          refine mix_loud (i := 10) (by kernel_rfl) rfl (fun K hK => ?_)
          go_simp
          refine (hpend _ M1).mono ?_
          rintro e v2 ⟨rfl, hv2⟩
          have M2 := M1.then hv2
          refine hK.out _ _ (lat_mem M2) ?_
          clear hK
          refine mix_batch [13, 14, 15, 16, 17, 18, 19, 20, 21, 24, 25] (by kernel_rfl) 19 _ _ _ (by kernel_rfl) (lat_mem (by (repeat (first | exact Ext.refl _ _ | assumption | apply Ext.alloc | apply Ext.drewN | apply Ext.drew | refine Ext.setCell ?_ (fun h => by first | rfl | exact absurd h (by dsimp only; omega)) _)))) ?_
          simp only [pickOps, List.getD_cons_zero, List.getD_cons_succ]
          repeat (go_big_quiet_step (fail))
          refine wpQuiet_nil ?_
          refine mix_loud (i := 22) (by kernel_rfl) rfl (fun K hK => ?_)
          go_simp
          refine (of_k o.k _).mono ?_
          rintro e v3 ⟨rfl, hv3⟩
          have M3 := M2.then hv3
          refine hK.out _ _ (lat_mem M3) ?_
          clear hK
          refine mix_loud (i := 23) (by kernel_rfl) rfl (fun K hK => ?_)
          go_simp
          refine (hiss _ M3).mono ?_
          rintro e v4 ⟨rfl, hv4⟩
          have M4 := M3.then hv4
          refine hK.out _ _ (lat_mem M4) ?_
          clear hK
          refine mix_batch [26, 27, 28, 29, 31, 32] (by kernel_rfl) 11 _ _ _ (by kernel_rfl) (lat_mem (by (repeat (first | exact Ext.refl _ _ | assumption | apply Ext.alloc | apply Ext.drewN | apply Ext.drew | refine Ext.setCell ?_ (fun h => by first | rfl | exact absurd h (by dsimp only; omega)) _)))) ?_
          simp only [pickOps, List.getD_cons_zero, List.getD_cons_succ]
          repeat (go_big_quiet_step (fail))
          refine wpQuiet_nil ?_
          refine mix_loud (i := 30) (by kernel_rfl) rfl (fun K hK => ?_)
          go_simp
          refine (total_p (hR9.b.q.new M4)).mono ?_
          rintro e v5 ⟨rfl, rfl⟩
          refine hK.out _ _ (lat_mem M4) ?_
          clear hK
          refine mix_batch [33, 34, 35, 36, 38, 39, 40] (by kernel_rfl) 3 _ _ _ (by kernel_rfl) (lat_mem (by (repeat (first | exact Ext.refl _ _ | assumption | apply Ext.alloc | apply Ext.drewN | apply Ext.drew | refine Ext.setCell ?_ (fun h => by first | rfl | exact absurd h (by dsimp only; omega)) _)))) ?_
          simp only [pickOps, List.getD_cons_zero, List.getD_cons_succ]
          repeat (go_big_quiet_step (fail))
          refine wpQuiet_nil ?_
          refine mix_loud (i := 37) (by kernel_rfl) rfl (fun K hK => ?_)
          go_simp
          refine (hlenp _ M4).mono ?_
          rintro e v5 ⟨rfl, rfl⟩
          refine hK.out _ _ (lat_mem M4) ?_
          clear hK
          refine mix_batch [41, 42] (by kernel_rfl) 0 _ _ _ (by kernel_rfl) (lat_mem (by (repeat (first | exact Ext.refl _ _ | assumption | apply Ext.alloc | apply Ext.drewN | apply Ext.drew | refine Ext.setCell ?_ (fun h => by first | rfl | exact absurd h (by dsimp only; omega)) _)))) ?_
          simp only [pickOps, List.getD_cons_zero, List.getD_cons_succ]
          repeat (go_big_quiet_step (fail))
          refine wpQuiet_nil ?_
          refine wpAnyH_done (by kernel_rfl) (NoPanic.normal ?_) _
          clear hpend hiss hlenp q0 q1 q2 q5 g1 g2 y2 y3 y4 ep ei et en hyb
          have hR8 := hR9.new M4
          clear hR9
          have hq2 : ∀ W, New v4 W → Calls Try.prog 25 #[.pointer (some ⟨p, 0, none⟩), .int .i64 2] W fun e w' => e = .returned (.slice none 0 0) ∧ W = w' := fun W hW => queue_no (hR8.b.q.new hW)
          have q1 : ∀ z : Lat (fun _ => False) v4, z.W.cell? ⟨X, 1, none⟩ = some (.slice x.a1 x.n1 x.c1) := fun z => (blk_cell (z.ext.keep hR8.rb (fun h => h)) 1).trans rfl
          have q2 : ∀ z : Lat (fun _ => False) v4, z.W.cell? ⟨X, 2, none⟩ = some (.slice x.a2 x.n2 x.c2) := fun z => (blk_cell (z.ext.keep hR8.rb (fun h => h)) 2).trans rfl
          clear HY
          go_wp2_with fail
          refine mix_start (fun _ => False) v4 (by kernel_rfl) ?_
          refine mix_batch [0, 3, 4] (by kernel_rfl) 19 _ _ _ (by kernel_rfl) (lat_mem (by (repeat (first | exact Ext.refl _ _ | assumption | apply Ext.alloc | apply Ext.drewN | apply Ext.drew | refine Ext.setCell ?_ (fun h => by first | rfl | exact absurd h (by dsimp only; omega)) _)))) ?_
          simp only [pickOps, List.getD_cons_zero, List.getD_cons_succ]
          repeat (go_big_quiet_step (fail))
          refine wpQuiet_nil ?_
          refine mix_loud (i := 1) (by kernel_rfl) rfl (fun K hK => ?_)
          go_simp
          have M0 : New v4 v4.drew := by (repeat (first | exact Ext.refl _ _ | assumption | apply Ext.alloc | apply Ext.drewN | apply Ext.drew | refine Ext.setCell ?_ (fun h => by first | rfl | exact absurd h (by dsimp only; omega)) _))
          refine (queue_p0 (hR8.b.q.new M0)).mono ?_
          rintro e u1 ⟨A1, c1, rfl, ho1, hv1⟩
          have M1 := M0.then hv1
          refine hK.out _ _ (lat_mem M1) ?_
          clear hK
          refine mix_loud (i := 2) (by kernel_rfl) rfl (fun K hK => ?_)
          go_simp
          refine (back_k A1 _ c1 (x.s.u 0) _ ho1.rd (by omega)).mono ?_
          rintro e u2 ⟨A2, c2, rfl, ho2, hv2⟩
          have M2 := M1.then hv2
          refine hK.out _ _ (lat_mem M2) ?_
          clear hK
          refine mix_loud (i := 5) (by kernel_rfl) rfl (fun K hK => ?_)
          go_simp
          refine (same_d A2 x.a1 _ c2 x.n1 x.c1 (x.s.u 0) (x.s.u 0) _ ho2 (hR8.b.ok.r1.new M2) (by omega) true (by simp)).mono ?_
          rintro e u3 ⟨rfl, hv3⟩
          have M3 := M2.then hv3
          refine hK.out _ _ (lat_mem M3) ?_
          clear hK
          refine mix_batch [6, 7, 8, 11, 12] (by kernel_rfl) 11 _ _ _ (by kernel_rfl) (lat_mem (by (repeat (first | exact Ext.refl _ _ | assumption | apply Ext.alloc | apply Ext.drewN | apply Ext.drew | refine Ext.setCell ?_ (fun h => by first | rfl | exact absurd h (by dsimp only; omega)) _)))) ?_
          simp only [pickOps, List.getD_cons_zero, List.getD_cons_succ]
          repeat (go_big_quiet_step (fail))
          refine wpQuiet_nil ?_
          refine mix_loud (i := 9) (by kernel_rfl) rfl (fun K hK => ?_)
          go_simp
          refine (queue_p1 (hR8.b.q.new M3)).mono ?_
          rintro e u4 ⟨A4, c4, rfl, ho4, hv4⟩
          have M4 := M3.then hv4
          refine hK.out _ _ (lat_mem M4) ?_
          clear hK
          refine mix_loud (i := 10) (by kernel_rfl) rfl (fun K hK => ?_)
          go_simp
          refine (back_k A4 _ c4 (x.s.u 1) _ ho4.rd (by omega)).mono ?_
          rintro e u5 ⟨A5, c5, rfl, ho5, hv5⟩
          have M5 := M4.then hv5
          refine hK.out _ _ (lat_mem M5) ?_
          clear hK
          refine mix_loud (i := 13) (by kernel_rfl) rfl (fun K hK => ?_)
          go_simp
          refine (same_d A5 x.a2 _ c5 x.n2 x.c2 (x.s.u 1) (x.s.u 1) _ ho5 (hR8.b.ok.r2.new M5) (by omega) true (by simp)).mono ?_
          rintro e u6 ⟨rfl, hv6⟩
          have M6 := M5.then hv6
          refine hK.out _ _ (lat_mem M6) ?_
          clear hK
          refine mix_batch [14, 15, 16, 17] (by kernel_rfl) 4 _ _ _ (by kernel_rfl) (lat_mem (by (repeat (first | exact Ext.refl _ _ | assumption | apply Ext.alloc | apply Ext.drewN | apply Ext.drew | refine Ext.setCell ?_ (fun h => by first | rfl | exact absurd h (by dsimp only; omega)) _)))) ?_
          simp only [pickOps, List.getD_cons_zero, List.getD_cons_succ]
          repeat (go_big_quiet_step (fail))
          refine wpQuiet_nil ?_
          refine mix_loud (i := 18) (by kernel_rfl) rfl (fun K hK => ?_)
          go_simp
          refine (hq2 _ M6).mono ?_
          rintro e u7 ⟨rfl, rfl⟩
          refine hK.out _ _ (lat_mem M6) ?_
          clear hK
          refine mix_batch [19, 20, 21] (by kernel_rfl) 0 _ _ _ (by kernel_rfl) (lat_mem (by (repeat (first | exact Ext.refl _ _ | assumption | apply Ext.alloc | apply Ext.drewN | apply Ext.drew | refine Ext.setCell ?_ (fun h => by first | rfl | exact absurd h (by dsimp only; omega)) _)))) ?_
          simp only [pickOps, List.getD_cons_zero, List.getD_cons_succ]
          repeat (go_big_quiet_step (fail))
          refine wpQuiet_nil ?_
          refine wpAnyH_done (by kernel_rfl) (NoPanic.normal ?_) _
          clear q1 q2
          go_wp2_with fail
          go_roundg (60 - (i + 1))
          case measure => have := HG.out; omega
          case rel => exact ⟨i + 1, p, x.s, T, x, rfl, by omega, by go_num, rfl, hR8.new M6, by omega⟩
    · have hnw := hR.n
      clear hR
      have hend : (decide ((i : Int) < n) = false ∧ decide (i < n) = false ∧ decide ((i : Int) < 60) = false) ∨ (decide ((i : Int) < n) = false ∧ decide (i < n) = false ∧ decide ((i : Int) < 60) = true) ∨ (decide ((i : Int) < n) = true ∧ decide (i < n) = true ∧ decide ((i : Int) < 60) = false) := by
        by_cases hi2 : i < n
        · exact .inr (.inr ⟨decide_eq_true (by omega), decide_eq_true (by omega), decide_eq_false (by omega)⟩)
        · by_cases h4 : i < 60
          · exact .inr (.inl ⟨decide_eq_false (by omega), decide_eq_false (by omega), decide_eq_true (by omega)⟩)
          · exact .inl ⟨decide_eq_false (by omega), decide_eq_false (by omega), decide_eq_false (by omega)⟩
      rcases hend with ⟨hz, hz2, hz6⟩ | ⟨hz, hz2, hz6⟩ | ⟨hz, hz2, hz6⟩ <;> (
        go_wp2_with fail
        go_ret
        exact ⟨rfl, hnw⟩)
theorem law_pruns (m : Int) (A : Option Addr) (n c : Nat) (l : List OpA) (w : World) (_ : (Lit.int .i64 m).wf = true) (h : Rd w 5 A n c (l.flatMap OpA.E)) (hl : ∀ o ∈ l, o.wf) :
    Calls Try.prog 6 #[.int .i64 m, .slice A n c] w fun e w' => e = .returned (.bool true) ∧ New w w' := by
  by_cases hm : 1 ≤ m ∧ m ≤ 512
  · exact runs_good m A n c l w hm h hl
  · exact runs_bad m A n c _ w (by omega) h
end Go.Proofs.Ytmonhhodbinagaa
