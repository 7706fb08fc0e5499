/- The law on bytes there and back. -/
import Derived.Test.YtdgleplmmbkgfaaV29
namespace Go.Proofs.Ytdgleplmmbkgfaa
open Go.RowKit
set_option maxRecDepth 100000

set_option maxHeartbeats 8000000 in
theorem law_back (p0 : PkA) (B : Option Addr) (m0 mc : Nat) (l0 : List Int) (w : World) (hp0 : p0.ok w) (hb0 : Rd w 1 B m0 mc (l0.map (Value.int .u8))) (wl0 : ∀ x ∈ l0, (Lit.int .u8 x).wf = true) (_ : m0 * 1 ≤ 140737488351232) :
    Calls Try.prog 6 #[p0.v, .slice B m0 mc] w fun e w' => e = .returned (.bool true) ∧ New w w' := by
  obtain ⟨m, hm⟩ : ∃ m, m = min m0 1200 := ⟨_, rfl⟩
  obtain ⟨l, hl⟩ : ∃ l, l = l0.take m := ⟨_, rfl⟩
  have hm2 : m ≤ 1200 := by omega
  have hrd0 : Rd w 1 B m mc (bts l) := by
    have h1 := hb0.take m (by omega)
    rw [Nat.mul_one, ← List.map_take, ← hl] at h1
    exact h1
  have hB : isB l := fun x hx => by
    rw [hl] at hx
    have := wf_of_u8 (wl0 x (List.mem_of_mem_take hx))
    omega
  have s1 := run_cut_h (P := Try.prog) 23 5 1 Try.underlying23 size_u8 B m0 mc m m rfl (by have := hb0.cap; omega) .i64
  have hmin : Hid (m = min m0 1200) := hide hm
  have hn1 := New.alloc1 w (p0.o 25)
  have hX1 := at_new w p0
  obtain ⟨w2, hw2⟩ : ∃ v, v = w.alloc (p0.o 25) := ⟨_, rfl⟩
  obtain ⟨X, hX⟩ : ∃ X, X = w.heap.size := ⟨_, rfl⟩
  rw [← hw2] at hX1 hn1
  rw [← hX] at hX1
  have hXw : w.heap.size ≤ X := by omega
  obtain ⟨p, hp⟩ : ∃ p, p = p0.few := ⟨_, rfl⟩
  have hpo : p.ok w := by rw [hp]; exact hp0.few
  have hpn : p.n ≤ 1100 := by rw [hp]; show min p0.n 1100 ≤ 1100; omega
  have HP := hide hp
  have HLL := hide hl
  clear hp hl hm
  go_enter Try.func6, Try.ntmps6
  go_upto_region 1 with (fail)
  rw [← hw2, ← hX]
  clear hw2 hX
  go_cut [1] (fun s1' wc => s1' = .slice B m mc ∧ At wc X p ∧ New w wc)
  case first =>
    have x0 := fun y : Lat (fun _ => False) w2 => (hX1.keep y.ext (fun h => h)).c0
    have x1 := fun y : Lat (fun _ => False) w2 => (hX1.keep y.ext (fun h => h)).c1
    have x2 := fun y : Lat (fun _ => False) w2 => (hX1.keep y.ext (fun h => h)).c2
    have x3 := fun y : Lat (fun _ => False) w2 => (hX1.keep y.ext (fun h => h)).c3
    have x4 := fun y : Lat (fun _ => False) w2 => (hX1.keep y.ext (fun h => h)).c4
    have x5 := fun y : Lat (fun _ => False) w2 => (hX1.keep y.ext (fun h => h)).c5
    have x6 := fun y : Lat (fun _ => False) w2 => (hX1.keep y.ext (fun h => h)).c6
    have x7 := fun y : Lat (fun _ => False) w2 => (hX1.keep y.ext (fun h => h)).c7
    have x8 := fun y : Lat (fun _ => False) w2 => (hX1.keep y.ext (fun h => h)).c8
    by_cases hle : m0 ≤ 1200
    · obtain rfl : m = m0 := by have := hmin.out; omega
      have hi : (m : Int) ≤ 1200 := by omega
      refine mixU_start 7 (fun _ => False) w2 (by kernel_rfl) ?_
      refine mixU_batch [0] (by kernel_rfl) 8 _ _ _ (by kernel_rfl) (lat_mem (by (repeat (first | exact Ext.refl _ _ | assumption | apply Ext.alloc | apply Ext.drewN | apply Ext.drew | refine Ext.setCell ?_ (fun h => by first | rfl | exact absurd h (by dsimp only; omega)) _)))) ?_
      simp only [pickOps, List.getD_cons_zero, List.getD_cons_succ]
      repeat (go_big_quiet_step (fail))
      refine wpQuiet_nil ?_
      refine mixU_pure w2 [2, 3, 4, 5, 6] (by kernel_rfl) 3 _ _ _ (by kernel_rfl) (.inr (lat_mem (by (repeat (first | exact Ext.refl _ _ | assumption | apply Ext.alloc | apply Ext.drewN | apply Ext.drew | refine Ext.setCell ?_ (fun h => by first | rfl | exact absurd h (by dsimp only; omega)) _))))) ?_
      simp only [pickOps, List.getD_cons_zero, List.getD_cons_succ]
      repeat (go_big_quiet_step (fail))
      refine wpQuiet_nil ?_
      refine mixU_loud (i := 1) (by kernel_rfl) rfl (fun K hK => ?_)
      go_simp
      refine (few_r p0 p _ (hp0.new (hn1.then (show New w2 _ by (repeat (first | exact Ext.refl _ _ | assumption | apply Ext.alloc | apply Ext.drewN | apply Ext.drew | refine Ext.setCell ?_ (fun h => by first | rfl | exact absurd h (by dsimp only; omega)) _))))) HP.out).mono ?_
      rintro e w3 ⟨rfl, hn3⟩
      have N23 : New w2 w3 := (show New w2 w2.drew by (repeat (first | exact Ext.refl _ _ | assumption | apply Ext.alloc | apply Ext.drewN | apply Ext.drew | refine Ext.setCell ?_ (fun h => by first | rfl | exact absurd h (by dsimp only; omega)) _))).then hn3
      refine hK.out _ _ (lat_mem N23) ?_
      clear hK x0 x1 x2 x3 x4 x5 x6 x7 x8
      have hX4 := hX1.new N23
      have x0 := hX4.c0
      have d0 := hX4.fr 0
      have x1 := hX4.c1
      have d1 := hX4.fr 1
      have x2 := hX4.c2
      have d2 := hX4.fr 2
      have x3 := hX4.c3
      have d3 := hX4.fr 3
      have x4 := hX4.c4
      have d4 := hX4.fr 4
      have x5 := hX4.c5
      have d5 := hX4.fr 5
      have x6 := hX4.c6
      have d6 := hX4.fr 6
      have x7 := hX4.c7
      have d7 := hX4.fr 7
      have x8 := hX4.c8
      have d8 := hX4.fr 8
      refine mixU_last (by kernel_rfl) (by kernel_rfl) rfl (fun K hK => ?_)
      go_simp
      obtain ⟨w5, hw5, hX5, he5⟩ := at_set hX4 p
      rw [← hw5]
      refine hK.out _ _ (mixU_after (S' := fun W => ∃ x : Lat (fun j => j = X) w5, W = x.W) _ _ _ _ (by kernel_rfl) ?_)
      clear hK hw5 x0 x1 x2 x3 x4 x5 x6 x7 x8 d0 d1 d2 d3 d4 d5 d6 d7 d8
      refine mix_batch [8] (by kernel_rfl) 0 _ _ _ (by kernel_rfl) (lat_mem (by (repeat (first | exact Ext.refl _ _ | assumption | apply Ext.alloc | apply Ext.drewN | apply Ext.drew | refine Ext.setCell ?_ (fun h => by first | rfl | exact absurd h (by dsimp only; omega)) _)))) ?_
      simp only [pickOps, List.getD_cons_zero, List.getD_cons_succ]
      repeat (go_big_quiet_step (fail))
      refine wpQuiet_nil ?_
      refine wpAnyH_done (by kernel_rfl) (NoPanic.normal ?_) _
      go_wp2_with fail
      go_meet
      exact ⟨rfl, hX5, (hn1.then N23).trans he5 (fun j hj e => by omega)⟩
    · obtain rfl : m = 1200 := by have := hmin.out; omega
      have hi : ¬ (m0 : Int) ≤ 1200 := by omega
      clear s1
      have s1 := run_cut_h (P := Try.prog) 23 5 1 Try.underlying23 size_u8 B m0 mc 1200 1200 rfl (by have := hb0.cap; omega) .i64
      refine mixU_start 7 (fun _ => False) w2 (by kernel_rfl) ?_
      refine mixU_batch [0] (by kernel_rfl) 8 _ _ _ (by kernel_rfl) (lat_mem (by (repeat (first | exact Ext.refl _ _ | assumption | apply Ext.alloc | apply Ext.drewN | apply Ext.drew | refine Ext.setCell ?_ (fun h => by first | rfl | exact absurd h (by dsimp only; omega)) _)))) ?_
      simp only [pickOps, List.getD_cons_zero, List.getD_cons_succ]
      repeat (go_big_quiet_step (fail))
      refine wpQuiet_nil ?_
      refine mixU_pure w2 [2, 3, 4, 5, 6] (by kernel_rfl) 3 _ _ _ (by kernel_rfl) (.inr (lat_mem (by (repeat (first | exact Ext.refl _ _ | assumption | apply Ext.alloc | apply Ext.drewN | apply Ext.drew | refine Ext.setCell ?_ (fun h => by first | rfl | exact absurd h (by dsimp only; omega)) _))))) ?_
      simp only [pickOps, List.getD_cons_zero, List.getD_cons_succ]
      repeat (go_big_quiet_step (fail))
      refine wpQuiet_nil ?_
      refine mixU_loud (i := 1) (by kernel_rfl) rfl (fun K hK => ?_)
      go_simp
      refine (few_r p0 p _ (hp0.new (hn1.then (show New w2 _ by (repeat (first | exact Ext.refl _ _ | assumption | apply Ext.alloc | apply Ext.drewN | apply Ext.drew | refine Ext.setCell ?_ (fun h => by first | rfl | exact absurd h (by dsimp only; omega)) _))))) HP.out).mono ?_
      rintro e w3 ⟨rfl, hn3⟩
      have N23 : New w2 w3 := (show New w2 w2.drew by (repeat (first | exact Ext.refl _ _ | assumption | apply Ext.alloc | apply Ext.drewN | apply Ext.drew | refine Ext.setCell ?_ (fun h => by first | rfl | exact absurd h (by dsimp only; omega)) _))).then hn3
      refine hK.out _ _ (lat_mem N23) ?_
      clear hK x0 x1 x2 x3 x4 x5 x6 x7 x8
      have hX4 := hX1.new N23
      have x0 := hX4.c0
      have d0 := hX4.fr 0
      have x1 := hX4.c1
      have d1 := hX4.fr 1
      have x2 := hX4.c2
      have d2 := hX4.fr 2
      have x3 := hX4.c3
      have d3 := hX4.fr 3
      have x4 := hX4.c4
      have d4 := hX4.fr 4
      have x5 := hX4.c5
      have d5 := hX4.fr 5
      have x6 := hX4.c6
      have d6 := hX4.fr 6
      have x7 := hX4.c7
      have d7 := hX4.fr 7
      have x8 := hX4.c8
      have d8 := hX4.fr 8
      refine mixU_last (by kernel_rfl) (by kernel_rfl) rfl (fun K hK => ?_)
      go_simp
      obtain ⟨w5, hw5, hX5, he5⟩ := at_set hX4 p
      rw [← hw5]
      refine hK.out _ _ (mixU_after (S' := fun W => ∃ x : Lat (fun j => j = X) w5, W = x.W) _ _ _ _ (by kernel_rfl) ?_)
      clear hK hw5 x0 x1 x2 x3 x4 x5 x6 x7 x8 d0 d1 d2 d3 d4 d5 d6 d7 d8
      refine mix_batch [8] (by kernel_rfl) 0 _ _ _ (by kernel_rfl) (lat_mem (by (repeat (first | exact Ext.refl _ _ | assumption | apply Ext.alloc | apply Ext.drewN | apply Ext.drew | refine Ext.setCell ?_ (fun h => by first | rfl | exact absurd h (by dsimp only; omega)) _)))) ?_
      simp only [pickOps, List.getD_cons_zero, List.getD_cons_succ]
      repeat (go_big_quiet_step (fail))
      refine wpQuiet_nil ?_
      refine wpAnyH_done (by kernel_rfl) (NoPanic.normal ?_) _
      go_wp2_with fail
      go_meet
      exact ⟨rfl, hX5, (hn1.then N23).trans he5 (fun j hj e => by omega)⟩
  case rest =>
    obtain ⟨rfl, hX6, N6⟩ := hcut
    clear hX1 hn1 s1
    obtain ⟨w6, hw6⟩ : ∃ v, v = wc := ⟨_, rfl⟩
    rw [← hw6] at hX6 N6
    rw [← hw6]
    clear hw6
    have hpo6 := hpo.new N6
    have hrd6 := hrd0.new N6
    -- what is encoded is decoded
    obtain ⟨k, hk⟩ : ∃ k, k = (enQ p.p).length := ⟨_, rfl⟩
    have hkl : k = (enQ p.p).length := hk
    rw [enQ_len] at hk
    obtain ⟨b, hok⟩ : ∃ b, okB p.p = b := ⟨_, rfl⟩
    have hbe : ((bif b then (0 : Int) else 30) == 0) = b := by cases b <;> rfl
    have HOK := hide hok
    have HK := hide hkl
    have HKK := hide hk
    clear hok hkl hk
    have x0 := hX6.c0
    have x1 := hX6.c1
    have x2 := hX6.c2
    have x3 := hX6.c3
    have x4 := hX6.c4
    have x5 := hX6.c5
    have x6 := hX6.c6
    have x7 := hX6.c7
    have x8 := hX6.c8
    go_wp2_with fail
    refine (encode_r p _ hpo6 b HOK.out k HK.out).mono ?_
    rintro e w7 ⟨A7, c7, rfl, hr7, hn7⟩
    clear x0 x1 x2 x3 x4 x5 x6 x7 x8
    go_upto_if 30 with (fail)
    go_cut [] (fun wc => New w7 wc)
    case first =>
      cases b
      · go_wp2_with fail
        go_meet
        exact Ext.refl _ _
      · have hq : enQ p.p = enL p.p := by unfold enQ; rw [HOK.out]; rfl
        have hk2 : k ≤ 1136 := by have hk := HKK.out; rw [HOK.out, hpo.len] at hk; simp at hk; omega
        have hd := dc_en p.p HOK.out
        have HQ := hide hq
        have HD := hide hd
        clear hq hd
        go_wp2_with fail
        refine (decode_r A7 k c7 _ _ hr7 (enQ_isB hpo.b) (by omega)).mono ?_
        rintro e w8 ⟨hn8, y, rfl, hyo, hyp⟩
        have hd0 : dcE (enQ p.p) = 0 := by rw [HQ.out]; exact HD.out.1
        have hyp2 : y.p = p.p := by
          rw [hyp]
          unfold decQ
          rw [if_pos hd0, HQ.out]
          exact HD.out.2
        rw [hd0]
        have HYP := hide hyp2
        clear hd0 hyp hyp2
        have hY9 := at_new w8 y
        have hn9 := New.alloc1 w8 (y.o 25)
        go_upto_region 5 with (fail)
        obtain ⟨Y, hY⟩ : ∃ Y, Y = w8.heap.size := ⟨_, rfl⟩
        obtain ⟨w9, hw9⟩ : ∃ v, v = w8.alloc (y.o 25) := ⟨_, rfl⟩
        rw [← hY, ← hw9] at hY9
        rw [← hw9] at hn9
        rw [← hw9, ← hY]
        clear hw9 hY
        have hX9 := hX6.new ((hn7.then hn8).then hn9)
        have x0 := hX9.c0
        have x1 := hX9.c1
        have x2 := hX9.c2
        have x3 := hX9.c3
        have x4 := hX9.c4
        have x5 := hX9.c5
        have x6 := hX9.c6
        have x7 := hX9.c7
        have x8 := hX9.c8
        have y0 := hY9.c0
        have y1 := hY9.c1
        have y2 := hY9.c2
        have y3 := hY9.c3
        have y4 := hY9.c4
        have y5 := hY9.c5
        have y6 := hY9.c6
        have y7 := hY9.c7
        have y8 := hY9.c8
        go_wp2_with fail
        refine (rsame_r p y _ (hpo6.new ((hn7.then hn8).then hn9)) (hyo.new hn9) true (by rw [HYP.out]; exact sm_self _)).mono ?_
        rintro e w10 ⟨rfl, hn10⟩
        clear x0 x1 x2 x3 x4 x5 x6 x7 x8 y0 y1 y2 y3 y4 y5 y6 y7 y8
        go_wp2_with fail
        go_meet
        exact (hn8.then hn9).then hn10
    case rest =>
      have M8 : New w6 wc := hn7.then hcut
      clear hcut hr7
      obtain ⟨w8, hw8⟩ : ∃ v, v = wc := ⟨_, rfl⟩
      rw [← hw8] at M8
      rw [← hw8]
      clear hw8
      -- what is decoded is encoded
      go_wp2_with fail
      refine (decode_r B m mc l _ (hrd6.new M8) hB (by omega)).mono ?_
      rintro e w9 ⟨hn9, y, rfl, hyo, hyp⟩
      obtain ⟨ev, hev⟩ : ∃ v, v = dcE l := ⟨_, rfl⟩
      rw [← hev]
      have HEV := hide hev
      have HYP := hide hyp
      clear hyp hev
      have hY10 := at_new w9 y
      have hn10 := New.alloc1 w9 (y.o 25)
      go_upto_if 50 with (fail)
      obtain ⟨Y, hY⟩ : ∃ Y, Y = w9.heap.size := ⟨_, rfl⟩
      obtain ⟨w10, hw10⟩ : ∃ v, v = w9.alloc (y.o 25) := ⟨_, rfl⟩
      rw [← hY, ← hw10] at hY10
      rw [← hw10] at hn10
      rw [← hw10, ← hY]
      clear hw10 hY
      have M10 := (M8.then hn9).then hn10
      go_cut [] (fun wc => New w10 wc)
      case first =>
        by_cases h0 : ev = 0
        · obtain ⟨ho1, ho2⟩ := dcE_ok (HEV.out.symm.trans h0)
          have hyp2 : y.p = dcP l := by rw [HYP.out]; unfold decQ; rw [if_pos (HEV.out.symm.trans h0)]
          have hyk : okB y.p = true := by rw [hyp2]; exact ho1
          have hyl : enQ y.p = l := by unfold enQ; rw [hyk, hyp2]; exact ho2
          have hlen : m = (enQ y.p).length := by rw [hyl]; exact hrd0.lenn.symm
          have HYK := hide hyk
          have HYL := hide hyl
          have HLN := hide hlen
          have e0 : (ev == 0) = true := by simpa using h0
          clear h0 ho1 ho2 hyp2 hyk hyl hlen
          have y0 := hY10.c0
          have y1 := hY10.c1
          have y2 := hY10.c2
          have y3 := hY10.c3
          have y4 := hY10.c4
          have y5 := hY10.c5
          have y6 := hY10.c6
          have y7 := hY10.c7
          have y8 := hY10.c8
          go_wp2_with fail
          refine (encode_r y _ (hyo.new hn10) true HYK.out m HLN.out).mono ?_
          rintro e w11 ⟨A11, c11, rfl, hr11, hn11⟩
          clear y0 y1 y2 y3 y4 y5 y6 y7 y8
          rw [HYL.out] at hr11
          have q1 : (convert 23 9 (.slice A11 m c11)).run Try.prog w11 = .ok (.string (strOfNums l)) w11 := Str.of hr11
          have q2 : (convert 23 9 (.slice B m mc)).run Try.prog w11 = .ok (.string (strOfNums l)) w11 := Str.of (hrd6.new (M10.then hn11))
          generalize strOfNums l = S at *
          go_wp2_with fail
          go_meet
          exact hn11
        · have e0 : (ev == 0) = false := by simpa using h0
          clear h0
          go_wp2_with fail
          go_meet
          exact Ext.refl _ _
      case rest =>
        have M11 : New w6 wc := M10.then hcut
        clear hcut
        obtain ⟨w11, hw11⟩ : ∃ v, v = wc := ⟨_, rfl⟩
        rw [← hw11] at M11
        rw [← hw11]
        clear hw11
        have hX11 := hX6.new M11
        have hpo11 := hpo6.new M11
        -- what is trimmed goes back
        obtain ⟨⟨y', tb⟩, hR⟩ : ∃ v, trR p = v := ⟨_, rfl⟩
        have HR := hide hR
        clear hR
        have x0 := hX11.c0
        have x1 := hX11.c1
        have x2 := hX11.c2
        have x3 := hX11.c3
        have x4 := hX11.c4
        have x5 := hX11.c5
        have x6 := hX11.c6
        have x7 := hX11.c7
        have x8 := hX11.c8
        go_wp2_with fail
        refine (trim_r p y' tb _ hpo11 HR.out).mono ?_
        rintro e w12 ⟨rfl, hn12⟩
        clear x0 x1 x2 x3 x4 x5 x6 x7 x8
        have hY13 := at_new w12 y'
        have hn13 := New.alloc1 w12 (y'.o 25)
        go_upto_if 70 with (fail)
        obtain ⟨Y', hY'⟩ : ∃ Y, Y = w12.heap.size := ⟨_, rfl⟩
        obtain ⟨w13, hw13⟩ : ∃ v, v = w12.alloc (y'.o 25) := ⟨_, rfl⟩
        rw [← hY', ← hw13] at hY13
        rw [← hw13] at hn13
        rw [← hw13, ← hY']
        clear hw13 hY'
        have M13 := (M11.then hn12).then hn13
        go_cut [] (fun wc => New w13 wc)
        case first =>
          cases tb
          · go_wp2_with fail
            go_meet
            exact Ext.refl _ _
          · have hb : trB p.p = true := by
              have := HR.out
              unfold trR at this
              split at this
              · assumption
              · simp at this
            obtain ⟨t1, t2, t3⟩ := tr_bo hb
            have hyy : y' = ⟨trP p.p, none, 0, 0⟩ := by
              have := HR.out
              unfold trR at this
              rw [if_pos hb] at this
              simp at this
              exact this.symm
            obtain ⟨z, hz⟩ : ∃ z : PkA, z = ⟨boP (trP p.p), none, 0, 0⟩ := ⟨_, rfl⟩
            have hR2 : boR y' = (z, true) := by unfold boR; rw [if_pos (by rw [hyy]; exact t2), hyy, hz]
            have ky : okB y'.p = true := by rw [hyy]; exact t1
            have kz : okB z.p = true := by rw [hz]; exact t3
            have ny : y'.n = 0 := by rw [hyy]
            have nz : z.n = 0 := by rw [hz]
            have yo : ∀ W, y'.ok W := fun W => by rw [hyy]; exact ⟨Rd.nil W 1, fun _ h => by cases h⟩
            have zo : ∀ W, z.ok W := fun W => by rw [hz]; exact ⟨Rd.nil W 1, fun _ h => by cases h⟩
            have HR2 := hide hR2
            have KY := hide ky
            have KZ := hide kz
            have NY := hide ny
            have NZ := hide nz
            clear hb hyy hR2 hz t1 t2 t3 ky kz ny nz
            have y0 := hY13.c0
            have y1 := hY13.c1
            have y2 := hY13.c2
            have y3 := hY13.c3
            have y4 := hY13.c4
            have y5 := hY13.c5
            have y6 := hY13.c6
            have y7 := hY13.c7
            have y8 := hY13.c8
            go_wp2_with fail
            refine (bounce_r y' z true _ (yo _) HR2.out).mono ?_
            rintro e w14 ⟨rfl, hn14⟩
            clear y0 y1 y2 y3 y4 y5 y6 y7 y8
            have hZ15 := at_new w14 z
            have hn15 := New.alloc1 w14 (z.o 25)
            go_upto_region 15 with (fail)
            obtain ⟨Z, hZ⟩ : ∃ Y, Y = w14.heap.size := ⟨_, rfl⟩
            obtain ⟨w15, hw15⟩ : ∃ v, v = w14.alloc (z.o 25) := ⟨_, rfl⟩
            rw [← hZ, ← hw15] at hZ15
            rw [← hw15] at hn15
            rw [← hw15, ← hZ]
            clear hw15 hZ
            have hY15 := hY13.new (hn14.then hn15)
            have y0 := hY15.c0
            have y1 := hY15.c1
            have y2 := hY15.c2
            have y3 := hY15.c3
            have y4 := hY15.c4
            have y5 := hY15.c5
            have y6 := hY15.c6
            have y7 := hY15.c7
            have y8 := hY15.c8
            go_wp2_with fail
            refine (check_r y' _ (yo _) true KY.out).mono ?_
            rintro e w16 ⟨rfl, hn16⟩
            have hZ16 := hZ15.new hn16
            have hY16 := hY15.new hn16
            clear y0 y1 y2 y3 y4 y5 y6 y7 y8
            have y0 := hZ16.c0
            have y1 := hZ16.c1
            have y2 := hZ16.c2
            have y3 := hZ16.c3
            have y4 := hZ16.c4
            have y5 := hZ16.c5
            have y6 := hZ16.c6
            have y7 := hZ16.c7
            have y8 := hZ16.c8
            go_wp2_with fail
            refine (check_r z _ (zo _) true KZ.out).mono ?_
            rintro e w17 ⟨rfl, hn17⟩
            have hZ17 := hZ16.new hn17
            have hY17 := hY16.new hn17
            clear y0 y1 y2 y3 y4 y5 y6 y7 y8
            have y0 := hZ17.c0
            have y1 := hZ17.c1
            have y2 := hZ17.c2
            have y3 := hZ17.c3
            have y4 := hZ17.c4
            have y5 := hZ17.c5
            have y6 := hZ17.c6
            have y7 := hZ17.c7
            have y8 := hZ17.c8
            go_wp2_with fail
            refine (size_r z _ (zo _) (by have := NZ.out; omega) true KZ.out 36 (by rw [NZ.out]; rfl)).mono ?_
            rintro e w18 ⟨rfl, hn18⟩
            have hY18 := hY17.new hn18
            clear y0 y1 y2 y3 y4 y5 y6 y7 y8
            have y0 := hY18.c0
            have y1 := hY18.c1
            have y2 := hY18.c2
            have y3 := hY18.c3
            have y4 := hY18.c4
            have y5 := hY18.c5
            have y6 := hY18.c6
            have y7 := hY18.c7
            have y8 := hY18.c8
            go_wp2_with fail
            refine (size_r y' _ (yo _) (by have := NY.out; omega) true KY.out 36 (by rw [NY.out]; rfl)).mono ?_
            rintro e w19 ⟨rfl, hn19⟩
            clear y0 y1 y2 y3 y4 y5 y6 y7 y8
            go_wp2_with fail
            go_meet
            exact ((hn14.then hn15).then (hn16.then hn17)).then (hn18.then hn19)
        case rest =>
          have M14 := M13.then hcut
          go_wp2_with fail
          refine (awake_any _).mono ?_
          rintro e w20 ⟨rfl, hn20⟩
          go_wp2_with fail
          go_ret
          exact ⟨rfl, (N6.then M14).then hn20⟩
end Go.Proofs.Ytdgleplmmbkgfaa
